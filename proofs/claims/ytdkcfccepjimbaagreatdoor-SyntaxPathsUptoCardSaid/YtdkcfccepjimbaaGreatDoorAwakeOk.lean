/- The kernel has reckoned the examples of the chapter. No statement is proved here. -/
import Derived.Test.YtdkcfccepjimbaaGreatDoorEvF
import Derived.Test.YtdkcfccepjimbaaGreatDoorProg
import Derived.KernelRfl
set_option linter.unusedSimpArgs false
set_option linter.unusedVariables false
namespace Go.Proofs.YtdkcfccepjimbaaGreatDoor
open Go Go.EvL
noncomputable def orc11 : Orc := ⟨fun g => Bool.rec none (some (108, 86)) (Nat.beq g 71), fun g => Bool.rec none (some 9) (Nat.beq g 70), fun i => Nat.beq i 108, fun _ => none, fun _ _ => none⟩
set_option maxRecDepth 1000000 in
theorem awake_ok : closedOk Tryz.prog orc11 [] 1000 12 = true := by kernel_rfl
end Go.Proofs.YtdkcfccepjimbaaGreatDoor
