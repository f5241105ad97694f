/- The kernel has reckoned the examples of the chapter. No statement is proved here. -/
import Derived.Test.YtfdhkchglacccaaGreatDoorEvE
import Derived.Test.YtfdhkchglacccaaGreatDoorProg
import Derived.KernelRfl
set_option linter.all false
namespace Go.Proofs.YtfdhkchglacccaaGreatDoor
open Go Go.EvL
noncomputable def orc33 : Orc := ⟨fun g => Bool.rec none (some (72, 53)) (Nat.beq g 32), fun g => Bool.rec none (some 9) (Nat.beq g 31), fun i => Nat.beq i 72, fun _ => none, fun _ _ => none⟩
set_option maxRecDepth 1000000 in
theorem awake33_ok : closedOk Tryz.prog orc33 [] 1000 5 = true := by kernel_rfl
end Go.Proofs.YtfdhkchglacccaaGreatDoor
