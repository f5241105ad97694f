/- What functions of the program and of the reference compute, on values. No statement is proved here. -/
import Derived.Test.YtflfflfodghgpaaGreatDoorEvD
import Derived.Test.YtflfflfodghgpaaGreatDoorProg
import Derived.KernelRfl
set_option linter.unusedSimpArgs false
set_option linter.unusedVariables false
namespace Go.Proofs.YtflfflfodghgpaaGreatDoor
open Go Go.EvL
noncomputable def orc33 : Orc := ⟨fun g => Bool.rec none (some (194, 160)) (Nat.beq g 136), fun g => Bool.rec none (some 9) (Nat.beq g 135), fun i => Nat.beq i 194, fun _ => none, fun _ _ => none⟩
set_option maxRecDepth 1000000 in
theorem awake16_ok : closedOk Tryz.prog orc33 [] 1000 16 = true := by kernel_rfl
end Go.Proofs.YtflfflfodghgpaaGreatDoor
