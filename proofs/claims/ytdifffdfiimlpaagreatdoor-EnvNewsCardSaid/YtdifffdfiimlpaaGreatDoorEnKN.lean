/- The kernel has reckoned the examples of the chapter. No statement is proved here. -/
import Derived.Test.YtdifffdfiimlpaaGreatDoorEvE
import Derived.Test.YtdifffdfiimlpaaGreatDoorProg
import Derived.KernelRfl
set_option linter.all false
namespace Go.Proofs.YtdifffdfiimlpaaGreatDoor
open Go Go.EvL
noncomputable def orc33 : Orc := ⟨fun g => Bool.rec none (some (92, 91)) (Nat.beq g 53), fun g => Bool.rec none (some 9) (Nat.beq g 52), fun i => Nat.beq i 92, fun _ => none, fun _ _ => none⟩
set_option maxRecDepth 1000000 in
theorem awake33_ok : closedOk Tryz.prog orc33 [] 1000 6 = true := by kernel_rfl
end Go.Proofs.YtdifffdfiimlpaaGreatDoor
