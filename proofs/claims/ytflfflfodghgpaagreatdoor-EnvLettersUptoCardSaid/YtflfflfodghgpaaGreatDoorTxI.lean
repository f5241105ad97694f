/- What functions of the program and of the reference compute, on values. No statement is proved here. -/
import Derived.Test.YtflfflfodghgpaaGreatDoorEvC
import Derived.Test.YtflfflfodghgpaaGreatDoorProg
import Derived.KernelRfl
set_option linter.unusedSimpArgs false
set_option linter.unusedVariables false
namespace Go.Proofs.YtflfflfodghgpaaGreatDoor
open Go Go.EvL
noncomputable def Au:Hw:=⟨fun g=>Bool.rec none (some (215,181)) (Nat.beq g 153),fun g=>Bool.rec none (some 9) (Nat.beq g 135),fun i=>Nat.beq i 215,fun _=>none,fun _ _=>none⟩
set_option maxRecDepth 1000000 in
theorem Cw:uE Tryz.prog Au [] 1000 32=true:=by kernel_rfl
end Go.Proofs.YtflfflfodghgpaaGreatDoor
