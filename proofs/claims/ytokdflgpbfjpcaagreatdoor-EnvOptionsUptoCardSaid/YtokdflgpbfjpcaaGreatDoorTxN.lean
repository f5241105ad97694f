/- What functions of the program and of the reference compute, on values. No statement is proved here. -/
import Derived.Test.YtokdflgpbfjpcaaGreatDoorEvE
import Derived.Test.YtokdflgpbfjpcaaGreatDoorProg
import Derived.KernelRfl
set_option linter.all false
namespace Go.Proofs.YtokdflgpbfjpcaaGreatDoor
open Go Go.EvL
noncomputable def C9:KQ:=⟨fun g=>Bool.rec none (some (120,109)) (Nat.beq g 72),fun g=>Bool.rec none (some 9) (Nat.beq g 71),fun i=>Nat.beq i 120⟩
set_option maxRecDepth 1000000 in
theorem Dp:wq Tryz.prog C9 [] 1000 5=true:=by kernel_rfl
end Go.Proofs.YtokdflgpbfjpcaaGreatDoor
