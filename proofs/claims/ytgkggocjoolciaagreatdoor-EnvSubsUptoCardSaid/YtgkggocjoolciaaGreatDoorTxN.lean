/- What functions of the program and of the reference compute, on values. No statement is proved here. -/
import Derived.Test.YtgkggocjoolciaaGreatDoorEvE
import Derived.Test.YtgkggocjoolciaaGreatDoorProg
import Derived.KernelRfl
set_option linter.all false
namespace Go.Proofs.YtgkggocjoolciaaGreatDoor
open Go Go.EvL
noncomputable def A7:IZ:=⟨fun g=>Bool.rec none (some (118,104)) (Nat.beq g 70),fun g=>Bool.rec none (some 9) (Nat.beq g 69),fun i=>Nat.beq i 118⟩
set_option maxRecDepth 1000000 in
theorem C0:uH Tryz.prog A7 [] 1000 5=true:=by kernel_rfl
end Go.Proofs.YtgkggocjoolciaaGreatDoor
