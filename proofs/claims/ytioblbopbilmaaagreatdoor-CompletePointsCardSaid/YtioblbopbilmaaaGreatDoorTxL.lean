/- What functions of the program and of the reference compute, on values. No statement is proved here. -/
import Derived.Test.YtioblbopbilmaaaGreatDoorPeA
import Derived.Test.YtioblbopbilmaaaGreatDoorProg
import Derived.KernelRfl
set_option linter.all false
namespace Go.Proofs.YtioblbopbilmaaaGreatDoor
open Go Go.EvL Go.PE
set_option maxRecDepth 1000000 in
theorem Df:t8 Tryz.prog LZ di 1000 4=true:=by kernel_rfl
end Go.Proofs.YtioblbopbilmaaaGreatDoor
