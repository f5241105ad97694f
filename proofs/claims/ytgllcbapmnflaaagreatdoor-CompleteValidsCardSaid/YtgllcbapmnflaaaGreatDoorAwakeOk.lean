/- The kernel has reckoned the examples of the chapter. No statement is proved here. -/
import Derived.Test.YtgllcbapmnflaaaGreatDoorProg
import Derived.KernelRfl
import Derived.Test.YtgllcbapmnflaaaGreatDoorEvE
namespace Go.Proofs.YtgllcbapmnflaaaGreatDoor
open Go Go.EvL
noncomputable def asc : List Value := (List.range 256).map fun i => Value.int .u8 (if i == 32 || (9 ≤ i && i ≤ 13) then 1 else 0)
noncomputable def laids : List Laid := [⟨0, asc, 142⟩]
set_option maxRecDepth 1000000
theorem awake_ok : closedOk Tryz.prog laids 1000 6 = true := by kernel_rfl
#print axioms awake_ok
end Go.Proofs.YtgllcbapmnflaaaGreatDoor
