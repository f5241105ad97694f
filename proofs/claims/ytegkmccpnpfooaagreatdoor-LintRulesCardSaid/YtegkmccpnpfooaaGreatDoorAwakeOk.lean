/- The kernel has reckoned the examples of the chapter. No statement is proved here. -/
import Derived.Test.YtegkmccpnpfooaaGreatDoorOrc
namespace Go.Proofs.YtegkmccpnpfooaaGreatDoor
open Go Go.EvL
set_option maxRecDepth 1000000
theorem awake_ok : closedOk Tryz.prog orc51 [] 1000 4 = true := by kernel_rfl
#print axioms awake_ok
end Go.Proofs.YtegkmccpnpfooaaGreatDoor
