/- What functions of the program and of the reference compute, on values. No statement is proved here. -/
import Derived.Test.YtnocibbhognbeaaGreatDoorTie
import Derived.Test.YtnocibbhognbeaaGreatDoorCards
import Derived.KernelRfl
import Derived.SevenTiedAt
set_option linter.unusedSimpArgs false
set_option linter.unusedVariables false
namespace Go.Proofs.YtnocibbhognbeaaGreatDoor
open Go
theorem wf3 : Rows.printLongRow.wfByText (OpenSpec.ofChange Rows.printLongSpec) = true := by kernel_rfl
theorem main3 : Tryz.pinned.checked.prog.mainIs = some (true, "435e67c24cef7f4e834229374334a3f4e598b3fec1a8ade2085fc53f09c22556".toList) := by kernel_rfl
end Go.Proofs.YtnocibbhognbeaaGreatDoor
