/- What functions of the program and of the reference compute, on values. No statement is proved here. -/
import Derived.Test.YtnocibbhognbeaaGreatDoorTie
import Derived.Test.YtnocibbhognbeaaGreatDoorCards
import Derived.KernelRfl
import Derived.SevenTiedAt
set_option linter.unusedSimpArgs false
set_option linter.unusedVariables false
namespace Go.Proofs.YtnocibbhognbeaaGreatDoor
open Go
theorem goes3 : false = Rows.printLongRow.goesBy Tryz.pinned.checked.prog := by kernel_rfl
end Go.Proofs.YtnocibbhognbeaaGreatDoor
