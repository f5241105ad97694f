/- What functions of the program and of the reference compute, on values. No statement is proved here. -/
import Derived.Test.YtflfflfodghgpaaGreatDoorTie
import Derived.Test.YtflfflfodghgpaaGreatDoorCards
import Derived.KernelRfl
import Derived.SevenTiedAt
set_option linter.unusedSimpArgs false
set_option linter.unusedVariables false
namespace Go.Proofs.YtflfflfodghgpaaGreatDoor
open Go
theorem goes4 : false = Rows.syntaxLargeRow.goesBy Tryz.pinned.checked.prog := by kernel_rfl
end Go.Proofs.YtflfflfodghgpaaGreatDoor
