/- One more closed fact on the row. No statement is proved here. -/
import Derived.Test.YtdifffdfiimlpaaGreatDoorTie
import Derived.Test.YtdifffdfiimlpaaGreatDoorCards
import Derived.KernelRfl
import Derived.SevenTiedAt
set_option linter.all false
namespace Go.Proofs.YtdifffdfiimlpaaGreatDoor
open Go
theorem goes3 : false = Rows.envNewsRow.goesBy Tryz.pinned.checked.prog := by kernel_rfl
end Go.Proofs.YtdifffdfiimlpaaGreatDoor
