/- One more closed fact on the row. No statement is proved here. -/
import Derived.Test.YtfdhkchglacccaaGreatDoorTie
import Derived.Test.YtfdhkchglacccaaGreatDoorCards
import Derived.KernelRfl
import Derived.SevenTiedAt
set_option linter.all false
namespace Go.Proofs.YtfdhkchglacccaaGreatDoor
open Go
theorem goes3 : false = Rows.syntaxNamesUptoRow.goesBy Tryz.pinned.checked.prog := by kernel_rfl
end Go.Proofs.YtfdhkchglacccaaGreatDoor
