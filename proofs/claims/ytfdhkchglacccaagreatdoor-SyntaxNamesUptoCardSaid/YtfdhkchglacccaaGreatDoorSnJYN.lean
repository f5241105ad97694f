/- More closed facts on the row. No statement is proved here. -/
import Derived.Test.YtfdhkchglacccaaGreatDoorTie
import Derived.Test.YtfdhkchglacccaaGreatDoorCards
import Derived.KernelRfl
import Derived.SevenTiedAt
set_option linter.all false
namespace Go.Proofs.YtfdhkchglacccaaGreatDoor
open Go
theorem wf3 : Rows.syntaxNamesUptoRow.wfByText (Rows.OpenSpec.upto Rows.syntaxNamesSpec) = true := by kernel_rfl
theorem main3 : Tryz.pinned.checked.prog.mainIs = some (true, "b8374cca3bf124e717a7f6758f9297992792f3985dfc0786cc1f6cc02cad25bd".toList) := by kernel_rfl
end Go.Proofs.YtfdhkchglacccaaGreatDoor
