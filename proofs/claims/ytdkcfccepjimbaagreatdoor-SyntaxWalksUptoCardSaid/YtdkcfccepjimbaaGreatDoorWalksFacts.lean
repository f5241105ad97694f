/- Closed facts that the row asks for. No statement is proved here. -/
import Derived.Test.YtdkcfccepjimbaaGreatDoorWalksStart
set_option linter.unusedSimpArgs false
set_option linter.unusedVariables false
namespace Go.Proofs.YtdkcfccepjimbaaGreatDoor
open Go
theorem closed6 : joinedFacts Tryz.pinned.checked.prog 6 Tryz.f6 (Rows.OpenSpec.upto Rows.syntaxWalksSpec).bare Rows.syntaxWalksUptoRow = true := by kernel_rfl
end Go.Proofs.YtdkcfccepjimbaaGreatDoor
