/- Closed facts that the row asks for. No statement is proved here. -/
import Derived.Test.YtdkcfccepjimbaaGreatDoorStart
set_option linter.unusedSimpArgs false
set_option linter.unusedVariables false
namespace Go.Proofs.YtdkcfccepjimbaaGreatDoor
open Go
theorem closed5 : joinedFacts Tryz.pinned.checked.prog 5 Tryz.f5 (Rows.OpenSpec.upto Rows.syntaxSamesSpec).bare Rows.syntaxSamesUptoRow = true := by kernel_rfl
end Go.Proofs.YtdkcfccepjimbaaGreatDoor
