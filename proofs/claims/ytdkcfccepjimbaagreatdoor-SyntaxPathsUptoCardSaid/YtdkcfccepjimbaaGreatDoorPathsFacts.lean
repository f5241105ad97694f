/- Closed facts that the row asks for. No statement is proved here. -/
import Derived.Test.YtdkcfccepjimbaaGreatDoorPathsStart
set_option linter.unusedSimpArgs false
set_option linter.unusedVariables false
namespace Go.Proofs.YtdkcfccepjimbaaGreatDoor
open Go
theorem closed9 : joinedFacts Tryz.pinned.checked.prog 9 Tryz.f9 (Rows.OpenSpec.upto Rows.syntaxPathsSpec).bare Rows.syntaxPathsUptoRow = true := by kernel_rfl
end Go.Proofs.YtdkcfccepjimbaaGreatDoor
