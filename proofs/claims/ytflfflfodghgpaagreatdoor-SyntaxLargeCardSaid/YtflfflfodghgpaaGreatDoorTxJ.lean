/- What functions of the program and of the reference compute, on values. No statement is proved here. -/
import Derived.Test.YtflfflfodghgpaaGreatDoorTie
import Derived.Test.YtflfflfodghgpaaGreatDoorCards
import Derived.KernelRfl
import Derived.SevenTiedAt
set_option linter.unusedSimpArgs false
set_option linter.unusedVariables false
namespace Go.Proofs.YtflfflfodghgpaaGreatDoor
open Go
theorem wf4 : Rows.syntaxLargeRow.wfByText (OpenSpec.ofChange Rows.syntaxLargeSpec) = true := by kernel_rfl
theorem main4 : Tryz.pinned.checked.prog.mainIs = some (true, "0cf7c5ec7d0f8f1327b76cd2f8b4c47a841fb600283e293d4ad9b0f657cf5a1e".toList) := by kernel_rfl
end Go.Proofs.YtflfflfodghgpaaGreatDoor
