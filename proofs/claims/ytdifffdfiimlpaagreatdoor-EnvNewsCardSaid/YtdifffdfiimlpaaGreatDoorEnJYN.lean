/- More closed facts on the row. No statement is proved here. -/
import Derived.Test.YtdifffdfiimlpaaGreatDoorTie
import Derived.Test.YtdifffdfiimlpaaGreatDoorCards
import Derived.KernelRfl
import Derived.SevenTiedAt
set_option linter.all false
namespace Go.Proofs.YtdifffdfiimlpaaGreatDoor
open Go
theorem wf3 : Rows.envNewsRow.wfByText (OpenSpec.ofChange Rows.envNewsSpec) = true := by kernel_rfl
theorem main3 : Tryz.pinned.checked.prog.mainIs = some (true, "c5e9ae2e65501eb7ac58d90da8d7ce3e85690264a749deb5c2c9f70f802dac1c".toList) := by kernel_rfl
end Go.Proofs.YtdifffdfiimlpaaGreatDoor
