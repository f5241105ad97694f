/- What functions of the program and of the reference compute, on values. No statement is proved here. -/
import Derived.Test.YtgkggocjoolciaaGreatDoorTie
import Derived.Test.YtgkggocjoolciaaGreatDoorCards
import Derived.KernelRfl
import Derived.SevenTiedAt
set_option linter.all false
namespace Go.Proofs.YtgkggocjoolciaaGreatDoor
open Go
theorem SJ:false=Rows.envSubsUptoRow.goesBy Tryz.pinned.checked.prog:=by kernel_rfl
end Go.Proofs.YtgkggocjoolciaaGreatDoor
