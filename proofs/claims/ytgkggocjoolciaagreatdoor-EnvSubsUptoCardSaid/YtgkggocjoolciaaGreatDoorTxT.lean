/- What functions of the program and of the reference compute, on values. No statement is proved here. -/
import Derived.Test.YtgkggocjoolciaaGreatDoorTie
import Derived.Test.YtgkggocjoolciaaGreatDoorCards
import Derived.KernelRfl
import Derived.SevenTiedAt
set_option linter.all false
namespace Go.Proofs.YtgkggocjoolciaaGreatDoor
open Go
theorem Wt:Rows.envSubsUptoRow.wfByText (Rows.OpenSpec.upto Rows.envSubsSpec)=true:=by kernel_rfl
theorem Ue:Tryz.pinned.checked.prog.mainIs=some (true,"ae96bc2460641bf065cf7800379e8582973a4f3041d655fc739f7113bd0d025a".toList):=by kernel_rfl
end Go.Proofs.YtgkggocjoolciaaGreatDoor
