/- What functions of the program and of the reference compute, on values. No statement is proved here. -/
import Derived.Test.YtokdflgpbfjpcaaGreatDoorTie
import Derived.Test.YtokdflgpbfjpcaaGreatDoorCards
import Derived.KernelRfl
import Derived.SevenTiedAt
set_option linter.all false
namespace Go.Proofs.YtokdflgpbfjpcaaGreatDoor
open Go
theorem Xo:Rows.envOptionsUptoRow.wfByText (Rows.OpenSpec.upto Rows.envOptionsSpec)=true:=by kernel_rfl
theorem UO:Tryz.pinned.checked.prog.mainIs=some (true,"ae37011e5fd839488cac0c43e9c747183d638d63fdfd7d039e6b807f58ac41d1".toList):=by kernel_rfl
end Go.Proofs.YtokdflgpbfjpcaaGreatDoor
