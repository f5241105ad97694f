/- What functions of the program and of the reference compute, on values. No statement is proved here. -/
import Derived.Test.YtokdflgpbfjpcaaGreatDoorTie
import Derived.Test.YtokdflgpbfjpcaaGreatDoorCards
import Derived.KernelRfl
import Derived.SevenTiedAt
set_option linter.all false
namespace Go.Proofs.YtokdflgpbfjpcaaGreatDoor
open Go
theorem Vo:false=Rows.envOptionsUptoRow.goesBy Tryz.pinned.checked.prog:=by kernel_rfl
end Go.Proofs.YtokdflgpbfjpcaaGreatDoor
