/- What functions of the program and of the reference compute, on values. No statement is proved here. -/
import Derived.Test.YtioblbopbilmaaaGreatDoorTie
import Derived.Test.YtioblbopbilmaaaGreatDoorCards
import Derived.KernelRfl
import Derived.SevenTiedAt
set_option linter.all false
namespace Go.Proofs.YtioblbopbilmaaaGreatDoor
open Go
theorem RI:false=Rows.completePointsRow.goesBy Tryz.pinned.checked.prog:=by kernel_rfl
end Go.Proofs.YtioblbopbilmaaaGreatDoor
