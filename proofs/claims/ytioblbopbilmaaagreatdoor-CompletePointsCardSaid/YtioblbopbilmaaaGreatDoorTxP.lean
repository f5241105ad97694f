/- What functions of the program and of the reference compute, on values. No statement is proved here. -/
import Derived.Test.YtioblbopbilmaaaGreatDoorTie
import Derived.Test.YtioblbopbilmaaaGreatDoorCards
import Derived.KernelRfl
import Derived.SevenTiedAt
set_option linter.all false
namespace Go.Proofs.YtioblbopbilmaaaGreatDoor
open Go
theorem Xf:Rows.completePointsRow.wfByText (OpenSpec.ofChange Rows.completePointsSpec)=true:=by kernel_rfl
theorem Tb:Tryz.pinned.checked.prog.mainIs=some (true,"9f0a5b6acf2efa3625a22390e6f715f9dfcdfb81112061487039267093a45342".toList):=by kernel_rfl
end Go.Proofs.YtioblbopbilmaaaGreatDoor
