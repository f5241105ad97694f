/- What functions of the program and of the reference compute, on values. No statement is proved here. -/
import Derived.Test.YtnocibbhognbeaaGreatDoorPeA
import Derived.Test.YtnocibbhognbeaaGreatDoorProg
import Derived.KernelRfl
set_option linter.unusedSimpArgs false
set_option linter.unusedVariables false
namespace Go.Proofs.YtnocibbhognbeaaGreatDoor
open Go Go.EvL Go.PE
noncomputable def orc14 : Orc := ⟨fun _ => none, fun _ => none, fun _ => false, fun _ => none, tabFind [(59, [.string ⟨#[98, 10]⟩], .string ⟨#[69, 79, 70]⟩)]⟩
set_option maxRecDepth 1000000 in
theorem awake4_ok : closedOk Tryz.prog orc14 laidsP 1000 4 = true := by kernel_rfl
end Go.Proofs.YtnocibbhognbeaaGreatDoor
