/- What functions of the program and of the reference compute, on values. No statement is proved here. -/
import Derived.Test.YtnocibbhognbeaaGreatDoorEvD
import Derived.Test.YtnocibbhognbeaaGreatDoorProg
import Derived.RangeFuncFrom
import Derived.RangeFuncWrites
import Derived.RangeFuncCalls
import Derived.RangeFuncLeaves
import Derived.TacticsInMore
import Derived.BigFrameIn
import Derived.Shelf.RegionOpen
import Derived.Shelf.Abstract
import Derived.OwnWalkIn
import Derived.Maps.OwnIn
import Derived.RegionIn
import Derived.LoopIn
import Derived.LoopNIn
import Derived.WalkKit
import Derived.KernelRfl
set_option linter.unusedSimpArgs false
set_option linter.unusedVariables false
namespace Go.Proofs.YtnocibbhognbeaaGreatDoor
open Go Go.EvL Go.RowKit Go.Shelf
set_option maxRecDepth 1000000 in
theorem prog_env : Env Tryz.prog := env_of 68 (by kernel_rfl) (by kernel_rfl) (fun v w => by kernel_rfl)
set_option maxRecDepth 1000000 in
theorem prog_tys : Tys Tryz.prog := tys_of (by kernel_rfl)
theorem nglob : Tryz.prog.globals.size = 8 := by kernel_rfl
theorem nmix : Tryz.prog.follows .mixedOrders = true := by kernel_rfl
abbrev sBN : ByteArray := ⟨#[98, 10]⟩
set_option maxRecDepth 1000000 in
theorem trim_ok : closedVal Tryz.prog noOrc [] 100 14 [.string ⟨#[98, 10]⟩, .string ⟨#[10]⟩] = some (.string ⟨#[98]⟩) := by kernel_rfl
theorem trim14 (w : World) (hw : 8 ≤ w.heap.size) : Calls Tryz.prog 14 #[.string ⟨#[98, 10]⟩, .string ⟨#[10]⟩] w fun e w' => e = .returned (.string ⟨#[98]⟩) ∧ Below w.heap.size w w' :=
  closed_val prog_env prog_tys nmix (noOrcOK _) (Nat.le_refl _) [] (fun x hx => by cases hx) trim_ok w (by rw [nglob]; exact hw) (fun x hx => by cases hx)
set_option maxRecDepth 1000000 in
theorem ind_ok : closedVal Tryz.prog noOrc [] 100 87 [.string ⟨#[98, 10]⟩, .int .u8 10] = some (.int .i64 1) := by kernel_rfl
theorem ind87 (w : World) (hw : 8 ≤ w.heap.size) : Calls Tryz.prog 87 #[.string ⟨#[98, 10]⟩, .int .u8 10] w fun e w' => e = .returned (.int .i64 1) ∧ Below w.heap.size w w' :=
  closed_val prog_env prog_tys nmix (noOrcOK _) (Nat.le_refl _) [] (fun x hx => by cases hx) ind_ok w (by rw [nglob]; exact hw) (fun x hx => by cases hx)
set_option maxHeartbeats 1000000 in
theorem lines72 (F : Fence) (n : Nat) (h72 : F.fn 72) (hro : F.round = none) (s : ByteArray) (w : World) :
    CallsIn F n Tryz.prog 72 #[.string s, .int .i64 0] w fun e w' => e = .returned (.func (.func 86) #[] #[.pointer (some ⟨w.heap.size, 0, none⟩), .pointer (some ⟨w.heap.size + 1, 0, none⟩)]) ∧ w' = (w.alloc (.cells #[.string s] 9)).alloc (.cells #[.int .i64 0] 3) := by
  refine callsIn_of_wp Tryz.func72 rfl h72 ?_ hro
  simp only [Tryz.ntmps72, List.size_toArray, List.length_cons, List.length_nil, Nat.reduceAdd, Nat.reduceSub, Array.replicate_succ, Array.replicate_zero, List.push_toArray, List.append_toArray, List.nil_append, List.cons_append]
  gi_wp2
  go_ret
  exact ⟨rfl, rfl⟩
end Go.Proofs.YtnocibbhognbeaaGreatDoor
