/- The program: the closure that SortFunc is handed. No statement is proved here. -/
import Derived.Test.YtdifffdfiimlpaaGreatDoorEnF2
import Derived.Test.YtdifffdfiimlpaaGreatDoorEnLayS
import Derived.Test.YtdifffdfiimlpaaGreatDoorEnPL0
set_option linter.all false
namespace Go.Proofs.YtdifffdfiimlpaaGreatDoor
open Go Go.RowKit Go.Maps Go.Mir Go.Shelf Go.Sort Go.Lib
set_option maxHeartbeats 4000000
set_option maxRecDepth 100000
theorem lt_cmp3 (x y : List UInt8) : decide (cmp3 x y < 0) = decide (x < y) := by
  unfold cmp3
  by_cases h1 : x < y
  · simp [h1]
  · by_cases h2 : y < x <;> simp [h1, h2]
theorem swoV : SWO (ltOf fun x y : NV => cmp3 x.1 y.1) where
  irrefl x := by unfold ltOf; rw [lt_cmp3]; exact decide_eq_false (List.lt_irrefl _)
  trans x y z h1 h2 := by
    unfold ltOf at *
    rw [lt_cmp3] at *
    exact decide_eq_true (List.lt_trans (of_decide_eq_true h1) (of_decide_eq_true h2))
  ntrans x y z h1 h2 := by
    unfold ltOf at *
    rw [lt_cmp3] at *
    have h1 := List.not_lt.1 (of_decide_eq_false h1)
    have h2 := List.not_lt.1 (of_decide_eq_false h2)
    exact decide_eq_false (List.not_lt.2 (List.le_trans h2 h1))
theorem closure20 (x y : NV) (W : World) : Calls Tryz.prog 20 #[.agg (encV x).toArray, .agg (encV y).toArray] W fun e w' => e = .returned (.int .i64 (cmp3 x.1 y.1)) ∧ ∃ q os', w' = grow (W.drewN q) os' := by
  have hcon := fun W' => cmp_calls x.1 y.1 W'
  generalize cmp3 x.1 y.1 = r at hcon ⊢
  unfold encV
  go_enter Tryz.func20, Tryz.ntmps20
  go_wp2_with (go_at_call 21; refine (hcon _).mono ?_; rintro e w' ⟨rfl, rfl⟩)
  go_ret
  exact ⟨rfl, 0, _, by rw [alloc_eq_grow, alloc_eq_grow, grow_grow]; rfl⟩
end Go.Proofs.YtdifffdfiimlpaaGreatDoor
