/- The reference: names. No statement is proved here. -/
import Derived.Test.YtdifffdfiimlpaaGreatDoorEnFB
import Derived.Deep.LoopGhost
import Derived.Carry
import Derived.Lib.FieldsLaws
set_option linter.all false
namespace Go.Proofs.YtdifffdfiimlpaaGreatDoor
open Go Go.RowKit Go.Mir
set_option maxHeartbeats 4000000
set_option maxRecDepth 100000
theorem nameB_eq (t : List UInt8) : nameB t = (!t.isEmpty && decide (t.length ≤ 32) && !isDigit (bt t 0) && t.all fun c => isWord c.toNat) := rfl
theorem rname_calls (t : List UInt8) (W : World) : Calls Tryz.prog 60 #[.string ⟨t.toArray⟩] W fun e w' => e = .returned (.bool (nameB t)) ∧ W = w' := by
  by_cases h0 : t = []
  · subst h0
    have hr : nameB [] = false := rfl
    rw [hr]
    go_enter Tryz.func60, Tryz.ntmps60
    go_wp2
    go_ret
    exact ⟨rfl, rfl⟩
  have e0 : (t == []) = false := by simpa using h0
  have hl0 : 0 < t.length := List.length_pos_iff.2 h0
  by_cases h32 : 32 < t.length
  · have h32' : (32 : Int) < (t.length : Int) := by omega
    have hr : nameB t = false := by rw [nameB_eq, decide_eq_false (by omega)]; simp
    rw [hr]
    go_enter Tryz.func60, Tryz.ntmps60
    go_wp2
    go_ret
    exact ⟨rfl, rfl⟩
  have h32' : ¬ (32 : Int) < (t.length : Int) := by omega
  have hz : (0 : Int) < (t.length : Int) := by omega
  have cd := fun W => rdig_calls (t[0]) W
  have hb : bt t 0 = t[0].toNat := bt_get hl0
  cases hd : isDigit (bt t 0) with
  | true =>
    have hr : nameB t = false := by rw [nameB_eq, hd]; simp
    rw [hr]
    rw [hb] at hd
    rw [hd] at cd
    clear hb hd hr
    go_enter Tryz.func60, Tryz.ntmps60
    go_wp2_with (go_at_call 108; refine (cd _).mono ?_; rintro e w' ⟨rfl, rfl⟩)
    go_ret
    exact ⟨rfl, rfl⟩
  | false =>
    have hr : nameB t = t.all fun c => isWord c.toNat := by rw [nameB_eq, hd, decide_eq_true (by omega : t.length ≤ 32)]; cases t <;> simp_all
    rw [hr]
    rw [hb] at hd
    rw [hd] at cd
    clear hb hd hr
    obtain ⟨sz, hsz0⟩ : ∃ n, n = t.length := ⟨_, rfl⟩
    have hsz : Aside (sz = t.length) := hsz0
    go_enter Tryz.func60, Tryz.ntmps60
    go_wp2_with (go_at_call 108; refine (cd _).mono ?_; rintro e w' ⟨rfl, rfl⟩)
    go_loopg [3] sz (fun g s wx => ∃ k : Nat, k + g = sz ∧ s = .int .i64 k ∧ Aside ((t.drop k).all (fun c => isWord c.toNat) = t.all fun c => isWord c.toNat) ∧ wx = W)
    case atStart => exact ⟨0, by omega, rfl, rfl, rfl⟩
    case round =>
      obtain ⟨k, hkg, rfl, HI, rfl⟩ := hrel
      cases gk with
      | zero =>
        have hkz : ¬ (k : Int) < (t.length : Int) := by have := hsz.out; omega
        have ha : (t.all fun c => isWord c.toNat) = true := by rw [← HI.out, List.drop_eq_nil_of_le (by have := hsz.out; omega)]; rfl
        go_wp2
        go_ret
        exact ⟨rfl, rfl⟩
      | succ g =>
        have hkt : k < t.length := by have := hsz.out; omega
        have hk0 : (0 : Int) ≤ (k : Int) := by omega
        have hkz : (k : Int) < (t.length : Int) := by omega
        have hdrop : t.drop k = t[k] :: t.drop (k + 1) := drop_at hkt
        have cw := fun W => rword_calls (t[k]) W
        cases hw : isWord t[k].toNat with
        | false =>
          have ha : Aside ((t.all fun c => isWord c.toNat) = false) := by show _ = _; rw [← HI.out, hdrop, List.all_cons, hw]; rfl
          rw [hw] at cw
          clear hw hdrop
          go_wp2_with (go_at_call 109; refine (cw _).mono ?_; rintro e w' ⟨rfl, rfl⟩)
          go_ret
          exact ⟨congrArg (fun b => Ending.returned (.bool b)) ha.out.symm, rfl⟩
        | true =>
          have X : Aside ((t.drop (k + 1)).all (fun c => isWord c.toNat) = t.all fun c => isWord c.toNat) := by
            show _ = _
            rw [← HI.out, hdrop, List.all_cons, hw]; rfl
          rw [hw] at cw
          clear hw hdrop
          go_wp2_with (go_at_call 109; refine (cw _).mono ?_; rintro e w' ⟨rfl, rfl⟩)
          go_roundg g
          case measure => omega
          case rel => exact ⟨k + 1, by omega, by simp, X, rfl⟩
end Go.Proofs.YtdifffdfiimlpaaGreatDoor
