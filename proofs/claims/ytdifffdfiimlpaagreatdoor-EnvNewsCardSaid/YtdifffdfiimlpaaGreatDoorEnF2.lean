/- The program: arguments, Compare. No statement is proved here. -/
import Derived.Test.YtdifffdfiimlpaaGreatDoorEnF1
set_option linter.all false
namespace Go.Proofs.YtdifffdfiimlpaaGreatDoor
open Go Go.RowKit Go.Maps Go.Mir Go.Shelf Go.Sort
set_option maxHeartbeats 4000000
set_option maxRecDepth 100000
theorem args_calls (ls : List (List UInt8)) (hls : ls.length < 1000000) (ao : Option Addr) (cap : Nat) (w : World)
    (hcell : ∀ k t, ls[k]? = some t → ∃ b o, ao = some ⟨b, o, none⟩ ∧ w.cell? ⟨b, o + k, none⟩ = some (.string ⟨t.toArray⟩)) :
    Calls Tryz.prog 18 #[.slice ao ls.length cap] w fun e w' => e = .returned (.int .i64 (argsL ls)) ∧ w' = w := by
  have HC : Aside (∀ k t, ls[k]? = some t → ∃ b o, ao = some ⟨b, o, none⟩ ∧ w.cell? ⟨b, o + k, none⟩ = some (.string ⟨t.toArray⟩)) := hcell
  clear hcell
  by_cases h5 : 512 < ls.length
  · have h5' : (512 : Int) < (ls.length : Int) := by omega
    have hr : argsL ls = 4 := by unfold argsL; rw [if_pos h5]
    rw [hr]
    go_enter Tryz.func18, Tryz.ntmps18
    go_wp2
    go_ret
    exact ⟨rfl, rfl⟩
  · have h5' : ¬ (512 : Int) < (ls.length : Int) := by omega
    have hr : argsL ls = if ls.any fun p => decide (4096 < p.length) then 3 else 0 := by unfold argsL; rw [if_neg h5]
    rw [hr]
    clear hr
    obtain ⟨sz, hsz0⟩ : ∃ n, n = ls.length := ⟨_, rfl⟩
    rw [← hsz0] at h5' ⊢
    have hsz : Aside (sz = ls.length) := hsz0
    clear hsz0 h5
    go_enter Tryz.func18, Tryz.ntmps18
    go_wp2
    go_loopg [10] sz (fun g s10 wx => ∃ k : Nat, k + g = sz ∧ s10 = .int .i64 k ∧ Aside ((ls.drop k).any (fun p => decide (4096 < p.length)) = ls.any fun p => decide (4096 < p.length)) ∧ wx = w)
    case atStart => exact ⟨0, by omega, rfl, rfl, rfl⟩
    case round =>
      obtain ⟨k, hkg, rfl, HI, rfl⟩ := hrel
      cases gk with
      | zero =>
        have hkz : ¬ (k : Int) < (sz : Int) := by omega
        have ha : (ls.any fun p => decide (4096 < p.length)) = false := by rw [← HI.out, List.drop_eq_nil_of_le (by have := hsz.out; omega)]; rfl
        go_wp2
        go_ret
        exact ⟨rfl, rfl⟩
      | succ g =>
        have hkz : (k : Int) < (sz : Int) := by omega
        obtain ⟨t, ht⟩ : ∃ t, ls[k]? = some t := ⟨_, List.getElem?_eq_getElem (by have := hsz.out; omega)⟩
        obtain ⟨b, o, rfl, hc⟩ := HC.out k t ht
        have hdrop : ls.drop k = t :: ls.drop (k + 1) := Lib.drop_at ht
        by_cases h4 : 4096 < t.length
        · have h4' : (4096 : Int) < (t.length : Int) := by omega
          have ha : (ls.any fun p => decide (4096 < p.length)) = true := by rw [← HI.out, hdrop]; simp [h4]
          go_wp2
          go_ret
          exact ⟨rfl, rfl⟩
        · have h4' : ¬ (4096 : Int) < (t.length : Int) := by omega
          go_wp2
          go_roundg g
          case measure => omega
          case rel => exact ⟨k + 1, by omega, by simp, by show _ = _; rw [← HI.out, hdrop]; simp [h4], rfl⟩
theorem gt_str (x y : List UInt8) (W : World) : Sem.run Tryz.prog (binOp BinOp.gtr 9 (.string ⟨x.toArray⟩) (.string ⟨y.toArray⟩)) W = .ok (.bool (Op.bytesLess y x)) W := by
  have h : (binOp BinOp.gtr 9 (.string ⟨x.toArray⟩) (.string ⟨y.toArray⟩) : Sem Value) = pure (.bool !(Op.bytesLess (⟨x.toArray⟩ : ByteArray).toList (⟨y.toArray⟩ : ByteArray).toList || (⟨x.toArray⟩ : ByteArray).toList == (⟨y.toArray⟩ : ByteArray).toList)) := by simp [binOp, Op.stringOp]
  rw [h, Lib.toList_data, Lib.toList_data]
  have e : (!(Op.bytesLess x y || x == y)) = Op.bytesLess y x := by
    rw [bytesLess_eq, bytesLess_eq]
    by_cases h1 : x < y
    · have h2 : ¬ y < x := fun h => List.lt_asymm h1 h
      simp [h1, h2]
    · by_cases h3 : x = y
      · subst h3; simp [h1]
      · have h2 : y < x := by
          have := List.not_lt.1 h1
          rcases List.le_iff_lt_or_eq.1 this with h4 | h4
          · exact h4
          · exact absurd h4.symm h3
        simp [h1, h2, h3]
  show Sem.run Tryz.prog (pure (Value.bool (!(Op.bytesLess x y || x == y)))) W = _
  rw [e]; rfl
def cmp3 (x y : List UInt8) : Int := if x < y then -1 else if y < x then 1 else 0
theorem cmp_calls (x y : List UInt8) (W : World) : Calls Tryz.prog 21 #[.string ⟨x.toArray⟩, .string ⟨y.toArray⟩] W fun e w' => e = .returned (.int .i64 (cmp3 x y)) ∧ w' = W := by
  by_cases h1 : x < y
  · have h1' : Op.bytesLess x y = true := by rw [bytesLess_eq]; exact decide_eq_true h1
    have hr : cmp3 x y = -1 := by unfold cmp3; rw [if_pos h1]
    rw [hr]
    go_enter Tryz.func21, Tryz.ntmps21
    go_wp2
    all_goals (go_ret; exact ⟨rfl, rfl⟩)
  · have h1' : Op.bytesLess x y = false := by rw [bytesLess_eq]; exact decide_eq_false h1
    by_cases h2 : y < x
    · have h2' : Op.bytesLess y x = true := by rw [bytesLess_eq]; exact decide_eq_true h2
      have hq : (x == y) = false := by simpa using fun e : x = y => List.lt_irrefl _ (e ▸ h2)
      have hr : cmp3 x y = 1 := by unfold cmp3; rw [if_neg h1, if_pos h2]
      rw [hr]
      have hg := gt_str x y
      rw [h2'] at hg
      go_enter Tryz.func21, Tryz.ntmps21
      go_wp2
      all_goals (go_ret; exact ⟨rfl, rfl⟩)
    · have h2' : Op.bytesLess y x = false := by rw [bytesLess_eq]; exact decide_eq_false h2
      have hq : (x == y) = true := by simpa using List.le_antisymm (List.not_lt.1 h2) (List.not_lt.1 h1)
      have hr : cmp3 x y = 0 := by unfold cmp3; rw [if_neg h1, if_neg h2]
      rw [hr]
      have hg := gt_str x y
      rw [h2'] at hg
      go_enter Tryz.func21, Tryz.ntmps21
      go_wp2
      all_goals (go_ret; exact ⟨rfl, rfl⟩)
end Go.Proofs.YtdifffdfiimlpaaGreatDoor
