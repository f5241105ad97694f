/- Sizes and parameters. No statement is proved here. -/
import Derived.Test.YtdifffdfiimlpaaGreatDoorEnFR
import Derived.Deep.DeepMust
set_option linter.all false
namespace Go.Proofs.YtdifffdfiimlpaaGreatDoor
open Go Go.RowKit Go.Mir Go.Maps
set_option maxHeartbeats 4000000
set_option maxRecDepth 100000
def argsL (ps : List (List UInt8)) : Int := if 512 < ps.length then 4 else if ps.any fun p => decide (4096 < p.length) then 3 else 0
theorem params_calls (ls : List (List UInt8)) (hls : ls.length ≤ maxLen) (ao : Option Addr) (cap : Nat) (w : World) (hrd : RdT w ao ls) :
    Calls Tryz.prog 24 #[.slice ao ls.length cap] w fun e w' => e = .returned (.int .i64 (argsL ls)) ∧ w = w' := by
  have HC : Aside (RdT w ao ls) := hrd
  clear hrd
  by_cases h5 : 512 < ls.length
  · have h5' : (512 : Int) < (ls.length : Int) := by omega
    have hr : argsL ls = 4 := by unfold argsL; rw [if_pos h5]
    rw [hr]
    go_enter Tryz.func24, Tryz.ntmps24
    go_wp2
    go_ret
    exact ⟨rfl, rfl⟩
  · have h5' : ¬ (512 : Int) < (ls.length : Int) := by omega
    have hr : argsL ls = if ls.any fun p => decide (4096 < p.length) then 3 else 0 := by unfold argsL; rw [if_neg h5]
    rw [hr]
    clear hr
    obtain ⟨sz, hsz0⟩ : ∃ n, n = ls.length := ⟨_, rfl⟩
    rw [← hsz0] at h5' ⊢
    have hsz : Aside (sz = ls.length) := hsz0
    clear hsz0 h5
    go_enter Tryz.func24, Tryz.ntmps24
    go_wp2
    go_loopg [3] sz (fun g s wx => ∃ k : Nat, k + g = sz ∧ s = .int .i64 k ∧ Aside ((ls.drop k).any (fun p => decide (4096 < p.length)) = ls.any fun p => decide (4096 < p.length)) ∧ wx = w)
    case atStart => exact ⟨0, by omega, rfl, rfl, rfl⟩
    case round =>
      obtain ⟨k, hkg, rfl, HI, rfl⟩ := hrel
      cases gk with
      | zero =>
        have hkz : ¬ (k : Int) < (sz : Int) := by omega
        have ha : (ls.any fun p => decide (4096 < p.length)) = false := by rw [← HI.out, List.drop_eq_nil_of_le (by have := hsz.out; omega)]; rfl
        go_wp2
        go_ret
        exact ⟨rfl, rfl⟩
      | succ g =>
        have hk0 : (0 : Int) ≤ (k : Int) := by omega
        have hkz : (k : Int) < (sz : Int) := by omega
        obtain ⟨t, ht⟩ : ∃ t, ls[k]? = some t := ⟨_, List.getElem?_eq_getElem (by have := hsz.out; omega)⟩
        obtain ⟨b, o, rfl, hc⟩ := HC.out k t ht
        have hdrop : ls.drop k = t :: ls.drop (k + 1) := Lib.drop_at ht
        by_cases h4 : 4096 < t.length
        · have h4' : (4096 : Int) < (t.length : Int) := by omega
          have ha : (ls.any fun p => decide (4096 < p.length)) = true := by rw [← HI.out, hdrop]; simp [h4]
          go_wp2
          go_ret
          exact ⟨rfl, rfl⟩
        · have h4' : ¬ (4096 : Int) < (t.length : Int) := by omega
          go_wp2
          go_roundg g
          case measure => omega
          case rel => exact ⟨k + 1, by omega, by simp, by show _ = _; rw [← HI.out, hdrop, List.any_cons, decide_eq_false h4]; rfl, rfl⟩
/-- what a look at the length tells when it says yes -/
def SmallP (n m : Nat) (e : Ending) : Prop := ∃ b : Bool, e = .returned (.bool b) ∧ (b = true → n ≤ m)
/-- what Brief tells when it says yes -/
def shortB (t : List UInt8) : Bool := decide (t.length ≤ 60) || decide (4096 < t.length)
theorem short_calls (t : List UInt8) (W : World) : Calls Tryz.prog 11 #[.string ⟨t.toArray⟩] W fun e w' => e = .returned (.bool (shortB t)) ∧ W = w' := by
  have hr : shortB t = (decide ((t.length : Int) ≤ 60) || decide ((4096 : Int) < (t.length : Int))) := by
    unfold shortB; rw [Bool.eq_iff_iff]; simp only [Bool.or_eq_true, decide_eq_true_eq]; omega
  rw [hr]
  cases h1 : decide ((t.length : Int) ≤ 60) <;> cases h2 : decide ((4096 : Int) < (t.length : Int))
  all_goals
    clear hr
    go_enter Tryz.func11, Tryz.ntmps11
    go_wp2
    go_ret
    exact ⟨rfl, rfl⟩
theorem brief_calls (ls : List (List UInt8)) (hls : ls.length ≤ maxLen) (ao : Option Addr) (cap : Nat) (w : World) (hrd : RdT w ao ls) :
    Calls Tryz.prog 4 #[.slice ao ls.length cap] w fun e w' => SmallP ls.length 514 e ∧ w = w' := by
  have HC : Aside (RdT w ao ls) := hrd
  clear hrd
  obtain ⟨sz, hsz0⟩ : ∃ n, n = ls.length := ⟨_, rfl⟩
  rw [← hsz0]
  have hsz : Aside (sz = ls.length ∧ ls.length ≤ maxLen) := ⟨hsz0, hls⟩
  clear hsz0 hls
  go_enter Tryz.func4, Tryz.ntmps4
  go_wp2
  go_loopg [3] sz (fun g s wx => ∃ k : Nat, k + g = sz ∧ s = .int .i64 k ∧ k ≤ 515 ∧ wx = w)
  case atStart => exact ⟨0, by omega, rfl, by omega, rfl⟩
  case round =>
    obtain ⟨k, hkg, rfl, hk5, rfl⟩ := hrel
    cases gk with
    | zero =>
      have hkz : ¬ (k : Int) < (sz : Int) := by omega
      by_cases h5 : (sz : Int) ≤ 514
      · go_wp2
        go_ret
        exact ⟨⟨true, rfl, fun _ => by omega⟩, rfl⟩
      · go_wp2
        go_ret
        exact ⟨⟨false, rfl, fun h => by cases h⟩, rfl⟩
    | succ g =>
      have hk0 : (0 : Int) ≤ (k : Int) := by omega
      have hkz : (k : Int) < (sz : Int) := by omega
      obtain ⟨t, ht⟩ : ∃ t, ls[k]? = some t := ⟨_, List.getElem?_eq_getElem (by have := hsz.out; omega)⟩
      obtain ⟨b, o, rfl, hc⟩ := HC.out k t ht
      have cs := fun W => short_calls t W
      by_cases h514 : (k : Int) ≤ 514
      · cases hsh : shortB t with
        | true =>
          rw [hsh] at cs
          go_wp2_with (go_at_call 11; refine (cs _).mono ?_; rintro e w' ⟨rfl, rfl⟩)
          go_roundg g
          case measure => omega
          case rel => exact ⟨k + 1, by omega, by simp, by omega, rfl⟩
        | false =>
          rw [hsh] at cs
          go_wp2_with (go_at_call 11; refine (cs _).mono ?_; rintro e w' ⟨rfl, rfl⟩)
          go_ret
          exact ⟨⟨false, rfl, fun h => by cases h⟩, rfl⟩
      · have h5 : ¬ (sz : Int) ≤ 514 := by omega
        go_wp2
        go_ret
        exact ⟨⟨false, rfl, fun h => by cases h⟩, rfl⟩
theorem few_calls (ls : List (List UInt8)) (hls : ls.length ≤ maxLen) (ao : Option Addr) (cap : Nat) (w : World) (hrd : RdT w ao ls) :
    Calls Tryz.prog 5 #[.slice ao ls.length cap] w fun e w' => SmallP ls.length 138 e ∧ w = w' := by
  have HC : Aside (RdT w ao ls) := hrd
  clear hrd
  obtain ⟨sz, hsz0⟩ : ∃ n, n = ls.length := ⟨_, rfl⟩
  rw [← hsz0]
  have hsz : Aside (sz = ls.length ∧ ls.length ≤ maxLen) := ⟨hsz0, hls⟩
  clear hsz0 hls
  go_enter Tryz.func5, Tryz.ntmps5
  go_wp2
  go_loopg [3] sz (fun g s wx => ∃ k : Nat, k + g = sz ∧ s = .int .i64 k ∧ k ≤ 139 ∧ wx = w)
  case atStart => exact ⟨0, by omega, rfl, by omega, rfl⟩
  case round =>
    obtain ⟨k, hkg, rfl, hk5, rfl⟩ := hrel
    cases gk with
    | zero =>
      have hkz : ¬ (k : Int) < (sz : Int) := by omega
      by_cases h5 : (sz : Int) ≤ 138
      · go_wp2
        go_ret
        exact ⟨⟨true, rfl, fun _ => by omega⟩, rfl⟩
      · go_wp2
        go_ret
        exact ⟨⟨false, rfl, fun h => by cases h⟩, rfl⟩
    | succ g =>
      have hk0 : (0 : Int) ≤ (k : Int) := by omega
      have hkz : (k : Int) < (sz : Int) := by omega
      obtain ⟨t, ht⟩ : ∃ t, ls[k]? = some t := ⟨_, List.getElem?_eq_getElem (by have := hsz.out; omega)⟩
      obtain ⟨b, o, rfl, hc⟩ := HC.out k t ht
      by_cases h514 : (k : Int) ≤ 138
      · by_cases h1 : (60 : Int) < (t.length : Int)
        · by_cases h2 : (t.length : Int) ≤ 4096
          · go_wp2
            go_ret
            exact ⟨⟨false, rfl, fun h => by cases h⟩, rfl⟩
          · go_wp2
            go_roundg g
            case measure => omega
            case rel => exact ⟨k + 1, by omega, by simp, by omega, rfl⟩
        · go_wp2
          go_roundg g
          case measure => omega
          case rel => exact ⟨k + 1, by omega, by simp, by omega, rfl⟩
      · have h5 : ¬ (sz : Int) ≤ 138 := by omega
        go_wp2
        go_ret
        exact ⟨⟨false, rfl, fun h => by cases h⟩, rfl⟩
end Go.Proofs.YtdifffdfiimlpaaGreatDoor
