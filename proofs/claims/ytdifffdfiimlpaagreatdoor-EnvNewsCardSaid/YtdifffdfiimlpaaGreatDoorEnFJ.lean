/- The reference: From. No statement is proved here. -/
import Derived.Test.YtdifffdfiimlpaaGreatDoorEnFI
set_option linter.all false
namespace Go.Proofs.YtdifffdfiimlpaaGreatDoor
open Go Go.RowKit Go.Mir Go.Maps Go.Sort
set_option maxHeartbeats 4000000
set_option maxRecDepth 100000
theorem divN_ok {t : List UInt8} (h : (divN t).2.2 = true) : ((cutN t).2.2 = true ∧ nameB (cutN t).1 = true) ∧ (divN t).1 = (cutN t).1 ∧ (divN t).2.1 = (cutN t).2.1 := by
  unfold divN at h ⊢
  unfold cutN
  split at h
  · rename_i hc
    rw [if_pos hc, if_pos hc]
    exact ⟨⟨rfl, h⟩, rfl, rfl⟩
  · cases h
theorem divN_no {t : List UInt8} (h : (divN t).2.2 = false) : ¬ ((cutN t).2.2 = true ∧ nameB (cutN t).1 = true) := by
  unfold divN at h
  unfold cutN
  split at h
  · rename_i hc
    rw [if_pos hc]
    rintro ⟨_, h2⟩
    simp only at h h2
    rw [h] at h2; cases h2
  · rename_i hc
    rw [if_neg hc]
    rintro ⟨h2, _⟩
    cases h2
theorem divN_len (t : List UInt8) : (divN t).2.1.length ≤ t.length := by
  unfold divN; split <;> simp
theorem bel2 {a b c : World} (h : Below a.heap.size a b) (k : Below b.heap.size b c) : Below a.heap.size a c := h.trans (k.mono h.size)
/-- what a list of variables that is made is, or the error -/
def PostL (w : World) (r : Except Int (List NV)) (e : Ending) (w' : World) : Prop := match r with
  | .error x => e = .returned (.tuple #[.slice none 0 0, .int .i64 x])
  | .ok L => if 128 < L.length then e = .returned (.tuple #[.slice none 0 0, .int .i64 4]) else ∃ s, e = .returned (.tuple #[s, .int .i64 0]) ∧ w'.ownsRow w.heap.size 43 5 s L.length (flatV L)
theorem from15_calls (ls : List (List UInt8)) (hls : ls.length < 900) (hlb : ∀ t ∈ ls, t.length ≤ maxLen) (ao : Option Addr) (cap : Nat) (w : World) (hrd : RdT w ao ls) :
    Calls Tryz.prog 23 #[.slice ao ls.length cap] w fun e w' => PostL w (refF ls []) e w' ∧ Below w.heap.size w w' := by
  have HC : Aside (RdT w ao ls) := hrd
  clear hrd
  obtain ⟨sz, hsz0⟩ : ∃ n, n = ls.length := ⟨_, rfl⟩
  rw [← hsz0] at hls ⊢
  have hsz : Aside (sz = ls.length) := hsz0
  clear hsz0
  obtain ⟨R, hR0⟩ : ∃ R, R = refF ls [] := ⟨_, rfl⟩
  rw [← hR0]
  have HR : Aside (R = refF ls []) := hR0
  clear hR0
  go_enter Tryz.func23, Tryz.ntmps23
  go_wp2
  go_loopg [4, 5] sz (fun g so si wx => ∃ (k : Nat) (L : List NV), k + g = sz ∧ si = .int .i64 k ∧ wx.ownsRow w.heap.size 43 5 so L.length (flatV L) ∧ Aside (refF (ls.drop k) L = R ∧ L.length ≤ k) ∧ Below w.heap.size w wx)
  case atStart => exact ⟨0, [], by omega, rfl, World.ownsRow_nil _ _ _ _, ⟨by rw [HR.out]; rfl, by simp⟩, Below.refl _ _⟩
  case round =>
    obtain ⟨k, L, hkg, rfl, hro, HI, hbo⟩ := hrel
    obtain ⟨n, hn0⟩ : ∃ n, n = L.length := ⟨_, rfl⟩
    rw [← hn0] at hro
    obtain ⟨a1, c1, hv, hrL⟩ := rdV_of_row hn0 hro
    have HL : Aside (RdV wr a1 L) := hrL
    have hn : Aside (n = L.length) := hn0
    have hnb : n < 1000 := by have := HI.out.2; have := hsz.out; omega
    have HO : Aside (wr.ownsRow w.heap.size 43 5 (.slice a1 n c1) n (flatV L)) := by show World.ownsRow _ _ _ _ _ _ _; rw [← hv]; exact hro
    subst hv
    clear hn0 hro hrL
    cases gk with
    | zero =>
      have hkz : ¬ (k : Int) < (sz : Int) := by omega
      have hR : Aside (R = .ok L) := by
        show _ = _
        rw [← HI.out.1, List.drop_eq_nil_of_le (by have := hsz.out; omega)]; rfl
      by_cases h128 : (128 : Int) < (n : Int)
      · go_wp2
        go_ret2
        refine ⟨?_, hbo⟩
        rw [hR.out]; unfold PostL
        simp only [← hn.out, if_pos (show 128 < n by omega)]
        rfl
      · go_wp2
        go_ret2
        refine ⟨?_, hbo⟩
        rw [hR.out]; unfold PostL
        simp only [← hn.out, if_neg (show ¬ 128 < n by omega)]
        exact ⟨_, rfl, HO.out⟩
    | succ g =>
      have hk0 : (0 : Int) ≤ (k : Int) := by omega
      have hkz : (k : Int) < (sz : Int) := by omega
      obtain ⟨t, ht⟩ : ∃ t, ls[k]? = some t := ⟨_, List.getElem?_eq_getElem (by have := hsz.out; omega)⟩
      obtain ⟨b, o, rfl, hc⟩ := (HC.out.below hbo) k t ht
      have hdrop : ls.drop k = t :: ls.drop (k + 1) := Lib.drop_at ht
      have htb : t.length ≤ maxLen := hlb t (List.mem_of_getElem? ht)
      have cD := fun W => div_calls t W htb
      have hyl := divN_len t
      have hok := @divN_ok t
      have hno := @divN_no t
      obtain ⟨D, hD⟩ : ∃ D, D = divN t := ⟨_, rfl⟩
      rw [← hD] at cD hyl hok hno
      clear hD
      obtain ⟨x, y, f⟩ := D
      cases f with
      | false =>
        have X : Aside (refF (ls.drop (k + 1)) L = R) := by
          show _ = _
          rw [← HI.out.1, hdrop]; rw [refF, if_neg (hno rfl)]
        clear hok hno hdrop
        go_wp2_with (first
          | (go_at_call 57; refine (cD _).mono ?_; rintro e W1 ⟨rfl, hB1⟩))
        go_roundg g
        case measure => omega
        case rel => exact ⟨k + 1, L, by omega, by simp, by rw [← hn.out]; exact HO.out.kept (row := none) ⟨hB1.os, hB1.tape, hB1.output, hB1.size, fun k hk _ => hB1.block k hk⟩ (by cases a1 <;> simp [Value.ownBlock]), ⟨X.out, by have := HI.out.2; omega⟩, bel2 hbo hB1⟩
      | true =>
        obtain ⟨h1, h2, h3⟩ := hok rfl
        simp only at h2 h3
        by_cases h4 : (4096 : Int) < (y.length : Int)
        · have X : Aside (R = .error 3) := by
            show _ = _
            rw [← HI.out.1, hdrop]; rw [refF, if_pos h1, if_pos (by rw [← h3]; omega)]
          clear hok hno hdrop h1 h2 h3
          go_wp2_with (first
            | (go_at_call 57; refine (cD _).mono ?_; rintro e W1 ⟨rfl, hB1⟩))
          go_ret2
          refine ⟨?_, bel2 hbo hB1⟩
          rw [X.out]; rfl
        · have X : Aside (refF (ls.drop (k + 1)) (putR (x, y, true) false L) = R) := by
            show _ = _
            rw [← HI.out.1, hdrop]; rw [refF, if_pos h1, if_neg (by rw [← h3]; omega), h2, h3]
          clear hok hno hdrop h1 h2 h3
          go_wp2_with (first
            | (go_at_call 57; refine (cD _).mono ?_; rintro e W1 ⟨rfl, hB1⟩; have cP := put58_calls L (x, y, true) (by rw [← hn.out]; omega) a1 c1 W1 (HL.out.below hB1); rw [← hn.out] at cP)
            | (go_at_call 58; refine cP.mono ?_; rintro e W2 ⟨s2, rfl, hro2, hB2⟩))
          go_roundg g
          case measure => omega
          case rel =>
            have hlen : (putR (x, y, true) false L).length ≤ L.length + 1 := putR_len _ _ _
            exact ⟨k + 1, _, by omega, by simp, row_mono hro2 (Nat.le_trans hbo.size hB1.size), ⟨X.out, by have := HI.out.2; omega⟩, bel2 (bel2 hbo hB1) hB2⟩
end Go.Proofs.YtdifffdfiimlpaaGreatDoor
