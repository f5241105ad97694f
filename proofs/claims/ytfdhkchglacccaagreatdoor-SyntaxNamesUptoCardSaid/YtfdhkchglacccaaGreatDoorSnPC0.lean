/- The runs of word bytes. No statement is proved here. -/
import Derived.Test.YtfdhkchglacccaaGreatDoorSnNU
import Derived.Lib.FieldsP
import Derived.Lib.SpaceUEq
import Derived.Test.YtfdhkchglacccaaGreatDoorProg
import Derived.KernelRfl
import Derived.WalkKit
import Derived.Shelf.GgClosure.GivesRunes
set_option linter.all false
/-! the pieces of strings.FieldsFunc at what is no word byte: the runs of word bytes, in plain Lean -/
namespace Go.Proofs.YtfdhkchglacccaaGreatDoor
open Go Go.Mir Go.Syn Go.Lib
/-- a rune that parts -/
def sepR (r : Nat) : Bool := !isWord r
theorem word_hi {n : Nat} (h : 128 ≤ n) : isWord n = false := by
  unfold isWord isLetter isDigit
  simp only [Bool.or_eq_false_iff, Bool.and_eq_false_iff, decide_eq_false_iff_not, beq_eq_false_iff_ne]
  omega
theorem get_bt (t : List UInt8) (i : Nat) (h : i < t.length) : ((⟨t.toArray⟩ : ByteArray).get! i).toNat = bt t i := by
  rw [bt_get h]
  show (t.toArray[i]!).toNat = _
  rw [getElem!_pos t.toArray i (by simpa using h)]
  simp
/-- what a rune at pos is: a byte below 128; or no word rune, over bytes that are no word bytes -/
theorem dec_at (t : List UInt8) (pos : Nat) (h : pos < t.length) :
    1 ≤ (Utf8.decode ⟨t.toArray⟩ pos).2 ∧ pos + (Utf8.decode ⟨t.toArray⟩ pos).2 ≤ t.length ∧
    ((bt t pos < 128 ∧ Utf8.decode ⟨t.toArray⟩ pos = (bt t pos, 1)) ∨ (128 ≤ (Utf8.decode ⟨t.toArray⟩ pos).1 ∧ ∀ j, pos ≤ j → j < pos + (Utf8.decode ⟨t.toArray⟩ pos).2 → 128 ≤ bt t j)) := by
  have hs : (⟨t.toArray⟩ : ByteArray).size = t.length := by simp [ByteArray.size]
  have g0 := get_bt t pos h
  unfold Utf8.decode
  simp only [hs, Nat.add_zero, g0, Utf8.runeError]
  by_cases h0 : bt t pos < 128
  · simp only [h0, if_true]
    exact ⟨Nat.le_refl _, h, .inl ⟨trivial, trivial⟩⟩
  · have h0' : 128 ≤ bt t pos := by omega
    have one : ∀ j, pos ≤ j → j < pos + 1 → 128 ≤ bt t j := fun j h1 h2 => by
      have : j = pos := by omega
      rw [this]; exact h0'
    simp only [h0, if_false]
    by_cases c2 : (bt t pos / 32 == 6 && (decide (pos + 1 < t.length) && ((⟨t.toArray⟩ : ByteArray).get! (pos + 1)).toNat / 64 == 2)) = true
    · simp only [c2, if_true]
      simp only [Bool.and_eq_true, decide_eq_true_eq, beq_iff_eq] at c2
      obtain ⟨_, h1, h1'⟩ := c2
      have g1 := get_bt t (pos + 1) h1
      rw [g1] at h1' ⊢
      split
      · refine ⟨by omega, by omega, .inr ⟨by assumption, fun j h2 h3 => ?_⟩⟩
        rcases (show j = pos ∨ j = pos + 1 by simp only at h3; omega) with rfl | rfl
        · exact h0'
        · omega
      · exact ⟨by omega, by omega, .inr ⟨by decide, one⟩⟩
    · simp only [c2, if_false, Bool.false_eq_true]
      clear c2
      by_cases c3 : (bt t pos / 16 == 14 && (decide (pos + 1 < t.length) && ((⟨t.toArray⟩ : ByteArray).get! (pos + 1)).toNat / 64 == 2) && (decide (pos + 2 < t.length) && ((⟨t.toArray⟩ : ByteArray).get! (pos + 2)).toNat / 64 == 2)) = true
      · simp only [c3, if_true]
        simp only [Bool.and_eq_true, decide_eq_true_eq, beq_iff_eq] at c3
        obtain ⟨⟨_, h1, h1'⟩, h2, h2'⟩ := c3
        have g1 := get_bt t (pos + 1) h1
        have g2 := get_bt t (pos + 2) h2
        rw [g1] at h1' ⊢
        rw [g2] at h2' ⊢
        split
        · rename_i hc
          simp only [Bool.and_eq_true, decide_eq_true_eq] at hc
          refine ⟨by omega, by omega, .inr ⟨by have := hc.1; simp only; omega, fun j h3 h4 => ?_⟩⟩
          rcases (show j = pos ∨ j = pos + 1 ∨ j = pos + 2 by simp only at h4; omega) with rfl | rfl | rfl
          · exact h0'
          · omega
          · omega
        · exact ⟨by omega, by omega, .inr ⟨by decide, one⟩⟩
      · simp only [c3, if_false, Bool.false_eq_true]
        clear c3
        by_cases c4 : (bt t pos / 8 == 30 && (decide (pos + 1 < t.length) && ((⟨t.toArray⟩ : ByteArray).get! (pos + 1)).toNat / 64 == 2) && (decide (pos + 2 < t.length) && ((⟨t.toArray⟩ : ByteArray).get! (pos + 2)).toNat / 64 == 2) && (decide (pos + 3 < t.length) && ((⟨t.toArray⟩ : ByteArray).get! (pos + 3)).toNat / 64 == 2)) = true
        · simp only [c4, if_true]
          simp only [Bool.and_eq_true, decide_eq_true_eq, beq_iff_eq] at c4
          obtain ⟨⟨⟨_, h1, h1'⟩, h2, h2'⟩, h3, h3'⟩ := c4
          have g1 := get_bt t (pos + 1) h1
          have g2 := get_bt t (pos + 2) h2
          have g3 := get_bt t (pos + 3) h3
          rw [g1] at h1' ⊢
          rw [g2] at h2' ⊢
          rw [g3] at h3' ⊢
          split
          · rename_i hc
            simp only [Bool.and_eq_true, decide_eq_true_eq] at hc
            refine ⟨by omega, by omega, .inr ⟨by have := hc.1; simp only; omega, fun j h4 h5 => ?_⟩⟩
            rcases (show j = pos ∨ j = pos + 1 ∨ j = pos + 2 ∨ j = pos + 3 by simp only at h5; omega) with rfl | rfl | rfl | rfl
            · exact h0'
            · omega
            · omega
            · omega
          · exact ⟨by omega, by omega, .inr ⟨by decide, one⟩⟩
        · simp only [c4, if_false, Bool.false_eq_true]
          exact ⟨by omega, by omega, .inr ⟨by decide, one⟩⟩
def toB (r : List UInt8) : ByteArray := ⟨r.toArray⟩
/-- the pieces that are still to come, when a run began at st -/
def restU (t : List UInt8) (st : Option Nat) (pos : Nat) : List (List UInt8) := runsT (t.drop (st.getD pos))
theorem runs_skip (t : List UInt8) : ∀ (w pos : Nat), pos + w ≤ t.length → (∀ j, pos ≤ j → j < pos + w → isWord (bt t j) = false) → runsT (t.drop pos) = runsT (t.drop (pos + w))
  | 0, pos, _, _ => rfl
  | w + 1, pos, h, hw => by
    have h1 : t.drop pos = t[pos] :: t.drop (pos + 1) := drop_at (by omega)
    rw [h1, runs_off (by rw [← bt_get (by omega)]; exact hw pos (Nat.le_refl _) (by omega)), runs_skip t w (pos + 1) (by omega) (fun j h2 h3 => hw j (by omega) (by omega))]
    congr 2; omega
theorem take_run {t : List UInt8} {a pos : Nat} (h1 : a ≤ pos) (h2 : pos ≤ t.length) (hw : ∀ j, a ≤ j → j < pos → isWord (bt t j) = true) (he : pos = t.length ∨ isWord (bt t pos) = false) :
    ((t.drop a).takeWhile fun c => isWord c.toNat) = (t.take pos).drop a ∧ ((t.drop a).dropWhile fun c => isWord c.toNat) = t.drop pos := by
  obtain ⟨n, rfl⟩ : ∃ n, pos = a + n := ⟨pos - a, by omega⟩
  induction n generalizing a with
  | zero =>
    have e : (t.take (a + 0)).drop a = [] := List.drop_eq_nil_of_le (by rw [List.length_take]; omega)
    rw [e]
    rcases he with he | he
    · rw [List.drop_eq_nil_of_le (by omega)]
      exact ⟨rfl, by rw [List.drop_eq_nil_of_le (by omega)]; rfl⟩
    · rcases Nat.lt_or_ge a t.length with hlt | hge
      · have h3 : t.drop a = t[a] :: t.drop (a + 1) := drop_at hlt
        have h4 : isWord t[a].toNat = false := by rw [← bt_get hlt]; exact he
        have h5 : t.drop (a + 0) = t[a] :: t.drop (a + 1) := h3
        rw [h5, h3, List.takeWhile_cons, List.dropWhile_cons, h4]
        exact ⟨rfl, rfl⟩
      · rw [List.drop_eq_nil_of_le hge]
        exact ⟨rfl, by rw [List.drop_eq_nil_of_le (by omega)]; rfl⟩
  | succ n ih =>
    have hlt : a < t.length := by omega
    have h3 : t.drop a = t[a] :: t.drop (a + 1) := drop_at hlt
    have h4 : isWord t[a].toNat = true := by rw [← bt_get hlt]; exact hw a (Nat.le_refl _) (by omega)
    obtain ⟨i1, i2⟩ := ih (a := a + 1) (by omega) (by omega) (fun j h5 h6 => hw j (by omega) (by omega)) (by rw [show a + 1 + n = a + (n + 1) by omega]; exact he)
    rw [h3, List.takeWhile_cons, List.dropWhile_cons, h4]
    simp only [if_true]
    rw [i1, i2, show a + 1 + n = a + (n + 1) by omega]
    refine ⟨?_, rfl⟩
    have h5 : (t.take (a + (n + 1)))[a]? = some t[a] := by rw [List.getElem?_take_of_lt (by omega), List.getElem?_eq_getElem hlt]
    exact (Lib.drop_at h5).symm
theorem piece_eq (t : List UInt8) (a b : Nat) : (⟨t.toArray⟩ : ByteArray).extract a b = toB ((t.take b).drop a) := by
  apply ByteArray.ext
  unfold toB
  rw [ByteArray.data_extract]
  simp
  first | rfl | (rw [List.drop_take]) | skip
theorem close_pieces (t : List UInt8) : ∀ (f pos : Nat) (st : Option Nat) (acc : List (Nat × Nat)), t.length ≤ pos + f → pos ≤ t.length → (∀ a, st = some a → a < pos ∧ ∀ j, a ≤ j → j < pos → isWord (bt t j) = true) →
    (closeSpans ⟨t.toArray⟩ (spansFromP sepR ⟨t.toArray⟩ f pos st acc)).map (fun x => (⟨t.toArray⟩ : ByteArray).extract x.1 x.2) = acc.map (fun x => (⟨t.toArray⟩ : ByteArray).extract x.1 x.2) ++ (restU t st pos).map toB := by
  have hs : (⟨t.toArray⟩ : ByteArray).size = t.length := by simp [ByteArray.size]
  have last : ∀ (pos : Nat) (st : Option Nat) (acc : List (Nat × Nat)), pos = t.length → (∀ a, st = some a → a < pos ∧ ∀ j, a ≤ j → j < pos → isWord (bt t j) = true) →
      (closeSpans ⟨t.toArray⟩ (acc, st)).map (fun x => (⟨t.toArray⟩ : ByteArray).extract x.1 x.2) = acc.map (fun x => (⟨t.toArray⟩ : ByteArray).extract x.1 x.2) ++ (restU t st pos).map toB := by
    intro pos st acc hp hst
    cases st with
    | none =>
      unfold closeSpans restU
      rw [show (none : Option Nat).getD pos = pos from rfl, List.drop_eq_nil_of_le (by omega), runs_nil]
      simp
    | some a =>
      obtain ⟨h1, h2⟩ := hst a rfl
      unfold closeSpans restU
      simp only [hs, List.map_append, List.map_cons, List.map_nil]
      congr 1
      rw [show (some a).getD pos = a from rfl]
      have h3 : t.drop a = t[a] :: t.drop (a + 1) := drop_at (by omega)
      have h4 : isWord t[a].toNat = true := by rw [← bt_get (by omega)]; exact h2 a (Nat.le_refl _) (by omega)
      obtain ⟨e1, e2⟩ := take_run (Nat.le_of_lt h1) (by omega) h2 (.inl hp)
      rw [h3, runs_on h4, ← h3, e1, e2, (List.drop_eq_nil_of_le (show t.length ≤ pos by omega)), runs_nil, piece_eq, hp]
      rfl
  intro f
  induction f with
  | zero =>
    intro pos st acc h1 h2 hst
    exact last pos st acc (by omega) hst
  | succ f ih =>
    intro pos st acc h1 h2 hst
    by_cases hp : pos < t.length
    · obtain ⟨d1, d2, d3⟩ := dec_at t pos hp
      unfold spansFromP
      rw [hs, if_pos hp]
      obtain ⟨R, hR⟩ : ∃ R, (Utf8.decode ⟨t.toArray⟩ pos).1 = R := ⟨_, rfl⟩
      obtain ⟨K, hK⟩ : ∃ K, (Utf8.decode ⟨t.toArray⟩ pos).2 = K := ⟨_, rfl⟩
      rw [hR, hK]
      rw [hK] at d1 d2
      have key : (isWord (bt t pos) = true ∧ sepR R = false ∧ K = 1) ∨ (sepR R = true ∧ ∀ j, pos ≤ j → j < pos + K → isWord (bt t j) = false) := by
        rcases d3 with ⟨h3, h4⟩ | ⟨h3, h4⟩
        · rw [h4] at hR hK
          simp only at hR hK
          subst hR; subst hK
          cases hw : isWord (bt t pos) with
          | true => exact .inl ⟨rfl, by unfold sepR; rw [hw]; rfl, rfl⟩
          | false => exact .inr ⟨by unfold sepR; rw [hw]; rfl, fun j h5 h6 => (show j = pos by omega) ▸ hw⟩
        · rw [hR] at h3
          rw [hK] at h4
          exact .inr ⟨by unfold sepR; rw [word_hi h3]; rfl, fun j h5 h6 => word_hi (h4 j h5 h6)⟩
      rcases key with ⟨k1, k2, rfl⟩ | ⟨k1, k2⟩
      · rw [k2]
        simp only [Bool.false_eq_true, if_false]
        cases st with
        | some a =>
          obtain ⟨h3, h4⟩ := hst a rfl
          have := ih (pos + 1) (some a) acc (by omega) (by omega) (fun b hb => by
            cases hb
            exact ⟨by omega, fun j h5 h6 => by
              by_cases e : j = pos
              · rw [e]; exact k1
              · exact h4 j h5 (by omega)⟩)
          simp only at this ⊢
          rw [this]; rfl
        | none =>
          have := ih (pos + 1) (some pos) acc (by omega) (by omega) (fun b hb => by
            cases hb
            exact ⟨by omega, fun j h5 h6 => by
              have e : j = pos := by omega
              rw [e]; exact k1⟩)
          simp only at this ⊢
          rw [this]; rfl
      · rw [k1]
        simp only [if_true]
        have hskip := runs_skip t K pos d2 k2
        cases st with
        | none =>
          have := ih (pos + K) none acc (by omega) (by omega) (fun b hb => by cases hb)
          simp only at this ⊢
          rw [this]
          unfold restU
          rw [show (none : Option Nat).getD (pos + K) = pos + K from rfl, show (none : Option Nat).getD pos = pos from rfl, hskip]
        | some a =>
          obtain ⟨h3, h4⟩ := hst a rfl
          have := ih (pos + K) none (acc ++ [(a, pos)]) (by omega) (by omega) (fun b hb => by cases hb)
          simp only at this ⊢
          rw [this]
          unfold restU
          rw [show (none : Option Nat).getD (pos + K) = pos + K from rfl, show (some a).getD pos = a from rfl]
          have h5 : t.drop a = t[a] :: t.drop (a + 1) := drop_at (by omega)
          have h6 : isWord t[a].toNat = true := by rw [← bt_get (by omega)]; exact h4 a (Nat.le_refl _) (by omega)
          obtain ⟨e1, e2⟩ := take_run (Nat.le_of_lt h3) h2 h4 (.inr (k2 pos (Nat.le_refl _) (by omega)))
          rw [h5, runs_on h6, ← h5, e1, e2, hskip, List.map_append, List.map_cons, List.map_nil, List.map_cons, List.append_assoc, List.singleton_append, piece_eq]
    · rw [spansFromP_end _ _ _ _ _ _ (by rw [hs]; exact hp)]
      exact last pos st acc (by omega) hst
/-- strings.FieldsFunc at what is no word byte gives the runs -/
theorem fields_runs (t : List UInt8) : goFieldsP sepR ⟨t.toArray⟩ = (runsT t).map toB := by
  have hs : (⟨t.toArray⟩ : ByteArray).size = t.length := by simp [ByteArray.size]
  have := close_pieces t t.length 0 none [] (by omega) (Nat.zero_le _) (fun a h => by cases h)
  unfold goFieldsP spansOfP
  rw [hs, this]
  simp [restU]
end Go.Proofs.YtfdhkchglacccaaGreatDoor

/-! the rune predicate of calculated (printed by genPC.py) -/
namespace Go.Proofs.YtfdhkchglacccaaGreatDoor
open Go Go.RowKit Go.Mir Go.Lib
set_option maxHeartbeats 1000000
set_option maxRecDepth 100000
theorem sep_0 (r : Nat) (h : r < 48) (W : World) : Calls Tryz.prog 66 #[.int .i32 (r : Int)] W fun e w' => e = .returned (.bool true) ∧ W = w' := by
  have h0 : ((r : Int) != 95) = true := by simp; omega
  have h1 : decide ((r : Int) < 48) = true := by simp; omega
  have h2 : decide (57 < (r : Int)) = false := by simp; omega
  have h3 : decide ((r : Int) < 65) = true := by simp; omega
  have h4 : decide (90 < (r : Int)) = false := by simp; omega
  have h5 : decide ((r : Int) < 97) = true := by simp; omega
  have h6 : decide (122 < (r : Int)) = false := by simp; omega
  clear h
  go_enter Tryz.func66, Tryz.ntmps66
  go_wp2
  go_ret
  exact ⟨rfl, rfl⟩
theorem sep_1 (r : Nat) (h : 48 ≤ r ∧ r ≤ 57) (W : World) : Calls Tryz.prog 66 #[.int .i32 (r : Int)] W fun e w' => e = .returned (.bool false) ∧ W = w' := by
  have h0 : ((r : Int) != 95) = true := by simp; omega
  have h1 : decide ((r : Int) < 48) = false := by simp; omega
  have h2 : decide (57 < (r : Int)) = false := by simp; omega
  have h3 : decide ((r : Int) < 65) = true := by simp; omega
  have h4 : decide (90 < (r : Int)) = false := by simp; omega
  have h5 : decide ((r : Int) < 97) = true := by simp; omega
  have h6 : decide (122 < (r : Int)) = false := by simp; omega
  clear h
  go_enter Tryz.func66, Tryz.ntmps66
  go_wp2
  go_ret
  exact ⟨rfl, rfl⟩
theorem sep_2 (r : Nat) (h : 58 ≤ r ∧ r ≤ 64) (W : World) : Calls Tryz.prog 66 #[.int .i32 (r : Int)] W fun e w' => e = .returned (.bool true) ∧ W = w' := by
  have h0 : ((r : Int) != 95) = true := by simp; omega
  have h1 : decide ((r : Int) < 48) = false := by simp; omega
  have h2 : decide (57 < (r : Int)) = true := by simp; omega
  have h3 : decide ((r : Int) < 65) = true := by simp; omega
  have h4 : decide (90 < (r : Int)) = false := by simp; omega
  have h5 : decide ((r : Int) < 97) = true := by simp; omega
  have h6 : decide (122 < (r : Int)) = false := by simp; omega
  clear h
  go_enter Tryz.func66, Tryz.ntmps66
  go_wp2
  go_ret
  exact ⟨rfl, rfl⟩
theorem sep_3 (r : Nat) (h : 65 ≤ r ∧ r ≤ 90) (W : World) : Calls Tryz.prog 66 #[.int .i32 (r : Int)] W fun e w' => e = .returned (.bool false) ∧ W = w' := by
  have h0 : ((r : Int) != 95) = true := by simp; omega
  have h1 : decide ((r : Int) < 48) = false := by simp; omega
  have h2 : decide (57 < (r : Int)) = true := by simp; omega
  have h3 : decide ((r : Int) < 65) = false := by simp; omega
  have h4 : decide (90 < (r : Int)) = false := by simp; omega
  have h5 : decide ((r : Int) < 97) = true := by simp; omega
  have h6 : decide (122 < (r : Int)) = false := by simp; omega
  clear h
  go_enter Tryz.func66, Tryz.ntmps66
  go_wp2
  go_ret
  exact ⟨rfl, rfl⟩
theorem sep_4 (r : Nat) (h : 91 ≤ r ∧ r ≤ 94) (W : World) : Calls Tryz.prog 66 #[.int .i32 (r : Int)] W fun e w' => e = .returned (.bool true) ∧ W = w' := by
  have h0 : ((r : Int) != 95) = true := by simp; omega
  have h1 : decide ((r : Int) < 48) = false := by simp; omega
  have h2 : decide (57 < (r : Int)) = true := by simp; omega
  have h3 : decide ((r : Int) < 65) = false := by simp; omega
  have h4 : decide (90 < (r : Int)) = true := by simp; omega
  have h5 : decide ((r : Int) < 97) = true := by simp; omega
  have h6 : decide (122 < (r : Int)) = false := by simp; omega
  clear h
  go_enter Tryz.func66, Tryz.ntmps66
  go_wp2
  go_ret
  exact ⟨rfl, rfl⟩
theorem sep_5 (r : Nat) (h : r = 95) (W : World) : Calls Tryz.prog 66 #[.int .i32 (r : Int)] W fun e w' => e = .returned (.bool false) ∧ W = w' := by
  have h0 : ((r : Int) != 95) = false := by simp; omega
  have h1 : decide ((r : Int) < 48) = false := by simp; omega
  have h2 : decide (57 < (r : Int)) = true := by simp; omega
  have h3 : decide ((r : Int) < 65) = false := by simp; omega
  have h4 : decide (90 < (r : Int)) = true := by simp; omega
  have h5 : decide ((r : Int) < 97) = true := by simp; omega
  have h6 : decide (122 < (r : Int)) = false := by simp; omega
  clear h
  go_enter Tryz.func66, Tryz.ntmps66
  go_wp2
  go_ret
  exact ⟨rfl, rfl⟩
theorem sep_6 (r : Nat) (h : r = 96) (W : World) : Calls Tryz.prog 66 #[.int .i32 (r : Int)] W fun e w' => e = .returned (.bool true) ∧ W = w' := by
  have h0 : ((r : Int) != 95) = true := by simp; omega
  have h1 : decide ((r : Int) < 48) = false := by simp; omega
  have h2 : decide (57 < (r : Int)) = true := by simp; omega
  have h3 : decide ((r : Int) < 65) = false := by simp; omega
  have h4 : decide (90 < (r : Int)) = true := by simp; omega
  have h5 : decide ((r : Int) < 97) = true := by simp; omega
  have h6 : decide (122 < (r : Int)) = false := by simp; omega
  clear h
  go_enter Tryz.func66, Tryz.ntmps66
  go_wp2
  go_ret
  exact ⟨rfl, rfl⟩
theorem sep_7 (r : Nat) (h : 97 ≤ r ∧ r ≤ 122) (W : World) : Calls Tryz.prog 66 #[.int .i32 (r : Int)] W fun e w' => e = .returned (.bool false) ∧ W = w' := by
  have h0 : ((r : Int) != 95) = true := by simp; omega
  have h1 : decide ((r : Int) < 48) = false := by simp; omega
  have h2 : decide (57 < (r : Int)) = true := by simp; omega
  have h3 : decide ((r : Int) < 65) = false := by simp; omega
  have h4 : decide (90 < (r : Int)) = true := by simp; omega
  have h5 : decide ((r : Int) < 97) = false := by simp; omega
  have h6 : decide (122 < (r : Int)) = false := by simp; omega
  clear h
  go_enter Tryz.func66, Tryz.ntmps66
  go_wp2
  go_ret
  exact ⟨rfl, rfl⟩
theorem sep_8 (r : Nat) (h : 123 ≤ r) (W : World) : Calls Tryz.prog 66 #[.int .i32 (r : Int)] W fun e w' => e = .returned (.bool true) ∧ W = w' := by
  have h0 : ((r : Int) != 95) = true := by simp; omega
  have h1 : decide ((r : Int) < 48) = false := by simp; omega
  have h2 : decide (57 < (r : Int)) = true := by simp; omega
  have h3 : decide ((r : Int) < 65) = false := by simp; omega
  have h4 : decide (90 < (r : Int)) = true := by simp; omega
  have h5 : decide ((r : Int) < 97) = false := by simp; omega
  have h6 : decide (122 < (r : Int)) = true := by simp; omega
  clear h
  go_enter Tryz.func66, Tryz.ntmps66
  go_wp2
  go_ret
  exact ⟨rfl, rfl⟩
theorem sep_calls (r : Nat) (W : World) : Calls Tryz.prog 66 #[.int .i32 (r : Int)] W fun e w' => e = .returned (.bool (sepR r)) ∧ W = w' := by
  by_cases h0 : r < 48
  · rw [show sepR r = true by unfold sepR isWord isLetter isDigit; simp; omega]
    exact sep_0 r h0 W
  by_cases h1 : 48 ≤ r ∧ r ≤ 57
  · rw [show sepR r = false by unfold sepR isWord isLetter isDigit; simp; omega]
    exact sep_1 r h1 W
  by_cases h2 : 58 ≤ r ∧ r ≤ 64
  · rw [show sepR r = true by unfold sepR isWord isLetter isDigit; simp; omega]
    exact sep_2 r h2 W
  by_cases h3 : 65 ≤ r ∧ r ≤ 90
  · rw [show sepR r = false by unfold sepR isWord isLetter isDigit; simp; omega]
    exact sep_3 r h3 W
  by_cases h4 : 91 ≤ r ∧ r ≤ 94
  · rw [show sepR r = true by unfold sepR isWord isLetter isDigit; simp; omega]
    exact sep_4 r h4 W
  by_cases h5 : r = 95
  · rw [show sepR r = false by unfold sepR isWord isLetter isDigit; simp; omega]
    exact sep_5 r h5 W
  by_cases h6 : r = 96
  · rw [show sepR r = true by unfold sepR isWord isLetter isDigit; simp; omega]
    exact sep_6 r h6 W
  by_cases h7 : 97 ≤ r ∧ r ≤ 122
  · rw [show sepR r = false by unfold sepR isWord isLetter isDigit; simp; omega]
    exact sep_7 r h7 W
  by_cases h8 : 123 ≤ r
  · rw [show sepR r = true by unfold sepR isWord isLetter isDigit; simp; omega]
    exact sep_8 r h8 W
  omega
theorem sep_at (w : World) : PredAtRunes Tryz.prog 66 #[] sepR w := by
  intro W r hr hb
  have c := sep_calls r W
  have c2 : Calls Tryz.prog 66 #[.int .i32 (r : Int)] W fun e w' => e = .returned (.bool (sepR r)) ∧ ∃ q, w' = W.drewN q := c.mono fun e w' h => ⟨h.1, 0, h.2.symm⟩
  unfold FnGives
  rw [show #[encR r] ++ #[] = #[Value.int .i32 (r : Int)] from rfl]
  exact c2
end Go.Proofs.YtfdhkchglacccaaGreatDoor
