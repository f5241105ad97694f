/- Plain laws of texts: what is read is the encoding of what was given; the encoding is read back, whatever follows; a proper beginning is too short. -/
import Derived.Test.YtoljigllnhenoaaPlain3
import Derived.Test.YtoljigllnhenoaaLaws6
import Derived.Test.YtoljigllnhenoaaPutTexts
namespace Go.Proofs.Ytoljigllnhenoaa
open Go.RowKit
theorem takeZ_back (l : List UInt8) : ∀ {i z z' k : Nat}, takeZ i z l = .ok (z', k) → ∃ m, z' = z + m * 2 ^ (7 * i) ∧ encN m = l.take (k - i) ∧ (0 < i → 0 < m) ∧ i < k := by
  induction l with
  | nil => intro i z z' k h; cases h
  | cons c l ih =>
    intro i z z' k h
    have hc := byte_lt c
    rw [takeZ] at h
    split at h
    · cases h
    · split at h
      · rename_i hbig
        obtain ⟨m, h1, h2, h3, h4⟩ := ih h
        have hm := h3 (by omega)
        have hk : k - i = (k - (i + 1)) + 1 := by omega
        refine ⟨c.toNat % 128 + 128 * m, ?_, ?_, fun _ => by omega, by omega⟩
        · rw [h1, show 7 * (i + 1) = 7 + 7 * i from by omega, Nat.pow_add, Nat.add_mul, Nat.mul_comm 128 m, Nat.mul_assoc, Nat.add_assoc]
        · rw [encN_large (by omega), show (c.toNat % 128 + 128 * m) / 128 = m by omega, show (c.toNat % 128 + 128 * m) % 128 + 128 = c.toNat by omega, h2, hk, List.take_succ_cons, UInt8.ofNat_toNat]
      · split at h
        · cases h
        · rename_i hsm h0
          simp only [Except.ok.injEq, Prod.mk.injEq] at h
          refine ⟨c.toNat, by rw [← h.1, Nat.mod_eq_of_lt (by omega)], ?_, fun hi => ?_, by omega⟩
          · rw [encN_small (by omega), ← h.2, show i + 1 - i = 1 by omega, UInt8.ofNat_toNat]; rfl
          · refine Nat.pos_of_ne_zero fun hz => h0 ⟨UInt8.toNat_inj.1 hz, hi⟩
theorem takeZ_unique {l : List UInt8} {z k : Nat} (h : takeZ 0 0 l = .ok (z, k)) : encN z = l.take k := by
  obtain ⟨m, h1, h2, _, _⟩ := takeZ_back l h
  rw [Nat.mul_zero, Nat.pow_zero, Nat.mul_one, Nat.zero_add] at h1
  rw [h1]; exact h2
theorem zig_unzig (z : Nat) : zig (unzig z) = z := by
  unfold unzig zig
  split <;> split <;> omega
theorem takeLen_unique {l : List UInt8} {n k : Nat} (h : takeLen l = .ok (n, k)) : encN (zig n) = l.take k := by
  unfold takeLen at h
  split at h
  · rename_i z k' hz
    split at h
    · cases h
    · simp only [Except.ok.injEq, Prod.mk.injEq] at h
      rw [← takeZ_unique (h.2 ▸ hz), zig_nat]
      congr 1
      omega
  · cases h
theorem takeText_unique {l t : List UInt8} {k : Nat} (h : takeText l = .ok (t, k)) : encText t = l.take k := by
  unfold takeText at h
  split at h
  · rename_i n k' hz
    have hle := takeLen_le hz
    split at h
    · cases h
    · simp only [Except.ok.injEq, Prod.mk.injEq] at h
      have htl : t.length = n := by rw [← h.1, List.length_take, List.length_drop]; omega
      unfold encText
      rw [htl, takeLen_unique hz, ← h.1, ← h.2, List.take_add]
  · cases h
theorem encMany_cons (t : List UInt8) (d : List (List UInt8)) : encMany (t :: d) = encText t ++ encMany d := rfl
theorem takeMany_unique (n : Nat) : ∀ {l : List UInt8} {ts : List (List UInt8)} {k : Nat}, takeMany n l = .ok (ts, k) → encMany ts = l.take k := by
  induction n with
  | zero => intro l ts k h; simp only [takeMany, Except.ok.injEq, Prod.mk.injEq] at h; rw [← h.1, ← h.2]; rfl
  | succ n ih =>
    intro l ts k h
    rw [takeMany] at h
    split at h
    · cases h
    · rename_i t k1 hz
      split at h
      · cases h
      · rename_i ts' j hm
        simp only [Except.ok.injEq, Prod.mk.injEq] at h
        rw [← h.1, ← h.2, encMany_cons, takeText_unique hz, ih hm, List.take_add]
theorem takeTexts_unique {l : List UInt8} {ts : List (List UInt8)} {k : Nat} (h : takeTexts l = .ok (ts, k)) : encTexts ts = l.take k := by
  unfold takeTexts at h
  split at h
  · cases h
  · rename_i n k1 hz
    split at h
    · cases h
    · cases hm : takeMany n (l.drop k1) with
      | error e => rw [hm] at h; cases h
      | ok r =>
        obtain ⟨ts', j⟩ := r
        rw [hm] at h
        simp only [onto, List.nil_append, Except.ok.injEq, Prod.mk.injEq] at h
        have h2 := (takeMany_length n hm).1
        unfold encTexts
        rw [← h.1, ← h.2, h2, takeLen_unique hz, takeMany_unique n hm, List.take_add]

theorem takeText_enc (t r : List UInt8) (ht : t.length ≤ 1000000) : takeText (encText t ++ r) = .ok (t, (encText t).length) := by
  unfold takeText encText
  rw [List.append_assoc, takeLen_enc t.length (by omega)]
  simp only
  rw [if_neg (by simp only [List.length_append]; omega), List.drop_left, List.take_left, List.length_append]
theorem takeText_short (t : List UInt8) (ht : t.length ≤ 1000000) {j : Nat} (hj : j < (encText t).length) : takeText ((encText t).take j) = .error 28 := by
  unfold takeText
  unfold encText at hj ⊢
  rw [List.length_append] at hj
  by_cases h : j < (encN (zig t.length)).length
  · rw [List.take_append_of_le_length (by omega), takeLen_short _ (by omega) h]
  · have hTL : ((encN (zig t.length) ++ t).take j).length = j := by rw [List.length_take, List.length_append]; omega
    rw [List.take_append, List.take_of_length_le (by omega)] at hTL ⊢
    rw [takeLen_enc _ (by omega)]
    simp only
    rw [if_pos (by rw [hTL]; omega)]
theorem takeMany_enc (d : List (List UInt8)) : ∀ (r : List UInt8), (∀ t ∈ d, t.length ≤ 1000000) → takeMany d.length (encMany d ++ r) = .ok (d, (encMany d).length) := by
  induction d with
  | nil => intro r _; rfl
  | cons t d ih =>
    intro r h
    rw [List.length_cons, encMany_cons, List.append_assoc, takeMany, takeText_enc t _ (h t (by simp))]
    simp only
    rw [List.drop_left, ih r (fun s hs => h s (by simp [hs]))]
    simp only [List.length_append]
theorem takeMany_short (d : List (List UInt8)) : ∀ (j : Nat), (∀ t ∈ d, t.length ≤ 1000000) → j < (encMany d).length → takeMany d.length ((encMany d).take j) = .error 28 := by
  induction d with
  | nil => intro j _ hj; cases hj
  | cons t d ih =>
    intro j h hj
    rw [encMany_cons] at hj ⊢
    rw [List.length_append] at hj
    have ht := h t (by simp)
    rw [List.length_cons, takeMany]
    by_cases hs : j < (encText t).length
    · rw [List.take_append_of_le_length (by omega), takeText_short t ht hs]
    · rw [List.take_append, List.take_of_length_le (by omega), takeText_enc t _ ht]
      simp only
      rw [List.drop_left, ih (j - (encText t).length) (fun s hs => h s (by simp [hs])) (by omega)]
theorem encMany_ge (d : List (List UInt8)) : d.length ≤ (encMany d).length := by
  induction d with
  | nil => simp [encMany]
  | cons t d ih =>
    rw [encMany_cons, List.length_append, List.length_cons]
    have := encN_pos (zig t.length)
    unfold encText
    rw [List.length_append]
    omega
theorem takeTexts_enc (d : List (List UInt8)) (r : List UInt8) (hd : d.length ≤ 1000000) (h : ∀ t ∈ d, t.length ≤ 1000000) : takeTexts (encTexts d ++ r) = .ok (d, (encTexts d).length) := by
  have hg := encMany_ge d
  unfold takeTexts encTexts
  rw [List.append_assoc, takeLen_enc d.length (by omega)]
  simp only
  rw [if_neg (by simp only [List.length_append]; omega), List.drop_left, takeMany_enc d r h]
  simp [onto]
theorem takeTexts_short (d : List (List UInt8)) (hd : d.length ≤ 1000000) (h : ∀ t ∈ d, t.length ≤ 1000000) {j : Nat} (hj : j < (encTexts d).length) : takeTexts ((encTexts d).take j) = .error 28 := by
  unfold takeTexts
  unfold encTexts at hj ⊢
  rw [List.length_append] at hj
  by_cases hs : j < (encN (zig d.length)).length
  · rw [List.take_append_of_le_length (by omega), takeLen_short _ (by omega) hs]
  · rw [List.take_append, List.take_of_length_le (by omega), takeLen_enc _ (by omega)]
    simp only
    split
    · rfl
    · rw [List.drop_left, takeMany_short d _ h (by omega)]
      rfl
end Go.Proofs.Ytoljigllnhenoaa
