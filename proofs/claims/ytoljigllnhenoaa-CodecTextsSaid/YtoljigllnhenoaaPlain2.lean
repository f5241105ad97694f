/- Plain laws of the encoding: decoding gives the number back, whatever follows; a proper beginning is too short. -/
import Derived.Test.YtoljigllnhenoaaText
namespace Go.Proofs.Ytoljigllnhenoaa
open Go.RowKit
theorem toNat_of_small {m : Nat} (h : m < 256) : (UInt8.ofNat m).toNat = m := by rw [UInt8.toNat_ofNat']; omega
theorem small_shift {m i : Nat} (h : m * 2 ^ (7 * i) < 18446744073709551616) (hi : i = 9) : m < 2 := by
  subst hi
  simp only [Nat.reduceMul, Nat.reducePow] at h
  omega
theorem takeZ_enc (m : Nat) : ∀ (i z : Nat) (r : List UInt8), i ≤ 9 → m * 2 ^ (7 * i) < 18446744073709551616 → (0 < i → 0 < m) → takeZ i z (encN m ++ r) = .ok (z + m * 2 ^ (7 * i), i + (encN m).length) := by
  induction m using Nat.strongRecOn with
  | ind m ih =>
    intro i z r hi hm h0
    by_cases hs : m < 128
    · rw [encN_small hs, List.singleton_append, takeZ, if_neg, if_neg, if_neg]
      · rw [toNat_of_small (by omega), Nat.mod_eq_of_lt hs]; rfl
      · rintro ⟨h1, h2⟩
        have := congrArg UInt8.toNat h1
        rw [toNat_of_small (by omega)] at this
        have := h0 h2
        simp at *
        omega
      · rw [toNat_of_small (by omega)]; omega
      · rintro ⟨h1, h2⟩
        have h3 := small_shift hm h1
        have h4 := h0 (by omega)
        obtain rfl : m = 1 := by omega
        exact h2 rfl
    · have hi9 : i ≠ 9 := fun h => by have := small_shift hm h; omega
      have e1 : m * 2 ^ (7 * i) = m % 128 * 2 ^ (7 * i) + m / 128 * 2 ^ (7 * (i + 1)) := by
        rw [show 7 * (i + 1) = 7 + 7 * i from by omega, Nat.pow_add, ← Nat.mul_assoc, ← Nat.add_mul]
        congr 1
        omega
      rw [encN_large hs, List.cons_append, takeZ, if_neg (by omega), if_pos (by rw [toNat_of_small (by omega)]; omega), ih (m / 128) (by omega) (i + 1) _ r (by omega) (by omega) (fun _ => by omega), toNat_of_small (by omega)]
      rw [List.length_cons, e1, show (m % 128 + 128) % 128 = m % 128 from by omega]
      congr 2
      · omega
      · omega
theorem takeZ_short (m : Nat) : ∀ (i z j : Nat), j < (encN m).length → i ≤ 9 → m * 2 ^ (7 * i) < 18446744073709551616 → takeZ i z ((encN m).take j) = .error 28 := by
  induction m using Nat.strongRecOn with
  | ind m ih =>
    intro i z j hj hi hm
    by_cases hs : m < 128
    · rw [encN_small hs] at hj ⊢
      obtain rfl : j = 0 := by simpa using hj
      rfl
    · have hi9 : i ≠ 9 := fun h => by have := small_shift hm h; omega
      rw [encN_large hs] at hj ⊢
      cases j with
      | zero => rfl
      | succ j =>
        have e1 : m * 2 ^ (7 * i) = m % 128 * 2 ^ (7 * i) + m / 128 * 2 ^ (7 * (i + 1)) := by
          rw [show 7 * (i + 1) = 7 + 7 * i from by omega, Nat.pow_add, ← Nat.mul_assoc, ← Nat.add_mul]
          congr 1
          omega
        rw [List.take_succ_cons, takeZ, if_neg (by omega), if_pos (by rw [toNat_of_small (by omega)]; omega)]
        exact ih (m / 128) (by omega) _ _ _ (by simpa using hj) (by omega) (by omega)
theorem unzig_zig (n : Int) : unzig (zig n) = n := by
  unfold unzig zig
  split <;> split <;> omega
theorem takeZ_int (n : Int) (h1 : -9223372036854775808 ≤ n) (h2 : n ≤ 9223372036854775807) (r : List UInt8) : takeZ 0 0 (encN (zig n) ++ r) = .ok (zig n, (encN (zig n)).length) := by
  have := takeZ_enc (zig n) 0 0 r (by omega) (by have := zig_lt n h1 h2; simpa using this) (fun h => absurd h (by omega))
  simpa using this
theorem takeZ_int_short (n : Int) (h1 : -9223372036854775808 ≤ n) (h2 : n ≤ 9223372036854775807) {j : Nat} (hj : j < (encN (zig n)).length) : takeZ 0 0 ((encN (zig n)).take j) = .error 28 :=
  takeZ_short (zig n) 0 0 j hj (by omega) (by have := zig_lt n h1 h2; simpa using this)
end Go.Proofs.Ytoljigllnhenoaa
