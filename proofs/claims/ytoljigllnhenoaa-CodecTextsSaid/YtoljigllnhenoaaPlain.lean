/- The codec in plain Lean: encodings of numbers, decoding, the checksum. No program here. -/
import Derived.Test.YtoljigllnhenoaaWords
import Derived.Laws.BitsAllLaws
import Derived.Laws.BitsLemmas
namespace Go.Proofs.Ytoljigllnhenoaa
open Go.RowKit

/-- groups of seven bits, the lowest first -/
def encN (m : Nat) : List UInt8 := if m < 128 then [UInt8.ofNat m] else UInt8.ofNat (m % 128 + 128) :: encN (m / 128)
termination_by m
decreasing_by omega

theorem encN_small {m : Nat} (h : m < 128) : encN m = [UInt8.ofNat m] := by rw [encN, if_pos h]
theorem encN_large {m : Nat} (h : ¬ m < 128) : encN m = UInt8.ofNat (m % 128 + 128) :: encN (m / 128) := by rw [encN, if_neg h]

/-- zigzag -/
def zig (n : Int) : Nat := if n < 0 then (-2 * n - 1).toNat else (2 * n).toNat

theorem encN_length_le (f : Nat) : ∀ m, m < 128 ^ (f + 1) → (encN m).length ≤ f + 1 := by
  induction f with
  | zero => intro m h; rw [encN_small (by simpa using h)]; simp
  | succ f ih =>
    intro m h
    by_cases hm : m < 128
    · rw [encN_small hm]; simp
    · rw [encN_large hm, List.length_cons]
      have := ih (m / 128) (by rw [Nat.div_lt_iff_lt_mul (by omega)]; rw [Nat.pow_succ] at h; exact h)
      omega

theorem encN_pos (m : Nat) : 0 < (encN m).length := by
  by_cases hm : m < 128
  · rw [encN_small hm]; simp
  · rw [encN_large hm]; simp

theorem or128 (a : Nat) (h : a < 256) : bits BinOp.or .u8 (a : Int) 128 = ((a % 128 + 128 : Nat) : Int) := by
  have : ∀ a : Fin 256, bits BinOp.or .u8 ((a : Nat) : Int) 128 = (((a : Nat) % 128 + 128 : Nat) : Int) := by decide +kernel
  exact this ⟨a, h⟩

theorem zig_lt (n : Int) (h1 : -9223372036854775808 ≤ n) (h2 : n ≤ 9223372036854775807) : zig n < 18446744073709551616 := by
  unfold zig; split <;> omega
end Go.Proofs.Ytoljigllnhenoaa
