/- Plain laws of frames. -/
import Derived.Test.YtoljigllnhenoaaOpen2
import Derived.Test.YtoljigllnhenoaaPlain2
namespace Go.Proofs.Ytoljigllnhenoaa
open Go.RowKit
theorem zig_nat (n : Nat) : zig n = 2 * n := by unfold zig; rw [if_neg (by omega)]; omega
theorem takeLen_enc (n : Nat) (hn : n ≤ 1000000000) (r : List UInt8) : takeLen (encN (zig n) ++ r) = .ok (n, (encN (zig n)).length) := by
  unfold takeLen
  rw [takeZ_int n (by omega) (by omega) r]
  simp only
  rw [zig_nat, if_neg (by omega)]
  congr 2
  omega
theorem takeLen_short (n : Nat) (hn : n ≤ 1000000000) {j : Nat} (hj : j < (encN (zig n)).length) : takeLen ((encN (zig n)).take j) = .error 28 := by
  unfold takeLen
  rw [takeZ_int_short n (by omega) (by omega) hj]
theorem beN_four {n : Nat} (h : n < 4294967296) : beN (four n) = n := by
  simp only [beN, four, List.foldl_cons, List.foldl_nil, UInt8.toNat_ofNat']
  omega
theorem sealed_length (k : Nat) (l : List UInt8) : (sealed k l).length = 1 + (encN (zig l.length)).length + l.length + 4 := by
  unfold sealed; rw [List.length_append, sealHead_length]; rfl
theorem sealed_eq (k : Nat) (l : List UInt8) : sealed k l = UInt8.ofNat k :: (encN (zig l.length) ++ (l ++ four (crc (sealHead k l)))) := by
  unfold sealed
  have : sealHead k l = UInt8.ofNat k :: (encN (zig l.length) ++ l) := rfl
  rw [this, List.cons_append, List.append_assoc]
theorem takeFrame_sealed (k : Nat) (hk : k ≤ 255) (l : List UInt8) (hl : l.length ≤ 1000000) (r : List UInt8) : takeFrame (sealed k l ++ r) = .ok (k, l, (sealed k l).length) := by
  have hlen := sealed_length k l
  have e0 : sealed k l ++ r = UInt8.ofNat k :: (encN (zig l.length) ++ (l ++ four (crc (sealHead k l)) ++ r)) := by
    rw [sealed_eq, List.cons_append, List.append_assoc]
  have hL : (sealed k l ++ r).length = 1 + (encN (zig l.length)).length + l.length + 4 + r.length := by rw [List.length_append, hlen]
  have eA : sealed k l ++ r = sealHead k l ++ (four (crc (sealHead k l)) ++ r) := by unfold sealed; rw [List.append_assoc]
  have hH := sealHead_length k l
  rw [e0]
  unfold takeFrame
  simp only
  rw [takeLen_enc l.length (by omega)]
  simp only
  rw [← e0, if_neg (by omega), if_neg]
  · rw [toNat_of_small (by omega), hlen]
    congr 2
    rw [e0, Nat.add_comm 1, List.drop_succ_cons, List.drop_left, List.append_assoc, List.take_left]
  · rw [eA, ← hH, List.drop_left, List.take_left]
    rw [show (four (crc (sealHead k l)) ++ r).take 4 = four (crc (sealHead k l)) from by
      rw [show 4 = (four (crc (sealHead k l))).length from rfl, List.take_left]]
    rw [beN_four (crc_lt _)]
    simp
theorem takeFrame_short (k : Nat) (l : List UInt8) (hl : l.length ≤ 1000000) {j : Nat} (hj : j < (sealed k l).length) : takeFrame ((sealed k l).take j) = .error 28 := by
  have hlen := sealed_length k l
  cases j with
  | zero => rfl
  | succ j =>
    have hTL : ((sealed k l).take (j + 1)).length = j + 1 := by rw [List.length_take]; omega
    rw [sealed_eq] at hTL ⊢
    rw [List.take_succ_cons] at hTL ⊢
    unfold takeFrame
    simp only
    by_cases h : j < (encN (zig l.length)).length
    · rw [List.take_append_of_le_length (by omega), takeLen_short _ (by omega) h]
    · rw [List.take_append, List.take_of_length_le (by omega), takeLen_enc _ (by omega)]
      simp only
      rw [List.take_append, List.take_of_length_le (by omega)] at hTL
      rw [if_pos (by rw [hTL]; omega)]
end Go.Proofs.Ytoljigllnhenoaa
