/- Sum of the codec and of the reference: both compute crc; one changed byte changes it. -/
import Derived.Test.YtoljigllnhenoaaSame
namespace Go.Proofs.Ytoljigllnhenoaa
open Go.RowKit
/-- one bit of the register -/
def crcBit (r : Nat) : Nat := if r % 2 = 1 then (r / 2) ^^^ 2197175160 else r / 2
def crcBits : Nat → Nat → Nat
  | 0, r => r
  | k + 1, r => crcBits k (crcBit r)
def crcByte (r : Nat) (c : UInt8) : Nat := crcBits 8 (r ^^^ c.toNat)
def crcReg (l : List UInt8) : Nat := l.foldl crcByte 4294967295
def crc (l : List UInt8) : Nat := 4294967295 - crcReg l

theorem crcBit_lt {r : Nat} (h : r < 4294967296) : crcBit r < 4294967296 := by
  unfold crcBit; split
  · exact Nat.xor_lt_two_pow (n := 32) (by omega) (by omega)
  · omega
theorem crcBits_succ (k r : Nat) : crcBits (k + 1) r = crcBit (crcBits k r) := by
  induction k generalizing r with
  | zero => rfl
  | succ k ih => rw [crcBits, ih, crcBits]
theorem crcBits_lt (k : Nat) {r : Nat} (h : r < 4294967296) : crcBits k r < 4294967296 := by
  induction k generalizing r with
  | zero => exact h
  | succ k ih => exact ih (crcBit_lt h)
theorem byte_lt (c : UInt8) : c.toNat < 256 := c.toNat_lt
theorem crcByte_lt {r : Nat} (c : UInt8) (h : r < 4294967296) : crcByte r c < 4294967296 :=
  crcBits_lt 8 (Nat.xor_lt_two_pow (n := 32) h (by have := byte_lt c; omega))
theorem crcFold_lt (l : List UInt8) : ∀ r, r < 4294967296 → l.foldl crcByte r < 4294967296 := by
  induction l with
  | nil => intro r h; exact h
  | cons c l ih => intro r h; exact ih _ (crcByte_lt c h)
theorem crcReg_lt (l : List UInt8) : crcReg l < 4294967296 := crcFold_lt l _ (by omega)

theorem xor_cancel {a b c : Nat} (h : a ^^^ c = b ^^^ c) : a = b := by
  have := congrArg (· ^^^ c) h
  simpa [Nat.xor_assoc] using this

theorem xor_poly_ge {a : Nat} (h : a < 2147483648) : 2147483648 ≤ a ^^^ 2197175160 := by
  have ht : (a ^^^ 2197175160).testBit 31 = true := by
    rw [Nat.testBit_xor, Nat.testBit_lt_two_pow (by omega)]; rfl
  exact Nat.ge_two_pow_of_testBit ht

theorem crcBit_inj {a b : Nat} (ha : a < 4294967296) (hb : b < 4294967296) (h : crcBit a = crcBit b) : a = b := by
  unfold crcBit at h
  split at h <;> split at h
  · have := xor_cancel h; omega
  · have := xor_poly_ge (a := a / 2) (by omega); omega
  · have := xor_poly_ge (a := b / 2) (by omega); omega
  · omega
theorem crcBits_inj (k : Nat) : ∀ {a b : Nat}, a < 4294967296 → b < 4294967296 → crcBits k a = crcBits k b → a = b := by
  induction k with
  | zero => intro a b _ _ h; exact h
  | succ k ih => intro a b ha hb h; exact crcBit_inj ha hb (ih (crcBit_lt ha) (crcBit_lt hb) h)
theorem crcFold_inj (l : List UInt8) : ∀ {a b : Nat}, a < 4294967296 → b < 4294967296 → l.foldl crcByte a = l.foldl crcByte b → a = b := by
  induction l with
  | nil => intro a b _ _ h; exact h
  | cons c l ih =>
    intro a b ha hb h
    have h1 := ih (crcByte_lt c ha) (crcByte_lt c hb) h
    have h2 := crcBits_inj 8 (Nat.xor_lt_two_pow (n := 32) ha (by have := byte_lt c; omega)) (Nat.xor_lt_two_pow (n := 32) hb (by have := byte_lt c; omega)) h1
    exact xor_cancel h2
/-- changing one byte changes the checksum -/
theorem crc_changed (l r : List UInt8) {c d : UInt8} (h : c ≠ d) : crc (l ++ c :: r) ≠ crc (l ++ d :: r) := by
  intro he
  have h1 := crcReg_lt (l ++ c :: r)
  have h2 := crcReg_lt (l ++ d :: r)
  have h3 : crcReg (l ++ c :: r) = crcReg (l ++ d :: r) := by unfold crc at he; omega
  unfold crcReg at h3
  rw [List.foldl_append, List.foldl_append, List.foldl_cons, List.foldl_cons] at h3
  have hl := crcFold_lt l 4294967295 (by omega)
  have h4 := crcFold_inj r (crcByte_lt c hl) (crcByte_lt d hl) h3
  have h5 := crcBits_inj 8 (Nat.xor_lt_two_pow (n := 32) hl (by have := byte_lt c; omega)) (Nat.xor_lt_two_pow (n := 32) hl (by have := byte_lt d; omega)) h4
  rw [Nat.xor_comm _ c.toNat, Nat.xor_comm _ d.toNat] at h5
  exact h (UInt8.toNat_inj.1 (xor_cancel h5))

theorem reads_byte {w : World} {B : Nat} {A : Option Addr} {l : List UInt8} {k : Nat} (h : Reads w B 1 A l.length (bv l)) (hk : k < l.length) :
    ∃ b off, A = some ⟨b, off, none⟩ ∧ b < B ∧ w.cell? ⟨b, off + k, none⟩ = some (.int .u8 (l[k].toNat : Int)) := by
  obtain ⟨⟨b, off, sp⟩, u, rfl, hb, hx, hc⟩ := h.at_ hk
  have hsp : sp = none := by
    obtain ⟨ad, e, _, hc0⟩ := h.2 (by omega)
    injection e with e
    subst e
    have hp : 0 < (bv l).length := by rw [bv_length]; omega
    have h0 := hc0 0 ((bv l)[0]'hp) (List.getElem?_eq_getElem hp)
    simpa [Addr.add] using World.cell?_spot h0
  subst hsp
  refine ⟨b, off, rfl, hb, ?_⟩
  have hadd : (⟨b, off, none⟩ : Addr).add k = ⟨b, off + k, none⟩ := by unfold Addr.add; split <;> simp_all
  rw [← hadd, hc, ← hx]
  simp [bv, hk]

theorem take_snoc' {l : List UInt8} {k : Nat} (h : k < l.length) : l.take (k + 1) = l.take k ++ [l[k]] := by
  rw [List.take_succ_eq_append_getElem h]

theorem and_one (r : Nat) (h : r < 4294967296) : bits BinOp.and .u32 (r : Int) 1 = (r : Int) % 2 := by
  have h1 := u32_and_nat r 1 h (by omega)
  rw [Nat.and_one_is_mod] at h1
  rw [show ((1 : Int)) = ((1 : Nat) : Int) from rfl, h1]; omega
theorem xor_poly (r : Nat) (h : r < 4294967296) (h1 : r % 2 = 1) : bits BinOp.xor .u32 ((r : Int) / 2) 2197175160 = ((crcBit r : Nat) : Int) := by
  have h2 := u32_xor_nat (r / 2) 2197175160 (by omega) (by omega)
  unfold crcBit
  rw [if_pos h1, ← h2]
  rfl
theorem half_even (r : Nat) (h1 : r % 2 = 0) : (r : Int) / 2 = ((crcBit r : Nat) : Int) := by
  unfold crcBit
  rw [if_neg (by omega)]; omega
theorem xor_ones32 (a : Nat) (h : a < 4294967296) : 4294967295 ^^^ a = 4294967295 - a := by
  have h2 : (BitVec.allOnes 32 ^^^ BitVec.ofNat 32 a).toNat = 4294967295 ^^^ a := by
    rw [BitVec.toNat_xor, BitVec.toNat_ofNat, Nat.mod_eq_of_lt (by omega)]; rfl
  rw [← h2, BitVec.allOnes_xor, BitVec.toNat_not, BitVec.toNat_ofNat, Nat.mod_eq_of_lt (by omega)]
theorem crc_end (l : List UInt8) : wrap64 (bits BinOp.xor IntKind.u32 IntKind.u32.max ((crcReg l : Nat) : Int)) = ((crc l : Nat) : Int) := by
  have h := crcReg_lt l
  have h1 := u32_xor_nat 4294967295 (crcReg l) (by omega) h
  rw [show (IntKind.u32.max : Int) = ((4294967295 : Nat) : Int) from rfl, h1, xor_ones32 _ h]
  unfold crc
  exact IntWalk.wrap64_in _ ⟨by omega, by omega⟩
theorem crc_next {l : List UInt8} {k : Nat} (h : k < l.length) : crcBits 8 (crcReg (l.take k) ^^^ l[k].toNat) = crcReg (l.take (k + 1)) := by
  rw [take_snoc' h]
  unfold crcReg
  rw [List.foldl_append]
  rfl

theorem sum_any (A : Option Addr) (c : Nat) (l : List UInt8) (w : World) (h : Reads w w.heap.size 1 A l.length (bv l)) (hl : l.length ≤ 1000000000) :
    Calls Try.prog 16 #[.slice A l.length c] w fun e w' => e = .returned (.int .i64 (crc l)) ∧ w = w' := by
  go_enter Try.func16, Try.ntmps16
  go_wp2
  go_loop [3, 9] (fun r i => ∃ k : Nat, k ≤ l.length ∧ i = .int .i64 k ∧ r = .int .u32 (crcReg (l.take k))) (fun _ i => l.length - (intOf i).toNat)
  case atStart => exact ⟨0, Nat.zero_le _, rfl, rfl⟩
  case round =>
    obtain ⟨k, hk, rfl, rfl⟩ := hrel
    by_cases hlt : k < l.length
    · obtain ⟨b, off, rfl, hb, hcell⟩ := reads_byte h hlt
      have hr := crcReg_lt (l.take k)
      have hc := byte_lt l[k]
      have hx := u32_xor_nat (crcReg (l.take k)) l[k].toNat hr (by omega)
      have hr0 : crcReg (l.take k) ^^^ l[k].toNat < 4294967296 := Nat.xor_lt_two_pow (n := 32) hr (by omega)
      have hnext := crc_next hlt
      have HN := Lib.hid hnext
      clear hnext
      go_wp2
      clear hx
      go_loop [3, 17] (fun r i => ∃ j : Nat, j ≤ 8 ∧ i = .int .i64 j ∧ r = .int .u32 (crcBits j (crcReg (l.take k) ^^^ l[k].toNat))) (fun _ i => 8 - (intOf i).toNat)
      case atStart => exact ⟨0, Nat.zero_le _, rfl, rfl⟩
      case round =>
        obtain ⟨j, hj, rfl, rfl⟩ := hrel
        by_cases hj8 : j < 8
        · have hb1 := crcBits_lt j hr0
          have hand := and_one _ hb1
          have hsu := crcBits_succ j (crcReg (l.take k) ^^^ l[k].toNat)
          have HS := Lib.hid hsu
          clear hsu
          generalize crcBits j (crcReg (l.take k) ^^^ l[k].toNat) = r at *
          by_cases hp : r % 2 = 1
          · have hxp := xor_poly r hb1 hp
            have hT : ((r : Int) % 2 == 1) = true := by rw [beq_iff_eq]; omega
            go_wp2
            go_round
            case rel => exact ⟨j + 1, by omega, by go_num, by rw [HS.out]⟩
            case measure => simp [intOf]; omega
          · have hxp := half_even r (by omega)
            have hT : ((r : Int) % 2 == 1) = false := by rw [beq_eq_false_iff_ne]; omega
            go_wp2
            go_round
            case rel => exact ⟨j + 1, by omega, by go_num, by rw [HS.out]⟩
            case measure => simp [intOf]; omega
        · obtain rfl : j = 8 := by omega
          go_wp2
          go_round
          case rel => exact ⟨k + 1, by omega, by go_num, by rw [HN.out]⟩
          case measure => simp [intOf]; omega
    · go_wp2
      go_ret
      refine ⟨?_, rfl⟩
      rw [List.take_of_length_le (by omega)] at *
      exact congrArg (fun x => Ending.returned (.int .i64 x)) (crc_end l)
theorem crc_end' (l : List UInt8) : (4294967295 - ((crcReg l : Nat) : Int)) % 4294967296 = ((crc l : Nat) : Int) := by
  have h := crcReg_lt l
  unfold crc
  omega

theorem refsum_any (A : Option Addr) (c : Nat) (l : List UInt8) (w : World) (h : Reads w w.heap.size 1 A l.length (bv l)) (hl : l.length ≤ 1000000000) :
    Calls Try.prog 17 #[.slice A l.length c] w fun e w' => e = .returned (.int .i64 (crc l)) ∧ w = w' := by
  go_enter Try.func17, Try.ntmps17
  go_wp2
  go_loop [3, 4] (fun r i => ∃ k : Nat, k ≤ l.length ∧ i = .int .i64 k ∧ r = .int .u32 (crcReg (l.take k))) (fun _ i => l.length - (intOf i).toNat)
  case atStart => exact ⟨0, Nat.zero_le _, rfl, rfl⟩
  case round =>
    obtain ⟨k, hk, rfl, rfl⟩ := hrel
    by_cases hlt : k < l.length
    · obtain ⟨b, off, rfl, hb, hcell⟩ := reads_byte h hlt
      have hr := crcReg_lt (l.take k)
      have hc := byte_lt l[k]
      have hx := u32_xor_nat (crcReg (l.take k)) l[k].toNat hr (by omega)
      have hr0 : crcReg (l.take k) ^^^ l[k].toNat < 4294967296 := Nat.xor_lt_two_pow (n := 32) hr (by omega)
      have hnext := crc_next hlt
      have HN := Lib.hid hnext
      clear hnext
      go_wp2
      clear hx
      go_loop [3, 5] (fun r i => ∃ j : Nat, j ≤ 8 ∧ i = .int .i64 j ∧ r = .int .u32 (crcBits j (crcReg (l.take k) ^^^ l[k].toNat))) (fun _ i => 8 - (intOf i).toNat)
      case atStart => exact ⟨0, Nat.zero_le _, rfl, rfl⟩
      case round =>
        obtain ⟨j, hj, rfl, rfl⟩ := hrel
        by_cases hj8 : j < 8
        · have hb1 := crcBits_lt j hr0
          have hand := and_one _ hb1
          have hsu := crcBits_succ j (crcReg (l.take k) ^^^ l[k].toNat)
          have HS := Lib.hid hsu
          clear hsu
          generalize crcBits j (crcReg (l.take k) ^^^ l[k].toNat) = r at *
          by_cases hp : r % 2 = 1
          · have hxp := xor_poly r hb1 hp
            have hT : ((r : Int) % 2 == 1) = true := by rw [beq_iff_eq]; omega
            go_wp2
            go_round
            case rel => exact ⟨j + 1, by omega, by go_num, by rw [HS.out]⟩
            case measure => simp [intOf]; omega
          · have hxp := half_even r (by omega)
            have hT : ((r : Int) % 2 == 1) = false := by rw [beq_eq_false_iff_ne]; omega
            go_wp2
            go_round
            case rel => exact ⟨j + 1, by omega, by go_num, by rw [HS.out]⟩
            case measure => simp [intOf]; omega
        · obtain rfl : j = 8 := by omega
          go_wp2
          go_round
          case rel => exact ⟨k + 1, by omega, by go_num, by rw [HN.out]⟩
          case measure => simp [intOf]; omega
    · go_wp2
      go_ret
      refine ⟨?_, rfl⟩
      rw [List.take_of_length_le (by omega)] at *
      exact congrArg (fun x => Ending.returned (.int .i64 x)) (crc_end' l)
end Go.Proofs.Ytoljigllnhenoaa
