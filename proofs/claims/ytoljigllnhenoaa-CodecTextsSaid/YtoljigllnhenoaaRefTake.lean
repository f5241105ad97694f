/- TakeInt of the reference. -/
import Derived.Test.YtoljigllnhenoaaTake
namespace Go.Proofs.Ytoljigllnhenoaa
open Go.RowKit
def RefNumPost (l : List UInt8) (w : World) (e : Ending) (w' : World) : Prop :=
  w = w' ∧ match takeZ 0 0 l with
  | .ok (z, k) => e = .returned (.tuple #[.int .i64 (unzig z), .int .i64 k, .int .i64 0])
  | .error er => e = .returned (.tuple #[.int .i64 0, .int .i64 0, .int .i64 er])
def RefNumRel (l : List UInt8) (z i : Value) : Prop :=
  ∃ (k m : Nat), i = .int .i64 k ∧ z = .int .u64 m ∧ k ≤ 9 ∧ m < 2 ^ (7 * k) ∧ k ≤ l.length ∧ Hid (takeZ 0 0 l = takeZ k m (l.drop k))
theorem refnum_error {w : World} {l : List UInt8} {k m : Nat} {er : Int} (HT : Hid (takeZ 0 0 l = takeZ k m (l.drop k))) (h : takeZ k m (l.drop k) = .error er) : RefNumPost l w (.returned (.tuple #[.int .i64 0, .int .i64 0, .int .i64 er])) w := by
  refine ⟨rfl, ?_⟩
  rw [HT.out, h]

theorem wrap_u64_in (x : Nat) (h : x < 18446744073709551616) : IntKind.u64.wrap (x : Int) = (x : Int) := by
  simp [IntKind.wrap, IntKind.signed, IntKind.bits]; omega
theorem add_shift {m x k : Nat} (hx : x * 2 ^ (7 * k) < 18446744073709551616) (h : m + x * 2 ^ (7 * k) < 18446744073709551616) :
    IntKind.u64.wrap ((m : Int) + IntKind.u64.wrap ((x : Int) * 2 ^ (7 * k))) = ((m + x * 2 ^ (7 * k) : Nat) : Int) := by
  rw [show (x : Int) * 2 ^ (7 * k) = ((x * 2 ^ (7 * k) : Nat) : Int) from by rw [Int.natCast_mul, Int.natCast_pow]; rfl]
  rw [wrap_u64_in _ hx, ← Int.natCast_add, wrap_u64_in _ h]
theorem refnum_more {l : List UInt8} {k m : Nat} (hk : k < 9) (hm : m < 2 ^ (7 * k)) (hlt : k < l.length) (HT : Hid (takeZ 0 0 l = takeZ k m (l.drop k))) (hc : 128 ≤ l[k].toNat) :
    RefNumRel l (Value.int IntKind.u64 (IntKind.u64.wrap ((m : Int) + IntKind.u64.wrap ((l[k].toNat : Int) % 128 * 2 ^ (7 * k))))) (Value.int IntKind.i64 ((k : Int) + 1)) := by
  obtain ⟨f1, f2, f3⟩ := fits9 (x := l[k].toNat % 128) (by omega) hm (by omega) (fun h => by omega)
  have e := add_shift f1 f3
  rw [Int.natCast_emod, show ((128 : Nat) : Int) = (128 : Int) from rfl] at e
  refine ⟨k + 1, m + l[k].toNat % 128 * 2 ^ (7 * k), rfl, congrArg (Value.int .u64) e, by omega, shifted_lt hm (by omega), by omega, ?_⟩
  show _ = _
  rw [HT.out, drop_at hlt, takeZ, if_neg (by omega), if_pos hc]
theorem refnum_ok {w : World} {l : List UInt8} {k m : Nat} (_hk : k ≤ 9) (hlt : k < l.length) (HT : Hid (takeZ 0 0 l = takeZ k m (l.drop k)))
    (hc : ¬ 128 ≤ l[k].toNat) (h9 : k = 9 → l[k].toNat = 1) (h0 : ¬ (l[k].toNat = 0 ∧ 0 < k)) {x : Int} (hx : x = unzig (m + l[k].toNat % 128 * 2 ^ (7 * k))) :
    RefNumPost l w (.returned (.tuple #[.int .i64 x, .int .i64 ((k : Int) + 1), .int .i64 0])) w := by
  refine ⟨rfl, ?_⟩
  rw [HT.out, drop_at hlt, takeZ, if_neg (by rintro ⟨h1, h2⟩; exact h2 (UInt8.toNat_inj.1 (h9 h1))), if_neg hc, if_neg (by rintro ⟨h1, h2⟩; exact h0 ⟨by rw [h1]; rfl, h2⟩), hx]
  rfl
theorem refnum_odd {k m y : Nat} (hk : k ≤ 9) (hm : m < 2 ^ (7 * k)) (h9 : k = 9 → y = 1) (hp : ((IntKind.u64.wrap ((m : Int) + IntKind.u64.wrap ((y : Int) % 128 * 2 ^ (7 * k)))).tmod 2 == 1) = true) :
    wrap64 (wrap64 (-wrap64 (IntKind.u64.wrap ((IntKind.u64.wrap ((m : Int) + IntKind.u64.wrap ((y : Int) % 128 * 2 ^ (7 * k)))).tdiv 2))) - 1) = unzig (m + y % 128 * 2 ^ (7 * k)) := by
  obtain ⟨f1, f2, f3⟩ := fits9 (x := y % 128) hk hm (by omega) (fun h => by rw [h9 h]; omega)
  have e := add_shift f1 f3
  rw [Int.natCast_emod, show ((128 : Nat) : Int) = (128 : Int) from rfl] at e
  rw [e] at hp ⊢
  generalize m + y % 128 * 2 ^ (7 * k) = z at *
  rw [beq_iff_eq, Int.tmod_eq_emod_of_nonneg (by omega)] at hp
  rw [Int.tdiv_eq_ediv_of_nonneg (by omega)]
  have e2 : (z : Int) / 2 = ((z / 2 : Nat) : Int) := by omega
  rw [e2, wrap_u64_in _ (by omega)]
  unfold unzig
  rw [if_pos (by omega), IntWalk.wrap64_in ((z / 2 : Nat) : Int) ⟨by omega, by omega⟩, IntWalk.wrap64_in (-((z / 2 : Nat) : Int)) ⟨by omega, by omega⟩, IntWalk.wrap64_in _ ⟨by omega, by omega⟩]
theorem refnum_even {k m y : Nat} (hk : k ≤ 9) (hm : m < 2 ^ (7 * k)) (h9 : k = 9 → y = 1) (hp : ((IntKind.u64.wrap ((m : Int) + IntKind.u64.wrap ((y : Int) % 128 * 2 ^ (7 * k)))).tmod 2 == 1) = false) :
    wrap64 (IntKind.u64.wrap ((IntKind.u64.wrap ((m : Int) + IntKind.u64.wrap ((y : Int) % 128 * 2 ^ (7 * k)))).tdiv 2)) = unzig (m + y % 128 * 2 ^ (7 * k)) := by
  obtain ⟨f1, f2, f3⟩ := fits9 (x := y % 128) hk hm (by omega) (fun h => by rw [h9 h]; omega)
  have e := add_shift f1 f3
  rw [Int.natCast_emod, show ((128 : Nat) : Int) = (128 : Int) from rfl] at e
  rw [e] at hp ⊢
  generalize m + y % 128 * 2 ^ (7 * k) = z at *
  rw [beq_eq_false_iff_ne, Int.tmod_eq_emod_of_nonneg (by omega)] at hp
  rw [Int.tdiv_eq_ediv_of_nonneg (by omega)]
  have e2 : (z : Int) / 2 = ((z / 2 : Nat) : Int) := by omega
  rw [e2, wrap_u64_in _ (by omega)]
  unfold unzig
  rw [if_neg (by omega), IntWalk.wrap64_in ((z / 2 : Nat) : Int) ⟨by omega, by omega⟩]

set_option maxRecDepth 100000 in
set_option maxHeartbeats 2000000 in
theorem refTake_any (A : Option Addr) (c : Nat) (l : List UInt8) (w : World) (h : Reads w w.heap.size 1 A l.length (bv l)) (hl : l.length ≤ 1000000000) :
    Calls Try.prog 18 #[.slice A l.length c] w (RefNumPost l w) := by
  go_enter Try.func18, Try.ntmps18
  go_wp2
  go_loop [5, 6] (fun z i => RefNumRel l z i) (fun _ i => 10 - (intOf i).toNat)
  case atStart => exact ⟨0, 0, rfl, rfl, by omega, by simp, by omega, rfl⟩
  case round =>
    obtain ⟨k, m, rfl, rfl, hk, hm, hle, HT⟩ := hrel
    by_cases hlt : k < l.length
    · obtain ⟨b, off, rfl, hb, hcell⟩ := reads_byte h hlt
      have hcx := byte_lt l[k]
      have hp0 : (0 : Int) ≤ (k : Int) := by omega
      have hp1 : (k : Int) < (l.length : Int) := by omega
      by_cases hk9 : k = 9
      · have hkb : ((k : Int) == 9) = true := by rw [beq_iff_eq]; omega
        have hk0 : 0 < k := by omega
        have HK := Lib.hid hk9
        clear hk9
        by_cases hc1 : l[k].toNat = 1
        · have hcb : ((l[k].toNat : Int) != 1) = false := by rw [hc1]; rfl
          have hz2 : ((l[k].toNat : Int) == 0) = false := by rw [beq_eq_false_iff_ne]; omega
          have hc : ¬ 128 ≤ l[k].toNat := by omega
          have HC1 := Lib.hid hc1
          clear hc1
          go_wp2
          · have hp : ((IntKind.u64.wrap ((m : Int) + IntKind.u64.wrap ((l[k].toNat : Int) % 128 * 2 ^ (7 * k)))).tmod 2 == 1) = true := by assumption
            go_ret3
            exact refnum_ok hk hlt HT hc (fun _ => HC1.out) (fun h => by have := HC1.out; omega) (refnum_odd hk hm (fun _ => HC1.out) hp)
          · have hp : ((IntKind.u64.wrap ((m : Int) + IntKind.u64.wrap ((l[k].toNat : Int) % 128 * 2 ^ (7 * k)))).tmod 2 == 1) = false := by assumption
            go_ret3
            exact refnum_ok hk hlt HT hc (fun _ => HC1.out) (fun h => by have := HC1.out; omega) (refnum_even hk hm (fun _ => HC1.out) hp)
        · have hcb : ((l[k].toNat : Int) != 1) = true := by rw [bne_iff_ne]; omega
          go_wp2
          go_ret3
          exact refnum_error HT (by rw [drop_at hlt, takeZ, if_pos ⟨HK.out, fun h => hc1 (by rw [h]; rfl)⟩])
      · have hkb : ((k : Int) == 9) = false := by rw [beq_eq_false_iff_ne]; omega
        by_cases hk0 : 0 < k
        · by_cases hc0 : l[k].toNat = 0
          · have hz : ((l[k].toNat : Int) == 0) = true := by rw [beq_iff_eq]; omega
            have HC := Lib.hid hc0
            clear hc0
            go_wp2
            go_ret3
            exact refnum_error HT (by rw [drop_at hlt, takeZ, if_neg (by omega), if_neg (by have := HC.out; omega), if_pos ⟨UInt8.toNat_inj.1 HC.out, hk0⟩])
          · have hz : ((l[k].toNat : Int) == 0) = false := by rw [beq_eq_false_iff_ne]; omega
            by_cases hc : 128 ≤ l[k].toNat
            · go_wp2
              go_round
              case rel => exact refnum_more (by omega) hm hlt HT hc
              case measure => simp [intOf]; omega
            · go_wp2
              · have hp : ((IntKind.u64.wrap ((m : Int) + IntKind.u64.wrap ((l[k].toNat : Int) % 128 * 2 ^ (7 * k)))).tmod 2 == 1) = true := by assumption
                go_ret3
                exact refnum_ok hk hlt HT hc (fun h => absurd h hk9) (fun h => hc0 h.1) (refnum_odd hk hm (fun h => absurd h hk9) hp)
              · have hp : ((IntKind.u64.wrap ((m : Int) + IntKind.u64.wrap ((l[k].toNat : Int) % 128 * 2 ^ (7 * k)))).tmod 2 == 1) = false := by assumption
                go_ret3
                exact refnum_ok hk hlt HT hc (fun h => absurd h hk9) (fun h => hc0 h.1) (refnum_even hk hm (fun h => absurd h hk9) hp)
        · by_cases hc : 128 ≤ l[k].toNat
          · go_wp2
            go_round
            case rel => exact refnum_more (by omega) hm hlt HT hc
            case measure => simp [intOf]; omega
          · go_wp2
            · have hp : ((IntKind.u64.wrap ((m : Int) + IntKind.u64.wrap ((l[k].toNat : Int) % 128 * 2 ^ (7 * k)))).tmod 2 == 1) = true := by assumption
              go_ret3
              exact refnum_ok hk hlt HT hc (fun h => absurd h hk9) (fun h => hk0 h.2) (refnum_odd hk hm (fun h => absurd h hk9) hp)
            · have hp : ((IntKind.u64.wrap ((m : Int) + IntKind.u64.wrap ((l[k].toNat : Int) % 128 * 2 ^ (7 * k)))).tmod 2 == 1) = false := by assumption
              go_ret3
              exact refnum_ok hk hlt HT hc (fun h => absurd h hk9) (fun h => hk0 h.2) (refnum_even hk hm (fun h => absurd h hk9) hp)
    · go_wp2
      go_ret3
      exact refnum_error HT (by rw [List.drop_of_length_le (by omega)]; rfl)
end Go.Proofs.Ytoljigllnhenoaa
