/- PutInt of the codec and of the reference: each returns the bytes of encN (zig n), in new memory. -/
import Derived.Test.YtoljigllnhenoaaPlain
import Derived.WalkKit
import Derived.WalkSpells
import Derived.WalkLawsBesides
import Derived.Outline
import Derived.OwnWalk
import Derived.Below
import Derived.LoopTactic
namespace Go.Proofs.Ytoljigllnhenoaa
open Go.RowKit
def U64 (m : Nat) : Prop := m < 18446744073709551616
/-- it returns bytes in new memory -/
def GivesBytes (w : World) (l : List UInt8) (e : Ending) (w' : World) : Prop :=
  ∃ v, e = .returned v ∧ w'.ownsRow w.heap.size 5 1 v l.length (bv l) ∧ Below w.heap.size w w'
def PutRel (n : Int) (w : World) (z v : Value) (wr : World) : Prop :=
  ∃ (m : Nat) (d : List UInt8), z = .int .u64 (m : Int) ∧ U64 m ∧ encN (zig n) = d ++ encN m ∧ wr.ownsRow w.heap.size 5 1 v d.length (bv d) ∧ Below w.heap.size w wr
theorem one_new (x : Int) : ∀ u ∈ [Value.int .u8 x], u.oneCell' = true := by simp [Value.oneCell']
theorem byte_info : (Try.prog.info? 5).map (fun i => (i.zero, i.size, i.bytes)) = some (some (.int .u8 0), 1, 1) := by kernel_rfl

theorem toNat_small {m : Nat} (h : m < 256) : ((UInt8.ofNat m).toNat : Int) = (m : Int) := by
  rw [UInt8.toNat_ofNat']; omega

theorem put_done {B m : Nat} {d l : List UInt8} {v' : Value} {w1 : World} (hm : m < 128) (HE : Hid (l = d ++ encN m))
    (h : w1.ownsRow B 5 1 v' (d.length + 1) (bv d ++ [Value.int IntKind.u8 (m : Int)])) : w1.ownsRow B 5 1 v' l.length (bv l) := by
  rw [HE.out, encN_small hm, bv_append, List.length_append]
  have : bv [UInt8.ofNat m] = [Value.int .u8 (m : Int)] := by simp only [bv, List.map_cons, List.map_nil]; rw [toNat_small (by omega)]
  rw [this]; exact h

theorem put_more {n : Int} {w w1 : World} {m : Nat} {d : List UInt8} {v' : Value} {x : Int} (hm : ¬ m < 128) (hu : U64 m) (hx : x = ((m % 128 + 128 : Nat) : Int)) (HE : Hid (encN (zig n) = d ++ encN m))
    (h : w1.ownsRow w.heap.size 5 1 v' (d.length + 1) (bv d ++ [Value.int IntKind.u8 x])) (hb : Below w.heap.size w w1) : PutRel n w (.int .u64 ((m : Int) / 128)) v' w1 := by
  refine ⟨m / 128, d ++ [UInt8.ofNat (m % 128 + 128)], rfl, ?_, ?_, ?_, hb⟩
  · unfold U64 at *; omega
  · rw [HE.out, encN_large hm, List.append_assoc]; rfl
  · rw [bv_append, List.length_append]
    have : bv [UInt8.ofNat (m % 128 + 128)] = [Value.int .u8 x] := by simp only [bv, List.map_cons, List.map_nil]; rw [toNat_small (by omega), hx]
    rw [this]; exact h

theorem put_len {n : Int} {m : Nat} {d : List UInt8} (h1 : -9223372036854775808 ≤ n) (h2 : n ≤ 9223372036854775807) (HE : Hid (encN (zig n) = d ++ encN m)) : d.length ≤ 10 := by
  have h := encN_length_le 9 (zig n) (by have := zig_lt n h1 h2; simp only [Nat.reduceAdd, Nat.reducePow]; omega)
  rw [HE.out, List.length_append] at h
  omega

theorem or128' (m : Nat) : bits BinOp.or .u8 ((m : Int) % 256) 128 = ((m % 128 + 128 : Nat) : Int) := by
  have h := or128 (m % 256) (by omega)
  rw [Int.natCast_emod] at h
  rw [show ((m : Int) % 256) = (m : Int) % ((256 : Nat) : Int) from rfl, h]
  omega

theorem xor_ones (a : Nat) (h : a < 18446744073709551616) : a ^^^ 18446744073709551615 = 18446744073709551615 - a := by
  have := BitVec.toNat_not (x := BitVec.ofNat 64 a)
  have h2 : (BitVec.ofNat 64 a ^^^ BitVec.allOnes 64).toNat = a ^^^ 18446744073709551615 := by
    rw [BitVec.toNat_xor, BitVec.toNat_ofNat, Nat.mod_eq_of_lt (by omega)]; rfl
  rw [← h2, BitVec.xor_allOnes, BitVec.toNat_not, BitVec.toNat_ofNat, Nat.mod_eq_of_lt (by omega)]

theorem zig_bits (n : Int) (h1 : -9223372036854775808 ≤ n) (h2 : n ≤ 9223372036854775807) :
    bits BinOp.xor IntKind.u64 (IntKind.u64.wrap (IntKind.u64.wrap n * 2)) (IntKind.u64.wrap (n / 9223372036854775808)) = ((zig n : Nat) : Int) := by
  have w64 : ∀ x : Int, IntKind.u64.wrap x = x % 18446744073709551616 := fun x => by simp [IntKind.wrap, IntKind.signed, IntKind.bits]
  rw [w64, w64, w64]
  unfold zig
  by_cases hn : n < 0
  · rw [if_pos hn]
    have e1 : n / 9223372036854775808 % 18446744073709551616 = ((18446744073709551615 : Nat) : Int) := by omega
    have e2 : n % 18446744073709551616 * 2 % 18446744073709551616 = (((n % 18446744073709551616 * 2 % 18446744073709551616).toNat : Nat) : Int) := by omega
    rw [e1, e2, u64_xor_nat _ _ (by omega) (by omega), xor_ones _ (by omega)]
    omega
  · rw [if_neg hn]
    have e1 : n / 9223372036854775808 % 18446744073709551616 = ((0 : Nat) : Int) := by omega
    have e2 : n % 18446744073709551616 * 2 % 18446744073709551616 = (((2 * n).toNat : Nat) : Int) := by omega
    rw [e1, e2, u64_xor_nat _ _ (by omega) (by omega), Nat.xor_zero]

set_option maxRecDepth 100000 in
theorem putint (n : Int) (w : World) (h1 : -9223372036854775808 ≤ n) (h2 : n ≤ 9223372036854775807) :
    Calls Try.prog 12 #[.int .i64 n] w (GivesBytes w (encN (zig n))) := by
  obtain ⟨i0, hi0, hz0, hz1, hz2⟩ := info_parts byte_info
  go_enter Try.func12, Try.ntmps12
  go_wp2
  go_loopw [3, 4] (fun z v wr => PutRel n w z v wr) (fun z _ _ => (intOf z).toNat)
  case atStart => exact ⟨zig n, [], congrArg (Value.int .u64) (zig_bits n h1 h2), zig_lt n h1 h2, rfl, World.ownsRow_nil _ _ _ _, Below.refl _ _⟩
  case round =>
    obtain ⟨m, d, rfl, hm, henc, hown, hbel⟩ := hrel
    have HE := Lib.hid henc
    clear henc
    have hdl : d.length ≤ 10 := put_len h1 h2 HE
    by_cases hs : m < 128
    · go_wp2_with (at_builtin; refine wpList_append_own _ rfl (.tmp 22) (.tmp 25) 22 rfl w.heap.size 5 i0 (.int .u8 0) 1 1 Try.underlying22 hi0 hz0 hz1 hz2 rfl (by decide) _ _ _ rfl (hown.alloc _) ⟨wr.heap.size, 0, none⟩ 1 1 [.int .u8 _] rfl rfl (cell_one_new _ _ _) (one_new _) (by unfold maxLen; omega) (by omega) (Nat.le_trans hbel.size (by simp)) ?_; intro v' w1 hown1 hg1 _)
      go_ret
      exact ⟨v', rfl, put_done hs HE hown1, (hbel.alloc hbel.size _).grown hg1 (Nat.le_trans hbel.size (by simp)) (fun k hk => (hown.lt k hk).1)⟩
    · go_wp2_with (at_builtin; refine wpList_append_own _ rfl (.tmp 14) (.tmp 18) 22 rfl w.heap.size 5 i0 (.int .u8 0) 1 1 Try.underlying22 hi0 hz0 hz1 hz2 rfl (by decide) _ _ _ rfl (hown.alloc _) ⟨wr.heap.size, 0, none⟩ 1 1 [.int .u8 _] rfl rfl (cell_one_new _ _ _) (one_new _) (by unfold maxLen; omega) (by omega) (Nat.le_trans hbel.size (by simp)) ?_; intro v' w1 hown1 hg1 _)
      go_roundw
      case rel => exact put_more hs hm (or128' m) HE hown1 ((hbel.alloc hbel.size _).grown hg1 (Nat.le_trans hbel.size (by simp)) (fun k hk => (hown.lt k hk).1))
      case measure => simp [intOf]; omega

set_option maxRecDepth 100000 in
theorem refput (n : Int) (w : World) (h1 : -9223372036854775808 ≤ n) (h2 : n ≤ 9223372036854775807) :
    Calls Try.prog 15 #[.int .i64 n] w (GivesBytes w (encN (zig n))) := by
  obtain ⟨i0, hi0, hz0, hz1, hz2⟩ := info_parts byte_info
  have hz : n < 0 → 2 * -(n + 1) + 1 = ((zig n : Nat) : Int) := fun h => by unfold zig; rw [if_pos h]; omega
  have hz' : ¬ n < 0 → 2 * n = ((zig n : Nat) : Int) := fun h => by unfold zig; rw [if_neg h]; omega
  have HZ := Lib.hid hz
  have HZ' := Lib.hid hz'
  clear hz hz'
  by_cases hn : n < 0
  all_goals
    go_enter Try.func15, Try.ntmps15
    go_wp2
    go_loopw [3, 4] (fun z v wr => PutRel n w z v wr) (fun z _ _ => (intOf z).toNat)
    case atStart => exact ⟨zig n, [], congrArg (Value.int .u64) (by first | exact HZ.out hn | exact HZ'.out hn), zig_lt n h1 h2, rfl, World.ownsRow_nil _ _ _ _, Below.refl _ _⟩
    case round =>
      obtain ⟨m, d, rfl, hm, henc, hown, hbel⟩ := hrel
      have HE := Lib.hid henc
      clear henc
      have hdl : d.length ≤ 10 := put_len h1 h2 HE
      by_cases hs : m < 128
      · go_wp2_with (at_builtin; refine wpList_append_own _ rfl (.tmp 27) (.tmp 30) 22 rfl w.heap.size 5 i0 (.int .u8 0) 1 1 Try.underlying22 hi0 hz0 hz1 hz2 rfl (by decide) _ _ _ rfl (hown.alloc _) ⟨wr.heap.size, 0, none⟩ 1 1 [.int .u8 _] rfl rfl (cell_one_new _ _ _) (one_new _) (by unfold maxLen; omega) (by omega) (Nat.le_trans hbel.size (by simp)) ?_; intro v' w1 hown1 hg1 _)
        go_ret
        exact ⟨v', rfl, put_done hs HE hown1, (hbel.alloc hbel.size _).grown hg1 (Nat.le_trans hbel.size (by simp)) (fun k hk => (hown.lt k hk).1)⟩
      · have hm' : m ≤ 18446744073709551615 := by unfold U64 at hm; omega
        go_wp2_with (at_builtin; refine wpList_append_own _ rfl (.tmp 18) (.tmp 23) 22 rfl w.heap.size 5 i0 (.int .u8 0) 1 1 Try.underlying22 hi0 hz0 hz1 hz2 rfl (by decide) _ _ _ rfl (hown.alloc _) ⟨wr.heap.size, 0, none⟩ 1 1 [.int .u8 _] rfl rfl (cell_one_new _ _ _) (one_new _) (by unfold maxLen; omega) (by omega) (Nat.le_trans hbel.size (by simp)) ?_; intro v' w1 hown1 hg1 _)
        go_roundw
        case rel => exact put_more hs hm (by omega) HE hown1 ((hbel.alloc hbel.size _).grown hg1 (Nat.le_trans hbel.size (by simp)) (fun k hk => (hown.lt k hk).1))
        case measure => simp [intOf]; omega
end Go.Proofs.Ytoljigllnhenoaa
