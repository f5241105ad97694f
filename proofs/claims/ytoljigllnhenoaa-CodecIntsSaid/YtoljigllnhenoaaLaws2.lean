/- The walk of the law CodecInts. -/
import Derived.Test.YtoljigllnhenoaaLaws1
import Derived.Test.YtoljigllnhenoaaPlain2
namespace Go.Proofs.Ytoljigllnhenoaa
open Go.RowKit
theorem reads_take {w : World} {B : Nat} {A : Option Addr} {l : List UInt8} {j : Nat} (h : Reads w B 1 A l.length (bv l)) (hj : j ≤ l.length) : Reads w B 1 A (l.take j).length (bv (l.take j)) := by
  refine ⟨by rw [bv_length]; omega, fun hn => ?_⟩
  have hl : (l.take j).length = j := by rw [List.length_take]; omega
  obtain ⟨ad, rfl, hb, hc⟩ := h.2 (by omega)
  refine ⟨ad, rfl, hb, fun i u hu => hc i u ?_⟩
  simp only [bv, List.map_take, List.getElem?_take] at hu ⊢
  split at hu
  · exact hu
  · cases hu
theorem short_int (n : Int) (h1 : -9223372036854775808 ≤ n) (h2 : n ≤ 9223372036854775807) (g cap j : Nat) (w : World) (hj : j < (encN (zig n)).length) (hr : Reads w w.heap.size 1 (some ⟨g, 0, none⟩) (encN (zig n)).length (bv (encN (zig n)))) (hc : (encN (zig n)).length ≤ cap) :
    Calls Try.prog 13 #[.slice (some ⟨g, 0, none⟩) j cap] w fun e w' => e = .returned (.tuple #[.int .i64 0, .int .i64 0, .int .i64 28]) ∧ Below w.heap.size w w' := by
  have hl : ((encN (zig n)).take j).length = j := by rw [List.length_take]; omega
  have hlen := encN_length_le 9 (zig n) (by have := zig_lt n h1 h2; simp only [Nat.reduceAdd, Nat.reducePow]; omega)
  have h := takeInt_err (some ⟨g, 0, none⟩) cap ((encN (zig n)).take j) 28 w (reads_take hr (by omega)) (by omega) (by omega) (takeZ_int_short n h1 h2 hj)
  rw [hl] at h
  exact h

set_option maxRecDepth 100000 in
set_option maxHeartbeats 2000000 in
theorem ints_any (n : Int) (h1 : -9223372036854775808 ≤ n) (h2 : n ≤ 9223372036854775807) (A : Option Addr) (c : Nat) (r : List UInt8) (w : World) (h : Reads w w.heap.size 1 A r.length (bv r)) (hm : r.length ≤ 9223372036854775807) :
    Calls Try.prog 3 #[.int .i64 n, .slice A r.length c] w (SaysTrue w) := by
  obtain ⟨i0, hi0, hz0, hz1, hz2⟩ := info_parts byte_info
  by_cases hl : 40 < r.length
  · have hl' : decide ((40 : Int) < (r.length : Int)) = true := by simp; omega
    go_enter Try.func3, Try.ntmps3
    go_wp2_with fail
    refine (says_awake (Below.refl _ _)).mono ?_
    rintro e w' ⟨rfl, hb⟩
    go_wp2
    go_ret
    exact ⟨rfl, hb⟩
  · have hl' : decide ((40 : Int) < (r.length : Int)) = false := by simp; omega
    have hlen := encN_length_le 9 (zig n) (by have := zig_lt n h1 h2; simp only [Nat.reduceAdd, Nat.reducePow]; omega)
    have hpos := encN_pos (zig n)
    have htk := takeZ_int n h1 h2 r
    have hput := fun w => putint n w h1 h2
    have hrput := fun w => refput n w h1 h2
    have hsh := short_int n h1 h2
    have huz := unzig_zig n
    obtain ⟨x, hx⟩ : ∃ x, x = encN (zig n) := ⟨_, rfl⟩
    rw [← hx] at hlen hpos htk hput hrput hsh
    have HTK := Lib.hid htk
    have HPUT := Lib.hid hput
    have HRPUT := Lib.hid hrput
    have HSH := Lib.hid hsh
    have HUZ := Lib.hid huz
    clear htk hput hrput hsh huz hx
    go_enter Try.func3, Try.ntmps3
    go_wp2_with fail
    refine (HPUT.out w).mono ?_
    rintro e w1 ⟨v1, rfl, hown1, hb1⟩
    obtain ⟨g, cap, rfl, hgb, hgl⟩ := hown1.form hpos
    have hr1 := Reads.of_own hown1
    have hcap : x.length ≤ cap := by
      obtain ⟨A', c', he, hc', _⟩ := own_slice hown1
      injection he with _ _ he
      omega
    have hr1' := hr1.alloc (Nat.le_refl _) (.cells #[] 5)
    go_wp2_with (first
      | (at_builtin
         refine wpList_append_any _ rfl (.tmp 17) (.tmp 18) 22 rfl w1.heap.size 5 i0 (.int .u8 0) 1 1 Try.underlying22 hi0 hz0 hz1 hz2 rfl (by decide) _ _ _ rfl (own_empty w1) w1.heap.size _ _ _ _ rfl hr1' (bv_one _) (by unfold maxLen; omega) (by omega) (by simp) ?_
         intro v2 w2 hown2 hg2 hat2
         have hbw2 : Below w1.heap.size w1 w2 := ((Below.refl _ w1).alloc (Nat.le_refl _) _).grown hg2 (by simp) (fun k hk => ((own_empty w1).lt k hk).1)
         have hr2 := (h.below hb1).below (hbw2.mono hb1.size))
      | (at_builtin
         refine wpList_append_any _ rfl (.tmp 19) (.tmp 20) 22 rfl w1.heap.size 5 i0 (.int .u8 0) 1 1 Try.underlying22 hi0 hz0 hz1 hz2 rfl (by decide) _ _ _ rfl hown2 w.heap.size A _ c _ rfl hr2 (bv_one _) (by unfold maxLen; omega) (by omega) hbw2.size ?_
         intro v3 w3 hown3 hg3 hat3
         have hbw3 : Below w1.heap.size w1 w3 := hbw2.grown hg3 hbw2.size (fun k hk => (hown2.lt k hk).1)))
    have hown3' : w3.ownsRow w1.heap.size 5 1 v3 (x ++ r).length (bv (x ++ r)) := by rw [List.length_append, bv_append]; simpa using hown3
    clear hown3 hg3 hat3 hg2 hat2 hown2 hr2
    obtain ⟨A3, c3, rfl, hc3, hr3⟩ := own_slice hown3'
    refine (takeInt_ok A3 c3 (x ++ r) (zig n) x.length w3 hr3 (by rw [List.length_append]; omega) hc3 HTK.out).mono ?_
    rintro e w4 ⟨rfl, hb4⟩
    rw [HUZ.out]
    have hbw4 : Below w1.heap.size w1 w4 := hbw3.trans (hb4.mono hbw3.size)
    go_wp2_with fail
    refine (HRPUT.out w4).mono ?_
    rintro e w5 ⟨v5, rfl, hown5, hb5⟩
    obtain ⟨A5, c5, rfl, hc5, hr5⟩ := own_slice hown5
    have hbw5 : Below w1.heap.size w1 w5 := hbw4.trans (hb5.mono hbw4.size)
    go_wp2_with fail
    refine (sameBytes _ A5 cap c5 x x w5 ((hr1.below hbw5).more hbw5.size) hr5).mono ?_
    rintro e w6 ⟨rfl, rfl⟩
    have hxx : (x == x) = true := by simp
    rw [hxx]
    have hn1 : ((n : Int) != n) = false := by simp
    have hk1 : ((x.length : Int) != (x.length : Int)) = false := by simp
    clear hxx
    go_wp2
    go_loopw [9] (fun i wr => ∃ j : Nat, j ≤ x.length ∧ i = .int .i64 j ∧ Below w1.heap.size w1 wr) (fun i _ => x.length - (intOf i).toNat)
    case atStart => exact ⟨0, Nat.zero_le _, rfl, hbw5⟩
    case round =>
      obtain ⟨j, hj, rfl, hbr⟩ := hrel
      by_cases hjl : j < x.length
      · have hjc : (j : Int) ≤ (cap : Int) := by omega
        have hj0 : (0 : Int) ≤ (j : Int) := by omega
        go_wp2_with fail
        refine (HSH.out g cap j wr hjl ((hr1.below hbr).more hbr.size) hcap).mono ?_
        rintro e w7 ⟨rfl, hb7⟩
        go_wp2
        go_roundw
        case rel => exact ⟨j + 1, by omega, by go_num, hbr.trans (hb7.mono hbr.size)⟩
        case measure => simp [intOf]; omega
      · go_wp2_with fail
        refine (says_awake (hb1.trans (hbr.mono hb1.size))).mono ?_
        rintro e w' ⟨rfl, hb⟩
        go_wp2
        go_ret
        exact ⟨rfl, hb⟩
end Go.Proofs.Ytoljigllnhenoaa
