/- The walk of the law CodecFrames. -/
import Derived.Test.YtoljigllnhenoaaLaws1
import Derived.Test.YtoljigllnhenoaaPlain3
namespace Go.Proofs.Ytoljigllnhenoaa
open Go.RowKit
theorem short_frame (k : Nat) (l : List UInt8) (hl : l.length ≤ 1000000) (g cap j : Nat) (w : World) (hj : j < (sealed k l).length) (hr : Reads w w.heap.size 1 (some ⟨g, 0, none⟩) (sealed k l).length (bv (sealed k l))) (hc : (sealed k l).length ≤ cap) :
    Calls Try.prog 31 #[.slice (some ⟨g, 0, none⟩) j cap] w fun e w' => e = .returned (.tuple #[.int .i64 0, .slice none 0 0, .int .i64 0, .int .i64 28]) ∧ Below w.heap.size w w' := by
  have hlj : ((sealed k l).take j).length = j := by rw [List.length_take]; omega
  have hlen := sealed_length k l
  have hel := enc_len l.length (by omega)
  have h := open_no (some ⟨g, 0, none⟩) cap ((sealed k l).take j) 28 w (reads_take hr (by omega)) (by omega) (by omega) (takeFrame_short k l hl hj)
  rw [hlj] at h
  exact h
theorem same_nil (w : World) : Calls Try.prog 14 #[.slice none 0 0, .slice none 0 0] w fun e w' => e = .returned (.bool true) ∧ w = w' :=
  sameBytes none none 0 0 [] [] w Reads.none_ Reads.none_

theorem frames_long (kd : Int) (A1 A2 : Option Addr) (c1 c2 : Nat) (n m : Nat) (w : World) (h : 100 < n ∨ 40 < m) (_hn : n ≤ 9223372036854775807) (_hm : m ≤ 9223372036854775807) :
    Calls Try.prog 8 #[.int .i64 kd, .slice A1 n c1, .slice A2 m c2] w (SaysTrue w) := by
  by_cases hl : 100 < n
  · have hl' : decide ((100 : Int) < (n : Int)) = true := by simp; omega
    go_enter Try.func8, Try.ntmps8
    go_wp2_with fail
    refine (says_awake (Below.refl _ _)).mono ?_
    rintro e w' ⟨rfl, hb⟩
    go_wp2
    go_ret
    exact ⟨rfl, hb⟩
  · have hl' : decide ((100 : Int) < (n : Int)) = false := by simp; omega
    have hl2 : decide ((40 : Int) < (m : Int)) = true := by simp; omega
    go_enter Try.func8, Try.ntmps8
    go_wp2_with fail
    refine (says_awake (Below.refl _ _)).mono ?_
    rintro e w' ⟨rfl, hb⟩
    go_wp2
    go_ret
    exact ⟨rfl, hb⟩

theorem frames_out (kd : Int) (hk : kd < 0 ∨ 255 < kd) (A1 A2 : Option Addr) (c1 c2 : Nat) (n m : Nat) (w : World) (hn : n ≤ 100) (hm : m ≤ 40) :
    Calls Try.prog 8 #[.int .i64 kd, .slice A1 n c1, .slice A2 m c2] w (SaysTrue w) := by
  have hl' : decide ((100 : Int) < (n : Int)) = false := by simp; omega
  have hl2 : decide ((40 : Int) < (m : Int)) = false := by simp; omega
  have HK := Lib.hid hk
  by_cases hk0 : kd < 0
  · clear hk
    go_enter Try.func8, Try.ntmps8
    go_wp2_with fail
    refine (seal_out kd HK.out _ w).mono ?_
    rintro e w' ⟨rfl, rfl⟩
    go_wp2_with fail
    refine (refSeal_out kd HK.out _ w).mono ?_
    rintro e w' ⟨rfl, rfl⟩
    go_wp2_with fail
    refine (same_nil w).mono ?_
    rintro e w' ⟨rfl, rfl⟩
    go_wp2_with fail
    refine (says_awake (Below.refl _ _)).mono ?_
    rintro e w' ⟨rfl, hb⟩
    go_wp2
    go_ret
    exact ⟨rfl, hb⟩
  · have hk1 : 255 < kd := by omega
    clear hk
    go_enter Try.func8, Try.ntmps8
    go_wp2_with fail
    refine (seal_out kd HK.out _ w).mono ?_
    rintro e w' ⟨rfl, rfl⟩
    go_wp2_with fail
    refine (refSeal_out kd HK.out _ w).mono ?_
    rintro e w' ⟨rfl, rfl⟩
    go_wp2_with fail
    refine (same_nil w).mono ?_
    rintro e w' ⟨rfl, rfl⟩
    go_wp2_with fail
    refine (says_awake (Below.refl _ _)).mono ?_
    rintro e w' ⟨rfl, hb⟩
    go_wp2
    go_ret
    exact ⟨rfl, hb⟩

set_option maxRecDepth 100000 in
set_option maxHeartbeats 2000000 in
theorem frames_in (k : Nat) (hk : k ≤ 255) (A1 A2 : Option Addr) (c1 c2 : Nat) (l r : List UInt8) (w : World) (hr1 : Reads w w.heap.size 1 A1 l.length (bv l)) (hr2 : Reads w w.heap.size 1 A2 r.length (bv r)) (hn : l.length ≤ 100) (hm : r.length ≤ 40) :
    Calls Try.prog 8 #[.int .i64 k, .slice A1 l.length c1, .slice A2 r.length c2] w (SaysTrue w) := by
  obtain ⟨i0, hi0, hz0, hz1, hz2⟩ := info_parts byte_info
  have hl' : decide ((100 : Int) < (l.length : Int)) = false := by simp; omega
  have hl2 : decide ((40 : Int) < (r.length : Int)) = false := by simp; omega
  have hk0 : ¬ ((k : Int) < 0) := by omega
  have hk1 : ¬ (255 < (k : Int)) := by omega
  have hlen := sealed_length k l
  have hel := enc_len l.length (by omega)
  have htk := takeFrame_sealed k hk l (by omega) r
  have hseal := fun w h => seal_any k hk A1 c1 l w h (by omega)
  have hrseal := fun w h => refSeal_any k hk A1 c1 l w h (by omega)
  have hsh := short_frame k l (by omega)
  have hpos : 0 < (sealed k l).length := by omega
  have hmax : (sealed k l).length ≤ 200 := by omega
  obtain ⟨x, hx⟩ : ∃ x, x = sealed k l := ⟨_, rfl⟩
  rw [← hx] at hpos hmax htk hseal hrseal hsh
  have HTK := Lib.hid htk
  have HS := Lib.hid hseal
  have HRS := Lib.hid hrseal
  have HSH := Lib.hid hsh
  clear htk hseal hrseal hsh hx hlen hel
  go_enter Try.func8, Try.ntmps8
  go_wp2_with fail
  refine (HS.out w hr1).mono ?_
  rintro e w1 ⟨v1, rfl, hown1, hb1⟩
  obtain ⟨g, cap, rfl, hgb, hgl⟩ := hown1.form hpos
  have hrx := Reads.of_own hown1
  have hcap : x.length ≤ cap := by
    obtain ⟨A', c', he, hc', _⟩ := own_slice hown1
    injection he with _ _ he
    omega
  go_wp2_with fail
  refine (HRS.out w1 ((hr1.below hb1).more hb1.size)).mono ?_
  rintro e w2 ⟨v2, rfl, hown2, hb2⟩
  obtain ⟨A', c', rfl, hc', hrx2⟩ := own_slice hown2
  go_wp2_with fail
  refine (sameBytes _ A' cap c' x x w2 ((hrx.below hb2).more hb2.size) hrx2).mono ?_
  rintro e w3 ⟨rfl, rfl⟩
  have hxx : (x == x) = true := by simp
  rw [hxx]
  clear hxx
  have hrx' := (hrx.below hb2).alloc hb2.size (.cells #[] 5)
  go_wp2_with (first
    | (at_builtin
       refine wpList_append_any _ rfl (.tmp 48) (.tmp 49) 22 rfl w2.heap.size 5 i0 (.int .u8 0) 1 1 Try.underlying22 hi0 hz0 hz1 hz2 rfl (by decide) _ _ _ rfl (own_empty w2) w1.heap.size _ _ _ _ rfl hrx' (bv_one _) (by unfold maxLen; omega) (by omega) (by simp) ?_
       intro v3 w3 hown3 hg3 hat3
       have hbw3 : Below w2.heap.size w2 w3 := ((Below.refl _ w2).alloc (Nat.le_refl _) _).grown hg3 (by simp) (fun k hk => ((own_empty w2).lt k hk).1)
       have hb13 : Below w1.heap.size w1 w3 := hb2.trans (hbw3.mono hb2.size)
       have hr3 := (hr2.below hb1).below (hb13.mono hb1.size))
    | (at_builtin
       refine wpList_append_any _ rfl (.tmp 50) (.tmp 51) 22 rfl w2.heap.size 5 i0 (.int .u8 0) 1 1 Try.underlying22 hi0 hz0 hz1 hz2 rfl (by decide) _ _ _ rfl hown3 w.heap.size A2 _ c2 _ rfl hr3 (bv_one _) (by unfold maxLen; omega) (by omega) hbw3.size ?_
       intro v4 w4 hown4 hg4 hat4
       have hbw4 : Below w2.heap.size w2 w4 := hbw3.grown hg4 hbw3.size (fun k hk => (hown3.lt k hk).1)))
  have hown4' : w4.ownsRow w2.heap.size 5 1 v4 (x ++ r).length (bv (x ++ r)) := by rw [List.length_append, bv_append]; simpa using hown4
  clear hown4 hg4 hat4 hg3 hat3 hown3 hr3
  obtain ⟨A4, c4, rfl, hc4, hr4⟩ := own_slice hown4'
  refine (open_yes A4 c4 (x ++ r) k x.length l w4 hr4 (by rw [List.length_append]; omega) hc4 HTK.out).mono ?_
  rintro e w5 ⟨v5, rfl, hown5, hb5⟩
  obtain ⟨A5, c5, rfl, hc5, hr5⟩ := own_slice hown5
  have hb25 : Below w2.heap.size w2 w5 := hbw4.trans (hb5.mono hbw4.size)
  have hb15 : Below w1.heap.size w1 w5 := hb2.trans (hb25.mono hb2.size)
  have hb05 : Below w.heap.size w w5 := hb1.trans (hb15.mono hb1.size)
  have hkk : ((k : Int) != (k : Int)) = false := by simp
  have hnn : ((x.length : Int) != (x.length : Int)) = false := by simp
  go_wp2_with fail
  refine (sameBytes A5 A1 c5 c1 l l w5 hr5 ((hr1.below hb05).more hb05.size)).mono ?_
  rintro e w6 ⟨rfl, rfl⟩
  have hll : (l == l) = true := by simp
  rw [hll]
  clear hll
  go_wp2
  go_loopw [12] (fun i wr => ∃ j : Nat, j ≤ x.length ∧ i = .int .i64 j ∧ Below w1.heap.size w1 wr) (fun i _ => x.length - (intOf i).toNat)
  case atStart => exact ⟨0, Nat.zero_le _, rfl, hb15⟩
  case round =>
    obtain ⟨j, hj, rfl, hbr⟩ := hrel
    by_cases hjl : j < x.length
    · have hjc : (j : Int) ≤ (cap : Int) := by omega
      have hj0 : (0 : Int) ≤ (j : Int) := by omega
      go_wp2_with fail
      refine (HSH.out g cap j wr hjl ((hrx.below hbr).more hbr.size) hcap).mono ?_
      rintro e w7 ⟨rfl, hb7⟩
      go_wp2
      go_roundw
      case rel => exact ⟨j + 1, by omega, by go_num, hbr.trans (hb7.mono hbr.size)⟩
      case measure => simp [intOf]; omega
    · go_wp2_with fail
      refine (says_awake (hb1.trans (hbr.mono hb1.size))).mono ?_
      rintro e w' ⟨rfl, hb⟩
      go_wp2
      go_ret
      exact ⟨rfl, hb⟩
end Go.Proofs.Ytoljigllnhenoaa
