/- PutTexts of the codec and of the reference. -/
import Derived.Test.YtoljigllnhenoaaSameTexts
namespace Go.Proofs.Ytoljigllnhenoaa
open Go.RowKit
def encMany (d : List (List UInt8)) : List UInt8 := (d.map encText).flatten
def encTexts (d : List (List UInt8)) : List UInt8 := encN (zig d.length) ++ encMany d
theorem encMany_snoc {d : List (List UInt8)} {j : Nat} (h : j < d.length) : encMany (d.take (j + 1)) = encMany (d.take j) ++ encText d[j] := by
  rw [List.take_succ_eq_append_getElem h]
  unfold encMany; rw [List.map_append, List.flatten_append]; simp
theorem encMany_le (d : List (List UInt8)) (j : Nat) : (encMany (d.take j)).length ≤ (encMany d).length := by
  have : encMany d = encMany (d.take j) ++ encMany (d.drop j) := by
    unfold encMany; rw [← List.flatten_append, ← List.map_append, List.take_append_drop]
  rw [this, List.length_append]; omega
theorem text_in_many {d : List (List UInt8)} {j : Nat} (h : j < d.length) : (encMany (d.take j)).length + (encText d[j]).length ≤ (encMany d).length := by
  have h1 := encMany_le d (j + 1)
  rw [encMany_snoc h, List.length_append] at h1
  exact h1
theorem text_le_enc (t : List UInt8) : t.length ≤ (encText t).length := by unfold encText; rw [List.length_append]; omega
def PutsRel (w : World) (d : List (List UInt8)) (v i : Value) (wr : World) : Prop :=
  ∃ j : Nat, j ≤ d.length ∧ i = .int .i64 (j : Int) ∧ ∃ b : List UInt8, Hid (b = encN (zig d.length) ++ encMany (d.take j)) ∧ wr.ownsRow w.heap.size 5 1 v b.length (bv b) ∧ Below w.heap.size w wr
theorem puts_start {w w' : World} {d : List (List UInt8)} {v : Value} (h : w'.ownsRow w.heap.size 5 1 v (encN (zig d.length)).length (bv (encN (zig d.length)))) (hb : Below w.heap.size w w') : PutsRel w d v (.int .i64 0) w' :=
  ⟨0, by omega, rfl, _, by show _ = _; simp [encMany], h, hb⟩
theorem puts_len {d : List (List UInt8)} {j : Nat} {b : List UInt8} (hd : d.length ≤ 1000000) (H : Hid (b = encN (zig d.length) ++ encMany (d.take j))) : b.length ≤ 10 + (encMany d).length := by
  have h1 := enc_len d.length (by omega)
  have h2 := encMany_le d j
  rw [H.out, List.length_append]; omega
set_option maxRecDepth 100000 in
set_option maxHeartbeats 2000000 in
theorem putTexts_any (A : Option Addr) (c : Nat) (d : List (List UInt8)) (w : World) (h : Reads w w.heap.size 1 A d.length (sv d)) (hd : d.length ≤ 1000000) (hm : (encMany d).length ≤ 1000000) :
    Calls Try.prog 25 #[.slice A d.length c] w (GivesBytes w (encTexts d)) := by
  obtain ⟨i0, hi0, hz0, hz1, hz2⟩ := info_parts byte_info
  go_enter Try.func25, Try.ntmps25
  go_wp2_with fail
  refine (putint _ _ (by omega) (by omega)).mono ?_
  rintro e w1 ⟨v1, rfl, hown1, hb1⟩
  go_wp2
  go_loopw [3, 11] (fun v i wr => PutsRel w d v i wr) (fun _ i _ => d.length - (intOf i).toNat)
  case atStart => exact puts_start hown1 hb1
  case round =>
    obtain ⟨j, hj, rfl, b, HB, hown, hbel⟩ := hrel
    have hbl := puts_len hd HB
    by_cases hlt : j < d.length
    · obtain ⟨bk, off, rfl, hbk, hcell⟩ := reads_text (h.below hbel) hlt
      have hp0 : (0 : Int) ≤ (j : Int) := by omega
      have hp1 : (j : Int) < (d.length : Int) := by omega
      have htm := text_in_many hlt
      have hte := text_le_enc d[j]
      have hbj : b.length + (encText d[j]).length ≤ 3000000 := by omega
      have HB2 : Hid (b ++ encText d[j] = encN (zig d.length) ++ encMany (d.take (j + 1))) := by show _ = _; rw [HB.out, encMany_snoc hlt, List.append_assoc]
      generalize d[j] = t at *
      clear htm HB
      go_wp2_with fail
      refine (putText_any t _ (by omega)).mono ?_
      rintro e w3 ⟨v3, rfl, hown3, hb3⟩
      obtain ⟨A3, c3, rfl, _, hr3⟩ := own_slice hown3
      have ho := own_below hown hb3
      have hbw := hbel.trans (hb3.mono hbel.size)
      go_wp2_with (at_builtin; refine wpList_append_any _ rfl (.tmp 15) (.tmp 17) 22 rfl w.heap.size 5 i0 (.int .u8 0) 1 1 Try.underlying22 hi0 hz0 hz1 hz2 rfl (by decide) _ _ _ rfl ho w3.heap.size A3 _ c3 _ rfl hr3 (bv_one _) (by unfold maxLen; omega) (by omega) hbw.size ?_; intro v4 w4 hown4 hg4 _)
      go_roundw
      case rel =>
        refine ⟨j + 1, by omega, by simp, b ++ encText t, HB2, ?_, hbw.grown hg4 hbw.size (fun k hk => (ho.lt k hk).1)⟩
        rw [bv_append, List.length_append]; exact hown4
      case measure => simp [intOf]; omega
    · obtain rfl : j = d.length := by omega
      have hb : b = encTexts d := by rw [HB.out, List.take_length]; rfl
      go_wp2
      go_ret
      exact ⟨_, rfl, by rw [← hb]; exact hown, hbel⟩
set_option maxRecDepth 100000 in
set_option maxHeartbeats 2000000 in
theorem refPutTexts_any (A : Option Addr) (c : Nat) (d : List (List UInt8)) (w : World) (h : Reads w w.heap.size 1 A d.length (sv d)) (hd : d.length ≤ 1000000) (hm : (encMany d).length ≤ 1000000) :
    Calls Try.prog 27 #[.slice A d.length c] w (GivesBytes w (encTexts d)) := by
  obtain ⟨i0, hi0, hz0, hz1, hz2⟩ := info_parts byte_info
  go_enter Try.func27, Try.ntmps27
  go_wp2_with fail
  refine (refput _ _ (by omega) (by omega)).mono ?_
  rintro e w1 ⟨v1, rfl, hown1, hb1⟩
  go_wp2
  go_loopw [3, 4] (fun v i wr => PutsRel w d v i wr) (fun _ i _ => d.length - (intOf i).toNat)
  case atStart => exact puts_start hown1 hb1
  case round =>
    obtain ⟨j, hj, rfl, b, HB, hown, hbel⟩ := hrel
    have hbl := puts_len hd HB
    by_cases hlt : j < d.length
    · obtain ⟨bk, off, rfl, hbk, hcell⟩ := reads_text (h.below hbel) hlt
      have hp0 : (0 : Int) ≤ (j : Int) := by omega
      have hp1 : (j : Int) < (d.length : Int) := by omega
      have htm := text_in_many hlt
      have hte := text_le_enc d[j]
      have hbj : b.length + (encText d[j]).length ≤ 3000000 := by omega
      have HB2 : Hid (b ++ encText d[j] = encN (zig d.length) ++ encMany (d.take (j + 1))) := by show _ = _; rw [HB.out, encMany_snoc hlt, List.append_assoc]
      generalize d[j] = t at *
      clear htm HB
      go_wp2_with fail
      refine (refPutText_any t _ (by omega)).mono ?_
      rintro e w3 ⟨v3, rfl, hown3, hb3⟩
      obtain ⟨A3, c3, rfl, _, hr3⟩ := own_slice hown3
      have ho := own_below hown hb3
      have hbw := hbel.trans (hb3.mono hbel.size)
      go_wp2_with (at_builtin; refine wpList_append_any _ rfl (.tmp 14) (.tmp 19) 22 rfl w.heap.size 5 i0 (.int .u8 0) 1 1 Try.underlying22 hi0 hz0 hz1 hz2 rfl (by decide) _ _ _ rfl ho w3.heap.size A3 _ c3 _ rfl hr3 (bv_one _) (by unfold maxLen; omega) (by omega) hbw.size ?_; intro v4 w4 hown4 hg4 _)
      go_roundw
      case rel =>
        refine ⟨j + 1, by omega, by simp, b ++ encText t, HB2, ?_, hbw.grown hg4 hbw.size (fun k hk => (ho.lt k hk).1)⟩
        rw [bv_append, List.length_append]; exact hown4
      case measure => simp [intOf]; omega
    · obtain rfl : j = d.length := by omega
      have hb : b = encTexts d := by rw [HB.out, List.take_length]; rfl
      go_wp2
      go_ret
      exact ⟨_, rfl, by rw [← hb]; exact hown, hbel⟩
end Go.Proofs.Ytoljigllnhenoaa
