/- The walk of the law CodecTexts. -/
import Derived.Test.YtoljigllnhenoaaPlain4
namespace Go.Proofs.Ytoljigllnhenoaa
open Go.RowKit
def shortB (d : List (List UInt8)) : Bool := decide (d.length ≤ 8 ∧ ∀ t ∈ d, t.length ≤ 60)
theorem short_true {d : List (List UInt8)} (h : shortB d = true) : d.length ≤ 8 ∧ ∀ t ∈ d, t.length ≤ 60 := of_decide_eq_true h
theorem short_long {d : List (List UInt8)} {j : Nat} (hj : j < d.length) (h : 60 < d[j].length) : shortB d = false :=
  decide_eq_false fun hh => by have := hh.2 _ (List.getElem_mem hj); omega
theorem short_many {d : List (List UInt8)} (h : 8 < d.length) : shortB d = false := decide_eq_false fun hh => by omega
def ShortRel (d : List (List UInt8)) (i : Value) : Prop := ∃ j : Nat, j ≤ d.length ∧ j ≤ 9 ∧ i = .int .i64 (j : Int) ∧ ∀ t ∈ d.take j, t.length ≤ 60
theorem short_next {d : List (List UInt8)} {j : Nat} (hj : j < d.length) (h8 : j ≤ 8) (h : ¬ 60 < d[j].length) (ha : ∀ t ∈ d.take j, t.length ≤ 60) : ShortRel d (.int .i64 ((j : Int) + 1)) :=
  ⟨j + 1, by omega, by omega, by simp, fun t ht => by
    rw [List.take_succ_eq_append_getElem hj, List.mem_append] at ht
    rcases ht with ht | ht
    · exact ha t ht
    · rw [List.mem_singleton] at ht; subst ht; omega⟩
theorem short_end {d : List (List UInt8)} {j : Nat} (hj : j ≤ d.length) (ha : ∀ t ∈ d.take j, t.length ≤ 60) (h : ¬ (j < d.length ∧ j ≤ 8)) : Ending.returned (.bool (decide ((d.length : Int) ≤ 8))) = .returned (.bool (shortB d)) := by
  by_cases h8 : d.length ≤ 8
  · have : j = d.length := by omega
    subst this
    rw [List.take_length] at ha
    have h1 : shortB d = true := decide_eq_true ⟨h8, ha⟩
    rw [h1, decide_eq_true (by omega)]
  · rw [short_many (by omega), decide_eq_false (by omega)]
set_option maxRecDepth 100000 in
set_option maxHeartbeats 2000000 in
theorem short_any (A : Option Addr) (c : Nat) (d : List (List UInt8)) (w : World) (h : Reads w w.heap.size 1 A d.length (sv d)) (hd : d.length ≤ 9223372036854775807) :
    Calls Try.prog 26 #[.slice A d.length c, .int .i64 8, .int .i64 60] w fun e w' => e = .returned (.bool (shortB d)) ∧ w = w' := by
  go_enter Try.func26, Try.ntmps26
  go_wp2
  go_loop [7] (fun i => ShortRel d i) (fun i => d.length - (intOf i).toNat)
  case atStart => exact ⟨0, by omega, by omega, rfl, by simp⟩
  case round =>
    obtain ⟨j, hj, h9, rfl, ha⟩ := hrel
    have HA := Lib.hid ha
    clear ha
    by_cases hlt : j < d.length
    · by_cases h8 : j ≤ 8
      · obtain ⟨b, off, rfl, hb, hcell⟩ := reads_text h hlt
        have hp0 : (0 : Int) ≤ (j : Int) := by omega
        have hp1 : (j : Int) < (d.length : Int) := by omega
        have hq1 : decide ((j : Int) < (d.length : Int)) = true := by simp; omega
        have hq2 : decide ((j : Int) ≤ 8) = true := by simp; omega
        by_cases hs : 60 < d[j].length
        · have hs1 : decide ((60 : Int) < (d[j].length : Int)) = true := by simp; omega
          go_wp2
          all_goals go_ret
          all_goals exact ⟨congrArg (fun b => Ending.returned (.bool b)) (short_long hlt hs).symm, rfl⟩
        · have hs1 : decide ((60 : Int) < (d[j].length : Int)) = false := by simp; omega
          go_wp2
          go_round
          case rel => exact short_next hlt h8 hs HA.out
          case measure => simp [intOf]; omega
      · have hq1 : decide ((j : Int) < (d.length : Int)) = true := by simp; omega
        have hq2 : decide ((j : Int) ≤ 8) = false := by simp; omega
        go_wp2
        go_ret
        exact ⟨short_end hj HA.out (by omega), rfl⟩
    · have hq1 : decide ((j : Int) < (d.length : Int)) = false := by simp; omega
      go_wp2
      go_ret
      exact ⟨short_end hj HA.out (by omega), rfl⟩
theorem encText_len {t : List UInt8} (h : t.length ≤ 60) : 0 < (encText t).length ∧ (encText t).length ≤ 70 := by
  have h1 := enc_len t.length (by omega)
  have h2 := encN_pos (zig t.length)
  unfold encText
  rw [List.length_append]
  omega
theorem encMany_len (d : List (List UInt8)) : (∀ t ∈ d, t.length ≤ 60) → (encMany d).length ≤ 70 * d.length := by
  induction d with
  | nil => intro _; simp [encMany]
  | cons t d ih =>
    intro h
    have h1 := ih fun s hs => h s (by simp [hs])
    have h2 := (encText_len (h t (by simp))).2
    rw [encMany_cons, List.length_append, List.length_cons]
    omega
theorem encTexts_len {d : List (List UInt8)} (h : shortB d = true) : 0 < (encTexts d).length ∧ (encTexts d).length ≤ 600 := by
  obtain ⟨h8, ha⟩ := short_true h
  have h1 := encMany_len d ha
  have h2 := enc_len d.length (by omega)
  have h3 := encN_pos (zig d.length)
  unfold encTexts
  rw [List.length_append]
  omega
theorem cut_texts (d : List (List UInt8)) (hs : shortB d = true) (g cap j : Nat) (w : World) (hj : j < (encTexts d).length) (hr : Reads w w.heap.size 1 (some ⟨g, 0, none⟩) (encTexts d).length (bv (encTexts d))) (hc : (encTexts d).length ≤ cap) :
    Calls Try.prog 21 #[.slice (some ⟨g, 0, none⟩) j cap] w fun e w' => e = .returned (.tuple #[.slice none 0 0, .int .i64 0, .int .i64 28]) ∧ Below w.heap.size w w' := by
  obtain ⟨h8, ha⟩ := short_true hs
  have hlj : ((encTexts d).take j).length = j := by rw [List.length_take]; omega
  have hx := encTexts_len hs
  have h := takeTexts_no (some ⟨g, 0, none⟩) cap ((encTexts d).take j) 28 w (reads_take hr (by omega)) (by omega) (by omega) (takeTexts_short d (by omega) (fun t ht => by have := ha t ht; omega) hj)
  rw [hlj] at h
  exact h
theorem texts_many (A1 A2 : Option Addr) (c1 c2 : Nat) (d : List (List UInt8)) (m : Nat) (w : World) (hr1 : Reads w w.heap.size 1 A1 d.length (sv d)) (hd : d.length ≤ 9223372036854775807) (hs : shortB d = false) :
    Calls Try.prog 7 #[.slice A1 d.length c1, .slice A2 m c2] w (SaysTrue w) := by
  go_enter Try.func7, Try.ntmps7
  go_wp2_with fail
  refine (short_any A1 c1 d w hr1 hd).mono ?_
  rintro e w' ⟨rfl, rfl⟩
  rw [hs]
  go_wp2_with fail
  refine (says_awake (Below.refl _ _)).mono ?_
  rintro e w' ⟨rfl, hb⟩
  go_wp2
  go_ret
  exact ⟨rfl, hb⟩
theorem texts_tail (A1 A2 : Option Addr) (c1 c2 : Nat) (d : List (List UInt8)) (m : Nat) (w : World) (hr1 : Reads w w.heap.size 1 A1 d.length (sv d)) (hd : d.length ≤ 9223372036854775807) (hs : shortB d = true) (hm : 40 < m) (_hn : m ≤ 9223372036854775807) :
    Calls Try.prog 7 #[.slice A1 d.length c1, .slice A2 m c2] w (SaysTrue w) := by
  have hl2 : decide ((40 : Int) < (m : Int)) = true := by simp; omega
  go_enter Try.func7, Try.ntmps7
  go_wp2_with fail
  refine (short_any A1 c1 d w hr1 hd).mono ?_
  rintro e w' ⟨rfl, rfl⟩
  rw [hs]
  go_wp2_with fail
  refine (says_awake (Below.refl _ _)).mono ?_
  rintro e w' ⟨rfl, hb⟩
  go_wp2
  go_ret
  exact ⟨rfl, hb⟩
set_option maxRecDepth 100000 in
set_option maxHeartbeats 4000000 in
theorem texts_main (A1 A2 : Option Addr) (c1 c2 : Nat) (d : List (List UInt8)) (r : List UInt8) (w : World) (hr1 : Reads w w.heap.size 1 A1 d.length (sv d)) (hr2 : Reads w w.heap.size 1 A2 r.length (bv r)) (hs : shortB d = true) (hm : r.length ≤ 40) :
    Calls Try.prog 7 #[.slice A1 d.length c1, .slice A2 r.length c2] w (SaysTrue w) := by
  obtain ⟨i0, hi0, hz0, hz1, hz2⟩ := info_parts byte_info
  have hl2 : decide ((40 : Int) < (r.length : Int)) = false := by simp; omega
  obtain ⟨h8, hall⟩ := short_true hs
  have hxl := encTexts_len hs
  have hml := encMany_len d hall
  have hput := fun w h => putTexts_any A1 c1 d w h (by omega) (by omega)
  have hrput := fun w h => refPutTexts_any A1 c1 d w h (by omega) (by omega)
  have htk := takeTexts_enc d r (by omega) (fun t ht => by have := hall t ht; omega)
  have hsh := cut_texts d hs
  obtain ⟨x, hx⟩ : ∃ x, x = encTexts d := ⟨_, rfl⟩
  rw [← hx] at hput hrput htk hsh hxl
  obtain ⟨hpos, hmax⟩ := hxl
  have HP := Lib.hid hput
  have HRP := Lib.hid hrput
  have HTK := Lib.hid htk
  have HSH := Lib.hid hsh
  have HALL := Lib.hid hall
  have HSA := Lib.hid (short_any A1 c1 d w hr1 (by omega))
  have HSB := Lib.hid hs
  clear hput hrput htk hsh hall hx hml hs
  go_enter Try.func7, Try.ntmps7
  go_wp2_with fail
  refine HSA.out.mono ?_
  rintro e w' ⟨rfl, rfl⟩
  rw [HSB.out]
  go_wp2_with fail
  refine (HP.out w hr1).mono ?_
  rintro e w1 ⟨v1, rfl, hown1, hb1⟩
  obtain ⟨g, cap, rfl, hgb, hgl⟩ := hown1.form hpos
  have hrx := Reads.of_own hown1
  have hcap : x.length ≤ cap := by
    obtain ⟨A', c', he, hc', _⟩ := own_slice hown1
    injection he with _ _ he
    omega
  have hrx' := hrx.alloc (Nat.le_refl _) (.cells #[] 5)
  go_wp2_with (first
    | (at_builtin
       refine wpList_append_any _ rfl (.tmp 30) (.tmp 31) 22 rfl w1.heap.size 5 i0 (.int .u8 0) 1 1 Try.underlying22 hi0 hz0 hz1 hz2 rfl (by decide) _ _ _ rfl (own_empty w1) w1.heap.size _ _ _ _ rfl hrx' (bv_one _) (by unfold maxLen; omega) (by omega) (by simp) ?_
       intro v3 w3 hown3 hg3 hat3
       have hbw3 : Below w1.heap.size w1 w3 := ((Below.refl _ w1).alloc (Nat.le_refl _) _).grown hg3 (by simp) (fun k hk => ((own_empty w1).lt k hk).1)
       have hr3 := (hr2.below hb1).below (hbw3.mono hb1.size))
    | (at_builtin
       refine wpList_append_any _ rfl (.tmp 32) (.tmp 33) 22 rfl w1.heap.size 5 i0 (.int .u8 0) 1 1 Try.underlying22 hi0 hz0 hz1 hz2 rfl (by decide) _ _ _ rfl hown3 w.heap.size A2 _ c2 _ rfl hr3 (bv_one _) (by unfold maxLen; omega) (by omega) hbw3.size ?_
       intro v4 w4 hown4 hg4 hat4
       have hbw4 : Below w1.heap.size w1 w4 := hbw3.grown hg4 hbw3.size (fun k hk => (hown3.lt k hk).1)))
  have hown4' : w4.ownsRow w1.heap.size 5 1 v4 (x ++ r).length (bv (x ++ r)) := by rw [List.length_append, bv_append]; simpa using hown4
  clear hown4 hg4 hat4 hg3 hat3 hown3 hr3 hbw3
  obtain ⟨A4, c4, rfl, hc4, hr4⟩ := own_slice hown4'
  refine (takeTexts_yes A4 c4 (x ++ r) d x.length w4 hr4 (by rw [List.length_append]; omega) hc4 HTK.out).mono ?_
  rintro e w5 ⟨v5, rfl, hown5, hb5⟩
  obtain ⟨A5, c5, rfl, hc5, hr5⟩ := own_slice hown5
  have hb15 : Below w1.heap.size w1 w5 := hbw4.trans (hb5.mono hbw4.size)
  have hb05 : Below w.heap.size w w5 := hb1.trans (hb15.mono hb1.size)
  have hnn : ((x.length : Int) != (x.length : Int)) = false := by simp
  clear hown4' hbw4 hb5 hr4
  go_wp2_with fail
  refine (HRP.out w5 ((hr1.below hb05).more hb05.size)).mono ?_
  rintro e w6 ⟨v6, rfl, hown6, hb6⟩
  obtain ⟨A6, c6, rfl, hc6, hr6⟩ := own_slice hown6
  have hb16 : Below w1.heap.size w1 w6 := hb15.trans (hb6.mono hb15.size)
  have hb06 : Below w.heap.size w w6 := hb1.trans (hb16.mono hb1.size)
  go_wp2_with fail
  refine (sameBytes _ A6 cap c6 x x w6 ((hrx.below hb16).more hb16.size) hr6).mono ?_
  rintro e w7 ⟨rfl, rfl⟩
  have hxx : (x == x) = true := by simp
  rw [hxx]
  clear hxx
  go_wp2_with fail
  refine (sameTexts A5 A1 c5 c1 d w6 ((hr5.below hb6).more hb6.size) ((hr1.below hb06).more hb06.size) (by omega)).mono ?_
  rintro e w7 ⟨rfl, m, rfl⟩
  have hb17 : Below w1.heap.size w1 (w6.drewN m) := below_drewN hb16 m
  clear hown6 hown5 hr5 hr6 hb6 hb15 hb05 hb16 hb06
  go_wp2
  go_loopw [9] (fun i wr => ∃ j : Nat, j ≤ x.length ∧ i = .int .i64 j ∧ Below w1.heap.size w1 wr) (fun i _ => x.length - (intOf i).toNat)
  case atStart => exact ⟨0, Nat.zero_le _, rfl, hb17⟩
  case round =>
    obtain ⟨j, hj, rfl, hbr⟩ := hrel
    by_cases hjl : j < x.length
    · have hjc : (j : Int) ≤ (cap : Int) := by omega
      have hj0 : (0 : Int) ≤ (j : Int) := by omega
      go_wp2_with fail
      refine (HSH.out g cap j wr hjl ((hrx.below hbr).more hbr.size) hcap).mono ?_
      rintro e w7 ⟨rfl, hb7⟩
      go_wp2
      go_roundw
      case rel => exact ⟨j + 1, by omega, by go_num, hbr.trans (hb7.mono hbr.size)⟩
      case measure => simp [intOf]; omega
    · have hb0r : Below w.heap.size w wr := hb1.trans (hbr.mono hb1.size)
      clear hbr hrx hrx' hown1 HP HRP HTK HSH HSA hb17
      go_wp2
      obtain ⟨wo, rfl⟩ : ∃ wo : World, wo = wr := ⟨_, rfl⟩
      go_loopw [13] (fun i wr => ∃ j : Nat, j ≤ d.length ∧ i = .int .i64 j ∧ Below w.heap.size w wr) (fun i _ => d.length - (intOf i).toNat)
      case atStart => exact ⟨0, Nat.zero_le _, rfl, hb0r⟩
      case round =>
        clear hb0r hb1
        obtain ⟨j, hj, rfl, hbr⟩ := hrel
        by_cases hjl : j < d.length
        · have hrr := hr1.below hbr
          obtain ⟨b, off, rfl, hbk, hcell⟩ := reads_text hrr hjl
          have hp0 : (0 : Int) ≤ (j : Int) := by omega
          have hp1 : (j : Int) < (d.length : Int) := by omega
          have ht60 := HALL.out d[j] (List.getElem_mem hjl)
          generalize d[j] = t at *
          have htl := encText_len ht60
          have htk := takeText_enc t r (by omega)
          have hput := fun w => putText_any t w (by omega)
          have hrput := fun w => refPutText_any t w (by omega)
          obtain ⟨y, hy⟩ : ∃ y, y = encText t := ⟨_, rfl⟩
          rw [← hy] at htl htk hput hrput
          obtain ⟨hypos, hymax⟩ := htl
          have HTK := Lib.hid htk
          have HP := Lib.hid hput
          have HRP := Lib.hid hrput
          have HCELL := Lib.hid hcell
          clear hy htk hput hrput hrr
          go_wp2_with fail
          refine (HP.out wr).mono ?_
          rintro e u1 ⟨v1, rfl, ho1, hc1⟩
          obtain ⟨A1', c1', rfl, hcc1, hry⟩ := own_slice ho1
          have hbu1 : Below w.heap.size w u1 := hbr.trans (hc1.mono hbr.size)
          have hry' := hry.alloc (Nat.le_refl _) (.cells #[] 5)
          clear ho1 hcell
          go_wp2_with (first
            | (at_builtin
               refine wpList_append_any _ rfl (.tmp 88) (.tmp 89) 22 rfl u1.heap.size 5 i0 (.int .u8 0) 1 1 Try.underlying22 hi0 hz0 hz1 hz2 rfl (by decide) _ _ _ rfl (own_empty u1) u1.heap.size _ _ _ _ rfl hry' (bv_one _) (by unfold maxLen; omega) (by omega) (by simp) ?_
               intro v3 w3 hown3 hg3 hat3
               have hbw3 : Below u1.heap.size u1 w3 := ((Below.refl _ u1).alloc (Nat.le_refl _) _).grown hg3 (by simp) (fun k hk => ((own_empty u1).lt k hk).1)
               have hr3 := (hr2.below hbu1).below (hbw3.mono hbu1.size))
            | (at_builtin
               refine wpList_append_any _ rfl (.tmp 90) (.tmp 91) 22 rfl u1.heap.size 5 i0 (.int .u8 0) 1 1 Try.underlying22 hi0 hz0 hz1 hz2 rfl (by decide) _ _ _ rfl hown3 w.heap.size A2 _ c2 _ rfl hr3 (bv_one _) (by unfold maxLen; omega) (by omega) hbw3.size ?_
               intro v4 w4 hown4 hg4 hat4
               have hbw4 : Below u1.heap.size u1 w4 := hbw3.grown hg4 hbw3.size (fun k hk => (hown3.lt k hk).1)))
          have hown4' : w4.ownsRow u1.heap.size 5 1 v4 (y ++ r).length (bv (y ++ r)) := by rw [List.length_append, bv_append]; simpa using hown4
          clear hown4 hg4 hat4 hg3 hat3 hown3 hr3 hbw3
          obtain ⟨A4', c4', rfl, hcc4, hr4⟩ := own_slice hown4'
          refine (takeText_yes A4' c4' (y ++ r) t y.length w4 hr4 (by rw [List.length_append]; omega) hcc4 HTK.out).mono ?_
          rintro e u5 ⟨rfl, hb5⟩
          have hbu15 : Below u1.heap.size u1 u5 := hbw4.trans (hb5.mono hbw4.size)
          have hbu5 : Below w.heap.size w u5 := hbu1.trans (hbu15.mono hbu1.size)
          have hcell5 : u5.cell? ⟨b, off + j, none⟩ = some (.string ⟨t.toArray⟩) := by
            have h1 : Below wr.heap.size wr u5 := hc1.trans (hbu15.mono hc1.size)
            rw [h1.cell (p := ⟨b, off + j, none⟩) (by have := hbr.size; simp only; omega)]; exact HCELL.out
          have hny : ((y.length : Int) != (y.length : Int)) = false := by simp
          clear hown4' hr4 hb5
          go_wp2_with fail
          refine (HRP.out u5).mono ?_
          rintro e u6 ⟨v6, rfl, ho6, hb6⟩
          obtain ⟨A6', c6', rfl, hcc6, hr6⟩ := own_slice ho6
          have hcell6 : u6.cell? ⟨b, off + j, none⟩ = some (.string ⟨t.toArray⟩) := by
            rw [hb6.cell (p := ⟨b, off + j, none⟩) (by have := hbu5.size; simp only; omega)]; exact hcell5
          have hbu6 : Below w.heap.size w u6 := hbu5.trans (hb6.mono hbu5.size)
          have hbu16 : Below u1.heap.size u1 u6 := hbu15.trans (hb6.mono hbu15.size)
          clear ho6 hcell5
          go_wp2_with fail
          refine (sameBytes A1' A6' c1' c6' y y u6 ((hry.below hbu16).more hbu16.size) hr6).mono ?_
          rintro e w7 ⟨rfl, rfl⟩
          have hyy : (y == y) = true := by simp
          rw [hyy]
          clear hyy
          go_wp2
          go_roundw
          case rel => exact ⟨j + 1, by omega, by go_num, hbu6⟩
          case measure => simp [intOf]; omega
        · go_wp2_with fail
          refine (says_awake hbr).mono ?_
          rintro e w' ⟨rfl, hb⟩
          go_wp2
          go_ret
          exact ⟨rfl, hb⟩
end Go.Proofs.Ytoljigllnhenoaa
