/- The walk of the law CodecOpens. -/
import Derived.Test.YtoljigllnhenoaaRefOpen2
namespace Go.Proofs.Ytoljigllnhenoaa
open Go.RowKit
/-- what both Opens give at l -/
def frameOut (l : List UInt8) : Int × List UInt8 × Int × Int :=
  match takeFrame l with
  | .ok (k, t, s) => ((k : Int), t, (s : Int), 0)
  | .error e => (0, [], 0, e)
def OpenOut (l : List UInt8) (w : World) (e : Ending) (w' : World) : Prop :=
  ∃ v, e = .returned (.tuple #[.int .i64 (frameOut l).1, v, .int .i64 (frameOut l).2.2.1, .int .i64 (frameOut l).2.2.2]) ∧ w'.ownsRow w.heap.size 5 1 v (frameOut l).2.1.length (bv (frameOut l).2.1) ∧ Below w.heap.size w w'
theorem frameOut_no {l : List UInt8} {er : Int} (hz : takeFrame l = .error er) : frameOut l = (0, [], 0, er) := by unfold frameOut; rw [hz]
theorem frameOut_yes {l t : List UInt8} {k s : Nat} (hz : takeFrame l = .ok (k, t, s)) : frameOut l = ((k : Int), t, (s : Int), 0) := by unfold frameOut; rw [hz]
theorem post_no {l : List UInt8} {er : Int} {w w' : World} {e : Ending} (hz : takeFrame l = .error er) (h : e = .returned (.tuple #[.int .i64 0, .slice none 0 0, .int .i64 0, .int .i64 er]) ∧ Below w.heap.size w w') : OpenOut l w e w' := by
  unfold OpenOut
  rw [frameOut_no hz]
  exact ⟨_, h.1, World.ownsRow_nil w' w.heap.size 5 1, h.2⟩
theorem post_yes {l t : List UInt8} {k s : Nat} {w w' : World} {e : Ending} (hz : takeFrame l = .ok (k, t, s)) (h : ∃ v, e = .returned (.tuple #[.int .i64 k, v, .int .i64 s, .int .i64 0]) ∧ w'.ownsRow w.heap.size 5 1 v t.length (bv t) ∧ Below w.heap.size w w') : OpenOut l w e w' := by
  unfold OpenOut
  rw [frameOut_yes hz]
  exact h
theorem open_out (A : Option Addr) (c : Nat) (l : List UInt8) (w : World) (h : Reads w w.heap.size 1 A l.length (bv l)) (hl : l.length ≤ 1000000) (hlc : l.length ≤ c) :
    Calls Try.prog 31 #[.slice A l.length c] w (OpenOut l w) := by
  cases hz : takeFrame l with
  | error er => exact (open_no A c l er w h (by omega) hlc hz).mono fun e w' hp => post_no hz hp
  | ok r => obtain ⟨k, t, s⟩ := r; exact (open_yes A c l k s t w h (by omega) hlc hz).mono fun e w' hp => post_yes hz hp
theorem refOpen_out (A : Option Addr) (c : Nat) (l : List UInt8) (w : World) (h : Reads w w.heap.size 1 A l.length (bv l)) (hl : l.length ≤ 1000000) (hlc : l.length ≤ c) :
    Calls Try.prog 32 #[.slice A l.length c] w (OpenOut l w) := by
  by_cases h0 : l.length = 0
  · obtain rfl : l = [] := List.eq_nil_of_length_eq_zero h0
    exact (refOpen_none A c w).mono fun e w' hp => post_no rfl hp
  have hpos : 0 < l.length := by omega
  obtain ⟨b, off, rfl, _, _⟩ := reads_byte (k := 0) h hpos
  obtain ⟨x, t, rfl⟩ : ∃ x t, l = x :: t := by cases l with | nil => cases hpos | cons x t => exact ⟨x, t, rfl⟩
  cases hz : takeZ 0 0 t with
  | error er =>
    exact (refOpen_num b off c _ er w h hpos hl hlc hz).mono fun e w' hp => post_no (by simp only [takeFrame, takeLen, hz]) hp
  | ok r =>
    obtain ⟨z, j⟩ := r
    by_cases hodd : z % 2 = 1
    · exact (refOpen_neg b off c _ z j w h hpos hl hlc hz hodd).mono fun e w' hp => post_no (by simp only [takeFrame, takeLen, hz, if_pos hodd]) hp
    · have hu : unzig z = ((z / 2 : Nat) : Int) := by unfold unzig; rw [if_neg hodd]
      have htl : takeLen t = .ok (z / 2, j) := by simp only [takeLen, hz, if_neg hodd]
      by_cases hs : (x :: t).length < 1 + j + z / 2 + 4
      · have hzl := takeZ_lt t (by omega) (by simp) hz
        exact (refOpen_short b off c _ z j (z / 2) w h hpos hl hlc hz hu (by omega) hs).mono fun e w' hp => post_no (by simp only [takeFrame, htl, if_pos hs]) hp
      · by_cases hq : beN (((x :: t).drop (1 + j + z / 2)).take 4) = crc ((x :: t).take (1 + j + z / 2))
        · refine (refOpen_good b off c _ z j (z / 2) w h hpos hl hlc hz hu hs hq).mono fun e w' hp => ?_
          obtain ⟨hb, v, he, ho⟩ := hp
          exact post_yes (by simp only [takeFrame, htl, if_neg hs]; rw [if_neg (by simpa using hq)]; rfl) ⟨v, he, ho, hb⟩
        · refine (refOpen_bad b off c _ z j (z / 2) w h hpos hl hlc hz hu hs hq).mono fun e w' hp => ?_
          exact post_no (by simp only [takeFrame, htl, if_neg hs]; rw [if_pos (by simpa using hq)]) hp
theorem opens_long (A : Option Addr) (n c : Nat) (m : Bool) (w : World) (h : 200 < n) (_hn : n ≤ 9223372036854775807) :
    Calls Try.prog 9 #[.slice A n c, .bool m] w (SaysTrue w) := by
  have hl' : decide ((200 : Int) < (n : Int)) = true := by simp; omega
  go_enter Try.func9, Try.ntmps9
  go_wp2_with fail
  refine (says_awake (Below.refl _ _)).mono ?_
  rintro e w' ⟨rfl, hb⟩
  go_wp2
  go_ret
  exact ⟨rfl, hb⟩

theorem out_parts (l : List UInt8) : ∃ (p q r : Int) (t : List UInt8), (∀ (A : Option Addr) (c : Nat) (w : World), Reads w w.heap.size 1 A l.length (bv l) → l.length ≤ 1000000 → l.length ≤ c → ∀ f, (f = 31 ∨ f = 32) → Calls Try.prog f #[.slice A l.length c] w fun e w' => ∃ v, e = .returned (.tuple #[.int .i64 p, v, .int .i64 q, .int .i64 r]) ∧ w'.ownsRow w.heap.size 5 1 v t.length (bv t) ∧ Below w.heap.size w w') := by
  refine ⟨(frameOut l).1, (frameOut l).2.2.1, (frameOut l).2.2.2, (frameOut l).2.1, ?_⟩
  rintro A c w h1 h2 h3 f (rfl | rfl)
  · exact open_out A c l w h1 h2 h3
  · exact refOpen_out A c l w h1 h2 h3

set_option maxRecDepth 100000 in
set_option maxHeartbeats 2000000 in
theorem opens_bare (A : Option Addr) (c : Nat) (l : List UInt8) (w : World) (hr : Reads w w.heap.size 1 A l.length (bv l)) (hn : l.length ≤ 200) :
    Calls Try.prog 9 #[.slice A l.length c, .bool false] w (SaysTrue w) := by
  obtain ⟨i0, hi0, hz0, hz1, hz2⟩ := info_parts byte_info
  have hl' : decide ((200 : Int) < (l.length : Int)) = false := by simp; omega
  have hr' := hr.alloc (Nat.le_refl _) (.cells #[] 5)
  go_enter Try.func9, Try.ntmps9
  go_wp2_with (at_builtin; refine wpList_append_any _ rfl (.tmp 20) (.tmp 21) 22 rfl w.heap.size 5 i0 (.int .u8 0) 1 1 Try.underlying22 hi0 hz0 hz1 hz2 rfl (by decide) _ _ _ rfl (own_empty w) w.heap.size A _ c _ rfl hr' (bv_one _) (by unfold maxLen; omega) (by omega) (by simp) ?_; (intro v2 w2 hown2 hg2 hat2; simp only [Nat.zero_add, List.nil_append] at hown2; have hbel : Below w.heap.size w w2 := ((Below.refl _ w).alloc (Nat.le_refl _) _).grown hg2 (by simp) (fun k hk => ((own_empty w).lt k hk).1); clear hg2 hat2; obtain ⟨A2, c2, rfl, hcc2, hr2⟩ := own_slice hown2))
  obtain ⟨p, q, r, t, hout⟩ := out_parts l
  have h31 := hout A2 c2 w2 hr2 (by omega) hcc2 31 (.inl rfl)
  refine h31.mono ?_
  clear h31
  rintro e w3 ⟨v3, rfl, hown3, hb3⟩
  obtain ⟨A3, c3, rfl, hcc3, hr3⟩ := own_slice hown3
  have h32 := hout A2 c2 w3 ((hr2.below hb3).more hb3.size) (by omega) hcc2 32 (.inr rfl)
  go_wp2_with fail
  refine h32.mono ?_
  clear h32 hout
  rintro e w4 ⟨v4, rfl, hown4, hb4⟩
  obtain ⟨A4, c4, rfl, hcc4, hr4⟩ := own_slice hown4
  have hsame := sameBytes A3 A4 c3 c4 t t w4 ((hr3.below hb4).more hb4.size) hr4
  rw [beq_self_eq_true] at hsame
  have hbe : Below w.heap.size w w4 := hbel.trans ((hb3.trans (hb4.mono hb3.size)).mono hbel.size)
  go_wp2_with fail
  refine hsame.mono ?_
  clear hsame
  rintro e w5 ⟨rfl, rfl⟩
  go_wp2_with fail
  refine (says_awake hbe).mono ?_
  rintro e w' ⟨rfl, hb⟩
  go_wp2
  go_ret
  exact ⟨rfl, hb⟩

set_option maxRecDepth 100000 in
set_option maxHeartbeats 2000000 in
theorem opens_few (A : Option Addr) (c : Nat) (l : List UInt8) (w : World) (hr : Reads w w.heap.size 1 A l.length (bv l)) (hn : l.length ≤ 200) (h4 : l.length < 4) :
    Calls Try.prog 9 #[.slice A l.length c, .bool true] w (SaysTrue w) := by
  obtain ⟨i0, hi0, hz0, hz1, hz2⟩ := info_parts byte_info
  have hl' : decide ((200 : Int) < (l.length : Int)) = false := by simp; omega
  have h4' : decide ((4 : Int) ≤ (l.length : Int)) = false := by simp; omega
  have hr' := hr.alloc (Nat.le_refl _) (.cells #[] 5)
  go_enter Try.func9, Try.ntmps9
  go_wp2_with (at_builtin; refine wpList_append_any _ rfl (.tmp 20) (.tmp 21) 22 rfl w.heap.size 5 i0 (.int .u8 0) 1 1 Try.underlying22 hi0 hz0 hz1 hz2 rfl (by decide) _ _ _ rfl (own_empty w) w.heap.size A _ c _ rfl hr' (bv_one _) (by unfold maxLen; omega) (by omega) (by simp) ?_; (intro v2 w2 hown2 hg2 hat2; simp only [Nat.zero_add, List.nil_append] at hown2; have hbel : Below w.heap.size w w2 := ((Below.refl _ w).alloc (Nat.le_refl _) _).grown hg2 (by simp) (fun k hk => ((own_empty w).lt k hk).1); clear hg2 hat2; obtain ⟨A2, c2, rfl, hcc2, hr2⟩ := own_slice hown2))
  obtain ⟨p, q, r, t, hout⟩ := out_parts l
  have h31 := hout A2 c2 w2 hr2 (by omega) hcc2 31 (.inl rfl)
  refine h31.mono ?_
  clear h31
  rintro e w3 ⟨v3, rfl, hown3, hb3⟩
  obtain ⟨A3, c3, rfl, hcc3, hr3⟩ := own_slice hown3
  have h32 := hout A2 c2 w3 ((hr2.below hb3).more hb3.size) (by omega) hcc2 32 (.inr rfl)
  go_wp2_with fail
  refine h32.mono ?_
  clear h32 hout
  rintro e w4 ⟨v4, rfl, hown4, hb4⟩
  obtain ⟨A4, c4, rfl, hcc4, hr4⟩ := own_slice hown4
  have hsame := sameBytes A3 A4 c3 c4 t t w4 ((hr3.below hb4).more hb4.size) hr4
  rw [beq_self_eq_true] at hsame
  have hbe : Below w.heap.size w w4 := hbel.trans ((hb3.trans (hb4.mono hb3.size)).mono hbel.size)
  go_wp2_with fail
  refine hsame.mono ?_
  clear hsame
  rintro e w5 ⟨rfl, rfl⟩
  go_wp2_with fail
  refine (says_awake hbe).mono ?_
  rintro e w' ⟨rfl, hb⟩
  go_wp2
  go_ret
  exact ⟨rfl, hb⟩

theorem u8_wrap (z : Int) : ∃ y : Nat, y < 256 ∧ IntKind.u8.wrap z = (y : Int) := by
  refine ⟨(z % 256).toNat, by omega, ?_⟩
  show z % 256 = _
  omega
/-- x after some of the four stores -/
def MendRel (w : World) (n g cap : Nat) (i : Value) (W : World) : Prop :=
  ∃ k : Nat, k ≤ 4 ∧ i = .int .i64 (k : Int) ∧ ∃ l' : List UInt8, l'.length = n ∧ Below w.heap.size w W ∧ W.ownsRow w.heap.size 5 1 (.slice (some ⟨g, 0, none⟩) n cap) n (bv l')
set_option maxRecDepth 100000 in
set_option maxHeartbeats 2000000 in
theorem opens_mend (A : Option Addr) (c : Nat) (l : List UInt8) (w : World) (hr : Reads w w.heap.size 1 A l.length (bv l)) (hn : l.length ≤ 200) (h4 : 4 ≤ l.length) :
    Calls Try.prog 9 #[.slice A l.length c, .bool true] w (SaysTrue w) := by
  obtain ⟨i0, hi0, hz0, hz1, hz2⟩ := info_parts byte_info
  have hl' : decide ((200 : Int) < (l.length : Int)) = false := by simp; omega
  have h4' : decide ((4 : Int) ≤ (l.length : Int)) = true := by simp; omega
  have hr' := hr.alloc (Nat.le_refl _) (.cells #[] 5)
  have hpos : 0 < l.length := by omega
  go_enter Try.func9, Try.ntmps9
  go_wp2_with (at_builtin; refine wpList_append_any _ rfl (.tmp 20) (.tmp 21) 22 rfl w.heap.size 5 i0 (.int .u8 0) 1 1 Try.underlying22 hi0 hz0 hz1 hz2 rfl (by decide) _ _ _ rfl (own_empty w) w.heap.size A _ c _ rfl hr' (bv_one _) (by unfold maxLen; omega) (by omega) (by simp) ?_; (intro v2 w2 hown2 hg2 hat2; simp only [Nat.zero_add, List.nil_append] at hown2; have hbel : Below w.heap.size w w2 := ((Below.refl _ w).alloc (Nat.le_refl _) _).grown hg2 (by simp) (fun k hk => ((own_empty w).lt k hk).1); clear hg2 hat2; obtain ⟨g, cap, rfl, hgb, hgl⟩ := hown2.form hpos; obtain ⟨A', c', hec, hcap, hr2⟩ := own_slice hown2; injection hec with hec1 _ hec2; obtain rfl := hec1; obtain rfl := hec2; have hcap' : (l.length : Int) - 4 ≤ (cap : Int) := by omega))
  have hrt := reads_take hr2 (j := l.length - 4) (by omega)
  have htl : (l.take (l.length - 4)).length = l.length - 4 := by rw [List.length_take]; omega
  have hsum := refsum_any (some ⟨g, 0, none⟩) cap (l.take (l.length - 4)) w2 hrt (by omega)
  rw [htl] at hsum
  have hcrc := crc_lt (l.take (l.length - 4))
  generalize crc (l.take (l.length - 4)) = y at *
  refine hsum.mono ?_
  clear hsum hrt
  rintro e w3 ⟨rfl, rfl⟩
  go_wp2
  go_loopw [7] (fun i wr => MendRel w l.length g cap i wr) (fun i _ => 4 - (intOf i).toNat)
  case atStart => exact ⟨0, by omega, rfl, l, rfl, hbel, hown2⟩
  case round =>
    obtain ⟨k, hk, rfl, l2, hl2, hbel2, hown3⟩ := hrel
    by_cases hk4 : k = 4
    · subst hk4
      have hcc2 := hcap
      have hr2 := Reads.of_own hown3
      have hbel := hbel2
      have hlen : l2.length ≤ 200 := by omega
      clear hbel2 hown3
      rw [← hl2] at hcc2 hr2
      obtain ⟨p, q, r, t, hout⟩ := out_parts l2
      have h31 := hout (some ⟨g, 0, none⟩) cap wr hr2 (by omega) hcc2 31 (.inl rfl)
      rw [hl2] at h31
      go_wp2_with fail
      refine h31.mono ?_
      clear h31
      rintro e w3 ⟨v3, rfl, hown3, hb3⟩
      obtain ⟨A3, c3, rfl, hcc3, hr3⟩ := own_slice hown3
      have h32 := hout (some ⟨g, 0, none⟩) cap w3 ((hr2.below hb3).more hb3.size) (by omega) hcc2 32 (.inr rfl)
      rw [hl2] at h32
      go_wp2_with fail
      refine h32.mono ?_
      clear h32 hout
      rintro e w4 ⟨v4, rfl, hown4, hb4⟩
      obtain ⟨A4, c4, rfl, hcc4, hr4⟩ := own_slice hown4
      have hsame := sameBytes A3 A4 c3 c4 t t w4 ((hr3.below hb4).more hb4.size) hr4
      rw [beq_self_eq_true] at hsame
      have hbe : Below w.heap.size w w4 := hbel.trans ((hb3.trans (hb4.mono hb3.size)).mono hbel.size)
      go_wp2_with fail
      refine hsame.mono ?_
      clear hsame
      rintro e w5 ⟨rfl, rfl⟩
      go_wp2_with fail
      refine (says_awake hbe).mono ?_
      rintro e w' ⟨rfl, hb⟩
      go_wp2
      go_ret
      exact ⟨rfl, hb⟩
    have hk5 : k = 0 ∨ k = 1 ∨ k = 2 ∨ k = 3 := by omega
    obtain ⟨i, hi⟩ : ∃ i, i = l.length - 1 - k := ⟨_, rfl⟩
    have hil : i < l2.length := by omega
    have hcell := hown3.cellAt i (by omega)
    have hfz := hown3.frozenAt i
    have hcy : (bv l2)[i]? = some (.int .u8 (l2[i].toNat : Int)) := by simp [bv, hil]
    rw [hcy] at hcell
    generalize (l2[i].toNat : Int) = old at *
    clear hcy
    have hx0 : (0 : Int) ≤ (i : Int) := by omega
    have hx1 : (i : Int) < (l.length : Int) := by omega
    have hstep : ∀ y' : Nat, y' < 256 → MendRel w l.length g cap (.int .i64 ((k + 1 : Nat) : Int)) (wr.setCell ⟨g, i, none⟩ (.int .u8 (y' : Int))) := by
      intro y' hy'
      refine ⟨k + 1, by omega, rfl, l2.set i (UInt8.ofNat y'), by rw [List.length_set, hl2], hbel2.setCell (p := ⟨g, i, none⟩) hgb _, ?_⟩
      have := (World.ownsRow.stored (w := wr) hown3 i (.int .u8 (y' : Int))).1
      rwa [bv_set _ _ _ hy'] at this
    have HST := Lib.hid hstep
    clear hstep
    rcases hk5 with rfl | rfl | rfl | rfl
    · have e5 : (l.length : Int) - 1 = (i : Int) := by omega
      clear hi
      go_wp2
      clear e5
      have e6 : (y : Int) % 256 = (((y % 256 : Nat)) : Int) := by omega
      rw [e6]
      exact ⟨HST.out _ (by omega), by simp [intOf]⟩
    · have e5 : (l.length : Int) - 1 - 1 = (i : Int) := by omega
      clear hi
      go_wp2
      clear e5
      have e6 : (y : Int) / 256 % 256 = (((y / 256 % 256 : Nat)) : Int) := by omega
      rw [e6]
      exact ⟨HST.out _ (by omega), by simp [intOf]⟩
    · have e5 : (l.length : Int) - 1 - 2 = (i : Int) := by omega
      clear hi
      go_wp2
      clear e5
      have e6 : (y : Int) / 65536 % 256 = (((y / 65536 % 256 : Nat)) : Int) := by omega
      rw [e6]
      exact ⟨HST.out _ (by omega), by simp [intOf]⟩
    · have e5 : (l.length : Int) - 1 - 3 = (i : Int) := by omega
      clear hi
      go_wp2
      clear e5
      have e6 : (y : Int) / 16777216 = (((y / 16777216 : Nat)) : Int) := by omega
      rw [e6]
      exact ⟨HST.out _ (by omega), by simp [intOf]⟩
end Go.Proofs.Ytoljigllnhenoaa
