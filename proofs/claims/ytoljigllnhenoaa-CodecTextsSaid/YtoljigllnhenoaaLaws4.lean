/- The walk of the law CodecSpoilt. -/
import Derived.Test.YtoljigllnhenoaaLaws1
import Derived.Test.YtoljigllnhenoaaPlain3
import Derived.StillTailTactics
namespace Go.Proofs.Ytoljigllnhenoaa
open Go.RowKit
theorem beFold_inj (a : List UInt8) : ∀ (b : List UInt8) (s t : Nat), a.length = b.length → a.foldl (fun s (c : UInt8) => s * 256 + c.toNat) s = b.foldl (fun s (c : UInt8) => s * 256 + c.toNat) t → s = t ∧ a = b := by
  induction a with
  | nil =>
    intro b s t hl h
    cases b with
    | nil => exact ⟨h, rfl⟩
    | cons d b => cases hl
  | cons c a ih =>
    intro b s t hl h
    cases b with
    | nil => cases hl
    | cons d b =>
      obtain ⟨h1, h2⟩ := ih b (s * 256 + c.toNat) (t * 256 + d.toNat) (by simpa using hl) h
      have := byte_lt c
      have := byte_lt d
      refine ⟨by omega, ?_⟩
      rw [h2, UInt8.toNat_inj.1 (show c.toNat = d.toNat by omega)]
theorem beN_inj {a b : List UInt8} (hl : a.length = b.length) (h : beN a = beN b) : a = b := (beFold_inj a b 0 0 hl h).2
theorem set_ne {l : List UInt8} {i : Nat} (hi : i < l.length) {d : UInt8} (hd : d ≠ l[i]) : l.set i d ≠ l := by
  intro h
  have h2 : (l.set i d)[i]? = l[i]? := by rw [h]
  rw [List.getElem?_set_self hi, List.getElem?_eq_getElem hi] at h2
  injection h2 with h2
  exact hd h2
theorem takeFrame_spoilt (k : Nat) (l : List UInt8) (hl : l.length ≤ 1000000) {i : Nat} (hi : i < (sealed k l).length) (h1 : 1 + (encN (zig l.length)).length ≤ i) {d : UInt8} (hd : d ≠ (sealed k l)[i]) :
    takeFrame ((sealed k l).set i d) = .error 29 := by
  have hlen := sealed_length k l
  have hH := sealHead_length k l
  have hset : ((sealed k l).set i d).length = (sealed k l).length := List.length_set
  have hq : 1 + (encN (zig l.length)).length + l.length = (sealHead k l).length := hH.symm
  have e0 : (sealed k l).set i d = UInt8.ofNat k :: (encN (zig l.length) ++ (l ++ four (crc (sealHead k l))).set (i - 1 - (encN (zig l.length)).length) d) := by
    obtain ⟨j, rfl⟩ : ∃ j, i = j + 1 := ⟨i - 1, by omega⟩
    rw [sealed_eq, List.set_cons_succ, List.set_append_right _ _ (by omega)]
    simp
  have hmain : beN ((((sealed k l).set i d).drop (1 + (encN (zig l.length)).length + l.length)).take 4) ≠ crc (((sealed k l).set i d).take (1 + (encN (zig l.length)).length + l.length)) := by
    rw [hq]
    have eT : (sealed k l).take (sealHead k l).length = sealHead k l := by unfold sealed; rw [List.take_left]
    have eD : (sealed k l).drop (sealHead k l).length = four (crc (sealHead k l)) := by unfold sealed; rw [List.drop_left]
    by_cases hiq : i < (sealHead k l).length
    · rw [List.drop_set, if_pos hiq, eD, List.take_of_length_le (by simp [four]), beN_four (crc_lt _), List.take_set, eT]
      refine fun h => crc_set hiq (d := d) ?_ h.symm
      have : (sealed k l)[i] = (sealHead k l)[i] := List.getElem_append_left hiq
      rw [← this]; exact hd
    · rw [List.drop_set, if_neg hiq, eD, List.take_of_length_le (by simp [four]), List.take_set, eT, List.set_eq_of_length_le (l := sealHead k l) (by omega)]
      intro h
      have hj : i - (sealHead k l).length < (four (crc (sealHead k l))).length := by show _ < 4; omega
      have h4 : d ≠ (four (crc (sealHead k l)))[i - (sealHead k l).length] := by
        have : (sealed k l)[i] = (four (crc (sealHead k l)))[i - (sealHead k l).length] := List.getElem_append_right (Nat.le_of_not_lt hiq)
        rw [← this]; exact hd
      refine set_ne hj h4 (beN_inj List.length_set ?_)
      rw [h, beN_four (crc_lt _)]
  rw [e0]
  unfold takeFrame
  simp only
  rw [takeLen_enc l.length (by omega)]
  simp only
  rw [← e0, if_neg (by omega), if_pos hmain]

theorem spoilt_idle (kd : Value) (A : Option Addr) (c : Nat) (n at_ by_ : Nat) (w : World) (h : 100 < n ∨ by_ = 0) (_hn : n ≤ 9223372036854775807) :
    Calls Try.prog 10 #[.agg #[kd, .slice A n c, .int .u8 at_, .int .u8 by_]] w (SaysTrue w) := by
  by_cases hl : 100 < n
  · have hl' : decide ((100 : Int) < (n : Int)) = true := by simp; omega
    go_enter Try.func10, Try.ntmps10
    go_wp2_with fail
    refine (says_awake ((Below.refl _ _).alloc (Nat.le_refl _) _)).mono ?_
    rintro e w' ⟨rfl, hb⟩
    go_wp2
    go_ret
    exact ⟨rfl, hb⟩
  · have hl' : decide ((100 : Int) < (n : Int)) = false := by simp; omega
    have hb0 : ((by_ : Int) == 0) = true := by rw [beq_iff_eq]; omega
    go_enter Try.func10, Try.ntmps10
    go_wp2_with fail
    refine (says_awake ((Below.refl _ _).alloc (Nat.le_refl _) _)).mono ?_
    rintro e w' ⟨rfl, hb⟩
    go_wp2
    go_ret
    exact ⟨rfl, hb⟩

set_option maxRecDepth 100000 in
set_option maxHeartbeats 2000000 in
theorem spoilt_any (k : Nat) (hk : k < 256) (A : Option Addr) (c : Nat) (l : List UInt8) (at_ by_ : Nat) (h1 : at_ < 256) (h2 : by_ < 256) (h3 : by_ ≠ 0) (w : World) (hr : Reads w w.heap.size 1 A l.length (bv l)) (hn : l.length ≤ 100) :
    Calls Try.prog 10 #[.agg #[.int .u8 k, .slice A l.length c, .int .u8 at_, .int .u8 by_]] w (SaysTrue w) := by
  obtain ⟨i0, hi0, hz0, hz1, hz2⟩ := info_parts byte_info
  have hl' : decide ((100 : Int) < (l.length : Int)) = false := by simp; omega
  have hb0 : ((by_ : Int) == 0) = false := by rw [beq_eq_false_iff_ne]; omega
  have hlen := sealed_length k l
  have hel := enc_len l.length (by omega)
  have hseal := fun w h => seal_any k (by omega) A c l w h (by omega)
  have hpos : 0 < (sealed k l).length := by omega
  have hmax : (sealed k l).length ≤ 200 := by omega
  have hmin : l.length + 4 ≤ (sealed k l).length := by omega
  have hmod : at_ % (l.length + 4) < l.length + 4 := Nat.mod_lt _ (by omega)
  obtain ⟨i, hi⟩ : ∃ i, i = (sealed k l).length - 1 - at_ % (l.length + 4) := ⟨_, rfl⟩
  have hil : i < (sealed k l).length := by omega
  obtain ⟨y, hy⟩ : ∃ y, y = (sealed k l)[i].toNat := ⟨_, rfl⟩
  have hyl : y < 256 := by rw [hy]; exact byte_lt _
  have hyc : (bv (sealed k l))[i]? = some (.int .u8 (y : Int)) := by rw [hy]; simp [bv, hil]
  have hfr := takeFrame_spoilt k l (by omega) hil (by omega) (d := UInt8.ofNat (y ^^^ by_)) (by
    have := xor_byte_ne hyl h2 h3
    rw [hy] at this ⊢
    rwa [UInt8.ofNat_toNat] at this)
  obtain ⟨x, hx⟩ : ∃ x, x = sealed k l := ⟨_, rfl⟩
  rw [← hx] at hpos hmax hmin hseal hil hyc hfr hi
  have hxx := u8_xor_nat y by_ hyl h2
  have hxl : y ^^^ by_ < 256 := Nat.xor_lt_two_pow (n := 8) hyl h2
  have HS := Lib.hid hseal
  have HFR := Lib.hid hfr
  have HYC := Lib.hid hyc
  have HI := Lib.hid hi
  have hb4 : decide ((x.length : Int) < (l.length : Int) + 4) = false := by simp; omega
  clear hseal hfr hyc hi hx hy hlen hel
  have hr1 := hr.alloc (Nat.le_refl _) (.cells #[.int .u8 (k : Int), .slice A l.length c, .int .u8 (at_ : Int), .int .u8 (by_ : Int)] 58)
  go_enter Try.func10, Try.ntmps10
  go_wp2_with fail
  refine (HS.out _ (hr1.more (by simp))).mono ?_
  rintro e w1 ⟨v1, rfl, hown1, hb1⟩
  obtain ⟨A1, c1, rfl, hc1, hrx⟩ := own_slice hown1
  have hblk : Blk w1 w.heap.size 58 #[.int .u8 (k : Int), .slice A l.length c, .int .u8 (at_ : Int), .int .u8 (by_ : Int)] := (Blk.new w 58 _).below hb1 (by simp)
  have hb01 : Below w.heap.size w w1 := ((Below.refl _ w).alloc (Nat.le_refl _) _).trans (hb1.mono (by simp))
  have q1 : w1.cell? ⟨w.heap.size, 0 + 1, none⟩ = some (.slice A l.length c) := hblk.cell 1
  have hrx' := hrx.alloc (Nat.le_refl _) (.cells #[] 5)
  go_wp2_with (at_builtin; refine wpList_append_any _ rfl (.tmp 32) (.tmp 33) 22 rfl w1.heap.size 5 i0 (.int .u8 0) 1 1 Try.underlying22 hi0 hz0 hz1 hz2 rfl (by decide) _ _ _ rfl (own_empty w1) w1.heap.size _ _ _ _ rfl hrx' (bv_one _) (by unfold maxLen; omega) (by omega) (by simp) ?_; intro v2 w2 hown2 hg2 hat2; simp only [Nat.zero_add, List.nil_append] at hown2; have hb12 : Below w1.heap.size w1 w2 := ((Below.refl _ w1).alloc (Nat.le_refl _) _).grown hg2 (by simp) (fun k hk => ((own_empty w1).lt k hk).1); clear hg2 hat2; obtain ⟨g, cap, rfl, hgb, hgl⟩ := hown2.form hpos)
  have hblk2 := hblk.below hb12 hblk.lt
  have p1 : w2.cell? ⟨w.heap.size, 0 + 1, none⟩ = some (.slice A l.length c) := hblk2.cell 1
  have p2 : w2.cell? ⟨w.heap.size, 0 + 2, none⟩ = some (.int .u8 (at_ : Int)) := hblk2.cell 2
  have p3 : w2.cell? ⟨w.heap.size, 0 + 3, none⟩ = some (.int .u8 (by_ : Int)) := hblk2.cell 3
  have hcell := hown2.cellAt i (by omega)
  rw [HYC.out] at hcell
  have hfz := hown2.frozenAt i
  obtain ⟨m, hm⟩ : ∃ m, m = at_ % (l.length + 4) := ⟨_, rfl⟩
  have hi' : i = x.length - 1 - m := by rw [hm]; exact HI.out
  have hml : m < l.length + 4 := by rw [hm]; exact hmod
  have e3' : (at_ : Int) % ((l.length : Int) + 4) = (m : Int) := by rw [hm, Int.natCast_emod]; rfl
  clear hm
  have e1 : IntKind.i64.wrap ((x.length : Int) - 1) = (x.length : Int) - 1 := IntWalk.i64_in _ (by omega)
  have e2 : IntKind.i64.wrap ((l.length : Int) + 4) = (l.length : Int) + 4 := IntWalk.i64_in _ (by omega)
  have e3 : (at_ : Int).tmod ((l.length : Int) + 4) = (m : Int) := by rw [Int.tmod_eq_emod_of_nonneg (by omega)]; exact e3'
  have e5 : (x.length : Int) - 1 - (m : Int) = (i : Int) := by omega
  have e6 : IntKind.i64.wrap (at_ : Int) = (at_ : Int) := IntWalk.i64_in _ (by omega)
  have e7 : IntKind.i64.wrap (m : Int) = (m : Int) := IntWalk.i64_in _ (by omega)
  have e8 : IntKind.i64.wrap (i : Int) = (i : Int) := IntWalk.i64_in _ (by omega)
  clear hi'
  have hd0 : ¬ ((l.length : Int) + 4 = 0) := by omega
  have hx0 : (0 : Int) ≤ (i : Int) := by omega
  have hx1 : (i : Int) < (x.length : Int) := by omega
  go_still_tail 19, (by kernel_rfl)
  change wpList _ _ _ _ _ w2.drew
  clear e1 e2 e3 e3' e5 e6 e7 e8 p1 p2 p3
  have hcell' : w2.drew.cell? ⟨g, i, none⟩ = some (.int .u8 (y : Int)) := hcell
  have hfz' : w2.drew.frozen? ⟨g, i, none⟩ = false := hfz
  have hown3 := (World.ownsRow.stored (w := w2.drew) hown2 i (.int .u8 ((y ^^^ by_ : Nat) : Int))).1
  rw [bv_set _ _ _ hxl] at hown3
  have hsl : (x.set i (UInt8.ofNat (y ^^^ by_))).length = x.length := List.length_set
  have hb3 : Below w.heap.size w (w2.drew.setCell ⟨g, i, none⟩ (.int .u8 ((y ^^^ by_ : Nat) : Int))) := ((hb01.trans (hb12.mono hb01.size)).drew).setCell (p := ⟨g, i, none⟩) (Nat.le_trans hb01.size hgb) _
  have hcap : x.length ≤ cap := by
    obtain ⟨A', c', he, hc', _⟩ := own_slice hown2
    injection he with _ _ he
    omega
  clear hcell hfz hown2 hblk2 hblk q1 hrx' hrx hr1 hown1
  go_wp2_with fail
  have hop := open_no (some ⟨g, 0, none⟩) cap (x.set i (UInt8.ofNat (y ^^^ by_))) 29 _ (by rw [hsl]; exact Reads.of_own hown3) (by rw [hsl]; omega) (by rw [hsl]; exact hcap) HFR.out
  rw [hsl] at hop
  refine hop.mono ?_
  clear hop
  rintro e w4 ⟨rfl, hb4⟩
  have hb04 : Below w.heap.size w w4 := hb3.trans (hb4.mono hb3.size)
  clear hb4 hown3 hsl
  go_wp2_with fail
  refine (says_awake hb04).mono ?_
  rintro e w' ⟨rfl, hb⟩
  go_wp2
  go_ret
  exact ⟨rfl, hb⟩
end Go.Proofs.Ytoljigllnhenoaa
