import Derived.Test.YtoljigllnhenoaaRefOpen
namespace Go.Proofs.Ytoljigllnhenoaa
open Go.RowKit
set_option maxRecDepth 100000 in
set_option maxHeartbeats 2000000 in
theorem refOpen_bad (b off : Nat) (c : Nat) (l : List UInt8) (z j n : Nat) (w : World) (h : Reads w w.heap.size 1 (some ⟨b, off, none⟩) l.length (bv l)) (h0 : 0 < l.length) (hl : l.length ≤ 1000000) (hlc : l.length ≤ c) (hz : takeZ 0 0 (l.drop 1) = .ok (z, j)) (hu : unzig z = (n : Int)) (hs : ¬ l.length < 1 + j + n + 4) (hq : ¬ beN ((l.drop (1 + j + n)).take 4) = crc (l.take (1 + j + n))) :
    Calls Try.prog 32 #[.slice (some ⟨b, off, none⟩) l.length c] w fun e w' => e = .returned (.tuple #[.int .i64 0, .slice none 0 0, .int .i64 0, .int .i64 29]) ∧ Below w.heap.size w w' := by
  obtain ⟨i0, hi0, hz0, hz1, hz2⟩ := info_parts byte_info
  have hn := (tailNum h hlc h0 hl).mono fun e w' hp => refNum_ok hz hp
  have hle := takeZ_le _ hz
  rw [List.length_drop] at hle
  have hl0 : ((l.length : Int) == 0) = false := by rw [beq_eq_false_iff_ne]; omega
  have hl1 : (1 : Int) ≤ (l.length : Int) := by omega
  have hc1 : ¬ c = 1 := by omega
  rw [if_neg hc1, Option.map_some, addr_add, hu] at hn
  have hn0 : ¬ ((n : Int) < 0) := by omega
  have h4b : decide ((l.length : Int) - (1 + (j : Int)) < 4) = false := by simp; omega
  have h5b : decide ((l.length : Int) - (1 + (j : Int)) - 4 < (n : Int)) = false := by simp; omega
  have HN := Lib.hid hn
  clear hn hz hu
  have hpn : 1 + j + n + 4 ≤ l.length := by omega
  have hXr := reads_take h (j := 1 + j + n) (by omega)
  have hXl : (l.take (1 + j + n)).length = 1 + j + n := by rw [List.length_take]; omega
  have hTr := reads_sub (p := 1 + j + n) (n := 4) h hlc (by omega)
  have hTl : ((l.drop (1 + j + n)).take 4).length = 4 := sub_length (by omega)
  rw [if_neg (by omega), Option.map_some, addr_add, hTl] at hTr
  rw [hXl] at hXr
  obtain ⟨X, hX⟩ : ∃ X, X = l.take (1 + j + n) := ⟨_, rfl⟩
  obtain ⟨T, hT⟩ : ∃ T, T = (l.drop (1 + j + n)).take 4 := ⟨_, rfl⟩
  rw [← hX] at hXl hXr
  rw [← hT] at hTl hTr
  have hcrc := crc_lt X
  have HX := Lib.hid hX
  have HT := Lib.hid hT
  have HXL := Lib.hid hXl
  have HTL := Lib.hid hTl
  clear hX hT hXl hTl
  have HSUM : ∀ W : World, W.heap = w.heap → Calls Try.prog 17 #[.slice (some ⟨b, off, none⟩) (1 + j + n) c] W fun e w' => e = .returned (.int .i64 (crc X)) ∧ W = w' := by
    intro W hW
    have := refsum_any (some ⟨b, off, none⟩) c X W (by rw [HXL.out, hW]; exact reads_heap hW hXr) (by rw [HXL.out]; omega)
    rwa [HXL.out] at this
  have HSUM := Lib.hid HSUM
  have HSAME : ∀ (A1 : Option Addr) (c1 : Nat) (W : World), Reads W W.heap.size 1 A1 (four (crc X)).length (bv (four (crc X))) → Below w.heap.size w.drew W → Calls Try.prog 14 #[.slice A1 (four (crc X)).length c1, .slice (some ⟨b, off + (1 + j + n), none⟩) 4 (c - (1 + j + n))] W fun e w' => e = .returned (.bool (decide (beN T = crc X))) ∧ W = w' := by
    intro A1 c1 W hr hb
    have := sameBytes A1 (some ⟨b, off + (1 + j + n), none⟩) c1 (c - (1 + j + n)) (four (crc X)) T W hr (by rw [HTL.out]; exact (hTr.drew.below hb).more hb.size)
    rwa [HTL.out, four_same HTL.out] at this
  rw [← HX.out, ← HT.out] at hq
  rw [decide_eq_false hq] at HSAME
  have HSAME := Lib.hid HSAME
  clear hq
  have e1 : IntKind.i64.wrap (1 + (j : Int) + (n : Int)) = 1 + (j : Int) + (n : Int) := IntWalk.i64_in _ (by omega)
  have e2 : IntKind.i64.wrap (1 + (j : Int) + (n : Int) + 4) = 1 + (j : Int) + (n : Int) + 4 := IntWalk.i64_in _ (by omega)
  have e3 : (1 + (j : Int) + (n : Int)).toNat = 1 + j + n := by omega
  have e4 : (1 + (j : Int) + (n : Int) + 4).toNat = 1 + j + n + 4 := by omega
  have hx0 : (0 : Int) ≤ 1 + (j : Int) + (n : Int) := by omega
  have hx1 : 1 + (j : Int) + (n : Int) ≤ 1 + (j : Int) + (n : Int) + 4 := by omega
  have hx2 : 1 + (j : Int) + (n : Int) + 4 ≤ (c : Int) := by omega
  have hx3 : 1 + (j : Int) + (n : Int) ≤ (c : Int) := by omega
  have hcq : ¬ c = 1 + j + n := by omega
  have hc0 : ¬ c = 0 := by omega
  go_enter Try.func32, Try.ntmps32
  go_wp2_with fail
  refine HN.out.mono ?_
  rintro e w' ⟨rfl, rfl⟩
  go_wp2
  go_region_with (first
    | (go_at_call 17; refine (HSUM.out _ ?_).mono ?_; exact rfl; rintro e w' ⟨rfl, rfl⟩)
    | (go_at_call 40; refine (four_any (crc X) _ hcrc).mono ?_; rintro e w1 ⟨v1, rfl, hown1, hb1⟩; obtain ⟨A1, c1, rfl, hcc1, hr1⟩ := own_slice hown1)
    | (go_at_call 14; refine (HSAME.out A1 c1 w1 hr1 hb1).mono ?_; rintro e w' ⟨rfl, rfl⟩))
  all_goals go_wp2
  all_goals exact bodyPost_ret (v := .tuple #[.int .i64 0, .slice none 0 0, .int .i64 0, .int .i64 29]) (by simp [results, Try.results32]) rfl ⟨rfl, (Below.refl _ _).drew.trans hb1⟩

set_option maxRecDepth 100000 in
set_option maxHeartbeats 2000000 in
theorem refOpen_good (b off : Nat) (c : Nat) (l : List UInt8) (z j n : Nat) (w : World) (h : Reads w w.heap.size 1 (some ⟨b, off, none⟩) l.length (bv l)) (h0 : 0 < l.length) (hl : l.length ≤ 1000000) (hlc : l.length ≤ c) (hz : takeZ 0 0 (l.drop 1) = .ok (z, j)) (hu : unzig z = (n : Int)) (hs : ¬ l.length < 1 + j + n + 4) (hq : beN ((l.drop (1 + j + n)).take 4) = crc (l.take (1 + j + n))) :
    Calls Try.prog 32 #[.slice (some ⟨b, off, none⟩) l.length c] w fun e w' => Below w.heap.size w w' ∧ ∃ v, e = .returned (.tuple #[.int .i64 (l[0].toNat : Int), v, .int .i64 ((1 + j + n + 4 : Nat) : Int), .int .i64 0]) ∧ w'.ownsRow w.heap.size 5 1 v ((l.drop (1 + j)).take n).length (bv ((l.drop (1 + j)).take n)) := by
  obtain ⟨i0, hi0, hz0, hz1, hz2⟩ := info_parts byte_info
  have hn := (tailNum h hlc h0 hl).mono fun e w' hp => refNum_ok hz hp
  have hle := takeZ_le _ hz
  rw [List.length_drop] at hle
  have hl0 : ((l.length : Int) == 0) = false := by rw [beq_eq_false_iff_ne]; omega
  have hl1 : (1 : Int) ≤ (l.length : Int) := by omega
  have hc1 : ¬ c = 1 := by omega
  rw [if_neg hc1, Option.map_some, addr_add, hu] at hn
  have hn0 : ¬ ((n : Int) < 0) := by omega
  have h4b : decide ((l.length : Int) - (1 + (j : Int)) < 4) = false := by simp; omega
  have h5b : decide ((l.length : Int) - (1 + (j : Int)) - 4 < (n : Int)) = false := by simp; omega
  have HN := Lib.hid hn
  clear hn hz hu
  have hpn : 1 + j + n + 4 ≤ l.length := by omega
  have hXr := reads_take h (j := 1 + j + n) (by omega)
  have hXl : (l.take (1 + j + n)).length = 1 + j + n := by rw [List.length_take]; omega
  have hTr := reads_sub (p := 1 + j + n) (n := 4) h hlc (by omega)
  have hTl : ((l.drop (1 + j + n)).take 4).length = 4 := sub_length (by omega)
  rw [if_neg (by omega), Option.map_some, addr_add, hTl] at hTr
  rw [hXl] at hXr
  obtain ⟨X, hX⟩ : ∃ X, X = l.take (1 + j + n) := ⟨_, rfl⟩
  obtain ⟨T, hT⟩ : ∃ T, T = (l.drop (1 + j + n)).take 4 := ⟨_, rfl⟩
  rw [← hX] at hXl hXr
  rw [← hT] at hTl hTr
  have hcrc := crc_lt X
  have HX := Lib.hid hX
  have HT := Lib.hid hT
  have HXL := Lib.hid hXl
  have HTL := Lib.hid hTl
  clear hX hT hXl hTl
  have HSUM : ∀ W : World, W.heap = w.heap → Calls Try.prog 17 #[.slice (some ⟨b, off, none⟩) (1 + j + n) c] W fun e w' => e = .returned (.int .i64 (crc X)) ∧ W = w' := by
    intro W hW
    have := refsum_any (some ⟨b, off, none⟩) c X W (by rw [HXL.out, hW]; exact reads_heap hW hXr) (by rw [HXL.out]; omega)
    rwa [HXL.out] at this
  have HSUM := Lib.hid HSUM
  have HSAME : ∀ (A1 : Option Addr) (c1 : Nat) (W : World), Reads W W.heap.size 1 A1 (four (crc X)).length (bv (four (crc X))) → Below w.heap.size w.drew W → Calls Try.prog 14 #[.slice A1 (four (crc X)).length c1, .slice (some ⟨b, off + (1 + j + n), none⟩) 4 (c - (1 + j + n))] W fun e w' => e = .returned (.bool (decide (beN T = crc X))) ∧ W = w' := by
    intro A1 c1 W hr hb
    have := sameBytes A1 (some ⟨b, off + (1 + j + n), none⟩) c1 (c - (1 + j + n)) (four (crc X)) T W hr (by rw [HTL.out]; exact (hTr.drew.below hb).more hb.size)
    rwa [HTL.out, four_same HTL.out] at this
  rw [← HX.out, ← HT.out] at hq
  rw [decide_eq_true hq] at HSAME
  have HSAME := Lib.hid HSAME
  clear hq
  obtain ⟨b', off', hA', hbb', hcell0⟩ := reads_byte (k := 0) h h0
  simp only [Option.some.injEq, Addr.mk.injEq, and_true] at hA'
  obtain ⟨rfl, rfl⟩ := hA'
  rw [Nat.add_zero] at hcell0
  have hk0 := (l[0]).toNat_lt
  generalize (l[0]).toNat = k0 at *
  have ek : IntKind.i64.wrap (k0 : Int) = (k0 : Int) := IntWalk.i64_in _ (by omega)
  have hsub := reads_sub (p := 1 + j) (n := n) h hlc (by omega)
  have hsubl : ((l.drop (1 + j)).take n).length = n := sub_length (by omega)
  rw [hsubl, if_neg (by omega), Option.map_some, addr_add] at hsub
  rw [hsubl]
  have hcj : ¬ c = 1 + j := by omega
  have hy0 : (0 : Int) ≤ 1 + (j : Int) := by omega
  have hy1 : 1 + (j : Int) ≤ 1 + (j : Int) + (n : Int) := by omega
  have hy2 : (1 + (j : Int)).toNat = 1 + j := by omega
  have hy3 : 1 + j + n - (1 + j) = n := by omega
  generalize (l.drop (1 + j)).take n = S at *
  have HSUBL := Lib.hid hsubl
  clear hsubl
  have e1 : IntKind.i64.wrap (1 + (j : Int) + (n : Int)) = 1 + (j : Int) + (n : Int) := IntWalk.i64_in _ (by omega)
  have e2 : IntKind.i64.wrap (1 + (j : Int) + (n : Int) + 4) = 1 + (j : Int) + (n : Int) + 4 := IntWalk.i64_in _ (by omega)
  have e3 : (1 + (j : Int) + (n : Int)).toNat = 1 + j + n := by omega
  have e4 : (1 + (j : Int) + (n : Int) + 4).toNat = 1 + j + n + 4 := by omega
  have hx0 : (0 : Int) ≤ 1 + (j : Int) + (n : Int) := by omega
  have hx1 : 1 + (j : Int) + (n : Int) ≤ 1 + (j : Int) + (n : Int) + 4 := by omega
  have hx2 : 1 + (j : Int) + (n : Int) + 4 ≤ (c : Int) := by omega
  have hx3 : 1 + (j : Int) + (n : Int) ≤ (c : Int) := by omega
  have hcq : ¬ c = 1 + j + n := by omega
  have hc0 : ¬ c = 0 := by omega
  go_enter Try.func32, Try.ntmps32
  go_wp2_with fail
  refine HN.out.mono ?_
  rintro e w' ⟨rfl, rfl⟩
  go_wp2
  go_region_with (first
    | (go_at_call 17; refine (HSUM.out _ ?_).mono ?_; exact rfl; rintro e w' ⟨rfl, rfl⟩)
    | (go_at_call 40; refine (four_any (crc X) _ hcrc).mono ?_; rintro e w1 ⟨v1, rfl, hown1, hb1⟩; obtain ⟨A1, c1, rfl, hcc1, hr1⟩ := own_slice hown1)
    | (go_at_call 14; refine (HSAME.out A1 c1 w1 hr1 hb1).mono ?_; rintro e w' ⟨rfl, rfl⟩))
  all_goals (have hcw : w1.cell? ⟨b, off, none⟩ = some (.int .u8 (k0 : Int)) := (hb1.cell (p := ⟨b, off, none⟩) hbb').trans hcell0)
  all_goals (have hbw : b < w1.heap.size := Nat.lt_of_lt_of_le hbb' hb1.size)
  all_goals (have hsub1 := (hsub.drew.below hb1))
  all_goals (have hbe : Below w.heap.size w w1 := (Below.refl _ _).drew.trans hb1)
  all_goals clear hown1 hr1 hb1 hTr hXr
  all_goals (have hgrow : ∀ w2, (w1.alloc (.cells #[] 5)).drew.grownBy w2 (Value.slice (some ⟨w1.heap.size, 0, none⟩) 0 0).ownBlock → Below w1.heap.size w1 w2 := fun w2 hg2 => (((Below.refl _ w1).alloc (Nat.le_refl _) _).drew).grown hg2 (by simp) (fun k hk => ((own_empty w1).lt k hk).1))
  all_goals go_wp2
  all_goals (go_region_law (refine step_append_any _ rfl (.tmp 63) (.tmp 69) 22 rfl w1.heap.size 5 i0 (.int .u8 0) 1 1 Try.underlying22 hi0 hz0 hz1 hz2 rfl (by decide) _ _ _ (by simp [Act.eval, Act.put]) (own_empty w1) w.heap.size _ n _ _ (by simp [Act.eval, Act.put]; rfl) ((hsub1.alloc hbe.size _).drew) (bv_one _) (by unfold maxLen; omega) (by omega) (by simp) ?_; intro v2 w2 hown2 hg2 hat2; have hb2 : Below w1.heap.size w1 w2 := hgrow w2 hg2; have hcw2 : w2.cell? ⟨b, off, none⟩ = some (.int .u8 (k0 : Int)) := (hb2.cell (p := ⟨b, off, none⟩) hbw).trans hcw; clear hg2 hat2))
  all_goals (simp only [Nat.zero_add, List.nil_append] at hown2)
  all_goals go_wp2
  all_goals exact bodyPost_ret (v := .tuple #[.int .i64 (k0 : Int), v2, .int .i64 (1 + (j : Int) + (n : Int) + 4), .int .i64 0]) (by simp [results, Try.results32, Act.put]) rfl ⟨hbe.trans (hb2.mono hbe.size), v2, by push_cast; rfl, own_base hown2 hbe.size⟩
end Go.Proofs.Ytoljigllnhenoaa
