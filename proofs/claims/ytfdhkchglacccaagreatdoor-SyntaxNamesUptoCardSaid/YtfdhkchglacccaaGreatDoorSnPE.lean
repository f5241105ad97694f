/- The program: the function values. No statement is proved here. -/
import Derived.Test.YtfdhkchglacccaaGreatDoorSnPC
set_option linter.all false
/-! the function values that are visited -/
namespace Go.Proofs.YtfdhkchglacccaaGreatDoor
open Go Go.RowKit Go.Maps Go.Mir Go.Shelf Go.Sort Go.Syn Go.Lib
set_option maxHeartbeats 1000000
set_option maxRecDepth 100000
theorem boxP_grown {w W : World} {x : PartT} {b : Nat} (hb : b < w.heap.size) (h : (boxP w x).grownBy W (some b)) : W.cell? ⟨w.heap.size, 0, none⟩ = some (.int .i64 x.kind) ∧ W.cell? ⟨w.heap.size, 1, none⟩ = some (.string ⟨x.text.toArray⟩) ∧ W.cell? ⟨w.heap.size, 2, none⟩ = some (.int .i64 x.op) ∧ W.cell? ⟨w.heap.size, 3, none⟩ = some (.bool x.colon) ∧ W.cell? ⟨w.heap.size, 4, none⟩ = some (.slice x.h.1 x.parts.length x.h.2) := by
  have hl1 : w.heap.size < (boxP w x).heap.size := by simp
  obtain ⟨z0, z1, z2, z3, z4⟩ := boxP_in (Below.refl (boxP w x).heap.size (boxP w x))
  have h2 := h.block w.heap.size hl1 (fun e => by have := Option.some.inj e; omega)
  simp only [World.cell?, h2] at z0 z1 z2 z3 z4 ⊢
  exact ⟨z0, z1, z2, z3, z4⟩
theorem rd_parts {w : World} {h : Hd} {l : List PartT} (hd : DeepP w h l) : RdS 5 encP w h.1 l := by obtain ⟨_, _, h1, _⟩ := hd; exact h1
theorem runF_len : ∀ (f : Nat) (t x : List UInt8), x ∈ runsF f t → x.length ≤ t.length
  | 0, t, x, h => by simp [runsF] at h
  | f + 1, t, x, h => by
    rw [runsF_step] at h
    split at h
    · simp at h
    · have h1 : (t.dropWhile fun c => !isWord c.toNat).length ≤ t.length := (List.dropWhile_suffix _).length_le
      rcases List.mem_cons.1 h with rfl | h
      · exact Nat.le_trans (List.takeWhile_prefix _).length_le h1
      · exact Nat.le_trans (runF_len f _ x h) (Nat.le_trans (List.dropWhile_suffix _).length_le h1)
theorem run_len (t x : List UInt8) (h : x ∈ runsT t) : x.length ≤ t.length := runF_len _ t x h
theorem calcL_txt (l : List PartT) : ∀ x ∈ calcL l, x.length ≤ szPs l := by
  induction l with
  | nil => intro x h; simp [calcL] at h
  | cons p l ih =>
    intro x h
    have h2 : calcL (p :: l) = (if p.kind = 1 then nmsT p.text else []) ++ calcL l := rfl
    have h3 : szPs (p :: l) = szP p + szPs l := rfl
    rw [h2, List.mem_append] at h
    rw [h3, szP_eq]
    rcases h with h | h
    · split at h
      · have h4 : nameB x = true := by unfold nmsT at h; exact (List.mem_filter.1 h).2
        have h5 : x.length ≤ p.text.length := by
          have h6 := (List.mem_filter.1 (show x ∈ (runsT p.text).filter nameB from h)).1
          exact run_len p.text x h6
        omega
      · simp at h
    · have := ih x h; omega
/-- Uses's function value: the names of an arithmetic expansion -/
theorem uses1_vis (B b : Nat) (w0 : World) (hB0 : w0.heap.size ≤ B) (hb0 : w0.heap.size ≤ b) (hne : B ≠ b) : VisP 41 B b ariOwn w0 := by
  intro p L W hbw hd hs hn hbx hmo
  have HB : Aside (Below W.heap.size W (boxP W p)) := (Below.refl _ _).alloc (Nat.le_refl _) _
  have hbb := hmo.lt
  have HK : Aside (Below w0.heap.size w0 (boxP W p) ∧ BoxM B b (boxP W p) ∧ MapI b L (boxP W p) ∧ W.grownBy (boxP W p) (some b) ∧ b < W.heap.size) := ⟨hbw.trans (HB.out.mono hbw.size), hbx.below HB.out, hmo.below HB.out, grown_of_below HB.out, hbb⟩
  have cc := calc_calls p (boxP W p) hs ((rd_parts hd).up HK.out.1)
  obtain ⟨z0, z1, z2, z3, z4⟩ := boxP_in (Below.refl (boxP W p).heap.size (boxP W p))
  have HS : Aside (szPs p.parts ≤ 1048576 ∧ L.length + (ariOwn p).length ≤ 1048576) := ⟨by rw [szP_eq] at hs; omega, hn⟩
  clear hbw hd hs hn hbx hmo hbb
  by_cases hk : p.kind = 6
  · have hkk : (p.kind == 6) = true := by simpa using hk
    have HO : Aside (ariOwn p = calcL p.parts) := by show _ = _; unfold ariOwn; rw [if_pos hk, calcN_eq]
    rw [HO.out]
    clear hk
    go_enter Tryz.func41, Tryz.ntmps41
    go_wp2_with (first
      | (go_at_call 28; refine cc.mono ?_; rintro e W1 ⟨A, m, c, rfl, H1, hb1⟩; obtain ⟨y0, y1, y2, y3, y4⟩ := boxP_in hb1; have hB1 := HK.out.2.1.below hb1; have e0 := cell_of_one hB1; have hm1 := HK.out.2.2.1.below hb1)
      | (go_at_call 29; refine (adds_calls b L (calcL p.parts) A m c W1 H1.out.1 (by have := HS.out.2; rw [HO.out] at this; exact this) (fun x hx => Nat.le_trans (calcL_txt _ x hx) HS.out.1) H1.out.2.1 hm1 (fun ad h e => by have h1 := H1.out.2.2 ad h; have h2 := HK.out.2.2.2.2; simp at h1; omega)).mono ?_; rintro e W2 ⟨rfl, hm2, hg2⟩))
    go_end0
    exact ⟨rfl, hm2, (HK.out.2.2.2.1.trans (grown_of_below hb1)).trans hg2⟩
  · have hkk : (p.kind == 6) = false := by simpa using hk
    have HO : Aside (ariOwn p = []) := by show _ = _; unfold ariOwn; rw [if_neg hk]
    rw [HO.out, List.append_nil]
    clear hk
    go_enter Tryz.func41, Tryz.ntmps41
    go_wp2_with (first
      | (go_at_call 28; refine cc.mono ?_; rintro e W1 ⟨A, m, c, rfl, H1, hb1⟩; obtain ⟨y0, y1, y2, y3, y4⟩ := boxP_in hb1; have hm1 := HK.out.2.2.1.below hb1))
    go_end0
    exact ⟨rfl, hm1, HK.out.2.2.2.1.trans (grown_of_below hb1)⟩
end Go.Proofs.YtfdhkchglacccaaGreatDoor

/-! Assigned's function value (printed by genPF.py) -/
namespace Go.Proofs.YtfdhkchglacccaaGreatDoor
open Go Go.RowKit Go.Maps Go.Mir Go.Shelf Go.Sort Go.Syn Go.Lib
set_option maxHeartbeats 1000000
set_option maxRecDepth 100000
/-- what is known at the door of the function value -/
def VisK (B b : Nat) (w0 : World) (p : PartT) (L : List (List UInt8)) (W : World) : Prop := (Below w0.heap.size w0 (boxP W p) ∧ BoxM B b (boxP W p) ∧ MapI b L (boxP W p) ∧ W.grownBy (boxP W p) (some b) ∧ b < W.heap.size) ∧ (szPs p.parts ≤ 1048576 ∧ p.text.length ≤ 1048576 ∧ L.length + (asgOwn p).length ≤ 1048576 ∧ DeepP w0 p.h p.parts ∧ szP p ≤ 1048576 ∧ w0.heap.size ≤ b ∧ B ≠ b)
theorem asg1_A (B b : Nat) (w0 : World) (p : PartT) (L : List (List UInt8)) (W : World) (HK : Aside (VisK B b w0 p L W)) (hk : p.kind = 4) (ho : p.op = 2) (hn : nameB p.text = true) : Calls Tryz.prog 26 #[partV p, .pointer (some ⟨B, 0, none⟩)] W (AddP b (L ++ asgOwn p) W) := by
  obtain ⟨z0, z1, z2, z3, z4⟩ := boxP_in (Below.refl (boxP W p).heap.size (boxP W p))
  have e0 := cell_of_one HK.out.1.2.1
  have cn := name_any p.text (boxP W p)
  have HB : Aside (Below (boxP W p).heap.size (boxP W p) (boxP W p)) := Below.refl _ _
  have h4 : (p.kind == 4) = true := by simpa using hk
  have h6 : (p.kind == 6) = false := by rw [hk]; rfl
  have h2 : (p.op == 2) = true := by simpa using ho
  have HO : Aside (asgOwn p = [p.text]) := by show _ = _; unfold asgOwn; rw [if_pos ⟨hk, ho, hn⟩, if_neg (fun h => by rw [hk] at h; exact absurd h.1 (by decide))]; rfl
  rw [hn] at cn
  have HKey : Aside (keyOf Tryz.prog 9 (.string ⟨p.text.toArray⟩) = some (.string p.text)) := keyS (by have := HK.out.2.2.1; unfold maxLen; omega)
  have hml : L.length < maxLen := by have := HK.out.2.2.2.1; rw [HO.out] at this; simp at this; unfold maxLen; omega
  rw [HO.out]
  clear hk ho hn
  go_enter Tryz.func26, Tryz.ntmps26
  go_wp2_with (first
    | (go_at_call 27; refine cn.mono ?_; rintro e W0 ⟨rfl, hb0⟩; obtain ⟨y0, y1, y2, y3, y4⟩ := boxP_in hb0; have hB0 := HK.out.1.2.1.below hb0; have e9 := cell_of_one hB0; have hm0 := HK.out.1.2.2.1.below hb0; have hw0 := HK.out.1.1.trans (hb0.mono HK.out.1.1.size))
    | (at_mapUpdate; go_loud (refine wpList_mapUpdate_own _ rfl _ _ _ 53 rfl 9 4 law9 Tryz.underlying53 _ b _ _ rfl hm0 hml _ _ _ rfl rfl HKey.out _ [] (plainElem_bool Tryz.underlying4 true) ?_)))
  intro w1 hown1 hgrow1
  have hmp : MapI b (L ++ [p.text]) w1 := by unfold MapI; rw [setD_snoc, List.length_append]; exact hown1
  have hg0 : (boxP W p).grownBy w1 (some b) := (grown_of_below hb0).trans hgrow1
  obtain ⟨y0, y1, y2, y3, y4⟩ := boxP_grown HK.out.1.2.2.2.2 hg0
  have hbw1 := below_add HK.out.1.1 hg0 HK.out.2.2.2.2.2.2.1
  have hbx1 := HK.out.1.2.1.grown hg0 HK.out.2.2.2.2.2.2.2
  have HG : Aside ((boxP W p).grownBy w1 (some b)) := hg0
  clear z0 z1 z2 z3 z4 e0 e9 hb0 hB0 hm0 hw0 hown1 hgrow1 hg0
  go_wp2_with (first
    | (go_at_call 28; refine (calc_calls p w1 HK.out.2.2.2.2.2.1 ((rd_parts HK.out.2.2.2.2.1).up hbw1)).mono ?_; rintro e W1 ⟨A, m, c, rfl, H1, hb1⟩; obtain ⟨x0, x1, x2, x3, x4⟩ := boxP_grown HK.out.1.2.2.2.2 (HG.out.trans (grown_of_below hb1)); have hm1 := hmp.below hb1))
  go_end0
  exact ⟨rfl, hm1, (HK.out.1.2.2.2.1.trans HG.out).trans (grown_of_below hb1)⟩
theorem asg1_B (B b : Nat) (w0 : World) (p : PartT) (L : List (List UInt8)) (W : World) (HK : Aside (VisK B b w0 p L W)) (hk : p.kind = 4) (ho : p.op = 2) (hn : nameB p.text = false) : Calls Tryz.prog 26 #[partV p, .pointer (some ⟨B, 0, none⟩)] W (AddP b (L ++ asgOwn p) W) := by
  obtain ⟨z0, z1, z2, z3, z4⟩ := boxP_in (Below.refl (boxP W p).heap.size (boxP W p))
  have e0 := cell_of_one HK.out.1.2.1
  have cn := name_any p.text (boxP W p)
  have HB : Aside (Below (boxP W p).heap.size (boxP W p) (boxP W p)) := Below.refl _ _
  have h4 : (p.kind == 4) = true := by simpa using hk
  have h6 : (p.kind == 6) = false := by rw [hk]; rfl
  have h2 : (p.op == 2) = true := by simpa using ho
  have HO : Aside (asgOwn p = []) := by show _ = _; unfold asgOwn; rw [if_neg (fun h => by rw [hn] at h; exact absurd h.2.2 (by decide)), if_neg (fun h => by rw [hk] at h; exact absurd h.1 (by decide))]; rfl
  rw [hn] at cn
  rw [HO.out, List.append_nil]
  clear hk ho hn
  go_enter Tryz.func26, Tryz.ntmps26
  go_wp2_with (first
    | (go_at_call 27; refine cn.mono ?_; rintro e W0 ⟨rfl, hb0⟩; obtain ⟨y0, y1, y2, y3, y4⟩ := boxP_in hb0; have hB0 := HK.out.1.2.1.below hb0; have e9 := cell_of_one hB0; have hm0 := HK.out.1.2.2.1.below hb0; have hw0 := HK.out.1.1.trans (hb0.mono HK.out.1.1.size))
    | (go_at_call 28; refine (calc_calls p W0 HK.out.2.2.2.2.2.1 ((rd_parts HK.out.2.2.2.2.1).up hw0)).mono ?_; rintro e W1 ⟨A, m, c, rfl, H1, hb1⟩; obtain ⟨x0, x1, x2, x3, x4⟩ := boxP_in (hb0.trans (hb1.mono hb0.size)); have e1 := cell_of_one (hB0.below hb1); have hm1 := hm0.below hb1))
  go_end0
  exact ⟨rfl, hm1, HK.out.1.2.2.2.1.trans (grown_of_below (hb0.trans (hb1.mono hb0.size)))⟩
theorem asg1_C (B b : Nat) (w0 : World) (p : PartT) (L : List (List UInt8)) (W : World) (HK : Aside (VisK B b w0 p L W)) (hk : p.kind = 4) (ho : ¬ p.op = 2) : Calls Tryz.prog 26 #[partV p, .pointer (some ⟨B, 0, none⟩)] W (AddP b (L ++ asgOwn p) W) := by
  obtain ⟨z0, z1, z2, z3, z4⟩ := boxP_in (Below.refl (boxP W p).heap.size (boxP W p))
  have e0 := cell_of_one HK.out.1.2.1
  have cn := name_any p.text (boxP W p)
  have HB : Aside (Below (boxP W p).heap.size (boxP W p) (boxP W p)) := Below.refl _ _
  have h4 : (p.kind == 4) = true := by simpa using hk
  have h6 : (p.kind == 6) = false := by rw [hk]; rfl
  have h2 : (p.op == 2) = false := by simpa using ho
  have HO : Aside (asgOwn p = []) := by show _ = _; unfold asgOwn; rw [if_neg (fun h => ho h.2.1), if_neg (fun h => by rw [hk] at h; exact absurd h.1 (by decide))]; rfl
  rw [HO.out, List.append_nil]
  clear hk ho
  go_enter Tryz.func26, Tryz.ntmps26
  go_wp2_with (first
    | (go_at_call 28; refine (calc_calls p (boxP W p) HK.out.2.2.2.2.2.1 ((rd_parts HK.out.2.2.2.2.1).up HK.out.1.1)).mono ?_; rintro e W1 ⟨A, m, c, rfl, H1, hb1⟩; obtain ⟨x0, x1, x2, x3, x4⟩ := boxP_in hb1; have e1 := cell_of_one (HK.out.1.2.1.below hb1); have hm1 := HK.out.1.2.2.1.below hb1))
  go_end0
  exact ⟨rfl, hm1, HK.out.1.2.2.2.1.trans (grown_of_below hb1)⟩
theorem asg1_D (B b : Nat) (w0 : World) (p : PartT) (L : List (List UInt8)) (W : World) (HK : Aside (VisK B b w0 p L W)) (hk : p.kind = 6) (hn : setL p.parts = true) : Calls Tryz.prog 26 #[partV p, .pointer (some ⟨B, 0, none⟩)] W (AddP b (L ++ asgOwn p) W) := by
  obtain ⟨z0, z1, z2, z3, z4⟩ := boxP_in (Below.refl (boxP W p).heap.size (boxP W p))
  have e0 := cell_of_one HK.out.1.2.1
  have cn := name_any p.text (boxP W p)
  have HB : Aside (Below (boxP W p).heap.size (boxP W p) (boxP W p)) := Below.refl _ _
  have h4 : (p.kind == 4) = false := by rw [hk]; rfl
  have h6 : (p.kind == 6) = true := by simpa using hk
  have HO : Aside (asgOwn p = calcL p.parts) := by show _ = _; unfold asgOwn; rw [if_neg (fun h => by rw [hk] at h; exact absurd h.1 (by decide)), setsB_eq, hn, hk]; simp [calcN_eq]
  have cc := calc_calls p (boxP W p) HK.out.2.2.2.2.2.1 ((rd_parts HK.out.2.2.2.2.1).up HK.out.1.1)
  rw [hn] at cc
  rw [HO.out]
  clear hk hn
  go_enter Tryz.func26, Tryz.ntmps26
  go_wp2_with (first
    | (go_at_call 28; refine cc.mono ?_; rintro e W1 ⟨A, m, c, rfl, H1, hb1⟩; obtain ⟨x0, x1, x2, x3, x4⟩ := boxP_in hb1; have e1 := cell_of_one (HK.out.1.2.1.below hb1); have hm1 := HK.out.1.2.2.1.below hb1)
    | (go_at_call 29; refine (adds_calls b L (calcL p.parts) A m c W1 H1.out.1 (by have := HK.out.2.2.2.1; rw [HO.out] at this; exact this) (fun x hx => Nat.le_trans (calcL_txt _ x hx) HK.out.2.1) H1.out.2.1 hm1 (fun ad h e => by have h1 := H1.out.2.2 ad h; have h2 := HK.out.1.2.2.2.2; simp at h1; omega)).mono ?_; rintro e W2 ⟨rfl, hm2, hg2⟩))
  go_end0
  exact ⟨rfl, hm2, (HK.out.1.2.2.2.1.trans (grown_of_below hb1)).trans hg2⟩
theorem asg1_E (B b : Nat) (w0 : World) (p : PartT) (L : List (List UInt8)) (W : World) (HK : Aside (VisK B b w0 p L W)) (hk : p.kind = 6) (hn : setL p.parts = false) : Calls Tryz.prog 26 #[partV p, .pointer (some ⟨B, 0, none⟩)] W (AddP b (L ++ asgOwn p) W) := by
  obtain ⟨z0, z1, z2, z3, z4⟩ := boxP_in (Below.refl (boxP W p).heap.size (boxP W p))
  have e0 := cell_of_one HK.out.1.2.1
  have cn := name_any p.text (boxP W p)
  have HB : Aside (Below (boxP W p).heap.size (boxP W p) (boxP W p)) := Below.refl _ _
  have h4 : (p.kind == 4) = false := by rw [hk]; rfl
  have h6 : (p.kind == 6) = true := by simpa using hk
  have HO : Aside (asgOwn p = []) := by show _ = _; unfold asgOwn; rw [if_neg (fun h => by rw [hk] at h; exact absurd h.1 (by decide)), setsB_eq, hn]; simp
  have cc := calc_calls p (boxP W p) HK.out.2.2.2.2.2.1 ((rd_parts HK.out.2.2.2.2.1).up HK.out.1.1)
  rw [hn] at cc
  rw [HO.out, List.append_nil]
  clear hk hn
  go_enter Tryz.func26, Tryz.ntmps26
  go_wp2_with (first
    | (go_at_call 28; refine cc.mono ?_; rintro e W1 ⟨A, m, c, rfl, H1, hb1⟩; obtain ⟨x0, x1, x2, x3, x4⟩ := boxP_in hb1; have hm1 := HK.out.1.2.2.1.below hb1))
  go_end0
  exact ⟨rfl, hm1, HK.out.1.2.2.2.1.trans (grown_of_below hb1)⟩
theorem asg1_F (B b : Nat) (w0 : World) (p : PartT) (L : List (List UInt8)) (W : World) (HK : Aside (VisK B b w0 p L W)) (hk : ¬ p.kind = 4) (hk6 : ¬ p.kind = 6) : Calls Tryz.prog 26 #[partV p, .pointer (some ⟨B, 0, none⟩)] W (AddP b (L ++ asgOwn p) W) := by
  obtain ⟨z0, z1, z2, z3, z4⟩ := boxP_in (Below.refl (boxP W p).heap.size (boxP W p))
  have e0 := cell_of_one HK.out.1.2.1
  have cn := name_any p.text (boxP W p)
  have HB : Aside (Below (boxP W p).heap.size (boxP W p) (boxP W p)) := Below.refl _ _
  have h4 : (p.kind == 4) = false := by simpa using hk
  have h6 : (p.kind == 6) = false := by simpa using hk6
  have HO : Aside (asgOwn p = []) := by show _ = _; unfold asgOwn; rw [if_neg (fun h => hk h.1), if_neg (fun h => hk6 h.1)]; rfl
  rw [HO.out, List.append_nil]
  clear hk hk6
  go_enter Tryz.func26, Tryz.ntmps26
  go_wp2_with (first
    | (go_at_call 28; refine (calc_calls p (boxP W p) HK.out.2.2.2.2.2.1 ((rd_parts HK.out.2.2.2.2.1).up HK.out.1.1)).mono ?_; rintro e W1 ⟨A, m, c, rfl, H1, hb1⟩; obtain ⟨x0, x1, x2, x3, x4⟩ := boxP_in hb1; have e1 := cell_of_one (HK.out.1.2.1.below hb1); have hm1 := HK.out.1.2.2.1.below hb1))
  go_end0
  exact ⟨rfl, hm1, HK.out.1.2.2.2.1.trans (grown_of_below hb1)⟩
theorem asg1_vis (B b : Nat) (w0 : World) (hB0 : w0.heap.size ≤ B) (hb0 : w0.heap.size ≤ b) (hne : B ≠ b) : VisP 26 B b asgOwn w0 := by
  intro p L W hbw hd hs hn hbx hmo
  have HB : Below W.heap.size W (boxP W p) := (Below.refl _ _).alloc (Nat.le_refl _) _
  have HK : Aside (VisK B b w0 p L W) := ⟨⟨hbw.trans (HB.mono hbw.size), hbx.below HB, hmo.below HB, grown_of_below HB, hmo.lt⟩, by rw [szP_eq] at hs; omega, by rw [szP_eq] at hs; omega, hn, hd, hs, hb0, hne⟩
  by_cases hk : p.kind = 4
  · by_cases ho : p.op = 2
    · cases hn : nameB p.text with
      | true => exact asg1_A B b w0 p L W HK hk ho hn
      | false => exact asg1_B B b w0 p L W HK hk ho hn
    · exact asg1_C B b w0 p L W HK hk ho
  · by_cases hk6 : p.kind = 6
    · cases hn : setL p.parts with
      | true => exact asg1_D B b w0 p L W HK hk6 hn
      | false => exact asg1_E B b w0 p L W HK hk6 hn
    · exact asg1_F B b w0 p L W HK hk hk6
end Go.Proofs.YtfdhkchglacccaaGreatDoor
