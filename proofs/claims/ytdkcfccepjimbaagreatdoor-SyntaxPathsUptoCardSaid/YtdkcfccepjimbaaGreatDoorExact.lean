/- Copies stand at the same positions; Exact. No statement is proved here. -/
import Derived.Test.YtdkcfccepjimbaaGreatDoorCopies
set_option linter.unusedSimpArgs false
set_option linter.unusedVariables false
namespace Go.Proofs.YtdkcfccepjimbaaGreatDoor
open Go Go.EvL Go.PE
variable {ext : PCallF}
/-! jobshellref11.positions -/
def intC (z : Int) : List PV := [.sc (.int .i64 z)]
theorem intC_len (z : Int) : (intC z).length = 1 := (rfl)
theorem intC_one (z : Int) : (intC z).all oneP = true := (rfl)
theorem intC_clean (z : Int) : (intC z).all clean1 = true := (rfl)
abbrev ints (l : List Int) : PV := slP 3 intC (optL l)
structure PosI (x : NodeD) (b : Nat) (l : List Int) (f : PFr) (s : PS) : Prop where
  p : f 1 = .ptr b 0 9
  h : s.h b = ⟨x.cells, 0, 28⟩
  n : b + 1 ≤ s.n
  w : b ≤ s.w
  acc : Acc 3 1 intC (b + 1) l (f 3) s
theorem pos_node (x : NodeD) (la : Option (List AssignD)) (lr : Option (List RedirD)) (wl : List WordD) (kl : List NodeD) (Ls : List (List Int)) (ha : x.assigns = slP 58 AssignD.cells la) (hr : x.redirs = slP 70 RedirD.cells lr)
    (h38 : ∀ s, pcall Tryz.prog Γ ext 38 [.agg x.cells] s = some (slP 56 WordD.cells (optL wl), s)) (h40 : ∀ s, pcall Tryz.prog Γ ext 40 [.agg x.cells] s = some (slP 28 NodeD.cells (optL kl), s))
    (hLs : Ls.length = kl.length) (hk : ∀ (i : Nat) k L, kl[i]? = some k → Ls[i]? = some L → ∀ s, pcall Tryz.prog Γ ext 62 [.agg k.cells] s = some (ints L, s))
    (hbig : 1 + (la.getD []).length + (lr.getD []).length + wl.length + Ls.flatten.length ≤ 100000000) (hkn : kl.length ≤ 100000000) (s : PS) :
    pcall Tryz.prog Γ ext 62 [.agg x.cells] s = some (ints ([x.pos] ++ (la.getD []).map AssignD.pos ++ (lr.getD []).map RedirD.pos ++ wl.map WordD.pos ++ Ls.flatten), s) := by
  have LA := slP_len (e := 58) (c := AssignD.cells) la
  have LR := slP_len (e := 70) (c := RedirD.cells) lr
  have LW := slP_len (e := 56) (c := WordD.cells) (optL wl)
  have LK := slP_len (e := 28) (c := NodeD.cells) (optL kl)
  rw [optL_get] at LW LK
  suffices h : ∃ q, pcall Tryz.prog Γ ext 62 [.agg x.cells] s = some q ∧ q = (ints ([x.pos] ++ (la.getD []).map AssignD.pos ++ (lr.getD []).map RedirD.pos ++ wl.map WordD.pos ++ Ls.flatten), s) by
    obtain ⟨q, e, rfl⟩ := h
    exact e
  refine W_call (fn := p62) (by rfl) (by simp [p62]) ?_
  generalize hQ : EndQ p62 s _ = Q
  unfold p62
  simp only [NodeD.cells] at h38 h40
  refine W_rseq (fun f s' => f 1 = .ptr s.n 0 9 ∧ s'.h s.n = ⟨x.cells, 0, 28⟩ ∧ s'.n = s.n + 1 ∧ s'.w = s.n) ?_ ?_
  · simp -implicitDefEqProofs only [pops_u, pops_nil, runK_some, actP, opP, initP, pval_tmp, pval_const, set_at, cellsP, ↓reduceIte, pvOf]
    exact ⟨_, _, rfl, rfl, by simp -implicitDefEqProofs only [↓reduceIte, new_h], rfl, rfl⟩
  rintro f s1 ⟨p1, p2, p3, p4⟩
  refine W_rseq (PosI x s.n [x.pos]) ?_ ?_
  · have q2 := p2
    simp only [NodeD.cells] at q2
    simp -implicitDefEqProofs only [pops_u, pops_nil, runK_some, actP, opP, Nat.zero_add, Nat.reduceAdd, Option.map_some, Option.bind_some, pval_tmp, set_at, cellsP, ↓reduceIte, ld_ptr, ofCells, List.length_cons, List.length_nil, Nat.reduceLeDiff, Nat.zero_le, and_self, List.drop_succ_cons, List.drop_zero, List.take_succ_cons, List.take_zero, Nat.le_refl, List.map_cons, List.map_nil, List.nil_append, List.append_nil, Bool.false_eq_true, p1, q2, fillP, List.drop_nil]
    refine ⟨_, _, rfl, p1, ?_, by rw [new_n]; omega, by rw [new_w]; omega, .inr ⟨by simp, s1.n, by omega, by rw [new_n]; omega, rfl, by rw [new_h, if_pos rfl]; rfl⟩⟩
    rw [new_h, if_neg (by omega)]
    exact p2
  rintro f s1 hI
  refine W_assoc ?_
  refine W_rseq (fun f s1 => PosI x s.n ([x.pos] ++ ((la.getD []).take 0).map AssignD.pos) f s1 ∧ f 4 = .sc (.int .i64 ((0 : Nat) : Int))) ?_ ?_
  · obtain ⟨p1, p2, p3, p4, p5⟩ := hI
    simp -implicitDefEqProofs only [pops_u, pops_nil, runK_some, actP, opP, pval_const, pvOf, List.take_zero, List.map_nil, List.append_nil]
    exact ⟨_, _, rfl, ⟨p1, p2, p3, p4, by first | exact p5 | (rw [List.append_nil]; exact p5)⟩, rfl⟩
  rintro f s1 hI
  refine W_lseq' (la.getD []).length (fun i f s1 => PosI x s.n ([x.pos] ++ ((la.getD []).take i).map AssignD.pos) f s1 ∧ f 4 = .sc (.int .i64 (i : Int))) (fun f s1 => PosI x s.n ([x.pos] ++ (la.getD []).map AssignD.pos) f s1) hI ?_ ?_
  · rintro i f s1 hi ⟨⟨p1, p2, p3, p4, p5⟩, h4⟩ N K hN hK
    by_cases hlt : i < (la.getD []).length
    · have h5 : (decide ((i : Int) < ((la.getD []).length : Int))) = true := by simp; exact hlt
      have hx : (la.getD [])[i]? = some ((la.getD [])[i]) := List.getElem?_eq_getElem hlt
      generalize (la.getD [])[i] = y at hx
      have hfl := take_map (g := AssignD.pos) hx
      obtain ⟨v', s', a1, a2, a3, a4, a5⟩ := (p5.new ⟨intC y.pos, 0, 3⟩).app (bytes := 8) intC_len [y.pos] (by omega) (by simp only [List.length_append, List.length_map, List.length_take, List.length_cons, List.length_nil]; omega) (by simp only [List.length_append, List.length_map, List.length_take, List.length_cons, List.length_nil]; omega) (fun z _ => intC_one z) (by rw [new_n]; omega)
      have h6 : s'.h s.n = ⟨x.cells, 0, 28⟩ := by rw [a3 _ (by omega), new_h, if_neg (by omega)]; exact p2
      have h8 : s.n ≤ s'.w := a5 _ (by omega) (by rw [new_w]; exact p4)
      rw [new_n] at a4
      have hN' := hN
      obtain ⟨m, rfl⟩ : ∃ k, la = some k := by cases la with | none => simp at hx | some k => exact ⟨k, rfl⟩
      simp only [slP, Option.getD_some] at ha hx hlt LA h5 hbig hfl
      have h1 := flat_len AssignD.len m
      obtain ⟨r1, h3⟩ := flat_at AssignD.len hx
      have h7 := wrap_succ (i := i) (by omega)
      simp only [NodeD.cells, ha] at p2
      simp only [List.flatMap_cons, List.flatMap_nil, List.append_nil, intC, List.length_cons, List.length_nil, Nat.zero_add] at a1
      simp -implicitDefEqProofs only [pcode_seq, pcode_r, pcode_skip, pcode_exit, pcode_cond, pcode_block, pops_u, pops_nil, runK_some, actP, opP, Nat.zero_add, Nat.reduceAdd, Option.map_some, Option.bind_some, pval_tmp, pval_const, set_at, Nat.reduceEqDiff, cellsP, ↓reduceIte, pvOf, seq_n, blk_n, cond_t, asBool_b, regE_some, new_h, ld_ptr, ofCells, List.length_cons, List.length_nil, Nat.reduceLeDiff, Nat.zero_le, and_self, List.drop_succ_cons, List.drop_zero, List.take_succ_cons, List.take_zero, Nat.le_refl, bin_add, bin_lss, List.map_cons, List.map_nil, List.nil_append, List.append_nil, List.cons_append, Bool.false_eq_true, natP_cast, W_some, rnd_n, p1, p2, h4, LA, h5, h7, hlt, h1, h3, ld_litp, AssignD.cells, fillP, elemsP, Nat.reduceMul, List.drop_nil, List.take_nil, a1]
      refine hN' _ _ hlt ⟨⟨p1, h6, by omega, h8, ?_⟩, rfl⟩
      show Acc 3 1 intC (s.n + 1) ([x.pos] ++ (m.take (i + 1)).map AssignD.pos) v' s'
      rw [hfl, ← List.append_assoc]
      exact a2
    · obtain rfl : i = (la.getD []).length := by omega
      have h5 : (decide (((la.getD []).length : Int) < ((la.getD []).length : Int))) = false := by simp
      have p2' := p2
      simp only [NodeD.cells, ha] at p2'
      simp -implicitDefEqProofs only [pcode_seq, pcode_r, pcode_skip, pcode_exit, pcode_cond, pops_u, pops_nil, runK_some, actP, opP, Nat.zero_add, Nat.reduceAdd, Option.map_some, Option.bind_some, pval_tmp, set_at, Nat.reduceEqDiff, ↓reduceIte, seq_n, seq_e, cond_f, asBool_b, regE_some, ld_ptr, ofCells, List.length_cons, List.length_nil, Nat.reduceLeDiff, Nat.zero_le, and_self, true_and, List.drop_succ_cons, List.drop_zero, List.take_succ_cons, List.take_zero, Nat.le_refl, bin_lss, Bool.false_eq_true, W_some, rnd_e, p1, p2', h4, LA, h5]
      refine hK _ _ ⟨p1, p2, p3, p4, ?_⟩
      rw [List.take_length] at p5
      exact p5
  rintro f s1 hI
  refine W_assoc ?_
  refine W_rseq (fun f s1 => PosI x s.n ([x.pos] ++ (la.getD []).map AssignD.pos ++ ((lr.getD []).take 0).map RedirD.pos) f s1 ∧ f 5 = .sc (.int .i64 ((0 : Nat) : Int))) ?_ ?_
  · obtain ⟨p1, p2, p3, p4, p5⟩ := hI
    simp -implicitDefEqProofs only [pops_u, pops_nil, runK_some, actP, opP, pval_const, pvOf, List.take_zero, List.map_nil, List.nil_append, List.append_nil, List.cons_append]
    exact ⟨_, _, rfl, ⟨p1, p2, p3, p4, by first | exact p5 | (rw [List.append_nil]; exact p5)⟩, rfl⟩
  rintro f s1 hI
  refine W_lseq' (lr.getD []).length (fun i f s1 => PosI x s.n ([x.pos] ++ (la.getD []).map AssignD.pos ++ ((lr.getD []).take i).map RedirD.pos) f s1 ∧ f 5 = .sc (.int .i64 (i : Int))) (fun f s1 => PosI x s.n ([x.pos] ++ (la.getD []).map AssignD.pos ++ (lr.getD []).map RedirD.pos) f s1) hI ?_ ?_
  · rintro i f s1 hi ⟨⟨p1, p2, p3, p4, p5⟩, h4⟩ N K hN hK
    by_cases hlt : i < (lr.getD []).length
    · have h5 : (decide ((i : Int) < ((lr.getD []).length : Int))) = true := by simp; exact hlt
      have hx : (lr.getD [])[i]? = some ((lr.getD [])[i]) := List.getElem?_eq_getElem hlt
      generalize (lr.getD [])[i] = y at hx
      have hfl := take_map (g := RedirD.pos) hx
      obtain ⟨v', s', a1, a2, a3, a4, a5⟩ := (p5.new ⟨intC y.pos, 0, 3⟩).app (bytes := 8) intC_len [y.pos] (by omega) (by simp only [List.length_append, List.length_map, List.length_take, List.length_cons, List.length_nil]; omega) (by simp only [List.length_append, List.length_map, List.length_take, List.length_cons, List.length_nil]; omega) (fun z _ => intC_one z) (by rw [new_n]; omega)
      have h6 : s'.h s.n = ⟨x.cells, 0, 28⟩ := by rw [a3 _ (by omega), new_h, if_neg (by omega)]; exact p2
      have h8 : s.n ≤ s'.w := a5 _ (by omega) (by rw [new_w]; exact p4)
      rw [new_n] at a4
      have hN' := hN
      obtain ⟨m, rfl⟩ : ∃ k, lr = some k := by cases lr with | none => simp at hx | some k => exact ⟨k, rfl⟩
      simp only [slP, Option.getD_some] at hr hx hlt LR h5 hbig hfl
      have h1 := flat_len RedirD.len m
      obtain ⟨r1, h3⟩ := flat_at RedirD.len hx
      have h7 := wrap_succ (i := i) (by omega)
      simp only [NodeD.cells, hr] at p2
      simp only [List.flatMap_cons, List.flatMap_nil, List.append_nil, intC, List.length_cons, List.length_nil, Nat.zero_add] at a1
      simp -implicitDefEqProofs only [pcode_seq, pcode_r, pcode_skip, pcode_exit, pcode_cond, pcode_block, pops_u, pops_nil, runK_some, actP, opP, Nat.zero_add, Nat.reduceAdd, Option.map_some, Option.bind_some, pval_tmp, pval_const, set_at, Nat.reduceEqDiff, cellsP, ↓reduceIte, pvOf, seq_n, blk_n, cond_t, asBool_b, regE_some, new_h, ld_ptr, ofCells, List.length_cons, List.length_nil, Nat.reduceLeDiff, Nat.zero_le, and_self, List.drop_succ_cons, List.drop_zero, List.take_succ_cons, List.take_zero, Nat.le_refl, bin_add, bin_lss, List.map_cons, List.map_nil, List.nil_append, List.append_nil, List.cons_append, Bool.false_eq_true, natP_cast, W_some, rnd_n, p1, p2, h4, LR, h5, h7, hlt, h1, h3, ld_litp, RedirD.cells, fillP, elemsP, Nat.reduceMul, List.drop_nil, List.take_nil, a1]
      refine hN' _ _ hlt ⟨⟨p1, h6, by omega, h8, ?_⟩, rfl⟩
      show Acc 3 1 intC (s.n + 1) ([x.pos] ++ (la.getD []).map AssignD.pos ++ (m.take (i + 1)).map RedirD.pos) v' s'
      rw [hfl, ← List.append_assoc]
      exact a2
    · obtain rfl : i = (lr.getD []).length := by omega
      have h5 : (decide (((lr.getD []).length : Int) < ((lr.getD []).length : Int))) = false := by simp
      have p2' := p2
      simp only [NodeD.cells, hr] at p2'
      simp -implicitDefEqProofs only [pcode_seq, pcode_r, pcode_skip, pcode_exit, pcode_cond, pops_u, pops_nil, runK_some, actP, opP, Nat.zero_add, Nat.reduceAdd, Option.map_some, Option.bind_some, pval_tmp, set_at, Nat.reduceEqDiff, ↓reduceIte, seq_n, seq_e, cond_f, asBool_b, regE_some, ld_ptr, ofCells, List.length_cons, List.length_nil, Nat.reduceLeDiff, Nat.zero_le, and_self, true_and, List.drop_succ_cons, List.drop_zero, List.take_succ_cons, List.take_zero, Nat.le_refl, bin_lss, Bool.false_eq_true, W_some, rnd_e, p1, p2', h4, LR, h5]
      refine hK _ _ ⟨p1, p2, p3, p4, ?_⟩
      rw [List.take_length] at p5
      exact p5
  rintro f s1 ⟨p1, p2, p3, p4, p5⟩
  refine W_rseq (fun f s1 => PosI x s.n ([x.pos] ++ (la.getD []).map AssignD.pos ++ (lr.getD []).map RedirD.pos) f s1 ∧ f 6 = slP 56 WordD.cells (optL wl)) ?_ ?_
  · have q2 := p2
    simp only [NodeD.cells] at q2
    simp -implicitDefEqProofs only [pops_u, pops_nil, runK_some, actP, opP, Nat.zero_add, Nat.reduceAdd, Option.map_some, Option.bind_some, pval_tmp, pval_func, set_at, ↓reduceIte, ld_ptr, ofCells, List.length_cons, List.length_nil, Nat.zero_le, and_self, List.drop_zero, List.take_succ_cons, List.take_zero, Nat.le_refl, callP, List.map_cons, List.map_nil, List.nil_append, List.append_nil, List.cons_append, p1, q2, h38]
    exact ⟨_, _, rfl, ⟨p1, p2, p3, p4, p5⟩, rfl⟩
  rintro f s1 ⟨hI, h6⟩
  refine W_assoc ?_
  refine W_rseq (fun f s1 => (PosI x s.n ([x.pos] ++ (la.getD []).map AssignD.pos ++ (lr.getD []).map RedirD.pos ++ (wl.take 0).map WordD.pos) f s1 ∧ f 6 = slP 56 WordD.cells (optL wl)) ∧ f 7 = .sc (.int .i64 ((0 : Nat) : Int))) ?_ ?_
  · obtain ⟨p1, p2, p3, p4, p5⟩ := hI
    simp -implicitDefEqProofs only [pops_u, pops_nil, runK_some, actP, opP, pval_const, pvOf, List.take_zero, List.map_nil, List.nil_append, List.append_nil, List.cons_append]
    exact ⟨_, _, rfl, ⟨⟨p1, p2, p3, p4, by first | exact p5 | (rw [List.append_nil]; exact p5)⟩, h6⟩, rfl⟩
  rintro f s1 hI
  refine W_lseq' wl.length (fun i f s1 => (PosI x s.n ([x.pos] ++ (la.getD []).map AssignD.pos ++ (lr.getD []).map RedirD.pos ++ (wl.take i).map WordD.pos) f s1 ∧ f 6 = slP 56 WordD.cells (optL wl)) ∧ f 7 = .sc (.int .i64 (i : Int))) (fun f s1 => PosI x s.n ([x.pos] ++ (la.getD []).map AssignD.pos ++ (lr.getD []).map RedirD.pos ++ wl.map WordD.pos) f s1) hI ?_ ?_
  · rintro i f s1 hi ⟨⟨⟨p1, p2, p3, p4, p5⟩, hw⟩, h4⟩ N K hN hK
    by_cases hlt : i < wl.length
    · have h5 : (decide ((i : Int) < (wl.length : Int))) = true := by simp; exact hlt
      have hx : wl[i]? = some (wl[i]) := List.getElem?_eq_getElem hlt
      generalize wl[i] = y at hx
      have hfl := take_map (g := WordD.pos) hx
      obtain ⟨v', s', a1, a2, a3, a4, a5⟩ := (p5.new ⟨intC y.pos, 0, 3⟩).app (bytes := 8) intC_len [y.pos] (by omega) (by simp only [List.length_append, List.length_map, List.length_take, List.length_cons, List.length_nil]; omega) (by simp only [List.length_append, List.length_map, List.length_take, List.length_cons, List.length_nil]; omega) (fun z _ => intC_one z) (by rw [new_n]; omega)
      have h6 : s'.h s.n = ⟨x.cells, 0, 28⟩ := by rw [a3 _ (by omega), new_h, if_neg (by omega)]; exact p2
      have h8 : s.n ≤ s'.w := a5 _ (by omega) (by rw [new_w]; exact p4)
      rw [new_n] at a4
      have hw' := hw
      obtain hop : optL wl = some wl := by cases wl with | nil => simp at hx | cons a l => rfl
      rw [hop] at hw' LW
      simp only [slP] at hw' LW
      have h1 := flat_len WordD.len wl
      obtain ⟨r1, h3⟩ := flat_at WordD.len hx
      have h7 := wrap_succ (i := i) (by omega)
      simp only [List.flatMap_cons, List.flatMap_nil, List.append_nil, intC, List.length_cons, List.length_nil, Nat.zero_add] at a1
      simp -implicitDefEqProofs only [pcode_seq, pcode_r, pcode_skip, pcode_exit, pcode_cond, pcode_block, pops_u, pops_nil, runK_some, actP, opP, Nat.zero_add, Option.map_some, Option.bind_some, pval_tmp, pval_const, set_at, Nat.reduceEqDiff, cellsP, ↓reduceIte, pvOf, seq_n, blk_n, cond_t, asBool_b, regE_some, new_h, ofCells, List.length_cons, List.length_nil, Nat.reduceLeDiff, Nat.zero_le, and_self, List.drop_succ_cons, List.drop_zero, List.take_succ_cons, List.take_zero, Nat.le_refl, bin_add, bin_lss, List.map_cons, List.map_nil, List.nil_append, List.append_nil, List.cons_append, Bool.false_eq_true, natP_cast, W_some, rnd_n, hw', h4, LW, h5, h7, hlt, h1, h3, ld_litp, WordD.cells, fillP, elemsP, Nat.reduceMul, List.drop_nil, List.take_nil, a1]
      refine hN _ _ hlt ⟨⟨⟨p1, h6, by omega, h8, ?_⟩, hw⟩, rfl⟩
      show Acc 3 1 intC (s.n + 1) ([x.pos] ++ (la.getD []).map AssignD.pos ++ (lr.getD []).map RedirD.pos ++ (wl.take (i + 1)).map WordD.pos) v' s'
      rw [hfl, ← List.append_assoc]
      exact a2
    · obtain rfl : i = wl.length := by omega
      have h5 : (decide ((wl.length : Int) < (wl.length : Int))) = false := by simp
      simp -implicitDefEqProofs only [pcode_seq, pcode_r, pcode_skip, pcode_exit, pcode_cond, pops_u, pops_nil, runK_some, actP, opP, Option.map_some, pval_tmp, set_at, Nat.reduceEqDiff, ↓reduceIte, seq_n, seq_e, cond_f, asBool_b, regE_some, true_and, bin_lss, W_some, rnd_e, hw, h4, LW, h5]
      refine hK _ _ ⟨p1, p2, p3, p4, ?_⟩
      rw [List.take_length] at p5
      exact p5
  rintro f s1 ⟨p1, p2, p3, p4, p5⟩
  refine W_rseq (fun f s1 => PosI x s.n ([x.pos] ++ (la.getD []).map AssignD.pos ++ (lr.getD []).map RedirD.pos ++ wl.map WordD.pos) f s1 ∧ f 8 = slP 28 NodeD.cells (optL kl)) ?_ ?_
  · have q2 := p2
    simp only [NodeD.cells] at q2
    simp -implicitDefEqProofs only [pops_u, pops_nil, runK_some, actP, opP, Nat.zero_add, Nat.reduceAdd, Option.map_some, Option.bind_some, pval_tmp, pval_func, set_at, ↓reduceIte, ld_ptr, ofCells, List.length_cons, List.length_nil, Nat.zero_le, and_self, List.drop_zero, List.take_succ_cons, List.take_zero, Nat.le_refl, callP, List.map_cons, List.map_nil, List.nil_append, List.append_nil, List.cons_append, p1, q2, h40]
    exact ⟨_, _, rfl, ⟨p1, p2, p3, p4, p5⟩, rfl⟩
  rintro f s1 ⟨hI, h6⟩
  refine W_assoc ?_
  refine W_rseq (fun f s1 => (PosI x s.n ([x.pos] ++ (la.getD []).map AssignD.pos ++ (lr.getD []).map RedirD.pos ++ wl.map WordD.pos ++ (Ls.take 0).flatten) f s1 ∧ f 8 = slP 28 NodeD.cells (optL kl)) ∧ f 9 = .sc (.int .i64 ((0 : Nat) : Int))) ?_ ?_
  · obtain ⟨p1, p2, p3, p4, p5⟩ := hI
    simp -implicitDefEqProofs only [pops_u, pops_nil, runK_some, actP, opP, pval_const, pvOf, List.take_zero, List.nil_append, List.cons_append]
    exact ⟨_, _, rfl, ⟨⟨p1, p2, p3, p4, by first | exact p5 | (rw [List.flatten_nil]; first | exact p5 | (rw [List.append_nil]; exact p5))⟩, h6⟩, rfl⟩
  rintro f s1 hI
  refine W_lseq' kl.length (fun i f s1 => (PosI x s.n ([x.pos] ++ (la.getD []).map AssignD.pos ++ (lr.getD []).map RedirD.pos ++ wl.map WordD.pos ++ (Ls.take i).flatten) f s1 ∧ f 8 = slP 28 NodeD.cells (optL kl)) ∧ f 9 = .sc (.int .i64 (i : Int))) (fun f s1 => PosI x s.n ([x.pos] ++ (la.getD []).map AssignD.pos ++ (lr.getD []).map RedirD.pos ++ wl.map WordD.pos ++ Ls.flatten) f s1) hI ?_ ?_
  · rintro i f s1 hi ⟨⟨⟨p1, p2, p3, p4, p5⟩, hw⟩, h4⟩ N K hN hK
    by_cases hlt : i < kl.length
    · have h5 : (decide ((i : Int) < (kl.length : Int))) = true := by simp; exact hlt
      have hx : kl[i]? = some (kl[i]) := List.getElem?_eq_getElem hlt
      generalize kl[i] = y at hx
      have hL : Ls[i]? = some (Ls[i]'(by omega)) := List.getElem?_eq_getElem (by omega)
      generalize Ls[i]'(by omega) = L at hL
      have hfl : (Ls.take (i + 1)).flatten = (Ls.take i).flatten ++ L := by rw [List.take_add_one, hL, List.flatten_append]; simp
      have hle : (Ls.take (i + 1)).flatten.length ≤ Ls.flatten.length := by
        conv => rhs; rw [← List.take_append_drop (i + 1) Ls, List.flatten_append, List.length_append]
        omega
      rw [hfl, List.length_append] at hle
      obtain ⟨v', s', a1, a2, a3, a4, a5⟩ := p5.app (bytes := 8) intC_len L (by omega) (by simp only [List.length_append, List.length_map, List.length_cons, List.length_nil]; omega) (by simp only [List.length_append, List.length_map, List.length_cons, List.length_nil]; omega) (fun z _ => intC_one z) p3
      have h6 : s'.h s.n = ⟨x.cells, 0, 28⟩ := by rw [a3 _ (by omega)]; exact p2
      have h8 : s.n ≤ s'.w := a5 _ (by omega) p4
      have hc := hk i y L hx hL
      have he := elems_sl (e := 3) intC_len (optL L) s1
      rw [optL_get] at he
      have hw' := hw
      obtain hop : optL kl = some kl := by cases kl with | nil => simp at hx | cons a l => rfl
      rw [hop] at hw' LK
      simp only [slP] at hw' LK
      have h1 := flat_len NodeD.len kl
      have h3 := ld_sl NodeD.len hx
      have h7 := wrap_succ (i := i) (by omega)
      simp -implicitDefEqProofs only [pcode_seq, pcode_r, pcode_skip, pcode_exit, pcode_cond, pcode_block, pops_u, pops_nil, runK_some, actP, opP, Option.map_some, Option.bind_some, pval_tmp, pval_const, pval_func, set_at, Nat.reduceEqDiff, ↓reduceIte, pvOf, seq_n, blk_n, cond_t, asBool_b, regE_some, ofCells, and_self, bin_add, bin_lss, callP, List.map_cons, List.map_nil, List.nil_append, List.append_nil, natP_cast, W_some, rnd_n, hw', h4, LK, h5, h7, hlt, h1, h3, hc, he, a1]
      refine hN _ _ hlt ⟨⟨⟨p1, h6, by omega, h8, ?_⟩, hw⟩, rfl⟩
      show Acc 3 1 intC (s.n + 1) ([x.pos] ++ (la.getD []).map AssignD.pos ++ (lr.getD []).map RedirD.pos ++ wl.map WordD.pos ++ (Ls.take (i + 1)).flatten) v' s'
      rw [hfl, ← List.append_assoc]
      exact a2
    · obtain rfl : i = kl.length := by omega
      have h5 : (decide ((kl.length : Int) < (kl.length : Int))) = false := by simp
      simp -implicitDefEqProofs only [pcode_seq, pcode_r, pcode_skip, pcode_exit, pcode_cond, pops_u, pops_nil, runK_some, actP, opP, Option.map_some, pval_tmp, set_at, Nat.reduceEqDiff, ↓reduceIte, seq_n, seq_e, cond_f, asBool_b, regE_some, true_and, bin_lss, W_some, rnd_e, hw, h4, LK, h5]
      refine hK _ _ ⟨p1, p2, p3, p4, ?_⟩
      rw [← hLs, List.take_length] at p5
      exact p5
  · rintro f s1 ⟨p1, p2, p3, p4, p5⟩
    refine W_rret ?_
    simp -implicitDefEqProofs only [pops_u, pops_nil, runK_some, actP, opP, pval_tmp, set_at, ↓reduceIte]
    refine ⟨_, _, rfl, ?_⟩
    subst hQ
    refine endQ_r ?_ rfl
    refine leave_p (vs := [f 3]) rfl rfl p4 ?_
    exact frz_of (p5.frz intC_len (by omega) fun y _ => intC_clean y)
end Go.Proofs.YtdkcfccepjimbaaGreatDoor

namespace Go.Proofs.YtdkcfccepjimbaaGreatDoor
open Go Go.EvL Go.PE
variable {ext : PCallF}
/-! lists alike, element by element -/
inductive All2 {α β : Type} (Q : α → β → Prop) : List α → List β → Prop
  | nil : All2 Q [] []
  | cons (x : α) (y : β) (l : List α) (m : List β) (h : Q x y) (t : All2 Q l m) : All2 Q (x :: l) (y :: m)
section
variable {α β γ δ : Type} {Q : α → β → Prop}
theorem All2.append {l l' : List α} {m m' : List β} (h : All2 Q l m) (h' : All2 Q l' m') : All2 Q (l ++ l') (m ++ m') := by
  induction h with
  | nil => exact h'
  | cons x y l m h _ ih => exact .cons _ _ _ _ h ih
theorem All2.len {l : List α} {m : List β} (h : All2 Q l m) : l.length = m.length := by
  induction h with
  | nil => rfl
  | cons x y l m h _ ih => simp [ih]
theorem All2.map {R : γ → δ → Prop} {f : α → γ} {g : β → δ} (hf : ∀ x y, Q x y → R (f x) (g y)) {l : List α} {m : List β} (h : All2 Q l m) : All2 R (l.map f) (m.map g) := by
  induction h with
  | nil => exact .nil
  | cons x y l m h _ ih => exact .cons _ _ _ _ (hf _ _ h) ih
theorem All2.flat {R : γ → δ → Prop} {f : α → List γ} {g : β → List δ} {l : List α} {m : List β} (h : All2 Q l m) (hf : ∀ x y, x ∈ l → y ∈ m → Q x y → All2 R (f x) (g y)) : All2 R (l.flatMap f) (m.flatMap g) := by
  induction h with
  | nil => exact .nil
  | cons x y l m h _ ih =>
    rw [List.flatMap_cons, List.flatMap_cons]
    exact (hf _ _ List.mem_cons_self List.mem_cons_self h).append (ih fun a b ha hb => hf a b (List.mem_cons_of_mem _ ha) (List.mem_cons_of_mem _ hb))
theorem All2.eq {l m : List α} {Q : α → α → Prop} (hq : ∀ x y, Q x y → x = y) (h : All2 Q l m) : l = m := by
  induction h with
  | nil => rfl
  | cons x y l m h _ ih => rw [hq _ _ h, ih]
theorem All2.of_get : ∀ {l : List α} {m : List β}, l.length = m.length → (∀ (i : Nat) x y, l[i]? = some x → m[i]? = some y → Q x y) → All2 Q l m := by
  intro l
  induction l with
  | nil => intro m h _; cases m with | nil => exact .nil | cons y m => cases h
  | cons x l ih =>
    intro m h hh
    cases m with
    | nil => cases h
    | cons y m => exact .cons _ _ _ _ (hh 0 x y rfl rfl) (ih (by simpa using h) fun i a b h1 h2 => hh (i + 1) a b (by simpa using h1) (by simpa using h2))
theorem All2.get {l : List α} {m : List β} (h : All2 Q l m) : ∀ (i : Nat) x y, l[i]? = some x → m[i]? = some y → Q x y := by
  induction h with
  | nil => intro i x y h; simp at h
  | cons x y l m h _ ih =>
    intro i a b h1 h2
    cases i with
    | zero => simp at h1 h2; subst h1; subst h2; exact h
    | succ i => exact ih i a b (by simpa using h1) (by simpa using h2)
theorem All2.mem {l : List α} {m : List β} (h : All2 Q l m) : ∀ x ∈ l, ∃ y ∈ m, Q x y := by
  induction h with
  | nil => intro x hx; cases hx
  | cons x y l m h _ ih =>
    intro a ha
    rcases List.mem_cons.1 ha with rfl | ha
    · exact ⟨y, List.mem_cons_self, h⟩
    · obtain ⟨b, hb, hq⟩ := ih a ha
      exact ⟨b, List.mem_cons_of_mem _ hb, hq⟩
end
theorem flat_inj {α : Type} {c : α → List PV} {es : Nat} (hi : ∀ x y, c x = c y → x = y) (hc : ∀ x, (c x).length = es) : ∀ (l m : List α), l.length = m.length → l.flatMap c = m.flatMap c → l = m := by
  intro l
  induction l with
  | nil => intro m h _; cases m with | nil => rfl | cons y m => cases h
  | cons x l ih =>
    intro m h hh
    cases m with
    | nil => cases h
    | cons y m =>
      rw [List.flatMap_cons, List.flatMap_cons] at hh
      obtain ⟨h1, h2⟩ := List.append_inj hh (by rw [hc, hc])
      rw [hi _ _ h1, ih m (by simpa using h) h2]
theorem slP_inj {α : Type} {e es : Nat} {c : α → List PV} (hi : ∀ x y, c x = c y → x = y) (hc : ∀ x, (c x).length = es) {l m : Option (List α)} (h : slP e c l = slP e c m) : l = m := by
  cases l with
  | none => cases m with | none => rfl | some m => cases h
  | some l =>
    cases m with
    | none => cases h
    | some m =>
      simp only [slP] at h
      injection h with _ h1 h2
      rw [flat_inj hi hc l m h1 h2]
theorem LEqv.lists {α : Type} {e es : Nat} {c : α → List PV} (hi : ∀ x y, c x = c y → x = y) (hc : ∀ x, (c x).length = es) {Q : α → α → Prop} {a b : PV} (h : LEqv e c Q a b) {l : Option (List α)} (hb : b = slP e c l) : ∃ m, a = slP e c m ∧ All2 Q (m.getD []) (l.getD []) := by
  obtain ⟨m, l', h1, h2, h3, _, h5⟩ := h
  obtain rfl : l' = l := slP_inj hi hc (h2.symm.trans hb)
  exact ⟨m, h1, .of_get h3 h5⟩
theorem WordD.inj (x y : WordD) (h : x.cells = y.cells) : x = y := by
  cases x; cases y; simp only [WordD.cells] at h; simp at h; obtain ⟨rfl, rfl⟩ := h; rfl
theorem AssignD.inj (x y : AssignD) (h : x.cells = y.cells) : x = y := by
  cases x; cases y; simp only [AssignD.cells] at h; simp at h; obtain ⟨rfl, rfl, rfl, rfl⟩ := h; rfl
theorem RedirD.inj (x y : RedirD) (h : x.cells = y.cells) : x = y := by
  cases x; cases y; simp only [RedirD.cells] at h; simp at h; obtain ⟨rfl, rfl, rfl, rfl, rfl⟩ := h; rfl
theorem ItemD.inj (x y : ItemD) (h : x.cells = y.cells) : x = y := by
  cases x; cases y; simp only [ItemD.cells] at h; simp at h; obtain ⟨rfl, rfl⟩ := h; rfl
theorem NodeD.inj (x y : NodeD) (h : x.cells = y.cells) : x = y := by
  cases x; cases y; simp only [NodeD.cells] at h; simp at h; obtain ⟨rfl, rfl, rfl, rfl, rfl, rfl, rfl, rfl, rfl⟩ := h; rfl
/-- a node and its copy, both read as lists -/
theorem pair_dec {D d : Nat} {y x : NodeD} (hx : NodeAt D (d + 1) x) (h : NEqv D (d + 1) y x) : ∃ (la : Option (List AssignD)) (lw : Option (List WordD)) (lr : Option (List RedirD)) (lk : Option (List NodeD)) (li : Option (List ItemD)) (pt : ItemD → Option (List WordD)) (bd : ItemD → Option (List NodeD)) (la' : Option (List AssignD)) (lw' : Option (List WordD)) (lr' : Option (List RedirD)) (lk' : Option (List NodeD)) (li' : Option (List ItemD)) (pt' : ItemD → Option (List WordD)) (bd' : ItemD → Option (List NodeD)), Dec D d x la lw lr lk li pt bd ∧ y.assigns = slP 58 AssignD.cells la' ∧ y.words = slP 56 WordD.cells lw' ∧ y.redirs = slP 70 RedirD.cells lr' ∧ y.kids = slP 28 NodeD.cells lk' ∧ y.items = slP 75 ItemD.cells li' ∧
    (∀ it ∈ li'.getD [], it.pats = slP 56 WordD.cells (pt' it)) ∧ (∀ it ∈ li'.getD [], it.body = slP 28 NodeD.cells (bd' it)) ∧
    All2 (AEqv D) (la'.getD []) (la.getD []) ∧ All2 (WEqv D) (lw'.getD []) (lw.getD []) ∧ All2 (REqv D) (lr'.getD []) (lr.getD []) ∧ All2 (NEqv D d) (lk'.getD []) (lk.getD []) ∧
    All2 (fun j i => All2 (WEqv D) ((pt' j).getD []) ((pt i).getD []) ∧ All2 (NEqv D d) ((bd' j).getD []) ((bd i).getD [])) (li'.getD []) (li.getD []) := by
  obtain ⟨la, lw, lr, lk, li, pt, bd, hd⟩ := hx.dec
  obtain ⟨_, h1, h2, h3, h4, h5⟩ := h
  obtain ⟨la', a1, a2⟩ := h1.lists AssignD.inj AssignD.len hd.a
  obtain ⟨lw', w1, w2⟩ := h2.lists WordD.inj WordD.len hd.w
  obtain ⟨lr', r1, r2⟩ := h3.lists RedirD.inj RedirD.len hd.r
  obtain ⟨lk', k1, k2⟩ := h4.lists NodeD.inj NodeD.len hd.k
  obtain ⟨li', i1, i2⟩ := h5.lists ItemD.inj ItemD.len hd.i
  have hp : ∀ it : ItemD, ∃ l : Option (List WordD), it ∈ li'.getD [] → it.pats = slP 56 WordD.cells l := fun it => by
    by_cases hi : it ∈ li'.getD []
    · obtain ⟨y, _, hq, _⟩ := i2.mem it hi
      obtain ⟨m, hm⟩ := hq.sl
      exact ⟨m, fun _ => hm⟩
    · exact ⟨none, fun hh => absurd hh hi⟩
  have hb : ∀ it : ItemD, ∃ l : Option (List NodeD), it ∈ li'.getD [] → it.body = slP 28 NodeD.cells l := fun it => by
    by_cases hi : it ∈ li'.getD []
    · obtain ⟨y, _, _, hq⟩ := i2.mem it hi
      obtain ⟨m, hm⟩ := hq.sl
      exact ⟨m, fun _ => hm⟩
    · exact ⟨none, fun hh => absurd hh hi⟩
  obtain ⟨pt', hpt'⟩ := Classical.axiomOfChoice hp
  obtain ⟨bd', hbd'⟩ := Classical.axiomOfChoice hb
  refine ⟨la, lw, lr, lk, li, pt, bd, la', lw', lr', lk', li', pt', bd', hd, a1, w1, r1, k1, i1, hpt', hbd', a2, w2, r2, k2, ?_⟩
  refine .of_get i2.len fun n j i hj hi => ?_
  obtain ⟨q1, q2⟩ := i2.get n j i hj hi
  have mj := List.mem_of_getElem? hj
  have mi := List.mem_of_getElem? hi
  obtain ⟨m1, e1, e2⟩ := q1.lists WordD.inj WordD.len (hd.hpt i mi)
  obtain ⟨m2, e3, e4⟩ := q2.lists NodeD.inj NodeD.len (hd.hbd i mi)
  obtain rfl : m1 = pt' j := slP_inj WordD.inj WordD.len (e1.symm.trans (hpt' j mj))
  obtain rfl : m2 = bd' j := slP_inj NodeD.inj NodeD.len (e3.symm.trans (hbd' j mj))
  exact ⟨e2, e4⟩
theorem All2.mono {α β : Type} {Q R : α → β → Prop} (hq : ∀ x y, Q x y → R x y) {l : List α} {m : List β} (h : All2 Q l m) : All2 R l m := by
  induction h with
  | nil => exact .nil
  | cons x y l m h _ ih => exact .cons _ _ _ _ (hq _ _ h) ih
theorem All2.map_eq {α β γ : Type} {Q : α → β → Prop} {f : α → γ} {g : β → γ} (hq : ∀ x y, Q x y → f x = g y) {l : List α} {m : List β} (h : All2 Q l m) : l.map f = m.map g := by
  induction h with
  | nil => rfl
  | cons x y l m h _ ih => rw [List.map_cons, List.map_cons, hq _ _ h, ih]
theorem words_all {D : Nat} {la la' : List AssignD} {lw lw' : List WordD} {lr lr' : List RedirD} {li li' : List ItemD} {pt pt' : ItemD → Option (List WordD)} {R : ItemD → ItemD → Prop} (h1 : All2 (AEqv D) la' la) (h2 : All2 (WEqv D) lw' lw) (h3 : All2 (REqv D) lr' lr) (h4 : All2 (fun j i => All2 (WEqv D) ((pt' j).getD []) ((pt i).getD []) ∧ R j i) li' li) :
    All2 (WEqv D) (wordsL la' lw' lr' li' pt') (wordsL la lw lr li pt) := by
  unfold wordsL
  refine All2.append (All2.append (All2.append ?_ h2) ?_) ?_
  · exact h1.map fun x y h => ⟨h.1.2.2, h.2⟩
  · exact h3.map fun x y h => ⟨h.1.2.2.2, h.2⟩
  · exact h4.flat fun x y _ _ h => h.1
theorem kids_all {D d : Nat} {lk lk' : List NodeD} {li li' : List ItemD} {bd bd' : ItemD → Option (List NodeD)} {R : ItemD → ItemD → Prop} (h1 : All2 (NEqv D d) lk' lk) (h2 : All2 (fun j i => R j i ∧ All2 (NEqv D d) ((bd' j).getD []) ((bd i).getD [])) li' li) :
    All2 (NEqv D d) (kidsL lk' li' bd') (kidsL lk li bd) := by
  unfold kidsL
  exact h1.append (h2.flat fun x y _ _ h => h.2)
theorem len_flatten {α β : Type} {c : α → List PV} : ∀ (l : List α) (Ls : List (List β)), Ls.length = l.length → (∀ (i : Nat) x L, l[i]? = some x → Ls[i]? = some L → L.length ≤ bulks (c x)) → Ls.flatten.length ≤ bulks (l.flatMap c) := by
  intro l
  induction l with
  | nil => intro Ls h _; cases Ls with | nil => simp | cons a b => cases h
  | cons x l ih =>
    intro Ls h hh
    cases Ls with
    | nil => cases h
    | cons L Ls =>
      have h1 := hh 0 x L rfl rfl
      have h2 := ih Ls (by simpa using h) fun i a b e1 e2 => hh (i + 1) a b (by simpa using e1) (by simpa using e2)
      rw [List.flatten_cons, List.flatMap_cons, bulks_app, List.length_append]; omega
theorem choose_list {α : Type} {R : Nat → α → List Int → Prop} : ∀ (l : List α), (∀ (i : Nat) x, l[i]? = some x → ∃ L, R i x L) → ∃ Ls : List (List Int), Ls.length = l.length ∧ ∀ (i : Nat) x L, l[i]? = some x → Ls[i]? = some L → R i x L := by
  intro l h
  have h' : ∀ i : Nat, ∃ L : List Int, ∀ x, l[i]? = some x → R i x L := fun i => by
    cases hx : l[i]? with
    | none => exact ⟨[], fun x h => by cases h⟩
    | some x =>
      obtain ⟨L, hL⟩ := h i x hx
      exact ⟨L, fun y hy => by injection hy with hy; subst hy; exact hL⟩
  obtain ⟨f, hf⟩ := Classical.axiomOfChoice h'
  refine ⟨(List.range l.length).map f, by simp, fun i x L hx hL => ?_⟩
  have hi := (List.getElem?_eq_some_iff.1 hx).1
  rw [List.getElem?_map, List.getElem?_range hi] at hL
  injection hL with hL
  subst hL
  exact hf i x hx
/-- the weight of a node's own lists and of its kids together -/
theorem Dec.kidsBulk {D d : Nat} {x : NodeD} {la : Option (List AssignD)} {lw : Option (List WordD)} {lr : Option (List RedirD)} {lk : Option (List NodeD)} {li : Option (List ItemD)} {pt : ItemD → Option (List WordD)} {bd : ItemD → Option (List NodeD)} (h : Dec D d x la lw lr lk li pt bd) :
    1 + (la.getD []).length + (lr.getD []).length + (wordsL (la.getD []) (lw.getD []) (lr.getD []) (li.getD []) pt).length + bulks ((kidsL (lk.getD []) (li.getD []) bd).flatMap NodeD.cells) ≤ bulks x.cells := by
  simp only [NodeD.cells, bulks_cons, bulks_nil, h.a, h.w, h.r, h.k, h.i]
  have l2 : ∀ {α : Type} {e : Nat} {c : α → List PV} (hc : ∀ x, 2 ≤ (c x).length) (l : Option (List α)), 2 * (l.getD []).length + 1 ≤ (slP e c l).bulk := fun {α e c} hc l => by
    rw [← bulks_slP]
    have h := bulks_len ((l.getD []).flatMap c)
    have : ∀ m : List α, 2 * m.length ≤ (m.flatMap c).length := by
      intro m
      induction m with
      | nil => simp
      | cons a m ih => have := hc a; simp only [List.flatMap_cons, List.length_append, List.length_cons]; omega
    have := this (l.getD [])
    omega
  have hA := l2 (e := 58) (c := AssignD.cells) (fun y => by rw [AssignD.len]; omega) la
  have hW := len_slP (e := 56) (c := WordD.cells) (fun y => by rw [WordD.len]; omega) lw
  have hR := l2 (e := 70) (c := RedirD.cells) (fun y => by rw [RedirD.len]; omega) lr
  have hK2 := bulks_slP 28 NodeD.cells lk
  have hI2 := bulks_slP 75 ItemD.cells li
  have hic : ∀ it ∈ li.getD [], bulks it.cells = (slP 56 WordD.cells (pt it)).bulk + (slP 28 NodeD.cells (bd it)).bulk := fun it hi => by
    simp only [ItemD.cells, bulks_cons, bulks_nil, h.hpt it hi, h.hbd it hi, Nat.add_zero]
  have key : ∀ l : List ItemD, (∀ it ∈ l, bulks it.cells = (slP 56 WordD.cells (pt it)).bulk + (slP 28 NodeD.cells (bd it)).bulk) → (l.flatMap fun it => (pt it).getD []).length + bulks ((l.flatMap fun it => (bd it).getD []).flatMap NodeD.cells) ≤ bulks (l.flatMap ItemD.cells) := by
    intro l
    induction l with
    | nil => intro _; simp [bulks_nil]
    | cons it l ih =>
      intro hh
      have h1 := hh it List.mem_cons_self
      have h2 := ih fun z hz => hh z (List.mem_cons_of_mem _ hz)
      have h3 := len_slP (e := 56) (c := WordD.cells) (fun y => by rw [WordD.len]; omega) (pt it)
      have h4 := bulks_slP 28 NodeD.cells (bd it)
      simp only [List.flatMap_cons, bulks_app, List.length_append, List.flatMap_append]
      omega
  have hk := key (li.getD []) hic
  simp only [wordsL, kidsL, List.length_append, List.length_map, List.flatMap_append, bulks_app]
  omega
theorem pos_pair {D : Nat} : ∀ (d : Nat) (y x : NodeD), NodeAt D d x → NEqv D d y x → bulks x.cells ≤ 16777216 → ∃ L : List Int, L.length ≤ bulks x.cells ∧ (∀ s, pcall Tryz.prog Γ ext 62 [.agg y.cells] s = some (ints L, s)) ∧ ∀ s, pcall Tryz.prog Γ ext 62 [.agg x.cells] s = some (ints L, s) := by
  intro d
  induction d with
  | zero => intro y x h; cases h
  | succ d ih =>
    intro y x hx hyx hN
    obtain ⟨la, lw, lr, lk, li, pt, bd, la', lw', lr', lk', li', pt', bd', hd, a1, w1, r1, k1, i1, hp, hb, a2, w2, r2, k2, i2⟩ := pair_dec hx hyx
    obtain ⟨n1, n2, n3, n4⟩ := hd.sizes hN
    have hkb := hd.kidsBulk
    have hw := words_all a2 w2 r2 i2
    have hk := kids_all k2 i2
    have hpos : y.pos = x.pos := hyx.1.2.1
    have h38x := hd.words_ok (ext := ext) hN
    have h40x := hd.kids_ok (ext := ext) hN
    have hln : ∀ {α β : Type} {Q : α → β → Prop} {g : α → List WordD} {g' : β → List WordD} {l : List α} {m : List β}, True := trivial
    have hwl := hw.len
    have hkl := hk.len
    have hpl : ((li'.getD []).flatMap fun it => (pt' it).getD []).length = ((li.getD []).flatMap fun it => (pt it).getD []).length := (i2.flat (R := WEqv D) fun x y _ _ h => h.1).len
    have hbl : ((li'.getD []).flatMap fun it => (bd' it).getD []).length = ((li.getD []).flatMap fun it => (bd it).getD []).length := (i2.flat (R := NEqv D d) fun x y _ _ h => h.2).len
    have h38y : ∀ s, pcall Tryz.prog Γ ext 38 [.agg y.cells] s = some (slP 56 WordD.cells (optL (wordsL (la'.getD []) (lw'.getD []) (lr'.getD []) (li'.getD []) pt')), s) := fun s =>
      wordsL_ok y la' lw' lr' li' pt' a1 w1 r1 i1 hp (by rw [a2.len, w2.len, r2.len, hpl]; exact n1) (by rw [i2.len]; exact n3) (fun z hz => by
        obtain ⟨q, _, hq⟩ := hw.mem z hz
        exact ⟨hq.2.one.1, hq.2.one.2.2⟩) s
    have h40y : ∀ s, pcall Tryz.prog Γ ext 40 [.agg y.cells] s = some (slP 28 NodeD.cells (optL (kidsL (lk'.getD []) (li'.getD []) bd')), s) := fun s =>
      kids_ok y lk' li' bd' k1 i1 hb (by rw [k2.len, hbl]; exact n2) (by rw [i2.len]; exact n3) (fun z hz => by
        have hz' : z ∈ kidsL (lk'.getD []) (li'.getD []) bd' := by simp only [kidsL, List.mem_append, List.mem_flatMap]; exact hz
        obtain ⟨q, _, hq⟩ := hk.mem z hz'
        exact neqv_ones _ _ hq) s
    obtain ⟨Ls, l1, l2⟩ := choose_list (R := fun i kx L => L.length ≤ bulks kx.cells ∧ (∀ ky, (kidsL (lk'.getD []) (li'.getD []) bd')[i]? = some ky → ∀ s, pcall Tryz.prog Γ ext 62 [.agg ky.cells] s = some (ints L, s)) ∧ ∀ s, pcall Tryz.prog Γ ext 62 [.agg kx.cells] s = some (ints L, s)) (kidsL (lk.getD []) (li.getD []) bd) (fun i kx hkx => by
      have hi := (List.getElem?_eq_some_iff.1 hkx).1
      have hky : (kidsL (lk'.getD []) (li'.getD []) bd')[i]? = some ((kidsL (lk'.getD []) (li'.getD []) bd')[i]'(by omega)) := List.getElem?_eq_getElem (by omega)
      obtain ⟨L, e1, e2, e3⟩ := ih _ kx (hd.kids kx (List.mem_of_getElem? hkx)) (hk.get i _ kx hky hkx) (n4 kx (List.mem_of_getElem? hkx))
      exact ⟨L, e1, fun ky h => by rw [hky] at h; injection h with h; subst h; exact e2, e3⟩)
    have hfl := len_flatten (c := NodeD.cells) _ Ls l1 (fun i kx L h1 h2 => (l2 i kx L h1 h2).1)
    have hX := fun s => pos_node (ext := ext) x la lr _ _ Ls hd.a hd.r h38x h40x l1 (fun i k L h1 h2 => (l2 i k L h1 h2).2.2) (by omega) (by simp only [kidsL, List.length_append]; omega) s
    have hY := fun s => pos_node (ext := ext) y la' lr' _ _ Ls a1 r1 h38y h40y (by omega) (fun i ky L h1 h2 => by
      have hi := (List.getElem?_eq_some_iff.1 h1).1
      have hkx : (kidsL (lk.getD []) (li.getD []) bd)[i]? = some ((kidsL (lk.getD []) (li.getD []) bd)[i]'(by omega)) := List.getElem?_eq_getElem (by omega)
      exact (l2 i _ L hkx h2).2.1 ky h1) (by rw [a2.len, r2.len, hwl]; omega) (by rw [hkl]; simp only [kidsL, List.length_append]; omega) s
    refine ⟨_, ?_, fun s => ?_, hX⟩
    · simp only [List.length_append, List.length_map, List.length_cons, List.length_nil]; omega
    · rw [hY s, hpos, a2.map_eq (g := AssignD.pos) (fun p q h => h.1.1), r2.map_eq (g := RedirD.pos) (fun p q h => h.1.1), hw.map_eq (g := WordD.pos) (fun p q h => h.1)]
end Go.Proofs.YtdkcfccepjimbaaGreatDoor

namespace Go.Proofs.YtdkcfccepjimbaaGreatDoor
open Go Go.EvL Go.PE
variable {ext : PCallF}
/-! jobshellref11.SamePath, Exact, ExactAll -/
def inner31 : PCode := (.seq (.draw [(⟨some 17, .mv (.tmp 0), none⟩, [0], []),
             (⟨some 18, .mv (.tmp 5), none⟩, [5], [0]),
             (⟨some 19, .iaddr 1 (.tmp 17) (.tmp 18), none⟩, [17, 18], []),
             (⟨some 20, .load 3 false 1 (.tmp 19), none⟩, [19], []),
             (⟨some 21, .mv (.tmp 1), none⟩, [1], [3, 2, 1, 0]),
             (⟨some 22, .mv (.tmp 5), none⟩, [5], [4, 3, 2, 1, 0]),
             (⟨some 23, .iaddr 1 (.tmp 21) (.tmp 22), none⟩, [21, 22], [3, 2, 1, 0]),
             (⟨some 24, .load 3 false 1 (.tmp 23), none⟩, [23], [3, 2, 1, 0]),
             (⟨some 25, .bin .neq 3 (.tmp 20) (.tmp 24), none⟩, [20, 24], [])])
          (.cond (.tmp 25)
            (.seq (.reg [⟨some 4, .mv (.const (.bool false)), none⟩])
            .ret)
            (.skip)))
theorem g31 : Γ 31 = some (refF6 26 inner31) := (rfl)
def inner22 : PCode := (.seq (.draw [(⟨some 17, .mv (.tmp 0), none⟩, [0], []),
             (⟨some 18, .mv (.tmp 5), none⟩, [5], [0]),
             (⟨some 19, .iaddr 9 (.tmp 17) (.tmp 18), none⟩, [17, 18], []),
             (⟨some 20, .load 28 true 9 (.tmp 19), none⟩, [19], []),
             (⟨some 21, .mv (.tmp 1), none⟩, [1], [3, 2, 1, 0]),
             (⟨some 22, .mv (.tmp 5), none⟩, [5], [4, 3, 2, 1, 0]),
             (⟨some 23, .iaddr 9 (.tmp 21) (.tmp 22), none⟩, [21, 22], [3, 2, 1, 0]),
             (⟨some 24, .load 28 true 9 (.tmp 23), none⟩, [23], [3, 2, 1, 0]),
             (⟨some 25, .call (.func 27) [(.tmp 20), (.tmp 24)], none⟩, [20, 24], []),
             (⟨some 26, .un .not (.tmp 25), none⟩, [25], [])])
          (.cond (.tmp 26)
            (.seq (.reg [⟨some 4, .mv (.const (.bool false)), none⟩])
            .ret)
            (.skip)))
theorem g22 : Γ 22 = some (refF6 27 inner22) := (rfl)
theorem pu27 : puOf Γ 27 = true := (rfl)
theorem pu62 : puOf Γ 62 = true := (rfl)
theorem pu31 : puOf Γ 31 = true := (rfl)
theorem in31 (x : Int) : InnerOK Tryz.prog Γ ext 3 intC inner31 x x true := by
  intro l m i hl hm f s hin
  obtain ⟨l, rfl⟩ : ∃ k, l = some k := by cases l with | none => simp at hl | some k => exact ⟨k, rfl⟩
  obtain ⟨m, rfl⟩ : ∃ k, m = some k := by cases m with | none => simp at hm | some k => exact ⟨k, rfl⟩
  obtain ⟨ha, hb, hii⟩ := hin
  simp only [slP, Option.getD_some] at ha hb hl hm
  have hi : i < l.length := (List.getElem?_eq_some_iff.1 hl).1
  have hj : i < m.length := (List.getElem?_eq_some_iff.1 hm).1
  have h1 := flat_len intC_len l
  have h2 := flat_len intC_len m
  obtain ⟨r1, h3⟩ := flat_at intC_len hl
  obtain ⟨r2, h4⟩ := flat_at intC_len hm
  simp -implicitDefEqProofs only [inner31, pcode_seq, pcode_r, pcode_ret, pcode_skip, pcode_cond, pcode_block, pops_u, pops_nil, runK_some, actP, opP, Nat.zero_add, Nat.reduceAdd, Option.map_some, Option.bind_some, pval_tmp, pval_const, set_at, Nat.reduceEqDiff, ↓reduceIte, pvOf, seq_n, blk_n, cond_f, asBool_b, regE_some, ofCells, List.length_cons, Nat.one_ne_zero, Nat.reduceLeDiff, and_self, true_and, List.take_succ_cons, List.take_zero, bin_neq, List.nil_append, List.cons_append, Bool.true_eq_false, Bool.false_eq_true, reduceCtorEq, bne_self_eq_false, natP_cast, pcode_d, pdraw_nil, pdraw_u, drK_some, only_at, effO, effA, pureI, okAll_nil, okAll_cons, okPair_e, okPair_li, List.mem_cons, List.not_mem_nil, or_false, or_true, or_self, implies_true, false_implies, forall_const, ha, hb, hii, hi, hj, h1, h2, h3, h4, ld_litp, intC]
  exact ⟨_, _, rfl, ⟨by simp -implicitDefEqProofs only [set_at, ↓reduceIte, reduceCtorEq, ha], by simp -implicitDefEqProofs only [set_at, Nat.reduceEqDiff, ↓reduceIte, hb], by simp -implicitDefEqProofs only [set_at, Nat.reduceEqDiff, ↓reduceIte, hii]⟩, fun n0 w1 w2 => ⟨w1, w2⟩⟩
theorem in22 (x y : NodeD) (h : ∀ s, pcall Tryz.prog Γ ext 27 [.agg x.cells, .agg y.cells] s = some (.sc (.bool true), s)) : InnerOK Tryz.prog Γ ext 28 NodeD.cells inner22 x y true := by
  intro l m i hl hm f s hin
  obtain ⟨l, rfl⟩ : ∃ k, l = some k := by cases l with | none => simp at hl | some k => exact ⟨k, rfl⟩
  obtain ⟨m, rfl⟩ : ∃ k, m = some k := by cases m with | none => simp at hm | some k => exact ⟨k, rfl⟩
  obtain ⟨ha, hb, hii⟩ := hin
  simp only [slP, Option.getD_some] at ha hb hl hm
  have hi : i < l.length := (List.getElem?_eq_some_iff.1 hl).1
  have hj : i < m.length := (List.getElem?_eq_some_iff.1 hm).1
  have h1 := flat_len NodeD.len l
  have h2 := flat_len NodeD.len m
  have h3 := ld_sl NodeD.len hl
  have h4 := ld_sl NodeD.len hm
  simp -implicitDefEqProofs only [inner22, pcode_seq, pcode_r, pcode_ret, pcode_skip, pcode_cond, pcode_block, pops_u, pops_nil, runK_some, actP, opP, Nat.zero_add, Nat.reduceAdd, Option.map_some, Option.bind_some, pval_tmp, pval_const, pval_func, set_at, Nat.reduceEqDiff, ↓reduceIte, pvOf, seq_n, blk_n, cond_f, asBool_b, regE_some, ofCells, Nat.one_ne_zero, and_self, true_and, un_not, Bool.not_true, callP, List.map_cons, List.map_nil, List.nil_append, List.append_nil, Bool.true_eq_false, reduceCtorEq, natP_cast, pcode_d, pdraw_nil, pdraw_u, drK_some, only_at, effO, effA, pureI, okAll_nil, okAll_cons, okPair_e, okPair_li, List.mem_cons, List.not_mem_nil, or_false, or_true, or_self, implies_true, false_implies, forall_const, ha, hb, hii, hi, hj, h1, h2, h3, h4, h, pu27]
  exact ⟨_, _, rfl, ⟨by simp -implicitDefEqProofs only [set_at, ↓reduceIte, reduceCtorEq, ha], by simp -implicitDefEqProofs only [set_at, Nat.reduceEqDiff, ↓reduceIte, hb], by simp -implicitDefEqProofs only [set_at, Nat.reduceEqDiff, ↓reduceIte, hii]⟩, fun n0 w1 w2 => ⟨w1, w2⟩⟩
theorem path_same (L : List Int) (hL : L.length ≤ 100000000) (s : PS) : pcall Tryz.prog Γ ext 31 [ints L, ints L] s = some (.sc (.bool true), s) :=
  ref_true (Q := fun x y => x = y) g31 (by omega) ⟨optL L, optL L, rfl, rfl, rfl, by rw [optL_get]; omega, fun i x y h1 h2 => by rw [h1] at h2; injection h2⟩ (fun x y h => by subst h; exact in31 x) s
theorem exact_node {D d : Nat} {y x : NodeD} (hx : NodeAt D d x) (h : NEqv D d y x) (hN : bulks x.cells ≤ 16777216) (s : PS) : pcall Tryz.prog Γ ext 27 [.agg y.cells, .agg x.cells] s = some (.sc (.bool true), s) := by
  obtain ⟨L, l1, l2, l3⟩ := pos_pair (ext := ext) d y x hx h hN
  have h21 := same_node (ext := ext) d y x h
  have h31 := path_same (ext := ext) L (by omega)
  rw [pcall_u (fn := p27) (by rfl) _ _ (by simp [p27])]
  simp only [NodeD.cells] at l2 l3 h21 ⊢
  simp -implicitDefEqProofs only [p27, pcode_seq, pcode_r, pcode_ret, pops_u, pops_nil, runK_some, actP, opP, initP, Nat.zero_add, Nat.reduceAdd, guardP, Option.map_some, Option.bind_some, pval_tmp, pval_const, pval_func, set_at, Nat.reduceEqDiff, cellsP, ↓reduceIte, pvOf, seq_n, asBool_b, regE_some, new_h, new_n, new_w, ld_ptr, ofCells, List.length_cons, List.length_nil, Nat.left_eq_add, Nat.one_ne_zero, Nat.zero_le, and_self, List.drop_zero, List.take_succ_cons, List.take_zero, Nat.le_refl, beq_self_eq_true, callP, leaveP, resP, oneRes, frz, frz2, frz1, List.map_cons, List.map_nil, List.nil_append, List.append_nil, endK_r, Bool.false_eq_true, reduceCtorEq, pcode_d, pdraw_nil, pdraw_u, pdraw_g, drK_some, drG_true, only_at, effO, effA, pureI, okAll_nil, okAll_cons, okPair_e, List.mem_cons, List.not_mem_nil, or_false, or_true, or_self, implies_true, false_implies, h21, h31, l2, l3, pu21, pu62, pu31, okPair_rd]
theorem exact_all {D d : Nat} {a b : PV} (h : LEqv 28 NodeD.cells (fun y x => NEqv D d y x ∧ NodeAt D d x ∧ bulks x.cells ≤ 16777216) a b) (s : PS) : pcall Tryz.prog Γ ext 22 [a, b] s = some (.sc (.bool true), s) :=
  ref_true g22 (by omega) h (fun y x hq => in22 y x (exact_node hq.2.1 hq.1 hq.2.2)) s
end Go.Proofs.YtdkcfccepjimbaaGreatDoor
