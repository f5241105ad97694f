/- What Count, Kids, Words and Weight compute. No statement is proved here. -/
import Derived.Test.YtdkcfccepjimbaaGreatDoorNodes
set_option linter.unusedSimpArgs false
set_option linter.unusedVariables false
namespace Go.Proofs.YtdkcfccepjimbaaGreatDoor
open Go Go.EvL Go.PE
variable {ext : PCallF}
/-! jobshellref08.Count -/
structure CntI (a : PV) (s0 : PS) (i : Nat) (f : PFr) (s : PS) : Prop where
  s : s = s0
  a : f 0 = a
  i : f 6 = .sc (.int .i64 (i : Int))
  x : ∃ z : Int, f 4 = .sc (.int .i64 z)
  y : ∃ z : Int, f 5 = .sc (.int .i64 z)
theorem count_ok : ∀ (d : Nat) (a : PV), PartsAt d a → ∀ s, ∃ z y : Int, pcall Tryz.prog Γ ext 39 [a] s = some (.tup [.sc (.int .i64 z), .sc (.int .i64 y)], s) := by
  intro d
  induction d with
  | zero => intro a h; cases h
  | succ d ih =>
    rintro a ⟨l, rfl, hl, hl'⟩ s
    have L := slP_len (e := 63) (c := PartD.cells) l
    suffices h : ∃ q, pcall Tryz.prog Γ ext 39 [slP 63 PartD.cells l] s = some q ∧ ∃ z y : Int, q = (.tup [.sc (.int .i64 z), .sc (.int .i64 y)], s) by
      obtain ⟨q, e, z, y, rfl⟩ := h
      exact ⟨z, y, e⟩
    refine W_call (fn := p39) (by rfl) (by simp [p39]) ?_
    generalize hQ : EndQ p39 s _ = Q
    unfold p39
    refine W_rseq (fun f s' => s' = ⟨s.h, s.n, s.n⟩ ∧ f 0 = slP 63 PartD.cells l) ?_ ?_
    · simp -implicitDefEqProofs only [pops_u, pops_nil, runK_some, actP, opP, initP, pval_const, pvOf]
      exact ⟨_, _, rfl, rfl, rfl⟩
    rintro f _ ⟨rfl, h0⟩
    refine W_rseq (fun f s' => s' = ⟨s.h, s.n, s.n⟩ ∧ f 0 = slP 63 PartD.cells l ∧ (∃ z : Int, f 4 = .sc (.int .i64 z)) ∧ ∃ z : Int, f 5 = .sc (.int .i64 z)) ?_ ?_
    · simp -implicitDefEqProofs only [pops_u, pops_nil, runK_some, actP, opP, Option.map_some, pval_tmp, pval_const, set_at, ↓reduceIte, pvOf, h0, L]
      exact ⟨_, _, rfl, rfl, h0, ⟨_, rfl⟩, ⟨_, rfl⟩⟩
    rintro f _ ⟨rfl, h0, h4, h5⟩
    refine W_assoc ?_
    refine W_rseq (CntI (slP 63 PartD.cells l) ⟨s.h, s.n, s.n⟩ 0) ?_ ?_
    · simp -implicitDefEqProofs only [pops_u, pops_nil, runK_some, actP, opP, pval_const, pvOf]
      exact ⟨_, _, rfl, rfl, h0, rfl, h4, h5⟩
    intro f s1 hI
    refine W_lseq (l.getD []).length (CntI (slP 63 PartD.cells l) ⟨s.h, s.n, s.n⟩) (CntI (slP 63 PartD.cells l) ⟨s.h, s.n, s.n⟩ (l.getD []).length) hI ?_ ?_
    · rintro i f _ hi ⟨rfl, h0, h6, ⟨z, hz⟩, ⟨y, hy⟩⟩
      by_cases hlt : i < (l.getD []).length
      · have h5 : (decide ((i : Int) < ((l.getD []).length : Int))) = true := by simp; exact hlt
        have hx : (l.getD [])[i]? = some ((l.getD [])[i]) := List.getElem?_eq_getElem hlt
        generalize (l.getD [])[i] = x at hx
        obtain ⟨m, rfl⟩ : ∃ k, l = some k := by cases l with | none => simp at hx | some k => exact ⟨k, rfl⟩
        obtain ⟨cz, cy, hc⟩ := ih x.parts (hl' x (List.mem_of_getElem? hx)) ⟨s.h, s.n, s.n⟩
        simp only [slP, Option.getD_some] at h0 hx hlt L h5 hl
        have h1 := flat_len PartD.len m
        obtain ⟨r1, h3⟩ := flat_at PartD.len hx
        have h7 := wrap_succ (i := i) (by omega)
        simp -implicitDefEqProofs only [pcode_seq, pcode_r, pcode_skip, pcode_exit, pcode_cond, pcode_block, pops_u, pops_nil, runK_some, actP, opP, Option.map_some, Option.bind_some, pval_tmp, pval_const, pval_func, set_at, Nat.reduceEqDiff, ↓reduceIte, pvOf, seq_n, blk_n, cond_t, asBool_b, regE_some, ofCells, List.length_cons, Nat.reduceLeDiff, and_self, List.drop_succ_cons, List.drop_zero, List.take_succ_cons, List.take_zero, bin_add, bin_lss, callP, List.map_cons, List.map_nil, List.nil_append, List.append_nil, List.cons_append, Bool.false_eq_true, reduceCtorEq, natP_cast, W_some, rnd_n, len_str, List.getElem?_cons_zero, List.getElem?_cons_succ, h0, h6, hz, hy, L, h5, h7, hlt, h1, h3, ld_litp, PartD.cells, hc, slP]
        exact ⟨hlt, rfl, h0, rfl, ⟨_, rfl⟩, ⟨_, rfl⟩⟩
      · obtain rfl : i = (l.getD []).length := by omega
        have h5 : (decide (((l.getD []).length : Int) < ((l.getD []).length : Int))) = false := by simp
        simp -implicitDefEqProofs only [pcode_seq, pcode_r, pcode_skip, pcode_exit, pcode_cond, pops_u, pops_nil, runK_some, actP, opP, Option.map_some, pval_tmp, set_at, Nat.reduceEqDiff, ↓reduceIte, seq_n, seq_e, cond_f, asBool_b, regE_some, true_and, bin_lss, reduceCtorEq, W_some, rnd_e, h0, h6, L, h5]
        exact ⟨rfl, h0, h6, ⟨z, hz⟩, ⟨y, hy⟩⟩
    · rintro f _ ⟨rfl, h0, h6, ⟨z, hz⟩, ⟨y, hy⟩⟩
      refine W_rret ?_
      simp -implicitDefEqProofs only [pops_u, pops_nil, runK_some, actP, opP, pval_tmp, set_at, Nat.reduceEqDiff, ↓reduceIte, hz, hy]
      refine ⟨_, _, rfl, ?_⟩
      subst hQ
      refine endQ_r ?_ ⟨z, y, rfl⟩
      simp -implicitDefEqProofs only [Option.map_some, Option.bind_some, set_at, Nat.reduceEqDiff, ↓reduceIte, Nat.le_refl, leaveP, resP, oneRes, frz, frz2, frz1, Bool.false_eq_true, frzT, p39]
end Go.Proofs.YtdkcfccepjimbaaGreatDoor

namespace Go.Proofs.YtdkcfccepjimbaaGreatDoor
open Go Go.EvL Go.PE
variable {ext : PCallF}
/-! jobshellref11.Kids -/
theorem take_flat {α β : Type} {g : α → List β} {l : List α} {i : Nat} {x : α} (h : l[i]? = some x) : (l.take (i + 1)).flatMap g = (l.take i).flatMap g ++ g x := by
  rw [List.take_add_one, h, List.flatMap_append]
  simp
theorem take_flat_le {α β : Type} {g : α → List β} (l : List α) (i : Nat) : ((l.take i).flatMap g).length ≤ (l.flatMap g).length := by
  conv => rhs; rw [← List.take_append_drop i l, List.flatMap_append, List.length_append]
  omega
theorem NodeD.clean {x : NodeD} (h1 : clean1 x.assigns = true) (h2 : clean1 x.words = true) (h3 : clean1 x.redirs = true) (h4 : clean1 x.kids = true) (h5 : clean1 x.items = true) : x.cells.all clean1 = true := by
  simp only [NodeD.cells, List.all_cons, List.all_nil, h1, h2, h3, h4, h5, Bool.and_true]; rfl
theorem clean_sl {α : Type} (e : Nat) (c : α → List PV) (l : Option (List α)) : clean1 (slP e c l) = true := by cases l <;> rfl
theorem RowAt.clean {α : Type} {e : Nat} {c : α → List PV} {Q : α → Prop} {p : PV} (h : RowAt e c Q p) : clean1 p = true := by
  obtain ⟨l, rfl, _⟩ := h; exact clean_sl _ _ _
theorem NodeAt.cleans {D d : Nat} {x : NodeD} (h : NodeAt D d x) : x.cells.all clean1 = true := by
  cases d with
  | zero => cases h
  | succ d =>
    obtain ⟨h1, h2, h3, h4, h5⟩ := h
    exact NodeD.clean (RowAt.clean h1) (RowAt.clean h2) (RowAt.clean h3) h4.clean h5.clean
structure KidI (x : NodeD) (b : Nat) (l : List NodeD) (f : PFr) (s : PS) : Prop where
  p : f 1 = .ptr b 0 9
  h : s.h b = ⟨x.cells, 0, 28⟩
  n : b + 1 ≤ s.n
  w : b ≤ s.w
  acc : Acc 28 9 NodeD.cells (b + 1) l (f 3) s
theorem kids_ok (x : NodeD) (lk : Option (List NodeD)) (li : Option (List ItemD)) (bd : ItemD → Option (List NodeD)) (hk : x.kids = slP 28 NodeD.cells lk) (hit : x.items = slP 75 ItemD.cells li) (hbd : ∀ it ∈ li.getD [], it.body = slP 28 NodeD.cells (bd it))
    (hbig : (lk.getD []).length + ((li.getD []).flatMap fun it => (bd it).getD []).length ≤ 16777216) (hlen : (li.getD []).length ≤ 16777216)
    (ho : ∀ y, y ∈ lk.getD [] ∨ (∃ it ∈ li.getD [], y ∈ (bd it).getD []) → y.cells.all oneP = true ∧ y.cells.all clean1 = true) (s : PS) :
    pcall Tryz.prog Γ ext 40 [.agg x.cells] s = some (slP 28 NodeD.cells (optL (lk.getD [] ++ (li.getD []).flatMap fun it => (bd it).getD [])), s) := by
  have L := slP_len (e := 75) (c := ItemD.cells) li
  suffices h : ∃ q, pcall Tryz.prog Γ ext 40 [.agg x.cells] s = some q ∧ q = (slP 28 NodeD.cells (optL (lk.getD [] ++ (li.getD []).flatMap fun it => (bd it).getD [])), s) by
    obtain ⟨q, e, rfl⟩ := h
    exact e
  refine W_call (fn := p40) (by rfl) (by simp [p40]) ?_
  generalize hQ : EndQ p40 s _ = Q
  unfold p40
  refine W_rseq (fun f s' => f 1 = .ptr s.n 0 9 ∧ s'.h s.n = ⟨x.cells, 0, 28⟩ ∧ s'.n = s.n + 1 ∧ s'.w = s.n) ?_ ?_
  · simp -implicitDefEqProofs only [pops_u, pops_nil, runK_some, actP, opP, initP, pval_tmp, pval_const, set_at, cellsP, ↓reduceIte, pvOf]
    exact ⟨_, _, rfl, rfl, by simp -implicitDefEqProofs only [↓reduceIte, new_h], rfl, rfl⟩
  rintro f s1 ⟨p1, p2, p3, p4⟩
  refine W_rseq (KidI x s.n []) ?_ ?_
  · simp -implicitDefEqProofs only [pops_u, pops_nil, runK_some, actP, opP, pval_const, pvOf]
    exact ⟨_, _, rfl, p1, p2, by omega, by omega, .nil _ _ _ _ _⟩
  rintro f s1 ⟨p1, p2, p3, p4, p5⟩
  refine W_rseq (KidI x s.n (lk.getD [])) ?_ ?_
  · obtain ⟨v', s', a1, a2, a3, a4, a5⟩ := p5.app (bytes := 160) NodeD.len (lk.getD []) (by omega) (by simp only [List.length_nil]; omega) (by simp only [List.length_nil]; omega) (fun y hy => (ho y (.inl hy)).1) p3
    have he := elems_sl (e := 28) NodeD.len lk s1
    simp only [NodeD.cells] at p2
    simp -implicitDefEqProofs only [pops_u, pops_nil, runK_some, actP, opP, Nat.zero_add, Nat.reduceAdd, Option.map_some, Option.bind_some, pval_tmp, set_at, Nat.reduceEqDiff, ↓reduceIte, ld_ptr, ofCells, List.length_cons, List.length_nil, Nat.reduceLeDiff, Nat.zero_le, and_self, List.drop_succ_cons, List.drop_zero, List.take_succ_cons, List.take_zero, Nat.le_refl, Bool.false_eq_true, p1, p2, hk, he, a1]
    refine ⟨_, _, rfl, p1, ?_, by omega, a5 _ (by omega) p4, by rw [List.nil_append] at a2; exact a2⟩
    rw [a3 _ (by omega)]
    exact p2
  rintro f s1 hI
  refine W_assoc ?_
  refine W_rseq (fun f s1 => KidI x s.n (lk.getD [] ++ ((li.getD []).take 0).flatMap fun it => (bd it).getD []) f s1 ∧ f 4 = .sc (.int .i64 ((0 : Nat) : Int))) ?_ ?_
  · obtain ⟨p1, p2, p3, p4, p5⟩ := hI
    simp -implicitDefEqProofs only [pops_u, pops_nil, runK_some, actP, opP, pval_const, pvOf, List.take_zero]
    exact ⟨_, _, rfl, ⟨p1, p2, p3, p4, by rw [List.flatMap_nil, List.append_nil]; exact p5⟩, rfl⟩
  rintro f s1 hI
  refine W_lseq (li.getD []).length (fun i f s1 => KidI x s.n (lk.getD [] ++ ((li.getD []).take i).flatMap fun it => (bd it).getD []) f s1 ∧ f 4 = .sc (.int .i64 (i : Int))) (fun f s1 => KidI x s.n (lk.getD [] ++ (li.getD []).flatMap fun it => (bd it).getD []) f s1) hI ?_ ?_
  · rintro i f s1 hi ⟨⟨p1, p2, p3, p4, p5⟩, h4⟩
    by_cases hlt : i < (li.getD []).length
    · have h5 : (decide ((i : Int) < ((li.getD []).length : Int))) = true := by simp; exact hlt
      have hx : (li.getD [])[i]? = some ((li.getD [])[i]) := List.getElem?_eq_getElem hlt
      generalize (li.getD [])[i] = it at hx
      have hmem := List.mem_of_getElem? hx
      have hb := hbd it hmem
      have hfl := take_flat (g := fun it => (bd it).getD []) hx
      have hle := take_flat_le (g := fun it => (bd it).getD []) (li.getD []) (i + 1)
      rw [hfl, List.length_append] at hle
      obtain ⟨v', s', a1, a2, a3, a4, a5⟩ := p5.app (bytes := 160) NodeD.len ((bd it).getD []) (by omega) (by rw [List.length_append]; omega) (by rw [List.length_append]; omega) (fun y hy => (ho y (.inr ⟨it, hmem, hy⟩)).1) p3
      have he := elems_sl (e := 28) NodeD.len (bd it) s1
      have h6 : s'.h s.n = ⟨x.cells, 0, 28⟩ := by rw [a3 _ (by omega)]; exact p2
      obtain ⟨m, rfl⟩ : ∃ k, li = some k := by cases li with | none => simp at hx | some k => exact ⟨k, rfl⟩
      simp only [slP, Option.getD_some] at hit hx hlt L h5 hlen hfl
      have h1 := flat_len ItemD.len m
      obtain ⟨r1, h3⟩ := flat_at ItemD.len hx
      have h7 := wrap_succ (i := i) (by omega)
      simp only [NodeD.cells, hit] at p2
      simp -implicitDefEqProofs only [pcode_seq, pcode_r, pcode_skip, pcode_exit, pcode_cond, pcode_block, pops_u, pops_nil, runK_some, actP, opP, Nat.zero_add, Nat.reduceAdd, Option.map_some, Option.bind_some, pval_tmp, pval_const, set_at, Nat.reduceEqDiff, ↓reduceIte, pvOf, seq_n, blk_n, cond_t, asBool_b, regE_some, ld_ptr, ofCells, List.length_cons, List.length_nil, Nat.reduceLeDiff, Nat.zero_le, and_self, and_true, List.drop_succ_cons, List.drop_zero, List.take_succ_cons, List.take_zero, Nat.le_refl, bin_add, bin_lss, List.nil_append, List.cons_append, Bool.false_eq_true, natP_cast, W_some, rnd_n, p1, p2, h4, L, h5, h7, hlt, h1, h3, ld_litp, ItemD.cells, hb, he, a1]
      refine ⟨hlt, p1, h6, by omega, a5 _ (by omega) p4, ?_⟩
      show Acc 28 9 NodeD.cells (s.n + 1) (lk.getD [] ++ (m.take (i + 1)).flatMap fun it => (bd it).getD []) v' s'
      rw [hfl, ← List.append_assoc]
      exact a2
    · obtain rfl : i = (li.getD []).length := by omega
      have h5 : (decide (((li.getD []).length : Int) < ((li.getD []).length : Int))) = false := by simp
      have p2' := p2
      simp only [NodeD.cells, hit] at p2'
      simp -implicitDefEqProofs only [pcode_seq, pcode_r, pcode_skip, pcode_exit, pcode_cond, pops_u, pops_nil, runK_some, actP, opP, Nat.zero_add, Nat.reduceAdd, Option.map_some, Option.bind_some, pval_tmp, set_at, Nat.reduceEqDiff, ↓reduceIte, seq_n, seq_e, cond_f, asBool_b, regE_some, ld_ptr, ofCells, List.length_cons, List.length_nil, Nat.zero_le, and_self, true_and, List.drop_succ_cons, List.drop_zero, List.take_succ_cons, List.take_zero, Nat.le_refl, bin_lss, Bool.false_eq_true, W_some, rnd_e, p1, p2', h4, L, h5]
      refine ⟨p1, p2, p3, p4, ?_⟩
      rw [List.take_length] at p5
      exact p5
  · rintro f s1 ⟨p1, p2, p3, p4, p5⟩
    refine W_rret ?_
    simp -implicitDefEqProofs only [pops_u, pops_nil, runK_some, actP, opP, pval_tmp, set_at, ↓reduceIte]
    refine ⟨_, _, rfl, ?_⟩
    subst hQ
    refine endQ_r ?_ rfl
    refine leave_p (vs := [f 3]) rfl rfl p4 ?_
    refine frz_of (p5.frz NodeD.len (by omega) fun y hy => ?_)
    rw [List.mem_append, List.mem_flatMap] at hy
    exact (ho y (hy.imp id id)).2
end Go.Proofs.YtdkcfccepjimbaaGreatDoor

namespace Go.Proofs.YtdkcfccepjimbaaGreatDoor
open Go Go.EvL Go.PE
variable {ext : PCallF}
/-! jobshellref11.Words -/
theorem take_map {α β : Type} {g : α → β} {l : List α} {i : Nat} {x : α} (h : l[i]? = some x) : (l.take (i + 1)).map g = (l.take i).map g ++ [g x] := by
  rw [List.take_add_one, h, List.map_append]
  simp
def AssignD.val (y : AssignD) : WordD := ⟨y.vpos, y.parts⟩
def RedirD.tgt (y : RedirD) : WordD := ⟨y.tpos, y.parts⟩
theorem WordD.one {y : WordD} (h : oneP y.parts = true) : y.cells.all oneP = true := by simp only [WordD.cells, List.all_cons, List.all_nil, h, Bool.and_true]; rfl
theorem WordD.clean {y : WordD} (h : clean1 y.parts = true) : y.cells.all clean1 = true := by simp only [WordD.cells, List.all_cons, List.all_nil, h, Bool.and_true]; rfl
structure WrdI (x : NodeD) (b : Nat) (l : List WordD) (f : PFr) (s : PS) : Prop where
  p : f 1 = .ptr b 0 9
  h : s.h b = ⟨x.cells, 0, 28⟩
  n : b + 1 ≤ s.n
  w : b ≤ s.w
  acc : Acc 56 2 WordD.cells (b + 1) l (f 3) s
def wordsL (la : List AssignD) (lw : List WordD) (lr : List RedirD) (li : List ItemD) (pt : ItemD → Option (List WordD)) : List WordD := la.map AssignD.val ++ lw ++ lr.map RedirD.tgt ++ li.flatMap fun it => (pt it).getD []
theorem wordsL_ok (x : NodeD) (la : Option (List AssignD)) (lw : Option (List WordD)) (lr : Option (List RedirD)) (li : Option (List ItemD)) (pt : ItemD → Option (List WordD)) (ha : x.assigns = slP 58 AssignD.cells la) (hw : x.words = slP 56 WordD.cells lw) (hr : x.redirs = slP 70 RedirD.cells lr) (hit : x.items = slP 75 ItemD.cells li)
    (hpt : ∀ it ∈ li.getD [], it.pats = slP 56 WordD.cells (pt it)) (hbig : (la.getD []).length + (lw.getD []).length + (lr.getD []).length + ((li.getD []).flatMap fun it => (pt it).getD []).length ≤ 16777216) (hlen : (li.getD []).length ≤ 16777216)
    (ho : ∀ y ∈ wordsL (la.getD []) (lw.getD []) (lr.getD []) (li.getD []) pt, oneP y.parts = true ∧ clean1 y.parts = true) (s : PS) :
    pcall Tryz.prog Γ ext 38 [.agg x.cells] s = some (slP 56 WordD.cells (optL (wordsL (la.getD []) (lw.getD []) (lr.getD []) (li.getD []) pt)), s) := by
  have LA := slP_len (e := 58) (c := AssignD.cells) la
  have LR := slP_len (e := 70) (c := RedirD.cells) lr
  have LI := slP_len (e := 75) (c := ItemD.cells) li
  have o1 : ∀ y ∈ la.getD [], oneP y.parts = true := fun y hy => (ho y.val (by simp only [wordsL, List.mem_append, List.mem_map]; exact .inl (.inl (.inl ⟨y, hy, rfl⟩)))).1
  have o2 : ∀ y ∈ lw.getD [], oneP y.parts = true := fun y hy => (ho y (by simp only [wordsL, List.mem_append]; exact .inl (.inl (.inr hy)))).1
  have o3 : ∀ y ∈ lr.getD [], oneP y.parts = true := fun y hy => (ho y.tgt (by simp only [wordsL, List.mem_append, List.mem_map]; exact .inl (.inr ⟨y, hy, rfl⟩))).1
  have o4 : ∀ it ∈ li.getD [], ∀ y ∈ (pt it).getD [], oneP y.parts = true := fun it hi y hy => (ho y (by simp only [wordsL, List.mem_append, List.mem_flatMap]; exact .inr ⟨it, hi, hy⟩)).1
  suffices h : ∃ q, pcall Tryz.prog Γ ext 38 [.agg x.cells] s = some q ∧ q = (slP 56 WordD.cells (optL (wordsL (la.getD []) (lw.getD []) (lr.getD []) (li.getD []) pt)), s) by
    obtain ⟨q, e, rfl⟩ := h
    exact e
  refine W_call (fn := p38) (by rfl) (by simp [p38]) ?_
  generalize hQ : EndQ p38 s _ = Q
  unfold p38
  refine W_rseq (fun f s' => f 1 = .ptr s.n 0 9 ∧ s'.h s.n = ⟨x.cells, 0, 28⟩ ∧ s'.n = s.n + 1 ∧ s'.w = s.n) ?_ ?_
  · simp -implicitDefEqProofs only [pops_u, pops_nil, runK_some, actP, opP, initP, pval_tmp, pval_const, set_at, cellsP, ↓reduceIte, pvOf]
    exact ⟨_, _, rfl, rfl, by simp -implicitDefEqProofs only [↓reduceIte, new_h], rfl, rfl⟩
  rintro f s1 ⟨p1, p2, p3, p4⟩
  refine W_rseq (WrdI x s.n []) ?_ ?_
  · simp -implicitDefEqProofs only [pops_u, pops_nil, runK_some, actP, opP, pval_const, pvOf]
    exact ⟨_, _, rfl, p1, p2, by omega, by omega, .nil _ _ _ _ _⟩
  rintro f s1 hI
  refine W_assoc ?_
  refine W_rseq (fun f s1 => WrdI x s.n ([] ++ ((la.getD []).take 0).map AssignD.val) f s1 ∧ f 4 = .sc (.int .i64 ((0 : Nat) : Int))) ?_ ?_
  · obtain ⟨p1, p2, p3, p4, p5⟩ := hI
    simp -implicitDefEqProofs only [pops_u, pops_nil, runK_some, actP, opP, pval_const, pvOf, List.take_zero, List.map_nil, List.append_nil]
    exact ⟨_, _, rfl, ⟨p1, p2, p3, p4, by first | exact p5 | (rw [List.append_nil]; exact p5)⟩, rfl⟩
  rintro f s1 hI
  refine W_lseq (la.getD []).length (fun i f s1 => WrdI x s.n ([] ++ ((la.getD []).take i).map AssignD.val) f s1 ∧ f 4 = .sc (.int .i64 (i : Int))) (fun f s1 => WrdI x s.n ([] ++ (la.getD []).map AssignD.val) f s1) hI ?_ ?_
  · rintro i f s1 hi ⟨⟨p1, p2, p3, p4, p5⟩, h4⟩
    by_cases hlt : i < (la.getD []).length
    · have h5 : (decide ((i : Int) < ((la.getD []).length : Int))) = true := by simp; exact hlt
      have hx : (la.getD [])[i]? = some ((la.getD [])[i]) := List.getElem?_eq_getElem hlt
      generalize (la.getD [])[i] = y at hx
      have hmem := List.mem_of_getElem? hx
      have hfl := take_map (g := AssignD.val) hx
      obtain ⟨v', s', a1, a2, a3, a4, a5⟩ := (p5.new ⟨y.val.cells, 0, 56⟩).app (bytes := 32) WordD.len [y.val] (by omega) (by simp only [List.length_append, List.length_map, List.length_take, List.length_cons, List.length_nil]; omega) (by simp only [List.length_append, List.length_map, List.length_take, List.length_cons, List.length_nil]; omega) (fun z hz => by rw [List.mem_singleton] at hz; subst hz; exact WordD.one (o1 y hmem)) (by rw [new_n]; omega)
      have h6 : s'.h s.n = ⟨x.cells, 0, 28⟩ := by rw [a3 _ (by omega), new_h, if_neg (by omega)]; exact p2
      have h8 : s.n ≤ s'.w := a5 _ (by omega) (by rw [new_w]; exact p4)
      rw [new_n] at a4
      obtain ⟨m, rfl⟩ : ∃ k, la = some k := by cases la with | none => simp at hx | some k => exact ⟨k, rfl⟩
      simp only [slP, Option.getD_some] at ha hx hlt LA h5 hbig hfl
      have h1 := flat_len AssignD.len m
      obtain ⟨r1, h3⟩ := flat_at AssignD.len hx
      have h7 := wrap_succ (i := i) (by omega)
      simp only [NodeD.cells, ha] at p2
      simp only [List.flatMap_cons, List.flatMap_nil, List.append_nil, WordD.cells, AssignD.val, List.length_cons, List.length_nil, Nat.zero_add] at a1
      simp -implicitDefEqProofs only [pcode_seq, pcode_r, pcode_skip, pcode_exit, pcode_cond, pcode_block, pops_u, pops_nil, runK_some, actP, opP, Nat.zero_add, Nat.reduceAdd, Option.map_some, Option.bind_some, pval_tmp, pval_const, set_at, Nat.reduceEqDiff, cellsP, ↓reduceIte, pvOf, seq_n, blk_n, cond_t, asBool_b, regE_some, new_h, ld_ptr, ofCells, List.length_cons, List.length_nil, Nat.reduceLeDiff, Nat.zero_le, and_self, and_true, List.drop_succ_cons, List.drop_zero, List.take_succ_cons, List.take_zero, Nat.le_refl, bin_add, bin_lss, List.map_cons, List.map_nil, List.nil_append, List.append_nil, List.cons_append, Bool.false_eq_true, natP_cast, W_some, rnd_n, p1, p2, h4, LA, h5, h7, hlt, h1, h3, ld_litp, AssignD.cells, fillP, elemsP, Nat.reduceMul, List.drop_nil, List.take_nil, a1]
      refine ⟨hlt, p1, h6, by omega, h8, ?_⟩
      show Acc 56 2 WordD.cells (s.n + 1) ([] ++ (m.take (i + 1)).map AssignD.val) v' s'
      rw [hfl, ← List.append_assoc]
      exact a2
    · obtain rfl : i = (la.getD []).length := by omega
      have h5 : (decide (((la.getD []).length : Int) < ((la.getD []).length : Int))) = false := by simp
      have p2' := p2
      simp only [NodeD.cells, ha] at p2'
      simp -implicitDefEqProofs only [pcode_seq, pcode_r, pcode_skip, pcode_exit, pcode_cond, pops_u, pops_nil, runK_some, actP, opP, Nat.zero_add, Nat.reduceAdd, Option.map_some, Option.bind_some, pval_tmp, set_at, Nat.reduceEqDiff, ↓reduceIte, seq_n, seq_e, cond_f, asBool_b, regE_some, ld_ptr, ofCells, List.length_cons, List.length_nil, Nat.reduceLeDiff, Nat.zero_le, and_self, true_and, List.drop_succ_cons, List.drop_zero, List.take_succ_cons, List.take_zero, Nat.le_refl, bin_lss, List.nil_append, Bool.false_eq_true, W_some, rnd_e, p1, p2', h4, LA, h5]
      refine ⟨p1, p2, p3, p4, ?_⟩
      rw [List.take_length] at p5
      exact p5
  rintro f s1 ⟨p1, p2, p3, p4, p5⟩
  refine W_rseq (WrdI x s.n ([] ++ (la.getD []).map AssignD.val ++ lw.getD [])) ?_ ?_
  · obtain ⟨v', s', a1, a2, a3, a4, a5⟩ := p5.app (bytes := 32) WordD.len (lw.getD []) (by omega) (by simp only [List.length_append, List.length_map, List.length_nil]; omega) (by simp only [List.length_append, List.length_map, List.length_nil]; omega) (fun y hy => WordD.one (o2 y hy)) p3
    have he := elems_sl (e := 56) WordD.len lw s1
    have h6 : s'.h s.n = ⟨x.cells, 0, 28⟩ := by rw [a3 _ (by omega)]; exact p2
    simp only [NodeD.cells] at p2
    simp -implicitDefEqProofs only [pops_u, pops_nil, runK_some, actP, opP, Nat.zero_add, Nat.reduceAdd, Option.map_some, Option.bind_some, pval_tmp, set_at, Nat.reduceEqDiff, ↓reduceIte, ld_ptr, ofCells, List.length_cons, List.length_nil, Nat.reduceLeDiff, Nat.zero_le, and_self, List.drop_succ_cons, List.drop_zero, List.take_succ_cons, List.take_zero, Nat.le_refl, List.nil_append, Bool.false_eq_true, p1, p2, hw, he, a1]
    refine ⟨_, _, rfl, p1, h6, by omega, a5 _ (by omega) p4, ?_⟩
    rw [List.nil_append] at a2
    exact a2
  rintro f s1 hI
  refine W_assoc ?_
  refine W_rseq (fun f s1 => WrdI x s.n (([] ++ (la.getD []).map AssignD.val ++ lw.getD []) ++ ((lr.getD []).take 0).map RedirD.tgt) f s1 ∧ f 5 = .sc (.int .i64 ((0 : Nat) : Int))) ?_ ?_
  · obtain ⟨p1, p2, p3, p4, p5⟩ := hI
    simp -implicitDefEqProofs only [pops_u, pops_nil, runK_some, actP, opP, pval_const, pvOf, List.take_zero, List.map_nil, List.nil_append, List.append_nil]
    exact ⟨_, _, rfl, ⟨p1, p2, p3, p4, by first | exact p5 | (rw [List.append_nil]; exact p5)⟩, rfl⟩
  rintro f s1 hI
  refine W_lseq (lr.getD []).length (fun i f s1 => WrdI x s.n (([] ++ (la.getD []).map AssignD.val ++ lw.getD []) ++ ((lr.getD []).take i).map RedirD.tgt) f s1 ∧ f 5 = .sc (.int .i64 (i : Int))) (fun f s1 => WrdI x s.n (([] ++ (la.getD []).map AssignD.val ++ lw.getD []) ++ (lr.getD []).map RedirD.tgt) f s1) hI ?_ ?_
  · rintro i f s1 hi ⟨⟨p1, p2, p3, p4, p5⟩, h4⟩
    by_cases hlt : i < (lr.getD []).length
    · have h5 : (decide ((i : Int) < ((lr.getD []).length : Int))) = true := by simp; exact hlt
      have hx : (lr.getD [])[i]? = some ((lr.getD [])[i]) := List.getElem?_eq_getElem hlt
      generalize (lr.getD [])[i] = y at hx
      have hmem := List.mem_of_getElem? hx
      have hfl := take_map (g := RedirD.tgt) hx
      obtain ⟨v', s', a1, a2, a3, a4, a5⟩ := (p5.new ⟨y.tgt.cells, 0, 56⟩).app (bytes := 32) WordD.len [y.tgt] (by omega) (by simp only [List.length_append, List.length_map, List.length_take, List.length_cons, List.length_nil]; omega) (by simp only [List.length_append, List.length_map, List.length_take, List.length_cons, List.length_nil]; omega) (fun z hz => by rw [List.mem_singleton] at hz; subst hz; exact WordD.one (o3 y hmem)) (by rw [new_n]; omega)
      have h6 : s'.h s.n = ⟨x.cells, 0, 28⟩ := by rw [a3 _ (by omega), new_h, if_neg (by omega)]; exact p2
      have h8 : s.n ≤ s'.w := a5 _ (by omega) (by rw [new_w]; exact p4)
      rw [new_n] at a4
      obtain ⟨m, rfl⟩ : ∃ k, lr = some k := by cases lr with | none => simp at hx | some k => exact ⟨k, rfl⟩
      simp only [slP, Option.getD_some] at hr hx hlt LR h5 hbig hfl
      have h1 := flat_len RedirD.len m
      obtain ⟨r1, h3⟩ := flat_at RedirD.len hx
      have h7 := wrap_succ (i := i) (by omega)
      simp only [NodeD.cells, hr] at p2
      simp only [List.flatMap_cons, List.flatMap_nil, List.append_nil, WordD.cells, RedirD.tgt, List.length_cons, List.length_nil, Nat.zero_add] at a1
      simp -implicitDefEqProofs only [pcode_seq, pcode_r, pcode_skip, pcode_exit, pcode_cond, pcode_block, pops_u, pops_nil, runK_some, actP, opP, Nat.zero_add, Nat.reduceAdd, Option.map_some, Option.bind_some, pval_tmp, pval_const, set_at, Nat.reduceEqDiff, cellsP, ↓reduceIte, pvOf, seq_n, blk_n, cond_t, asBool_b, regE_some, new_h, ld_ptr, ofCells, List.length_cons, List.length_nil, Nat.reduceLeDiff, Nat.zero_le, and_self, and_true, List.drop_succ_cons, List.drop_zero, List.take_succ_cons, List.take_zero, Nat.le_refl, bin_add, bin_lss, List.map_cons, List.map_nil, List.nil_append, List.append_nil, List.cons_append, Bool.false_eq_true, natP_cast, W_some, rnd_n, p1, p2, h4, LR, h5, h7, hlt, h1, h3, ld_litp, RedirD.cells, fillP, elemsP, Nat.reduceMul, List.drop_nil, List.take_nil, a1]
      refine ⟨hlt, p1, h6, by omega, h8, ?_⟩
      show Acc 56 2 WordD.cells (s.n + 1) (([] ++ (la.getD []).map AssignD.val ++ lw.getD []) ++ (m.take (i + 1)).map RedirD.tgt) v' s'
      rw [hfl, ← List.append_assoc]
      exact a2
    · obtain rfl : i = (lr.getD []).length := by omega
      have h5 : (decide (((lr.getD []).length : Int) < ((lr.getD []).length : Int))) = false := by simp
      have p2' := p2
      simp only [NodeD.cells, hr] at p2'
      simp -implicitDefEqProofs only [pcode_seq, pcode_r, pcode_skip, pcode_exit, pcode_cond, pops_u, pops_nil, runK_some, actP, opP, Nat.zero_add, Nat.reduceAdd, Option.map_some, Option.bind_some, pval_tmp, set_at, Nat.reduceEqDiff, ↓reduceIte, seq_n, seq_e, cond_f, asBool_b, regE_some, ld_ptr, ofCells, List.length_cons, List.length_nil, Nat.reduceLeDiff, Nat.zero_le, and_self, true_and, List.drop_succ_cons, List.drop_zero, List.take_succ_cons, List.take_zero, Nat.le_refl, bin_lss, List.nil_append, Bool.false_eq_true, W_some, rnd_e, p1, p2', h4, LR, h5]
      refine ⟨p1, p2, p3, p4, ?_⟩
      rw [List.take_length] at p5
      exact p5
  rintro f s1 hI
  refine W_assoc ?_
  refine W_rseq (fun f s1 => WrdI x s.n ((([] ++ (la.getD []).map AssignD.val ++ lw.getD []) ++ (lr.getD []).map RedirD.tgt) ++ ((li.getD []).take 0).flatMap fun it => (pt it).getD []) f s1 ∧ f 6 = .sc (.int .i64 ((0 : Nat) : Int))) ?_ ?_
  · obtain ⟨p1, p2, p3, p4, p5⟩ := hI
    simp -implicitDefEqProofs only [pops_u, pops_nil, runK_some, actP, opP, pval_const, pvOf, List.take_zero, List.nil_append]
    exact ⟨_, _, rfl, ⟨p1, p2, p3, p4, by rw [List.flatMap_nil, List.append_nil]; exact p5⟩, rfl⟩
  rintro f s1 hI
  refine W_lseq (li.getD []).length (fun i f s1 => WrdI x s.n ((([] ++ (la.getD []).map AssignD.val ++ lw.getD []) ++ (lr.getD []).map RedirD.tgt) ++ ((li.getD []).take i).flatMap fun it => (pt it).getD []) f s1 ∧ f 6 = .sc (.int .i64 (i : Int))) (fun f s1 => WrdI x s.n (wordsL (la.getD []) (lw.getD []) (lr.getD []) (li.getD []) pt) f s1) hI ?_ ?_
  · rintro i f s1 hi ⟨⟨p1, p2, p3, p4, p5⟩, h4⟩
    by_cases hlt : i < (li.getD []).length
    · have h5 : (decide ((i : Int) < ((li.getD []).length : Int))) = true := by simp; exact hlt
      have hx : (li.getD [])[i]? = some ((li.getD [])[i]) := List.getElem?_eq_getElem hlt
      generalize (li.getD [])[i] = it at hx
      have hmem := List.mem_of_getElem? hx
      have hb := hpt it hmem
      have hfl := take_flat (g := fun it => (pt it).getD []) hx
      have hle := take_flat_le (g := fun it => (pt it).getD []) (li.getD []) (i + 1)
      rw [hfl, List.length_append] at hle
      obtain ⟨v', s', a1, a2, a3, a4, a5⟩ := p5.app (bytes := 32) WordD.len ((pt it).getD []) (by omega) (by simp only [List.length_append, List.length_map, List.length_nil]; omega) (by simp only [List.length_append, List.length_map, List.length_nil]; omega) (fun y hy => WordD.one (o4 it hmem y hy)) p3
      have he := elems_sl (e := 56) WordD.len (pt it) s1
      have h6 : s'.h s.n = ⟨x.cells, 0, 28⟩ := by rw [a3 _ (by omega)]; exact p2
      obtain ⟨m, rfl⟩ : ∃ k, li = some k := by cases li with | none => simp at hx | some k => exact ⟨k, rfl⟩
      simp only [slP, Option.getD_some] at hit hx hlt LI h5 hlen hfl
      have h1 := flat_len ItemD.len m
      obtain ⟨r1, h3⟩ := flat_at ItemD.len hx
      have h7 := wrap_succ (i := i) (by omega)
      simp only [NodeD.cells, hit] at p2
      simp -implicitDefEqProofs only [pcode_seq, pcode_r, pcode_skip, pcode_exit, pcode_cond, pcode_block, pops_u, pops_nil, runK_some, actP, opP, Nat.zero_add, Nat.reduceAdd, Option.map_some, Option.bind_some, pval_tmp, pval_const, set_at, Nat.reduceEqDiff, ↓reduceIte, pvOf, seq_n, blk_n, cond_t, asBool_b, regE_some, ld_ptr, ofCells, List.length_cons, List.length_nil, Nat.reduceLeDiff, Nat.zero_le, and_self, and_true, List.drop_succ_cons, List.drop_zero, List.take_succ_cons, List.take_zero, Nat.le_refl, bin_add, bin_lss, List.nil_append, List.cons_append, Bool.false_eq_true, natP_cast, W_some, rnd_n, p1, p2, h4, LI, h5, h7, hlt, h1, h3, ld_litp, ItemD.cells, hb, he, a1]
      refine ⟨hlt, p1, h6, by omega, a5 _ (by omega) p4, ?_⟩
      show Acc 56 2 WordD.cells (s.n + 1) ((([] ++ (la.getD []).map AssignD.val ++ lw.getD []) ++ (lr.getD []).map RedirD.tgt) ++ (m.take (i + 1)).flatMap fun it => (pt it).getD []) v' s'
      rw [hfl, ← List.append_assoc]
      exact a2
    · obtain rfl : i = (li.getD []).length := by omega
      have h5 : (decide (((li.getD []).length : Int) < ((li.getD []).length : Int))) = false := by simp
      have p2' := p2
      simp only [NodeD.cells, hit] at p2'
      simp -implicitDefEqProofs only [pcode_seq, pcode_r, pcode_skip, pcode_exit, pcode_cond, pops_u, pops_nil, runK_some, actP, opP, Nat.zero_add, Nat.reduceAdd, Option.map_some, Option.bind_some, pval_tmp, set_at, Nat.reduceEqDiff, ↓reduceIte, seq_n, seq_e, cond_f, asBool_b, regE_some, ld_ptr, ofCells, List.length_cons, List.length_nil, Nat.zero_le, and_self, true_and, List.drop_succ_cons, List.drop_zero, List.take_succ_cons, List.take_zero, Nat.le_refl, bin_lss, List.nil_append, Bool.false_eq_true, W_some, rnd_e, p1, p2', h4, LI, h5]
      refine ⟨p1, p2, p3, p4, ?_⟩
      rw [List.take_length] at p5
      exact p5
  · rintro f s1 ⟨p1, p2, p3, p4, p5⟩
    refine W_rret ?_
    simp -implicitDefEqProofs only [pops_u, pops_nil, runK_some, actP, opP, pval_tmp, set_at, ↓reduceIte]
    refine ⟨_, _, rfl, ?_⟩
    subst hQ
    refine endQ_r ?_ rfl
    refine leave_p (vs := [f 3]) rfl rfl p4 ?_
    exact frz_of (p5.frz WordD.len (by omega) fun y hy => WordD.clean (ho y hy).2)
end Go.Proofs.YtdkcfccepjimbaaGreatDoor

namespace Go.Proofs.YtdkcfccepjimbaaGreatDoor
open Go Go.EvL Go.PE
variable {ext : PCallF}
/-! a node read as lists -/
def kidsL (lk : List NodeD) (li : List ItemD) (bd : ItemD → Option (List NodeD)) : List NodeD := lk ++ li.flatMap fun it => (bd it).getD []
structure Dec (D d : Nat) (x : NodeD) (la : Option (List AssignD)) (lw : Option (List WordD)) (lr : Option (List RedirD)) (lk : Option (List NodeD)) (li : Option (List ItemD)) (pt : ItemD → Option (List WordD)) (bd : ItemD → Option (List NodeD)) : Prop where
  a : x.assigns = slP 58 AssignD.cells la
  w : x.words = slP 56 WordD.cells lw
  r : x.redirs = slP 70 RedirD.cells lr
  k : x.kids = slP 28 NodeD.cells lk
  i : x.items = slP 75 ItemD.cells li
  hpt : ∀ it ∈ li.getD [], it.pats = slP 56 WordD.cells (pt it)
  hbd : ∀ it ∈ li.getD [], it.body = slP 28 NodeD.cells (bd it)
  words : ∀ y ∈ wordsL (la.getD []) (lw.getD []) (lr.getD []) (li.getD []) pt, PartsAt D y.parts
  kids : ∀ y ∈ kidsL (lk.getD []) (li.getD []) bd, NodeAt D d y
theorem NodeAt.dec {D d : Nat} {x : NodeD} (h : NodeAt D (d + 1) x) : ∃ la lw lr lk li pt bd, Dec D d x la lw lr lk li pt bd := by
  obtain ⟨⟨la, a1, _, a2⟩, ⟨lw, w1, _, w2⟩, ⟨lr, r1, _, r2⟩, ⟨lk, k1, _, k2⟩, ⟨li, i1, _, i2⟩⟩ := h
  have hp : ∀ it : ItemD, ∃ l : Option (List WordD), it ∈ li.getD [] → it.pats = slP 56 WordD.cells l ∧ ∀ y ∈ l.getD [], PartsAt D y.parts := fun it => by
    by_cases hi : it ∈ li.getD []
    · obtain ⟨l, e1, _, e2⟩ := (i2 it hi).1
      exact ⟨l, fun _ => ⟨e1, e2⟩⟩
    · exact ⟨none, fun hh => absurd hh hi⟩
  have hb : ∀ it : ItemD, ∃ l : Option (List NodeD), it ∈ li.getD [] → it.body = slP 28 NodeD.cells l ∧ ∀ y ∈ l.getD [], NodeAt D d y := fun it => by
    by_cases hi : it ∈ li.getD []
    · obtain ⟨l, e1, _, e2⟩ := (i2 it hi).2
      exact ⟨l, fun _ => ⟨e1, e2⟩⟩
    · exact ⟨none, fun hh => absurd hh hi⟩
  obtain ⟨pt, hpt⟩ := Classical.axiomOfChoice hp
  obtain ⟨bd, hbd⟩ := Classical.axiomOfChoice hb
  refine ⟨la, lw, lr, lk, li, pt, bd, a1, w1, r1, k1, i1, fun it hi => (hpt it hi).1, fun it hi => (hbd it hi).1, fun y hy => ?_, fun y hy => ?_⟩
  · simp only [wordsL, List.mem_append, List.mem_map, List.mem_flatMap] at hy
    rcases hy with ((⟨z, hz, rfl⟩ | hy) | ⟨z, hz, rfl⟩) | ⟨it, hi, hy⟩
    · exact a2 z hz
    · exact w2 y hy
    · exact r2 z hz
    · exact (hpt it hi).2 y hy
  · simp only [kidsL, List.mem_append, List.mem_flatMap] at hy
    rcases hy with hy | ⟨it, hi, hy⟩
    · exact k2 y hy
    · exact (hbd it hi).2 y hy
theorem PartsAt.clean {d : Nat} {p : PV} (h : PartsAt d p) : clean1 p = true := by
  cases d with
  | zero => cases h
  | succ d => obtain ⟨l, rfl, _⟩ := h; exact clean_sl _ _ _
section
variable {D d : Nat} {x : NodeD} {la : Option (List AssignD)} {lw : Option (List WordD)} {lr : Option (List RedirD)} {lk : Option (List NodeD)} {li : Option (List ItemD)} {pt : ItemD → Option (List WordD)} {bd : ItemD → Option (List NodeD)}
theorem Dec.sizes (h : Dec D d x la lw lr lk li pt bd) {N : Nat} (hN : bulks x.cells ≤ N) : (la.getD []).length + (lw.getD []).length + (lr.getD []).length + ((li.getD []).flatMap fun it => (pt it).getD []).length ≤ N ∧ (lk.getD []).length + ((li.getD []).flatMap fun it => (bd it).getD []).length ≤ N ∧ (li.getD []).length ≤ N ∧ ∀ y ∈ kidsL (lk.getD []) (li.getD []) bd, bulks y.cells ≤ N := by
  simp only [NodeD.cells, bulks_cons, bulks_nil, h.a, h.w, h.r, h.k, h.i] at hN
  have hA := len_slP (e := 58) (c := AssignD.cells) (fun y => by rw [AssignD.len]; omega) la
  have hW := len_slP (e := 56) (c := WordD.cells) (fun y => by rw [WordD.len]; omega) lw
  have hR := len_slP (e := 70) (c := RedirD.cells) (fun y => by rw [RedirD.len]; omega) lr
  have hK := len_slP (e := 28) (c := NodeD.cells) (fun y => by rw [NodeD.len]; omega) lk
  have hI := len_slP (e := 75) (c := ItemD.cells) (fun y => by rw [ItemD.len]; omega) li
  have hK2 := bulks_slP 28 NodeD.cells lk
  have hI2 := bulks_slP 75 ItemD.cells li
  have hic : ∀ it ∈ li.getD [], bulks it.cells = (slP 56 WordD.cells (pt it)).bulk + (slP 28 NodeD.cells (bd it)).bulk := fun it hi => by
    simp only [ItemD.cells, bulks_cons, bulks_nil, h.hpt it hi, h.hbd it hi, Nat.add_zero]
  have hP := len_flat (c := ItemD.cells) (g := fun it => (pt it).getD []) (li.getD []) fun it hi => by
    have := len_slP (e := 56) (c := WordD.cells) (fun y => by rw [WordD.len]; omega) (pt it)
    rw [hic it hi]; omega
  have hB := len_flat (c := ItemD.cells) (g := fun it => (bd it).getD []) (li.getD []) fun it hi => by
    have := len_slP (e := 28) (c := NodeD.cells) (fun y => by rw [NodeD.len]; omega) (bd it)
    rw [hic it hi]; omega
  refine ⟨by omega, by omega, by omega, fun y hy => ?_⟩
  simp only [kidsL, List.mem_append, List.mem_flatMap] at hy
  rcases hy with hy | ⟨it, hi, hy⟩
  · have := bulks_flat (c := NodeD.cells) hy; omega
  · have h1 := bulks_flat (c := NodeD.cells) hy
    have h2 := bulks_slP 28 NodeD.cells (bd it)
    have h3 := bulks_flat (c := ItemD.cells) hi
    rw [hic it hi] at h3
    omega
theorem Dec.words_ok (h : Dec D d x la lw lr lk li pt bd) (hN : bulks x.cells ≤ 16777216) (s : PS) : pcall Tryz.prog Γ ext 38 [.agg x.cells] s = some (slP 56 WordD.cells (optL (wordsL (la.getD []) (lw.getD []) (lr.getD []) (li.getD []) pt)), s) := by
  obtain ⟨n1, n2, n3, _⟩ := h.sizes hN
  exact wordsL_ok x la lw lr li pt h.a h.w h.r h.i h.hpt n1 n3 (fun y hy => ⟨(h.words y hy).one, (h.words y hy).clean⟩) s
theorem Dec.kids_ok (h : Dec D d x la lw lr lk li pt bd) (hN : bulks x.cells ≤ 16777216) (s : PS) : pcall Tryz.prog Γ ext 40 [.agg x.cells] s = some (slP 28 NodeD.cells (optL (kidsL (lk.getD []) (li.getD []) bd)), s) := by
  obtain ⟨n1, n2, n3, _⟩ := h.sizes hN
  refine Go.Proofs.YtdkcfccepjimbaaGreatDoor.kids_ok x lk li bd h.k h.i h.hbd n2 n3 (fun y hy => ?_) s
  have hy' : y ∈ kidsL (lk.getD []) (li.getD []) bd := by
    simp only [kidsL, List.mem_append, List.mem_flatMap]
    exact hy
  exact ⟨(h.kids y hy').ones, (h.kids y hy').cleans⟩
end
/-! jobshellref11.Weight -/
structure WgtI (x : NodeD) (b : Nat) (s0 : PS) (slot : Nat) (i : Nat) (f : PFr) (s : PS) : Prop where
  s : s0 = s
  p : f 1 = .ptr b 0 9
  z : ∃ z : Int, f 3 = .sc (.int .i64 z)
  i : f slot = .sc (.int .i64 (i : Int))
theorem weight_ok {D : Nat} : ∀ (d : Nat) (x : NodeD), NodeAt D d x → bulks x.cells ≤ 16777216 → ∀ s, ∃ z : Int, pcall Tryz.prog Γ ext 11 [.agg x.cells] s = some (.sc (.int .i64 z), s) := by
  intro d
  induction d with
  | zero => intro x h; cases h
  | succ d ih =>
    intro x hx hN s
    obtain ⟨la, lw, lr, lk, li, pt, bd, hd⟩ := hx.dec
    obtain ⟨n1, n2, n3, n4⟩ := hd.sizes hN
    have LA := slP_len (e := 58) (c := AssignD.cells) la
    have LR := slP_len (e := 70) (c := RedirD.cells) lr
    have LI := slP_len (e := 75) (c := ItemD.cells) li
    suffices h : ∃ q, pcall Tryz.prog Γ ext 11 [.agg x.cells] s = some q ∧ ∃ z : Int, q = (.sc (.int .i64 z), s) by
      obtain ⟨q, e, z, rfl⟩ := h
      exact ⟨z, e⟩
    refine W_call (fn := p11) (by rfl) (by simp [p11]) ?_
    generalize hQ : EndQ p11 s _ = Q
    unfold p11
    refine W_rseq (fun f s' => f 1 = .ptr s.n 0 9 ∧ s'.h s.n = ⟨x.cells, 0, 28⟩ ∧ s'.n = s.n + 1 ∧ s'.w = s.n) ?_ ?_
    · simp -implicitDefEqProofs only [pops_u, pops_nil, runK_some, actP, opP, initP, pval_tmp, pval_const, set_at, cellsP, ↓reduceIte, pvOf]
      exact ⟨_, _, rfl, rfl, by simp -implicitDefEqProofs only [↓reduceIte, new_h], rfl, rfl⟩
    rintro f s1 ⟨p1, p2, p3, p4⟩
    have q2 := p2
    simp only [NodeD.cells, hd.a, hd.r, hd.i] at q2
    refine W_rseq (fun f s' => s1 = s' ∧ f 1 = .ptr s.n 0 9 ∧ ∃ z : Int, f 3 = .sc (.int .i64 z)) ?_ ?_
    · simp -implicitDefEqProofs only [pops_u, pops_nil, runK_some, actP, opP, Nat.zero_add, Nat.reduceAdd, Option.map_some, Option.bind_some, pval_tmp, pval_const, set_at, Nat.reduceEqDiff, ↓reduceIte, pvOf, ld_ptr, ofCells, List.length_cons, List.length_nil, Nat.reduceLeDiff, Nat.zero_le, and_self, List.drop_succ_cons, List.drop_zero, List.take_succ_cons, List.take_zero, Nat.le_refl, bin_add, Bool.false_eq_true, len_str, p1, q2, LA, LR, LI]
      exact ⟨_, _, rfl, rfl, p1, _, rfl⟩
    rintro f _ ⟨rfl, p1, hz⟩
    refine W_assoc ?_
    refine W_rseq (WgtI x s.n s1 4 0) ?_ ?_
    · simp -implicitDefEqProofs only [pops_u, pops_nil, runK_some, actP, opP, pval_const, pvOf]
      exact ⟨_, _, rfl, rfl, p1, hz, rfl⟩
    intro f s' hI
    refine W_lseq (la.getD []).length (WgtI x s.n s1 4) (WgtI x s.n s1 4 (la.getD []).length) hI ?_ ?_
    · rintro i f _ hi ⟨rfl, p1, ⟨z, hz⟩, h4⟩
      by_cases hlt : i < (la.getD []).length
      · have h5 : (decide ((i : Int) < ((la.getD []).length : Int))) = true := by simp; exact hlt
        have hx : (la.getD [])[i]? = some ((la.getD [])[i]) := List.getElem?_eq_getElem hlt
        generalize (la.getD [])[i] = y at hx
        obtain ⟨m, rfl⟩ : ∃ k, la = some k := by cases la with | none => simp at hx | some k => exact ⟨k, rfl⟩
        simp only [slP, Option.getD_some] at q2 hx hlt LA h5 n1
        have h1 := flat_len AssignD.len m
        obtain ⟨r1, h3⟩ := flat_at AssignD.len hx
        have h7 := wrap_succ (i := i) (by omega)
        simp -implicitDefEqProofs only [pcode_seq, pcode_r, pcode_skip, pcode_exit, pcode_cond, pcode_block, pops_u, pops_nil, runK_some, actP, opP, Nat.zero_add, Nat.reduceAdd, Option.map_some, Option.bind_some, pval_tmp, pval_const, set_at, Nat.reduceEqDiff, ↓reduceIte, pvOf, seq_n, blk_n, cond_t, asBool_b, regE_some, ld_ptr, ofCells, List.length_cons, List.length_nil, Nat.reduceLeDiff, Nat.zero_le, and_self, List.drop_succ_cons, List.drop_zero, List.take_succ_cons, List.take_zero, Nat.le_refl, bin_add, bin_lss, List.nil_append, List.cons_append, Bool.false_eq_true, natP_cast, W_some, rnd_n, len_str, p1, q2, h4, hz, LA, h5, h7, hlt, h1, h3, ld_litp, AssignD.cells]
        exact ⟨hlt, rfl, p1, ⟨_, rfl⟩, rfl⟩
      · obtain rfl : i = (la.getD []).length := by omega
        have h5 : (decide (((la.getD []).length : Int) < ((la.getD []).length : Int))) = false := by simp
        simp -implicitDefEqProofs only [pcode_seq, pcode_r, pcode_skip, pcode_exit, pcode_cond, pops_u, pops_nil, runK_some, actP, opP, Nat.zero_add, Nat.reduceAdd, Option.map_some, Option.bind_some, pval_tmp, set_at, Nat.reduceEqDiff, ↓reduceIte, seq_n, seq_e, cond_f, asBool_b, regE_some, ld_ptr, ofCells, List.length_cons, List.length_nil, Nat.reduceLeDiff, Nat.zero_le, and_self, true_and, List.drop_succ_cons, List.drop_zero, List.take_succ_cons, List.take_zero, Nat.le_refl, bin_lss, Bool.false_eq_true, W_some, rnd_e, p1, q2, h4, LA, h5]
        exact ⟨rfl, p1, ⟨z, hz⟩, h4⟩
    rintro f _ ⟨rfl, p1, hz, _⟩
    have h38 := hd.words_ok (ext := ext) hN s1
    have hwds := hd.words
    have hwn : (wordsL (la.getD []) (lw.getD []) (lr.getD []) (li.getD []) pt).length ≤ 16777216 := by simp only [wordsL, List.length_append, List.length_map]; omega
    generalize wordsL (la.getD []) (lw.getD []) (lr.getD []) (li.getD []) pt = wl at h38 hwds hwn
    have hwl : (optL wl).getD [] = wl := optL_get wl
    have LW := slP_len (e := 56) (c := WordD.cells) (optL wl)
    rw [hwl] at LW
    simp only [NodeD.cells] at h38
    have q3 := p2
    simp only [NodeD.cells] at q3
    refine W_rseq (fun f s' => s1 = s' ∧ f 1 = .ptr s.n 0 9 ∧ (∃ z : Int, f 3 = .sc (.int .i64 z)) ∧ f 5 = slP 56 WordD.cells (optL wl)) ?_ ?_
    · simp -implicitDefEqProofs only [pops_u, pops_nil, runK_some, actP, opP, Nat.zero_add, Nat.reduceAdd, Option.map_some, Option.bind_some, pval_tmp, pval_func, set_at, ↓reduceIte, ld_ptr, ofCells, List.length_cons, List.length_nil, Nat.zero_le, and_self, List.drop_zero, List.take_succ_cons, List.take_zero, Nat.le_refl, callP, List.map_cons, List.map_nil, List.nil_append, List.append_nil, p1, q3, h38]
      exact ⟨_, _, rfl, rfl, p1, hz, rfl⟩
    rintro f _ ⟨rfl, p1, hz, hw⟩
    refine W_assoc ?_
    refine W_rseq (fun f s' => WgtI x s.n s1 6 0 f s' ∧ f 5 = slP 56 WordD.cells (optL wl)) ?_ ?_
    · simp -implicitDefEqProofs only [pops_u, pops_nil, runK_some, actP, opP, pval_const, pvOf]
      exact ⟨_, _, rfl, ⟨rfl, p1, hz, rfl⟩, hw⟩
    intro f s' hI
    refine W_lseq wl.length (fun i f s' => WgtI x s.n s1 6 i f s' ∧ f 5 = slP 56 WordD.cells (optL wl)) (WgtI x s.n s1 6 wl.length) hI ?_ ?_
    · rintro i f _ hi ⟨⟨rfl, p1, ⟨z, hz⟩, h4⟩, hw⟩
      by_cases hlt : i < wl.length
      · have h5 : (decide ((i : Int) < (wl.length : Int))) = true := by simp; exact hlt
        have hx : wl[i]? = some (wl[i]) := List.getElem?_eq_getElem hlt
        generalize wl[i] = y at hx
        obtain ⟨cz, cy, hc⟩ := count_ok (ext := ext) D y.parts (hwds y (List.mem_of_getElem? hx)) s1
        have hw' := hw
        obtain hop : optL wl = some wl := by cases wl with | nil => simp at hx | cons a l => rfl
        rw [hop] at hw' LW
        simp only [slP] at hw' LW
        have h1 := flat_len WordD.len wl
        obtain ⟨r1, h3⟩ := flat_at WordD.len hx
        have h7 := wrap_succ (i := i) (by omega)
        simp -implicitDefEqProofs only [pcode_seq, pcode_r, pcode_skip, pcode_exit, pcode_cond, pcode_block, pops_u, pops_nil, runK_some, actP, opP, Option.map_some, Option.bind_some, pval_tmp, pval_const, pval_func, set_at, Nat.reduceEqDiff, ↓reduceIte, pvOf, seq_n, blk_n, cond_t, asBool_b, regE_some, ofCells, List.length_cons, Nat.reduceLeDiff, and_self, true_and, List.drop_succ_cons, List.drop_zero, List.take_succ_cons, List.take_zero, bin_add, bin_lss, callP, List.map_cons, List.map_nil, List.nil_append, List.append_nil, List.cons_append, Bool.false_eq_true, natP_cast, W_some, rnd_n, List.getElem?_cons_zero, List.getElem?_cons_succ, hw', h4, hz, LW, h5, h7, hlt, h1, h3, ld_litp, WordD.cells, hc]
        exact ⟨⟨rfl, p1, ⟨_, rfl⟩, rfl⟩, hw'.symm.trans hw⟩
      · obtain rfl : i = wl.length := by omega
        have h5 : (decide ((wl.length : Int) < (wl.length : Int))) = false := by simp
        simp -implicitDefEqProofs only [pcode_seq, pcode_r, pcode_skip, pcode_exit, pcode_cond, pops_u, pops_nil, runK_some, actP, opP, Option.map_some, pval_tmp, set_at, Nat.reduceEqDiff, ↓reduceIte, seq_n, seq_e, cond_f, asBool_b, regE_some, true_and, bin_lss, W_some, rnd_e, hw, h4, LW, h5]
        exact ⟨rfl, p1, ⟨z, hz⟩, h4⟩
    rintro f _ ⟨rfl, p1, hz, _⟩
    have h40 := hd.kids_ok (ext := ext) hN s1
    have hks := hd.kids
    have hkn : (kidsL (lk.getD []) (li.getD []) bd).length ≤ 16777216 := by simp only [kidsL, List.length_append]; omega
    generalize kidsL (lk.getD []) (li.getD []) bd = kl at h40 hks n4 hkn
    have LK := slP_len (e := 28) (c := NodeD.cells) (optL kl)
    rw [optL_get] at LK
    simp only [NodeD.cells] at h40
    refine W_rseq (fun f s' => s1 = s' ∧ f 1 = .ptr s.n 0 9 ∧ (∃ z : Int, f 3 = .sc (.int .i64 z)) ∧ f 9 = slP 28 NodeD.cells (optL kl)) ?_ ?_
    · simp -implicitDefEqProofs only [pops_u, pops_nil, runK_some, actP, opP, Nat.zero_add, Nat.reduceAdd, Option.map_some, Option.bind_some, pval_tmp, pval_func, set_at, ↓reduceIte, ld_ptr, ofCells, List.length_cons, List.length_nil, Nat.zero_le, and_self, List.drop_zero, List.take_succ_cons, List.take_zero, Nat.le_refl, callP, List.map_cons, List.map_nil, List.nil_append, List.append_nil, p1, q3, h40]
      exact ⟨_, _, rfl, rfl, p1, hz, rfl⟩
    rintro f _ ⟨rfl, p1, hz, hw⟩
    refine W_assoc ?_
    refine W_rseq (fun f s' => WgtI x s.n s1 10 0 f s' ∧ f 9 = slP 28 NodeD.cells (optL kl)) ?_ ?_
    · simp -implicitDefEqProofs only [pops_u, pops_nil, runK_some, actP, opP, pval_const, pvOf]
      exact ⟨_, _, rfl, ⟨rfl, p1, hz, rfl⟩, hw⟩
    intro f s' hI
    refine W_lseq kl.length (fun i f s' => WgtI x s.n s1 10 i f s' ∧ f 9 = slP 28 NodeD.cells (optL kl)) (WgtI x s.n s1 10 kl.length) hI ?_ ?_
    · rintro i f _ hi ⟨⟨rfl, p1, ⟨z, hz⟩, h4⟩, hw⟩
      by_cases hlt : i < kl.length
      · have h5 : (decide ((i : Int) < (kl.length : Int))) = true := by simp; exact hlt
        have hx : kl[i]? = some (kl[i]) := List.getElem?_eq_getElem hlt
        generalize kl[i] = y at hx
        obtain ⟨cz, hc⟩ := ih y (hks y (List.mem_of_getElem? hx)) (n4 y (List.mem_of_getElem? hx)) s1
        have hw' := hw
        obtain hop : optL kl = some kl := by cases kl with | nil => simp at hx | cons a l => rfl
        rw [hop] at hw' LK
        simp only [slP] at hw' LK
        have h1 := flat_len NodeD.len kl
        have h3 := ld_sl NodeD.len hx
        have h7 := wrap_succ (i := i) (by omega)
        simp -implicitDefEqProofs only [pcode_seq, pcode_r, pcode_skip, pcode_exit, pcode_cond, pcode_block, pops_u, pops_nil, runK_some, actP, opP, Option.map_some, Option.bind_some, pval_tmp, pval_const, pval_func, set_at, Nat.reduceEqDiff, ↓reduceIte, pvOf, seq_n, blk_n, cond_t, asBool_b, regE_some, ofCells, and_self, true_and, bin_add, bin_lss, callP, List.map_cons, List.map_nil, List.nil_append, List.append_nil, natP_cast, W_some, rnd_n, hw', h4, hz, LK, h5, h7, hlt, h1, h3, hc]
        exact ⟨⟨rfl, p1, ⟨_, rfl⟩, rfl⟩, hw'.symm.trans hw⟩
      · obtain rfl : i = kl.length := by omega
        have h5 : (decide ((kl.length : Int) < (kl.length : Int))) = false := by simp
        simp -implicitDefEqProofs only [pcode_seq, pcode_r, pcode_skip, pcode_exit, pcode_cond, pops_u, pops_nil, runK_some, actP, opP, Option.map_some, pval_tmp, set_at, Nat.reduceEqDiff, ↓reduceIte, seq_n, seq_e, cond_f, asBool_b, regE_some, true_and, bin_lss, W_some, rnd_e, hw, h4, LK, h5]
        exact ⟨rfl, p1, ⟨z, hz⟩, h4⟩
    · rintro f _ ⟨rfl, p1, ⟨z, hz⟩, _⟩
      refine W_rret ?_
      simp -implicitDefEqProofs only [pops_u, pops_nil, runK_some, actP, opP, pval_tmp, set_at, ↓reduceIte, hz]
      refine ⟨_, _, rfl, ?_⟩
      subst hQ
      refine endQ_r ?_ ⟨z, rfl⟩
      exact leave_p (vs := [.sc (.int .i64 z)]) rfl rfl (by omega) rfl
end Go.Proofs.YtdkcfccepjimbaaGreatDoor
