/- Same and its reference agree on nodes; a node is like itself. No statement is proved here. -/
import Derived.Test.YtdkcfccepjimbaaGreatDoorParts
import Derived.Test.YtdkcfccepjimbaaGreatDoorPeC
set_option linter.unusedSimpArgs false
set_option linter.unusedVariables false
namespace Go.Proofs.YtdkcfccepjimbaaGreatDoor
open Go Go.EvL Go.PE
variable {ext : PCallF}
structure NodeD where
  kind : Int
  pos : Int
  name : ByteArray
  all : Bool
  assigns : PV
  words : PV
  redirs : PV
  kids : PV
  items : PV
def NodeD.cells (x : NodeD) : List PV := [.sc (.int .i64 x.kind), .sc (.int .i64 x.pos), .sc (.string x.name), .sc (.bool x.all), x.assigns, x.words, x.redirs, x.kids, x.items]
theorem NodeD.len (x : NodeD) : x.cells.length = 9 := (rfl)
structure ItemD where
  pats : PV
  body : PV
def ItemD.cells (x : ItemD) : List PV := [x.pats, x.body]
theorem ItemD.len (x : ItemD) : x.cells.length = 2 := (rfl)
def inner57 : PCode := (.seq (.draw [(⟨some 17, .mv (.tmp 0), none⟩, [0], []),
             (⟨some 18, .mv (.tmp 5), none⟩, [5], [0]),
             (⟨some 19, .iaddr 9 (.tmp 17) (.tmp 18), none⟩, [17, 18], []),
             (⟨some 20, .load 28 true 9 (.tmp 19), none⟩, [19], []),
             (⟨some 21, .mv (.tmp 1), none⟩, [1], [3, 2, 1, 0]),
             (⟨some 22, .mv (.tmp 5), none⟩, [5], [4, 3, 2, 1, 0]),
             (⟨some 23, .iaddr 9 (.tmp 21) (.tmp 22), none⟩, [21, 22], [3, 2, 1, 0]),
             (⟨some 24, .load 28 true 9 (.tmp 23), none⟩, [23], [3, 2, 1, 0]),
             (⟨some 25, .call (.func 21) [(.tmp 20), (.tmp 24)], none⟩, [20, 24], []),
             (⟨some 26, .un .not (.tmp 25), none⟩, [25], [])])
          (.cond (.tmp 26)
            (.seq (.reg [⟨some 4, .mv (.const (.bool false)), none⟩])
            .ret)
            (.skip)))
def inner58 : PCode := (.seq (.draw [(⟨some 17, .mv (.tmp 0), none⟩, [0], []),
             (⟨some 18, .mv (.tmp 5), none⟩, [5], [0]),
             (⟨some 19, .iaddr 2 (.tmp 17) (.tmp 18), none⟩, [17, 18], []),
             (⟨some 20, .faddr 0 (.tmp 19), none⟩, [19], []),
             (⟨some 21, .load 23 false 1 (.tmp 20), none⟩, [20], []),
             (⟨some 22, .mv (.tmp 1), none⟩, [1], [4, 3, 2, 1, 0]),
             (⟨some 23, .mv (.tmp 5), none⟩, [5], [5, 4, 3, 2, 1, 0]),
             (⟨some 24, .iaddr 2 (.tmp 22) (.tmp 23), none⟩, [22, 23], [4, 3, 2, 1, 0]),
             (⟨some 25, .faddr 0 (.tmp 24), none⟩, [24], [4, 3, 2, 1, 0]),
             (⟨some 26, .load 23 false 1 (.tmp 25), none⟩, [25], [4, 3, 2, 1, 0]),
             (⟨some 27, .call (.func 55) [(.tmp 21), (.tmp 26)], none⟩, [21, 26], []),
             (⟨some 28, .un .not (.tmp 27), none⟩, [27], []),
             (⟨some 29, .mv (.tmp 28), none⟩, [28], []),
             (⟨some 30, .mv (.tmp 0), (some (29, false))⟩, [0, 29], []),
             (⟨some 31, .mv (.tmp 5), (some (29, false))⟩, [5, 29], [13]),
             (⟨some 32, .iaddr 2 (.tmp 30) (.tmp 31), (some (29, false))⟩, [30, 31, 29], []),
             (⟨some 33, .faddr 1 (.tmp 32), (some (29, false))⟩, [32, 29], []),
             (⟨some 34, .load 25 false 1 (.tmp 33), (some (29, false))⟩, [33, 29], []),
             (⟨some 35, .mv (.tmp 1), (some (29, false))⟩, [1, 29], [17, 16, 15, 14, 13]),
             (⟨some 36, .mv (.tmp 5), (some (29, false))⟩, [5, 29], [18, 17, 16, 15, 14, 13]),
             (⟨some 37, .iaddr 2 (.tmp 35) (.tmp 36), (some (29, false))⟩, [35, 36, 29], [17, 16, 15, 14, 13]),
             (⟨some 38, .faddr 1 (.tmp 37), (some (29, false))⟩, [37, 29], [17, 16, 15, 14, 13]),
             (⟨some 39, .load 25 false 1 (.tmp 38), (some (29, false))⟩, [38, 29], [17, 16, 15, 14, 13]),
             (⟨some 40, .call (.func 57) [(.tmp 34), (.tmp 39)], (some (29, false))⟩, [34, 39, 29], []),
             (⟨some 41, .un .not (.tmp 40), (some (29, false))⟩, [40, 29], []),
             (⟨some 42, .pick (.tmp 29) (.const (.bool true)) (.tmp 41), none⟩, [29, 41], [])])
          (.cond (.tmp 42)
            (.seq (.reg [⟨some 4, .mv (.const (.bool false)), none⟩])
            .ret)
            (.skip)))
theorem pu21 : puOf Γ 21 = true := (rfl)
theorem pu55 : puOf Γ 55 = true := (rfl)
theorem pu57 : puOf Γ 57 = true := (rfl)
theorem g57 : Γ 57 = some (refF6 27 inner57) := (rfl)
theorem g58 : Γ 58 = some (refF6 43 inner58) := (rfl)
theorem g51 : Γ 51 = some (eqF 28 9 #[(.int .i64 0), (.int .i64 0), (.string ⟨#[]⟩), (.bool false), (.slice none 0 0), (.slice none 0 0), (.slice none 0 0), (.slice none 0 0), (.slice none 0 0)] 3) := (rfl)
theorem g52 : Γ 52 = some (eqF 75 2 #[(.slice none 0 0), (.slice none 0 0)] 3) := (rfl)
theorem in57 (x y : NodeD) (r : Bool) (h : ∀ s, pcall Tryz.prog Γ ext 21 [.agg x.cells, .agg y.cells] s = some (.sc (.bool r), s)) : InnerOK Tryz.prog Γ ext 28 NodeD.cells inner57 x y r := by
  intro l m i hl hm f s hin
  obtain ⟨l, rfl⟩ : ∃ k, l = some k := by cases l with | none => simp at hl | some k => exact ⟨k, rfl⟩
  obtain ⟨m, rfl⟩ : ∃ k, m = some k := by cases m with | none => simp at hm | some k => exact ⟨k, rfl⟩
  obtain ⟨ha, hb, hii⟩ := hin
  simp only [slP, Option.getD_some] at ha hb hl hm
  have hi : i < l.length := (List.getElem?_eq_some_iff.1 hl).1
  have hj : i < m.length := (List.getElem?_eq_some_iff.1 hm).1
  have h1 := flat_len NodeD.len l
  have h2 := flat_len NodeD.len m
  obtain ⟨r1, h3⟩ := flat_at NodeD.len hl
  obtain ⟨r2, h4⟩ := flat_at NodeD.len hm
  simp only [NodeD.cells] at h
  cases r with
  | false =>
    simp -implicitDefEqProofs only [inner57, pcode_seq, pcode_r, pcode_ret, pcode_skip, pcode_cond, pcode_block, pops_u, pops_nil, runK_some, actP, opP, Nat.zero_add, Nat.reduceAdd, Option.map_some, Option.bind_some, pval_tmp, pval_const, pval_func, set_at, Nat.reduceEqDiff, ↓reduceIte, pvOf, seq_n, blk_r, cond_t, asBool_b, regE_some, ofCells, List.length_cons, Nat.one_ne_zero, Nat.reduceLeDiff, and_self, true_and, List.take_succ_cons, List.take_zero, un_not, Bool.not_false, callP, List.map_cons, List.map_nil, List.nil_append, List.append_nil, List.cons_append, Bool.false_eq_true, reduceCtorEq, natP_cast, pcode_d, pdraw_nil, pdraw_u, drK_some, only_at, effO, effA, pureI, okAll_nil, okAll_cons, okPair_e, okPair_li, List.mem_cons, List.not_mem_nil, or_false, or_true, or_self, implies_true, false_implies, forall_const, ha, hb, hii, hi, hj, h1, h2, h3, h4, ld_litp, NodeD.cells, pu21, h]
    exact ⟨_, _, rfl, by simp -implicitDefEqProofs only [set_at, ↓reduceIte], fun n0 w1 w2 => ⟨w1, w2⟩⟩
  | true =>
    simp -implicitDefEqProofs only [inner57, pcode_seq, pcode_r, pcode_ret, pcode_skip, pcode_cond, pcode_block, pops_u, pops_nil, runK_some, actP, opP, Nat.zero_add, Nat.reduceAdd, Option.map_some, Option.bind_some, pval_tmp, pval_const, pval_func, set_at, Nat.reduceEqDiff, ↓reduceIte, pvOf, seq_n, blk_n, cond_f, asBool_b, regE_some, ofCells, List.length_cons, Nat.one_ne_zero, Nat.reduceLeDiff, and_self, true_and, List.take_succ_cons, List.take_zero, un_not, Bool.not_true, callP, List.map_cons, List.map_nil, List.nil_append, List.append_nil, List.cons_append, Bool.true_eq_false, reduceCtorEq, natP_cast, pcode_d, pdraw_nil, pdraw_u, drK_some, only_at, effO, effA, pureI, okAll_nil, okAll_cons, okPair_e, okPair_li, List.mem_cons, List.not_mem_nil, or_false, or_true, or_self, implies_true, false_implies, forall_const, ha, hb, hii, hi, hj, h1, h2, h3, h4, ld_litp, NodeD.cells, pu21, h]
    exact ⟨_, _, rfl, ⟨by simp -implicitDefEqProofs only [set_at, ↓reduceIte, reduceCtorEq, ha], by simp -implicitDefEqProofs only [set_at, Nat.reduceEqDiff, ↓reduceIte, hb], by simp -implicitDefEqProofs only [set_at, Nat.reduceEqDiff, ↓reduceIte, hii]⟩, fun n0 w1 w2 => ⟨w1, w2⟩⟩
theorem in58 (x y : ItemD) (r q : Bool) (h : ∀ s, pcall Tryz.prog Γ ext 55 [x.pats, y.pats] s = some (.sc (.bool r), s)) (k : ∀ s, pcall Tryz.prog Γ ext 57 [x.body, y.body] s = some (.sc (.bool q), s)) : InnerOK Tryz.prog Γ ext 75 ItemD.cells inner58 x y (r && q) := by
  intro l m i hl hm f s hin
  obtain ⟨l, rfl⟩ : ∃ k, l = some k := by cases l with | none => simp at hl | some k => exact ⟨k, rfl⟩
  obtain ⟨m, rfl⟩ : ∃ k, m = some k := by cases m with | none => simp at hm | some k => exact ⟨k, rfl⟩
  obtain ⟨ha, hb, hii⟩ := hin
  simp only [slP, Option.getD_some] at ha hb hl hm
  have hi : i < l.length := (List.getElem?_eq_some_iff.1 hl).1
  have hj : i < m.length := (List.getElem?_eq_some_iff.1 hm).1
  have h1 := flat_len ItemD.len l
  have h2 := flat_len ItemD.len m
  obtain ⟨r1, h3⟩ := flat_at ItemD.len hl
  obtain ⟨r2, h4⟩ := flat_at ItemD.len hm
  cases r with
  | false =>
    simp -implicitDefEqProofs only [inner58, pcode_seq, pcode_r, pcode_ret, pcode_skip, pcode_cond, pcode_block, pops_u, pops_nil, runK_some, actP, opP, Nat.zero_add, Nat.reduceAdd, guardP, Option.map_some, Option.bind_some, pval_tmp, pval_const, pval_func, set_at, Nat.reduceEqDiff, ↓reduceIte, pvOf, seq_n, blk_r, cond_t, asBool_b, regE_some, ofCells, List.length_cons, Nat.one_ne_zero, Nat.reduceLeDiff, Nat.zero_le, and_self, true_and, List.drop_zero, List.take_succ_cons, List.take_zero, un_not, Bool.not_true, Bool.not_false, callP, b_ff, List.map_cons, List.map_nil, List.nil_append, List.append_nil, List.cons_append, Bool.false_eq_true, reduceCtorEq, natP_cast, pcode_d, pdraw_nil, pdraw_u, pdraw_g, drK_some, drG_false, only_at, effO, effA, pureI, okAll_nil, okAll_cons, okPair_e, okPair_li, List.mem_cons, List.not_mem_nil, or_false, or_true, or_self, implies_true, false_implies, forall_const, ha, hb, hii, hi, hj, h1, h2, h3, h4, ld_litp, ItemD.cells, pu55, pu57, h, Bool.false_and]
    exact ⟨_, _, rfl, by simp -implicitDefEqProofs only [set_at, ↓reduceIte], fun n0 w1 w2 => ⟨w1, w2⟩⟩
  | true =>
    cases q with
    | false =>
      simp -implicitDefEqProofs only [inner58, pcode_seq, pcode_r, pcode_ret, pcode_skip, pcode_cond, pcode_block, pops_u, pops_nil, runK_some, actP, opP, Nat.zero_add, Nat.reduceAdd, guardP, Option.map_some, Option.bind_some, pval_tmp, pval_const, pval_func, set_at, Nat.reduceEqDiff, ↓reduceIte, pvOf, seq_n, blk_r, cond_t, asBool_b, regE_some, ofCells, List.length_cons, Nat.one_ne_zero, Nat.reduceLeDiff, Nat.zero_le, and_self, true_and, List.drop_succ_cons, List.drop_zero, List.take_succ_cons, List.take_zero, un_not, beq_self_eq_true, Bool.not_true, Bool.not_false, callP, List.map_cons, List.map_nil, List.nil_append, List.append_nil, List.cons_append, Bool.true_eq_false, Bool.false_eq_true, reduceCtorEq, natP_cast, pcode_d, pdraw_nil, pdraw_u, pdraw_g, drK_some, drG_true, only_at, effO, effA, pureI, okAll_nil, okAll_cons, okPair_e, okPair_li, List.mem_cons, List.not_mem_nil, or_false, or_true, or_self, implies_true, false_implies, forall_const, ha, hb, hii, hi, hj, h1, h2, h3, h4, ld_litp, ItemD.cells, pu55, pu57, h, k, Bool.true_and]
      exact ⟨_, _, rfl, by simp -implicitDefEqProofs only [set_at, ↓reduceIte], fun n0 w1 w2 => ⟨w1, w2⟩⟩
    | true =>
      simp -implicitDefEqProofs only [inner58, pcode_seq, pcode_r, pcode_ret, pcode_skip, pcode_cond, pcode_block, pops_u, pops_nil, runK_some, actP, opP, Nat.zero_add, Nat.reduceAdd, guardP, Option.map_some, Option.bind_some, pval_tmp, pval_const, pval_func, set_at, Nat.reduceEqDiff, ↓reduceIte, pvOf, seq_n, blk_n, cond_f, asBool_b, regE_some, ofCells, List.length_cons, Nat.one_ne_zero, Nat.reduceLeDiff, Nat.zero_le, and_self, true_and, List.drop_succ_cons, List.drop_zero, List.take_succ_cons, List.take_zero, un_not, beq_self_eq_true, Bool.not_true, callP, List.map_cons, List.map_nil, List.nil_append, List.append_nil, List.cons_append, Bool.true_eq_false, Bool.false_eq_true, reduceCtorEq, natP_cast, pcode_d, pdraw_nil, pdraw_u, pdraw_g, drK_some, drG_true, only_at, effO, effA, pureI, okAll_nil, okAll_cons, okPair_e, okPair_li, List.mem_cons, List.not_mem_nil, or_false, or_true, or_self, implies_true, false_implies, forall_const, ha, hb, hii, hi, hj, h1, h2, h3, h4, ld_litp, ItemD.cells, pu55, pu57, h, k, Bool.true_and]
      exact ⟨_, _, rfl, ⟨by simp -implicitDefEqProofs only [set_at, ↓reduceIte, reduceCtorEq, ha], by simp -implicitDefEqProofs only [set_at, Nat.reduceEqDiff, ↓reduceIte, hb], by simp -implicitDefEqProofs only [set_at, Nat.reduceEqDiff, ↓reduceIte, hii]⟩, fun n0 w1 w2 => ⟨w1, w2⟩⟩
theorem f53 (x y : ItemD) (r q : Bool) (h : ∀ s, pcall Tryz.prog Γ ext 48 [x.pats, y.pats, .fn 47 [] []] s = some (.sc (.bool r), s)) (k : ∀ s, pcall Tryz.prog Γ ext 51 [x.body, y.body, .fn 20 [] []] s = some (.sc (.bool q), s)) (s : PS) : pcall Tryz.prog Γ ext 53 [.agg x.cells, .agg y.cells] s = some (.sc (.bool (r && q)), s) := by
  rw [pcall_u (fn := p53) (by rfl) _ _ (by simp [p53])]
  cases r with
  | false => simp -implicitDefEqProofs only [p53, pcode_seq, pcode_r, pcode_ret, pops_u, pops_g, pops_nil, runK_some, runG_false, actP, opP, initP, Nat.zero_add, Nat.add_zero, Nat.reduceAdd, guardP, Option.map_some, Option.bind_some, pval_tmp, pval_const, pval_func, set_at, Nat.reduceEqDiff, cellsP, ↓reduceIte, pvOf, seq_n, asBool_b, regE_some, new_h, new_n, new_w, ld_ptr, ofCells, List.length_cons, List.length_nil, Nat.left_eq_add, Nat.one_ne_zero, Nat.reduceLeDiff, Nat.zero_le, and_self, List.drop_zero, List.take_succ_cons, List.take_zero, Nat.le_refl, callP, b_tt, leaveP, resP, oneRes, frz, frz2, frz1, List.map_cons, List.map_nil, List.nil_append, List.append_nil, endK_r, Bool.false_eq_true, ItemD.cells, h, Bool.false_and]
  | true => simp -implicitDefEqProofs only [p53, pcode_seq, pcode_r, pcode_ret, pops_u, pops_g, pops_nil, runK_some, runG_true, actP, opP, initP, Nat.zero_add, Nat.add_zero, Nat.reduceAdd, guardP, Option.map_some, Option.bind_some, pval_tmp, pval_const, pval_func, set_at, Nat.reduceEqDiff, cellsP, ↓reduceIte, pvOf, seq_n, asBool_b, regE_some, new_h, new_n, new_w, ld_ptr, ofCells, List.length_cons, List.length_nil, Nat.left_eq_add, Nat.one_ne_zero, Nat.reduceLeDiff, Nat.zero_le, and_self, List.drop_succ_cons, List.drop_zero, List.take_succ_cons, List.take_zero, Nat.le_refl, beq_self_eq_true, callP, leaveP, resP, oneRes, frz, frz2, frz1, List.map_cons, List.map_nil, List.nil_append, List.append_nil, endK_r, Bool.false_eq_true, ItemD.cells, h, k, Bool.true_and]
end Go.Proofs.YtdkcfccepjimbaaGreatDoor

namespace Go.Proofs.YtdkcfccepjimbaaGreatDoor
open Go Go.EvL Go.PE
variable {ext : PCallF}
def eqN (x y : NodeD) (a w q k i : Bool) : Bool := x.kind == y.kind && (x.name.toList == y.name.toList && (x.all == y.all && (a && (w && (q && (k && i))))))
set_option maxHeartbeats 1000000 in
theorem f20 (x y : NodeD) (a w q k i : Bool) (hA : ∀ s, pcall Tryz.prog Γ ext 45 [x.assigns, y.assigns, .fn 46 [] []] s = some (.sc (.bool a), s)) (hW : ∀ s, pcall Tryz.prog Γ ext 48 [x.words, y.words, .fn 47 [] []] s = some (.sc (.bool w), s)) (hR : ∀ s, pcall Tryz.prog Γ ext 49 [x.redirs, y.redirs, .fn 50 [] []] s = some (.sc (.bool q), s)) (hK : ∀ s, pcall Tryz.prog Γ ext 51 [x.kids, y.kids, .fn 20 [] []] s = some (.sc (.bool k), s)) (hI : ∀ s, pcall Tryz.prog Γ ext 52 [x.items, y.items, .fn 53 [] []] s = some (.sc (.bool i), s)) (s : PS) :
    pcall Tryz.prog Γ ext 20 [.agg x.cells, .agg y.cells] s = some (.sc (.bool (eqN x y a w q k i)), s) := by
  rw [pcall_u (fn := p20) (by rfl) _ _ (by simp [p20])]
  cases e1 : x.kind == y.kind with
  | false => simp -implicitDefEqProofs only [p20, pcode_seq, pcode_r, pcode_ret, pops_u, pops_g, pops_nil, runK_some, runG_false, actP, opP, initP, Nat.zero_add, Nat.add_zero, Nat.reduceAdd, guardP, Option.map_some, Option.bind_some, pval_tmp, pval_const, set_at, Nat.reduceEqDiff, cellsP, ↓reduceIte, pvOf, seq_n, asBool_b, regE_some, new_h, new_n, new_w, ld_ptr, ofCells, List.length_cons, List.length_nil, Nat.left_eq_add, Nat.one_ne_zero, Nat.reduceLeDiff, Nat.zero_le, and_self, List.drop_zero, List.take_succ_cons, List.take_zero, Nat.le_refl, bin_eql, b_tt, leaveP, resP, oneRes, frz, frz2, frz1, endK_r, Bool.false_eq_true, NodeD.cells, eqN, e1, Bool.false_and]
  | true =>
    cases e2 : x.name.toList == y.name.toList with
    | false => simp -implicitDefEqProofs only [p20, pcode_seq, pcode_r, pcode_ret, pops_u, pops_g, pops_nil, runK_some, runG_true, runG_false, actP, opP, initP, Nat.zero_add, Nat.add_zero, Nat.reduceAdd, guardP, Option.map_some, Option.bind_some, pval_tmp, pval_const, set_at, Nat.reduceEqDiff, cellsP, ↓reduceIte, pvOf, seq_n, asBool_b, regE_some, new_h, new_n, new_w, ld_ptr, ofCells, List.length_cons, List.length_nil, Nat.left_eq_add, Nat.one_ne_zero, Nat.reduceLeDiff, Nat.zero_le, and_self, List.drop_succ_cons, List.drop_zero, List.take_succ_cons, List.take_zero, Nat.le_refl, bin_eql, bin_seql, beq_self_eq_true, b_tt, leaveP, resP, oneRes, frz, frz2, frz1, endK_r, Bool.false_eq_true, NodeD.cells, eqN, e1, e2, Bool.false_and, Bool.true_and]
    | true =>
      cases e3 : x.all == y.all with
      | false => simp -implicitDefEqProofs only [p20, pcode_seq, pcode_r, pcode_ret, pops_u, pops_g, pops_nil, runK_some, runG_true, runG_false, actP, opP, initP, Nat.zero_add, Nat.add_zero, Nat.reduceAdd, guardP, Option.map_some, Option.bind_some, pval_tmp, pval_const, set_at, Nat.reduceEqDiff, cellsP, ↓reduceIte, pvOf, seq_n, asBool_b, regE_some, new_h, new_n, new_w, ld_ptr, ofCells, List.length_cons, List.length_nil, Nat.left_eq_add, Nat.one_ne_zero, Nat.reduceLeDiff, Nat.zero_le, and_self, List.drop_succ_cons, List.drop_zero, List.take_succ_cons, List.take_zero, Nat.le_refl, bin_eql, bin_seql, beq_self_eq_true, b_tt, leaveP, resP, oneRes, frz, frz2, frz1, endK_r, Bool.false_eq_true, NodeD.cells, eqN, e1, e2, e3, bin_beql Tryz.underlying4, Bool.false_and, Bool.true_and]
      | true =>
        cases a with
        | false => simp -implicitDefEqProofs only [p20, pcode_seq, pcode_r, pcode_ret, pops_u, pops_g, pops_nil, runK_some, runG_true, runG_false, actP, opP, initP, Nat.zero_add, Nat.add_zero, Nat.reduceAdd, guardP, Option.map_some, Option.bind_some, pval_tmp, pval_const, pval_func, set_at, Nat.reduceEqDiff, cellsP, ↓reduceIte, pvOf, seq_n, asBool_b, regE_some, new_h, new_n, new_w, ld_ptr, ofCells, List.length_cons, List.length_nil, Nat.left_eq_add, Nat.one_ne_zero, Nat.reduceLeDiff, Nat.zero_le, and_self, List.drop_succ_cons, List.drop_zero, List.take_succ_cons, List.take_zero, Nat.le_refl, bin_eql, bin_seql, beq_self_eq_true, callP, b_tt, leaveP, resP, oneRes, frz, frz2, frz1, List.map_cons, List.map_nil, List.nil_append, List.append_nil, endK_r, Bool.false_eq_true, NodeD.cells, eqN, e1, e2, e3, hA, bin_beql Tryz.underlying4, Bool.false_and, Bool.true_and]
        | true =>
          cases w with
          | false => simp -implicitDefEqProofs only [p20, pcode_seq, pcode_r, pcode_ret, pops_u, pops_g, pops_nil, runK_some, runG_true, runG_false, actP, opP, initP, Nat.zero_add, Nat.add_zero, Nat.reduceAdd, guardP, Option.map_some, Option.bind_some, pval_tmp, pval_const, pval_func, set_at, Nat.reduceEqDiff, cellsP, ↓reduceIte, pvOf, seq_n, asBool_b, regE_some, new_h, new_n, new_w, ld_ptr, ofCells, List.length_cons, List.length_nil, Nat.left_eq_add, Nat.one_ne_zero, Nat.reduceLeDiff, Nat.zero_le, and_self, List.drop_succ_cons, List.drop_zero, List.take_succ_cons, List.take_zero, Nat.le_refl, bin_eql, bin_seql, beq_self_eq_true, callP, b_tt, leaveP, resP, oneRes, frz, frz2, frz1, List.map_cons, List.map_nil, List.nil_append, List.append_nil, endK_r, Bool.false_eq_true, NodeD.cells, eqN, e1, e2, e3, hA, hW, bin_beql Tryz.underlying4, Bool.false_and, Bool.true_and]
          | true =>
            cases q with
            | false => simp -implicitDefEqProofs only [p20, pcode_seq, pcode_r, pcode_ret, pops_u, pops_g, pops_nil, runK_some, runG_true, runG_false, actP, opP, initP, Nat.zero_add, Nat.add_zero, Nat.reduceAdd, guardP, Option.map_some, Option.bind_some, pval_tmp, pval_const, pval_func, set_at, Nat.reduceEqDiff, cellsP, ↓reduceIte, pvOf, seq_n, asBool_b, regE_some, new_h, new_n, new_w, ld_ptr, ofCells, List.length_cons, List.length_nil, Nat.left_eq_add, Nat.one_ne_zero, Nat.reduceLeDiff, Nat.zero_le, and_self, List.drop_succ_cons, List.drop_zero, List.take_succ_cons, List.take_zero, Nat.le_refl, bin_eql, bin_seql, beq_self_eq_true, callP, b_tt, leaveP, resP, oneRes, frz, frz2, frz1, List.map_cons, List.map_nil, List.nil_append, List.append_nil, endK_r, Bool.false_eq_true, NodeD.cells, eqN, e1, e2, e3, hA, hW, hR, bin_beql Tryz.underlying4, Bool.false_and, Bool.true_and]
            | true =>
              cases k with
              | false => simp -implicitDefEqProofs only [p20, pcode_seq, pcode_r, pcode_ret, pops_u, pops_g, pops_nil, runK_some, runG_true, runG_false, actP, opP, initP, Nat.zero_add, Nat.add_zero, Nat.reduceAdd, guardP, Option.map_some, Option.bind_some, pval_tmp, pval_const, pval_func, set_at, Nat.reduceEqDiff, cellsP, ↓reduceIte, pvOf, seq_n, asBool_b, regE_some, new_h, new_n, new_w, ld_ptr, ofCells, List.length_cons, List.length_nil, Nat.left_eq_add, Nat.one_ne_zero, Nat.reduceLeDiff, Nat.zero_le, and_self, List.drop_succ_cons, List.drop_zero, List.take_succ_cons, List.take_zero, Nat.le_refl, bin_eql, bin_seql, beq_self_eq_true, callP, b_tt, leaveP, resP, oneRes, frz, frz2, frz1, List.map_cons, List.map_nil, List.nil_append, List.append_nil, endK_r, Bool.false_eq_true, NodeD.cells, eqN, e1, e2, e3, hA, hW, hR, hK, bin_beql Tryz.underlying4, Bool.false_and, Bool.true_and]
              | true =>
                cases i with
                | false => simp -implicitDefEqProofs only [p20, pcode_seq, pcode_r, pcode_ret, pops_u, pops_g, pops_nil, runK_some, runG_true, actP, opP, initP, Nat.zero_add, Nat.add_zero, Nat.reduceAdd, guardP, Option.map_some, Option.bind_some, pval_tmp, pval_const, pval_func, set_at, Nat.reduceEqDiff, cellsP, ↓reduceIte, pvOf, seq_n, asBool_b, regE_some, new_h, new_n, new_w, ld_ptr, ofCells, List.length_cons, List.length_nil, Nat.left_eq_add, Nat.one_ne_zero, Nat.reduceLeDiff, Nat.zero_le, and_self, List.drop_succ_cons, List.drop_zero, List.take_succ_cons, List.take_zero, Nat.le_refl, bin_eql, bin_seql, beq_self_eq_true, callP, leaveP, resP, oneRes, frz, frz2, frz1, List.map_cons, List.map_nil, List.nil_append, List.append_nil, endK_r, Bool.false_eq_true, NodeD.cells, eqN, e1, e2, e3, hA, hW, hR, hK, hI, bin_beql Tryz.underlying4, Bool.and_false]
                | true => simp -implicitDefEqProofs only [p20, pcode_seq, pcode_r, pcode_ret, pops_u, pops_g, pops_nil, runK_some, runG_true, actP, opP, initP, Nat.zero_add, Nat.add_zero, Nat.reduceAdd, guardP, Option.map_some, Option.bind_some, pval_tmp, pval_const, pval_func, set_at, Nat.reduceEqDiff, cellsP, ↓reduceIte, pvOf, seq_n, asBool_b, regE_some, new_h, new_n, new_w, ld_ptr, ofCells, List.length_cons, List.length_nil, Nat.left_eq_add, Nat.one_ne_zero, Nat.reduceLeDiff, Nat.zero_le, and_self, List.drop_succ_cons, List.drop_zero, List.take_succ_cons, List.take_zero, Nat.le_refl, bin_eql, bin_seql, beq_self_eq_true, callP, leaveP, resP, oneRes, frz, frz2, frz1, List.map_cons, List.map_nil, List.nil_append, List.append_nil, endK_r, Bool.false_eq_true, NodeD.cells, eqN, e1, e2, e3, hA, hW, hR, hK, hI, bin_beql Tryz.underlying4, Bool.true_and]

set_option maxHeartbeats 1000000 in
theorem f21 (x y : NodeD) (a w q k i : Bool) (hA : ∀ s, pcall Tryz.prog Γ ext 54 [x.assigns, y.assigns] s = some (.sc (.bool a), s)) (hW : ∀ s, pcall Tryz.prog Γ ext 55 [x.words, y.words] s = some (.sc (.bool w), s)) (hR : ∀ s, pcall Tryz.prog Γ ext 56 [x.redirs, y.redirs] s = some (.sc (.bool q), s)) (hK : ∀ s, pcall Tryz.prog Γ ext 57 [x.kids, y.kids] s = some (.sc (.bool k), s)) (hI : ∀ s, pcall Tryz.prog Γ ext 58 [x.items, y.items] s = some (.sc (.bool i), s)) (s : PS) :
    pcall Tryz.prog Γ ext 21 [.agg x.cells, .agg y.cells] s = some (.sc (.bool (eqN x y a w q k i)), s) := by
  have c1 : (bne x.kind y.kind) = !(x.kind == y.kind) := (rfl)
  rw [pcall_u (fn := p21) (by rfl) _ _ (by simp [p21])]
  cases e1 : x.kind == y.kind with
  | false => simp -implicitDefEqProofs only [p21, pcode_seq, pcode_r, pcode_ret, pcode_skip, pcode_cond, pops_u, pops_g, pops_nil, runK_some, runG_false, actP, opP, initP, Nat.zero_add, Nat.add_zero, Nat.reduceAdd, guardP, Option.map_some, Option.bind_some, pval_tmp, pval_const, set_at, Nat.reduceEqDiff, cellsP, ↓reduceIte, pvOf, seq_n, seq_r, cond_t, asBool_b, regE_some, new_h, new_n, new_w, ld_ptr, ofCells, List.length_cons, List.length_nil, Nat.left_eq_add, Nat.one_ne_zero, Nat.reduceLeDiff, Nat.zero_le, and_self, List.drop_zero, List.take_succ_cons, List.take_zero, Nat.le_refl, bin_neq, Bool.not_true, Bool.not_false, b_ff, leaveP, resP, oneRes, frz, frz2, frz1, endK_r, Bool.false_eq_true, NodeD.cells, eqN, e1, c1, Bool.false_and]
  | true =>
    cases e2 : x.name.toList == y.name.toList with
    | false => simp -implicitDefEqProofs only [p21, pcode_seq, pcode_r, pcode_ret, pcode_skip, pcode_cond, pops_u, pops_g, pops_nil, runK_some, runG_true, runG_false, actP, opP, initP, Nat.zero_add, Nat.add_zero, Nat.reduceAdd, guardP, Option.map_some, Option.bind_some, pval_tmp, pval_const, set_at, Nat.reduceEqDiff, cellsP, ↓reduceIte, pvOf, seq_n, seq_r, cond_t, asBool_b, regE_some, new_h, new_n, new_w, ld_ptr, ofCells, List.length_cons, List.length_nil, Nat.left_eq_add, Nat.one_ne_zero, Nat.reduceLeDiff, Nat.zero_le, and_self, List.drop_succ_cons, List.drop_zero, List.take_succ_cons, List.take_zero, Nat.le_refl, bin_neq, bin_sneq, beq_self_eq_true, Bool.not_true, Bool.not_false, b_ff, leaveP, resP, oneRes, frz, frz2, frz1, endK_r, Bool.false_eq_true, NodeD.cells, eqN, e1, e2, c1, Bool.false_and, Bool.true_and]
    | true =>
      cases e3 : x.all == y.all with
      | false => simp -implicitDefEqProofs only [p21, pcode_seq, pcode_r, pcode_ret, pcode_skip, pcode_cond, pops_u, pops_g, pops_nil, runK_some, runG_true, runG_false, actP, opP, initP, Nat.zero_add, Nat.add_zero, Nat.reduceAdd, guardP, Option.map_some, Option.bind_some, pval_tmp, pval_const, set_at, Nat.reduceEqDiff, cellsP, ↓reduceIte, pvOf, seq_n, seq_r, cond_t, asBool_b, regE_some, new_h, new_n, new_w, ld_ptr, ofCells, List.length_cons, List.length_nil, Nat.left_eq_add, Nat.one_ne_zero, Nat.reduceLeDiff, Nat.zero_le, and_self, List.drop_succ_cons, List.drop_zero, List.take_succ_cons, List.take_zero, Nat.le_refl, bin_neq, bin_sneq, beq_self_eq_true, Bool.not_true, Bool.not_false, b_ff, leaveP, resP, oneRes, frz, frz2, frz1, endK_r, Bool.false_eq_true, NodeD.cells, eqN, e1, e2, e3, bin_bneq Tryz.underlying4, c1, Bool.false_and, Bool.true_and]
      | true =>
        cases a with
        | false => simp -implicitDefEqProofs only [p21, pcode_seq, pcode_r, pcode_ret, pcode_skip, pcode_cond, pops_u, pops_g, pops_nil, runK_some, runG_true, runG_false, actP, opP, initP, Nat.zero_add, Nat.add_zero, Nat.reduceAdd, guardP, Option.map_some, Option.bind_some, pval_tmp, pval_const, pval_func, set_at, Nat.reduceEqDiff, cellsP, ↓reduceIte, pvOf, seq_n, seq_r, cond_t, asBool_b, regE_some, new_h, new_n, new_w, ld_ptr, ofCells, List.length_cons, List.length_nil, Nat.left_eq_add, Nat.one_ne_zero, Nat.reduceLeDiff, Nat.zero_le, and_self, List.drop_succ_cons, List.drop_zero, List.take_succ_cons, List.take_zero, Nat.le_refl, bin_neq, bin_sneq, un_not, beq_self_eq_true, Bool.not_true, Bool.not_false, callP, b_ff, leaveP, resP, oneRes, frz, frz2, frz1, List.map_cons, List.map_nil, List.nil_append, List.append_nil, endK_r, Bool.false_eq_true, NodeD.cells, eqN, e1, e2, e3, hA, bin_bneq Tryz.underlying4, c1, Bool.false_and, Bool.true_and]
        | true =>
          cases w with
          | false => simp -implicitDefEqProofs only [p21, pcode_seq, pcode_r, pcode_ret, pcode_skip, pcode_cond, pops_u, pops_g, pops_nil, runK_some, runG_true, actP, opP, initP, Nat.zero_add, Nat.add_zero, Nat.reduceAdd, guardP, Option.map_some, Option.bind_some, pval_tmp, pval_const, pval_func, set_at, Nat.reduceEqDiff, cellsP, ↓reduceIte, pvOf, seq_n, seq_r, cond_t, asBool_b, regE_some, new_h, new_n, new_w, ld_ptr, ofCells, List.length_cons, List.length_nil, Nat.left_eq_add, Nat.one_ne_zero, Nat.reduceLeDiff, Nat.zero_le, and_self, List.drop_succ_cons, List.drop_zero, List.take_succ_cons, List.take_zero, Nat.le_refl, bin_neq, bin_sneq, un_not, beq_self_eq_true, Bool.not_true, Bool.not_false, callP, leaveP, resP, oneRes, frz, frz2, frz1, List.map_cons, List.map_nil, List.nil_append, List.append_nil, endK_r, Bool.false_eq_true, NodeD.cells, eqN, e1, e2, e3, hA, hW, bin_bneq Tryz.underlying4, c1, Bool.false_and, Bool.true_and]
          | true =>
            cases q with
            | false => simp -implicitDefEqProofs only [p21, pcode_seq, pcode_r, pcode_ret, pcode_skip, pcode_cond, pops_u, pops_g, pops_nil, runK_some, runG_true, runG_false, actP, opP, initP, Nat.zero_add, Nat.add_zero, Nat.reduceAdd, guardP, Option.map_some, Option.bind_some, pval_tmp, pval_const, pval_func, set_at, Nat.reduceEqDiff, cellsP, ↓reduceIte, pvOf, seq_n, cond_f, asBool_b, regE_some, new_h, new_n, new_w, ld_ptr, ofCells, List.length_cons, List.length_nil, Nat.left_eq_add, Nat.one_ne_zero, Nat.reduceLeDiff, Nat.zero_le, and_self, List.drop_succ_cons, List.drop_zero, List.take_succ_cons, List.take_zero, Nat.le_refl, bin_neq, bin_sneq, un_not, beq_self_eq_true, Bool.not_true, callP, b_tt, leaveP, resP, oneRes, frz, frz2, frz1, List.map_cons, List.map_nil, List.nil_append, List.append_nil, endK_r, Bool.false_eq_true, NodeD.cells, eqN, e1, e2, e3, hA, hW, hR, bin_bneq Tryz.underlying4, c1, Bool.false_and, Bool.true_and]
            | true =>
              cases k with
              | false => simp -implicitDefEqProofs only [p21, pcode_seq, pcode_r, pcode_ret, pcode_skip, pcode_cond, pops_u, pops_g, pops_nil, runK_some, runG_true, runG_false, actP, opP, initP, Nat.zero_add, Nat.add_zero, Nat.reduceAdd, guardP, Option.map_some, Option.bind_some, pval_tmp, pval_const, pval_func, set_at, Nat.reduceEqDiff, cellsP, ↓reduceIte, pvOf, seq_n, cond_f, asBool_b, regE_some, new_h, new_n, new_w, ld_ptr, ofCells, List.length_cons, List.length_nil, Nat.left_eq_add, Nat.one_ne_zero, Nat.reduceLeDiff, Nat.zero_le, and_self, List.drop_succ_cons, List.drop_zero, List.take_succ_cons, List.take_zero, Nat.le_refl, bin_neq, bin_sneq, un_not, beq_self_eq_true, Bool.not_true, callP, b_tt, leaveP, resP, oneRes, frz, frz2, frz1, List.map_cons, List.map_nil, List.nil_append, List.append_nil, endK_r, Bool.false_eq_true, NodeD.cells, eqN, e1, e2, e3, hA, hW, hR, hK, bin_bneq Tryz.underlying4, c1, Bool.false_and, Bool.true_and]
              | true =>
                cases i with
                | false => simp -implicitDefEqProofs only [p21, pcode_seq, pcode_r, pcode_ret, pcode_skip, pcode_cond, pops_u, pops_g, pops_nil, runK_some, runG_true, actP, opP, initP, Nat.zero_add, Nat.add_zero, Nat.reduceAdd, guardP, Option.map_some, Option.bind_some, pval_tmp, pval_const, pval_func, set_at, Nat.reduceEqDiff, cellsP, ↓reduceIte, pvOf, seq_n, cond_f, asBool_b, regE_some, new_h, new_n, new_w, ld_ptr, ofCells, List.length_cons, List.length_nil, Nat.left_eq_add, Nat.one_ne_zero, Nat.reduceLeDiff, Nat.zero_le, and_self, List.drop_succ_cons, List.drop_zero, List.take_succ_cons, List.take_zero, Nat.le_refl, bin_neq, bin_sneq, un_not, beq_self_eq_true, Bool.not_true, callP, leaveP, resP, oneRes, frz, frz2, frz1, List.map_cons, List.map_nil, List.nil_append, List.append_nil, endK_r, Bool.false_eq_true, NodeD.cells, eqN, e1, e2, e3, hA, hW, hR, hK, hI, bin_bneq Tryz.underlying4, c1, Bool.and_false]
                | true => simp -implicitDefEqProofs only [p21, pcode_seq, pcode_r, pcode_ret, pcode_skip, pcode_cond, pops_u, pops_g, pops_nil, runK_some, runG_true, actP, opP, initP, Nat.zero_add, Nat.add_zero, Nat.reduceAdd, guardP, Option.map_some, Option.bind_some, pval_tmp, pval_const, pval_func, set_at, Nat.reduceEqDiff, cellsP, ↓reduceIte, pvOf, seq_n, cond_f, asBool_b, regE_some, new_h, new_n, new_w, ld_ptr, ofCells, List.length_cons, List.length_nil, Nat.left_eq_add, Nat.one_ne_zero, Nat.reduceLeDiff, Nat.zero_le, and_self, List.drop_succ_cons, List.drop_zero, List.take_succ_cons, List.take_zero, Nat.le_refl, bin_neq, bin_sneq, un_not, beq_self_eq_true, Bool.not_true, callP, leaveP, resP, oneRes, frz, frz2, frz1, List.map_cons, List.map_nil, List.nil_append, List.append_nil, endK_r, Bool.false_eq_true, NodeD.cells, eqN, e1, e2, e3, hA, hW, hR, hK, hI, bin_bneq Tryz.underlying4, c1, Bool.true_and]

end Go.Proofs.YtdkcfccepjimbaaGreatDoor

namespace Go.Proofs.YtdkcfccepjimbaaGreatDoor
open Go Go.EvL Go.PE
variable {ext : PCallF}
/-- a slice whose elements have a property -/
def RowAt {α : Type} (e : Nat) (c : α → List PV) (Q : α → Prop) (p : PV) : Prop := ∃ l : Option (List α), p = slP e c l ∧ (l.getD []).length < 4611686018427387904 ∧ ∀ x ∈ l.getD [], Q x
theorem RowAt.one {α : Type} {e : Nat} {c : α → List PV} {Q : α → Prop} {p : PV} (h : RowAt e c Q p) : oneP p = true := by
  obtain ⟨l, rfl, _⟩ := h; exact oneP_sl _ _ _
/-- a node, nested less than d deep, its parts less than D -/
def NodeAt (D : Nat) : Nat → NodeD → Prop
  | 0, _ => False
  | d + 1, x => AssignsAt D x.assigns ∧ WordsAt D x.words ∧ RedirsAt D x.redirs ∧ RowAt 28 NodeD.cells (NodeAt D d) x.kids ∧ RowAt 75 ItemD.cells (fun it => WordsAt D it.pats ∧ RowAt 28 NodeD.cells (NodeAt D d) it.body) x.items
theorem NodeAt.ones {D d : Nat} {x : NodeD} (h : NodeAt D d x) : x.cells.all oneP = true := by
  cases d with
  | zero => cases h
  | succ d =>
    obtain ⟨h1, h2, h3, h4, h5⟩ := h
    have w1 : oneP x.assigns = true := RowAt.one h1
    have w2 : oneP x.words = true := RowAt.one h2
    have w3 : oneP x.redirs = true := RowAt.one h3
    simp only [NodeD.cells, List.all_cons, List.all_nil, w1, w2, w3, h4.one, h5.one, Bool.and_true]; rfl
theorem kids_same {D d : Nat} (ih : ∀ x y, NodeAt D d x → NodeAt D d y → ∃ r, (∀ s, pcall Tryz.prog Γ ext 20 [.agg x.cells, .agg y.cells] s = some (.sc (.bool r), s)) ∧ ∀ s, pcall Tryz.prog Γ ext 21 [.agg x.cells, .agg y.cells] s = some (.sc (.bool r), s))
    {a b : PV} (ha : RowAt 28 NodeD.cells (NodeAt D d) a) (hb : RowAt 28 NodeD.cells (NodeAt D d) b) : ∃ r, (∀ s, pcall Tryz.prog Γ ext 51 [a, b, .fn 20 [] []] s = some (.sc (.bool r), s)) ∧ ∀ s, pcall Tryz.prog Γ ext 57 [a, b] s = some (.sc (.bool r), s) := by
  obtain ⟨l, rfl, hl, hl'⟩ := ha
  obtain ⟨m, rfl, hm, hm'⟩ := hb
  refine two_same NodeD.len (by rfl) g51 g57 (by omega) (fun x hx => ?_) hl (fun x hx y hy => ?_)
  · exact (hx.elim (hl' x) (hm' x)).ones
  · obtain ⟨r, h1, h2⟩ := ih x y (hl' x hx) (hm' y hy)
    exact ⟨r, h1, in57 x y r h2⟩
theorem node_same {D : Nat} : ∀ (d : Nat) (x y : NodeD), NodeAt D d x → NodeAt D d y → ∃ r, (∀ s, pcall Tryz.prog Γ ext 20 [.agg x.cells, .agg y.cells] s = some (.sc (.bool r), s)) ∧ ∀ s, pcall Tryz.prog Γ ext 21 [.agg x.cells, .agg y.cells] s = some (.sc (.bool r), s) := by
  intro d
  induction d with
  | zero => intro x y h; cases h
  | succ d ih =>
    rintro x y ⟨x1, x2, x3, x4, x5⟩ ⟨y1, y2, y3, y4, y5⟩
    obtain ⟨a, a1, a2⟩ := assigns_same (ext := ext) x1 y1
    obtain ⟨w, w1, w2⟩ := words_same (ext := ext) x2 y2
    obtain ⟨q, q1, q2⟩ := redirs_same (ext := ext) x3 y3
    obtain ⟨k, k1, k2⟩ := kids_same ih x4 y4
    obtain ⟨i, i1, i2⟩ : ∃ r, (∀ s, pcall Tryz.prog Γ ext 52 [x.items, y.items, .fn 53 [] []] s = some (.sc (.bool r), s)) ∧ ∀ s, pcall Tryz.prog Γ ext 58 [x.items, y.items] s = some (.sc (.bool r), s) := by
      obtain ⟨l, el, hl, hl'⟩ := x5
      obtain ⟨m, em, hm, hm'⟩ := y5
      rw [el, em]
      refine two_same ItemD.len (by rfl) g52 g58 (by omega) (fun z hz => ?_) hl (fun z hz v hv => ?_)
      · have h := hz.elim (hl' z) (hm' z)
        have w1 : oneP z.pats = true := RowAt.one h.1
        simp only [ItemD.cells, List.all_cons, List.all_nil, w1, h.2.one, Bool.and_true]
      · obtain ⟨r1, b1, b2⟩ := words_same (ext := ext) (hl' z hz).1 (hm' v hv).1
        obtain ⟨r2, d1, d2⟩ := kids_same ih (hl' z hz).2 (hm' v hv).2
        exact ⟨_, fun s => f53 z v r1 r2 b1 d1 s, in58 z v r1 r2 b2 d2⟩
    exact ⟨_, fun s => f20 x y a w q k i a1 w1 q1 k1 i1 s, fun s => f21 x y a w q k i a2 w2 q2 k2 i2 s⟩
end Go.Proofs.YtdkcfccepjimbaaGreatDoor

namespace Go.Proofs.YtdkcfccepjimbaaGreatDoor
open Go Go.EvL Go.PE
variable {ext : PCallF}
/-! a thing is like itself -/
theorem parts_refl : ∀ (d : Nat) (a : PV), PartsAt d a → ∀ s, pcall Tryz.prog Γ ext 86 [a, a] s = some (.sc (.bool true), s) := by
  intro d
  induction d with
  | zero => intro a h; cases h
  | succ d ih =>
    rintro a ⟨l, rfl, hl, hl'⟩ s
    have h132 := fun s => eq_refl (P := Tryz.prog) (ext := ext) (e := 63) (t := 63) PartD.len (by rfl) g132 (l := l) (fun x hx => PartD.ones (hl' x hx)) (g := 133) hl (fun x hx s => by
      have h := f133 x x s true (ih x.parts (hl' x hx))
      rw [h]
      simp [PartD.eqB]) s
    rw [pcall_u (fn := p86) (by rfl) _ _ (by simp [p86])]
    simp -implicitDefEqProofs only [p86, pcode_seq, pcode_r, pcode_ret, pops_u, pops_nil, runK_some, actP, opP, initP, Nat.zero_add, Option.map_some, Option.bind_some, pval_tmp, pval_const, pval_func, set_at, Nat.reduceEqDiff, ↓reduceIte, pvOf, seq_n, regE_some, Nat.one_ne_zero, Nat.le_refl, callP, leaveP, resP, oneRes, frz, frz2, frz1, List.map_cons, List.map_nil, List.nil_append, List.append_nil, endK_r, Bool.false_eq_true, reduceCtorEq, h132]
theorem words_refl {d : Nat} {a : PV} (ha : WordsAt d a) (s : PS) : pcall Tryz.prog Γ ext 48 [a, a, .fn 47 [] []] s = some (.sc (.bool true), s) := by
  obtain ⟨l, rfl, hl, hl'⟩ := ha
  refine eq_refl WordD.len (by rfl) g48 (fun x hx => ?_) hl (fun x hx s => ?_) s
  · have : PartsAt d x.parts := hl' x hx
    simp only [WordD.cells, List.all_cons, List.all_nil, this.one, Bool.and_true]; rfl
  · exact f47 x x true (parts_refl d x.parts (hl' x hx)) s
theorem assigns_refl {d : Nat} {a : PV} (ha : AssignsAt d a) (s : PS) : pcall Tryz.prog Γ ext 45 [a, a, .fn 46 [] []] s = some (.sc (.bool true), s) := by
  obtain ⟨l, rfl, hl, hl'⟩ := ha
  refine eq_refl AssignD.len (by rfl) g45 (fun x hx => ?_) hl (fun x hx s => ?_) s
  · have : PartsAt d x.parts := hl' x hx
    simp only [AssignD.cells, List.all_cons, List.all_nil, this.one, Bool.and_true]; rfl
  · rw [f46 x x true (parts_refl d x.parts (hl' x hx)) s]; simp
theorem redirs_refl {d : Nat} {a : PV} (ha : RedirsAt d a) (s : PS) : pcall Tryz.prog Γ ext 49 [a, a, .fn 50 [] []] s = some (.sc (.bool true), s) := by
  obtain ⟨l, rfl, hl, hl'⟩ := ha
  refine eq_refl RedirD.len (by rfl) g49 (fun x hx => ?_) hl (fun x hx s => ?_) s
  · have : PartsAt d x.parts := hl' x hx
    simp only [RedirD.cells, List.all_cons, List.all_nil, this.one, Bool.and_true]; rfl
  · rw [f50 x x true (parts_refl d x.parts (hl' x hx)) s]; simp [RedirD.eqB]
theorem kids_refl {D d : Nat} (ih : ∀ x, NodeAt D d x → ∀ s, pcall Tryz.prog Γ ext 20 [.agg x.cells, .agg x.cells] s = some (.sc (.bool true), s)) {a : PV} (ha : RowAt 28 NodeD.cells (NodeAt D d) a) (s : PS) : pcall Tryz.prog Γ ext 51 [a, a, .fn 20 [] []] s = some (.sc (.bool true), s) := by
  obtain ⟨l, rfl, hl, hl'⟩ := ha
  exact eq_refl NodeD.len (by rfl) g51 (fun x hx => (hl' x hx).ones) hl (fun x hx s => ih x (hl' x hx) s) s
theorem node_refl {D : Nat} : ∀ (d : Nat) (x : NodeD), NodeAt D d x → ∀ s, pcall Tryz.prog Γ ext 20 [.agg x.cells, .agg x.cells] s = some (.sc (.bool true), s) := by
  intro d
  induction d with
  | zero => intro x h; cases h
  | succ d ih =>
    rintro x ⟨x1, x2, x3, x4, x5⟩ s
    have i1 : ∀ s, pcall Tryz.prog Γ ext 52 [x.items, x.items, .fn 53 [] []] s = some (.sc (.bool true), s) := by
      intro s
      obtain ⟨l, el, hl, hl'⟩ := x5
      rw [el]
      refine eq_refl ItemD.len (by rfl) g52 (fun z hz => ?_) hl (fun z hz s => ?_) s
      · have h := hl' z hz
        have w1 : oneP z.pats = true := RowAt.one h.1
        simp only [ItemD.cells, List.all_cons, List.all_nil, w1, h.2.one, Bool.and_true]
      · exact f53 z z true true (words_refl (hl' z hz).1) (kids_refl ih (hl' z hz).2) s
    rw [f20 x x true true true true true (assigns_refl x1) (words_refl x2) (redirs_refl x3) (kids_refl ih x4) i1 s]
    simp [eqN]
end Go.Proofs.YtdkcfccepjimbaaGreatDoor
