/- Same and its reference agree on parts, words, assignments and redirections. No statement is proved here. -/
import Derived.Test.YtdkcfccepjimbaaGreatDoorPeC
import Derived.Test.YtdkcfccepjimbaaGreatDoorCode
set_option linter.unusedSimpArgs false
set_option linter.unusedVariables false
namespace Go.Proofs.YtdkcfccepjimbaaGreatDoor
open Go Go.EvL Go.PE
variable {ext : PCallF}
structure PartD where
  kind : Int
  text : ByteArray
  op : Int
  colon : Bool
  parts : PV
def PartD.cells (x : PartD) : List PV := [.sc (.int .i64 x.kind), .sc (.string x.text), .sc (.int .i64 x.op), .sc (.bool x.colon), x.parts]
theorem PartD.len (x : PartD) : x.cells.length = 5 := (rfl)
def PartD.eqB (x y : PartD) : Bool := x.kind == y.kind && (x.text.toList == y.text.toList && (x.op == y.op && x.colon == y.colon))
def inner87 : PCode := (.seq (.draw [(⟨some 19, .mv (.tmp 0), none⟩, [0], []),
             (⟨some 20, .mv (.tmp 5), none⟩, [5], [0]),
             (⟨some 21, .iaddr 5 (.tmp 19) (.tmp 20), none⟩, [19, 20], []),
             (⟨some 22, .load 63 true 5 (.tmp 21), none⟩, [21], []),
             (⟨some 23, .mv (.tmp 1), none⟩, [1], [3, 2, 1, 0]),
             (⟨some 24, .mv (.tmp 5), none⟩, [5], [4, 3, 2, 1, 0]),
             (⟨some 25, .iaddr 5 (.tmp 23) (.tmp 24), none⟩, [23, 24], [3, 2, 1, 0]),
             (⟨some 26, .load 63 true 5 (.tmp 25), none⟩, [25], [3, 2, 1, 0]),
             (⟨some 6, .alloc 63 (.agg #[(.int .i64 0), (.string ⟨#[]⟩), (.int .i64 0), (.bool false), (.slice none 0 0)]), none⟩, [], [7, 6, 5, 4, 3, 2, 1, 0]),
             (⟨some 7, .alloc 63 (.agg #[(.int .i64 0), (.string ⟨#[]⟩), (.int .i64 0), (.bool false), (.slice none 0 0)]), none⟩, [], [8, 7, 6, 5, 4, 3, 2, 1, 0]),
             (⟨none, .store 63 5 (.tmp 6) (.tmp 22), none⟩, [6, 22], [7, 6, 5, 4]),
             (⟨none, .store 63 5 (.tmp 7) (.tmp 26), none⟩, [7, 26], [])])
          (.seq (.reg [⟨some 27, .faddr 0 (.tmp 6), none⟩,
             ⟨some 28, .load 3 false 1 (.tmp 27), none⟩,
             ⟨some 29, .faddr 0 (.tmp 7), none⟩,
             ⟨some 30, .load 3 false 1 (.tmp 29), none⟩,
             ⟨some 31, .bin .neq 3 (.tmp 28) (.tmp 30), none⟩,
             ⟨some 32, .mv (.tmp 31), none⟩,
             ⟨some 33, .faddr 1 (.tmp 6), (some (32, false))⟩,
             ⟨some 34, .load 9 false 1 (.tmp 33), (some (32, false))⟩,
             ⟨some 35, .faddr 1 (.tmp 7), (some (32, false))⟩,
             ⟨some 36, .load 9 false 1 (.tmp 35), (some (32, false))⟩,
             ⟨some 37, .bin .neq 9 (.tmp 34) (.tmp 36), (some (32, false))⟩,
             ⟨some 38, .pick (.tmp 32) (.const (.bool true)) (.tmp 37), none⟩,
             ⟨some 39, .mv (.tmp 38), none⟩,
             ⟨some 40, .faddr 2 (.tmp 6), (some (39, false))⟩,
             ⟨some 41, .load 3 false 1 (.tmp 40), (some (39, false))⟩,
             ⟨some 42, .faddr 2 (.tmp 7), (some (39, false))⟩,
             ⟨some 43, .load 3 false 1 (.tmp 42), (some (39, false))⟩,
             ⟨some 44, .bin .neq 3 (.tmp 41) (.tmp 43), (some (39, false))⟩,
             ⟨some 45, .pick (.tmp 39) (.const (.bool true)) (.tmp 44), none⟩,
             ⟨some 46, .mv (.tmp 45), none⟩,
             ⟨some 47, .faddr 3 (.tmp 6), (some (46, false))⟩,
             ⟨some 48, .load 4 false 1 (.tmp 47), (some (46, false))⟩,
             ⟨some 49, .faddr 3 (.tmp 7), (some (46, false))⟩,
             ⟨some 50, .load 4 false 1 (.tmp 49), (some (46, false))⟩,
             ⟨some 51, .bin .neq 4 (.tmp 48) (.tmp 50), (some (46, false))⟩,
             ⟨some 52, .pick (.tmp 46) (.const (.bool true)) (.tmp 51), none⟩,
             ⟨some 53, .mv (.tmp 52), none⟩,
             ⟨some 54, .faddr 4 (.tmp 6), (some (53, false))⟩,
             ⟨some 55, .load 54 false 1 (.tmp 54), (some (53, false))⟩,
             ⟨some 56, .faddr 4 (.tmp 7), (some (53, false))⟩,
             ⟨some 57, .load 54 false 1 (.tmp 56), (some (53, false))⟩,
             ⟨some 58, .call (.func 87) [(.tmp 55), (.tmp 57)], (some (53, false))⟩,
             ⟨some 59, .un .not (.tmp 58), (some (53, false))⟩,
             ⟨some 60, .pick (.tmp 53) (.const (.bool true)) (.tmp 59), none⟩])
          (.cond (.tmp 60)
            (.seq (.reg [⟨some 4, .mv (.const (.bool false)), none⟩])
            .ret)
            (.skip))))
theorem is87 : p87 = refF8 61 inner87 := rfl
theorem pu87 : puOf Γ 87 = true := (rfl)
theorem b_ne (a b : Int) : (a != b) = !(a == b) := (rfl)

theorem in87 (x y : PartD) (hx : oneP x.parts = true) (hy : oneP y.parts = true) (r : Bool) (h : ∀ s, pcall Tryz.prog Γ ext 87 [x.parts, y.parts] s = some (.sc (.bool r), s)) {l m : Option (List PartD)} {i : Nat} (hl : (l.getD [])[i]? = some x) (hm : (m.getD [])[i]? = some y) (f : PFr) (s : PS) (hin : RefIn 63 PartD.cells l m i f) :
    ∃ f' s', pcode Tryz.prog Γ ext (.block 1 inner87) f s = some (if (x.eqB y && r) then (.normal, f', s') else (.ret, f', s')) ∧ ((x.eqB y && r) = true → f' 0 = f 0 ∧ f' 1 = f 1 ∧ f' 5 = f 5) ∧ ((x.eqB y && r) = false → f' 4 = .sc (.bool false)) ∧ (∀ n0, n0 ≤ s.n → n0 ≤ s.w → n0 ≤ s'.n ∧ n0 ≤ s'.w) := by
  obtain ⟨l, rfl⟩ : ∃ k, l = some k := by cases l with | none => simp at hl | some k => exact ⟨k, rfl⟩
  obtain ⟨m, rfl⟩ : ∃ k, m = some k := by cases m with | none => simp at hm | some k => exact ⟨k, rfl⟩
  obtain ⟨ha, hb, hii⟩ := hin
  simp only [slP, Option.getD_some] at ha hb hl hm
  have hi : i < l.length := (List.getElem?_eq_some_iff.1 hl).1
  have hj : i < m.length := (List.getElem?_eq_some_iff.1 hm).1
  have h1 := flat_len PartD.len l
  have h2 := flat_len PartD.len m
  have h3 := ld_sl PartD.len hl
  have h4 := ld_sl PartD.len hm
  have ox : x.cells.all oneP = true := by simp only [PartD.cells, List.all_cons, List.all_nil, hx, Bool.and_true]; rfl
  have oy : y.cells.all oneP = true := by simp only [PartD.cells, List.all_cons, List.all_nil, hy, Bool.and_true]; rfl
  have lx : x.cells.length = 5 := x.len
  have ly : y.cells.length = 5 := y.len
  have c1 : (bne x.kind y.kind) = !(x.kind == y.kind) := (rfl)
  have c2 : (bne x.op y.op) = !(x.op == y.op) := (rfl)
  have fin : ∀ (n0 : Nat), n0 ≤ s.n → n0 ≤ s.w → n0 ≤ s.n + 1 + 1 ∧ n0 ≤ min (min s.w s.n) (s.n + 1) := fun n0 w1 w2 => ⟨by omega, by omega⟩
  simp -implicitDefEqProofs only [inner87, pcode_seq, pcode_r, pcode_block, pops_u, runK_some, actP, opP, Nat.zero_add, Nat.add_zero, Nat.reduceAdd, Option.map_some, Option.bind_some, pval_tmp, set_at, Nat.reduceEqDiff, cellsP, ↓reduceIte, pvOf, seq_n, regE_some, new_h, new_n, put_h, put_n, ld_ptr, ofCells, List.length_cons, List.length_nil, Nat.left_eq_add, Nat.add_eq_left, Nat.one_ne_zero, Nat.reduceLeDiff, and_self, List.drop_zero, Nat.le_refl, Nat.le_add_right, List.map_cons, List.map_nil, Bool.false_eq_true, reduceCtorEq, st_all, natP_cast, pcode_d, pdraw_nil, pdraw_u, drK_some, drK_none, only_at, effO, effA, pureI, okAll_nil, okAll_cons, okPair_e, okPair_st, okPair_li, List.mem_cons, List.not_mem_nil, or_false, or_true, or_self, implies_true, false_implies, Nat.le_add_right, ha, hb, hii, hi, hj, h1, h2, h3, h4, ox, oy, lx, ly]
  simp -implicitDefEqProofs only [PartD.cells] at h ⊢
  cases e1 : x.kind == y.kind with
  | false =>
    simp -implicitDefEqProofs only [pcode_seq, pcode_r, pcode_ret, pcode_skip, pcode_cond, pops_u, pops_g, pops_nil, runK_some, runG_false, actP, opP, Nat.zero_add, Nat.add_zero, Nat.reduceAdd, guardP, Option.map_some, Option.bind_some, pval_tmp, pval_const, set_at, Nat.reduceEqDiff, ↓reduceIte, pvOf, seq_n, blk_r, cond_t, asBool_b, regE_some, put_h, ld_ptr, ofCells, List.length_cons, List.length_nil, Nat.reduceLeDiff, and_self, List.drop_zero, List.take_succ_cons, List.take_zero, Nat.le_refl, bin_neq, Bool.not_true, Bool.not_false, b_ff, Bool.false_eq_true, PartD.eqB, e1, Bool.false_and, c1]
    exact ⟨_, _, rfl, fun hh => (by cases hh), fun _ => by simp -implicitDefEqProofs only [set_at, ↓reduceIte], fin⟩
  | true =>
    cases e2 : x.text.toList == y.text.toList with
    | false =>
      simp -implicitDefEqProofs only [pcode_seq, pcode_r, pcode_ret, pcode_skip, pcode_cond, pops_u, pops_g, pops_nil, runK_some, runG_true, runG_false, actP, opP, Nat.zero_add, Nat.add_zero, Nat.reduceAdd, guardP, Option.map_some, Option.bind_some, pval_tmp, pval_const, set_at, Nat.reduceEqDiff, ↓reduceIte, pvOf, seq_n, blk_r, cond_t, asBool_b, regE_some, put_h, ld_ptr, ofCells, List.length_cons, List.length_nil, Nat.left_eq_add, Nat.one_ne_zero, Nat.reduceLeDiff, and_self, List.drop_succ_cons, List.drop_zero, List.take_succ_cons, List.take_zero, Nat.le_refl, bin_neq, bin_sneq, beq_self_eq_true, Bool.not_true, Bool.not_false, b_ff, Bool.false_eq_true, PartD.eqB, e1, e2, Bool.false_and, Bool.true_and, c1]
      exact ⟨_, _, rfl, fun hh => (by cases hh), fun _ => by simp -implicitDefEqProofs only [set_at, ↓reduceIte], fin⟩
    | true =>
      cases e3 : x.op == y.op with
      | false =>
        simp -implicitDefEqProofs only [pcode_seq, pcode_r, pcode_ret, pcode_skip, pcode_cond, pops_u, pops_g, pops_nil, runK_some, runG_true, runG_false, actP, opP, Nat.zero_add, Nat.add_zero, Nat.reduceAdd, guardP, Option.map_some, Option.bind_some, pval_tmp, pval_const, set_at, Nat.reduceEqDiff, ↓reduceIte, pvOf, seq_n, blk_r, cond_t, asBool_b, regE_some, put_h, ld_ptr, ofCells, List.length_cons, List.length_nil, Nat.left_eq_add, Nat.one_ne_zero, Nat.reduceLeDiff, and_self, List.drop_succ_cons, List.drop_zero, List.take_succ_cons, List.take_zero, Nat.le_refl, bin_neq, bin_sneq, beq_self_eq_true, Bool.not_true, Bool.not_false, b_ff, Bool.false_eq_true, PartD.eqB, e1, e2, e3, Bool.false_and, Bool.true_and, c1, c2]
        exact ⟨_, _, rfl, fun hh => (by cases hh), fun _ => by simp -implicitDefEqProofs only [set_at, ↓reduceIte], fin⟩
      | true =>
        cases e4 : x.colon == y.colon with
        | false =>
          simp -implicitDefEqProofs only [pcode_seq, pcode_r, pcode_ret, pcode_skip, pcode_cond, pops_u, pops_g, pops_nil, runK_some, runG_true, runG_false, actP, opP, Nat.zero_add, Nat.add_zero, Nat.reduceAdd, guardP, Option.map_some, Option.bind_some, pval_tmp, pval_const, set_at, Nat.reduceEqDiff, ↓reduceIte, pvOf, seq_n, blk_r, cond_t, asBool_b, regE_some, put_h, ld_ptr, ofCells, List.length_cons, List.length_nil, Nat.left_eq_add, Nat.one_ne_zero, Nat.reduceLeDiff, and_self, List.drop_succ_cons, List.drop_zero, List.take_succ_cons, List.take_zero, Nat.le_refl, bin_neq, bin_sneq, beq_self_eq_true, Bool.not_true, Bool.not_false, b_ff, Bool.false_eq_true, PartD.eqB, e1, e2, e3, e4, Bool.false_and, Bool.true_and, c1, c2, bin_bneq Tryz.underlying4]
          exact ⟨_, _, rfl, fun hh => (by cases hh), fun _ => by simp -implicitDefEqProofs only [set_at, ↓reduceIte], fin⟩
        | true =>
          cases r with
          | false =>
            simp -implicitDefEqProofs only [pcode_seq, pcode_r, pcode_ret, pcode_skip, pcode_cond, pops_u, pops_g, pops_nil, runK_some, runG_true, actP, opP, Nat.zero_add, Nat.add_zero, Nat.reduceAdd, guardP, Option.map_some, Option.bind_some, pval_tmp, pval_const, pval_func, set_at, Nat.reduceEqDiff, ↓reduceIte, pvOf, seq_n, blk_r, cond_t, asBool_b, regE_some, put_h, ld_ptr, ofCells, List.length_cons, List.length_nil, Nat.left_eq_add, Nat.one_ne_zero, Nat.reduceLeDiff, and_self, List.drop_succ_cons, List.drop_zero, List.take_succ_cons, List.take_zero, Nat.le_refl, bin_neq, bin_sneq, un_not, beq_self_eq_true, Bool.not_true, Bool.not_false, callP, List.map_cons, List.map_nil, List.nil_append, List.append_nil, Bool.false_eq_true, PartD.eqB, e1, e2, e3, e4, h, Bool.and_false, Bool.true_and, c1, c2, bin_bneq Tryz.underlying4]
            exact ⟨_, _, rfl, fun hh => (by cases hh), fun _ => by simp -implicitDefEqProofs only [set_at, ↓reduceIte], fin⟩
          | true =>
            simp -implicitDefEqProofs only [pcode_seq, pcode_r, pcode_ret, pcode_skip, pcode_cond, pops_u, pops_g, pops_nil, runK_some, runG_true, actP, opP, Nat.zero_add, Nat.add_zero, Nat.reduceAdd, guardP, Option.map_some, Option.bind_some, pval_tmp, pval_const, pval_func, set_at, Nat.reduceEqDiff, ↓reduceIte, pvOf, seq_n, blk_n, cond_f, asBool_b, regE_some, put_h, ld_ptr, ofCells, List.length_cons, List.length_nil, Nat.left_eq_add, Nat.one_ne_zero, Nat.reduceLeDiff, and_self, List.drop_succ_cons, List.drop_zero, List.take_succ_cons, List.take_zero, Nat.le_refl, bin_neq, bin_sneq, un_not, beq_self_eq_true, Bool.not_true, callP, List.map_cons, List.map_nil, List.nil_append, List.append_nil, Bool.true_eq_false, Bool.false_eq_true, PartD.eqB, e1, e2, e3, e4, h, Bool.and_true, c1, c2, bin_bneq Tryz.underlying4]
            exact ⟨_, _, rfl, fun _ => ⟨by simp -implicitDefEqProofs only [set_at, ↓reduceIte, reduceCtorEq, ha], by simp -implicitDefEqProofs only [set_at, Nat.reduceEqDiff, ↓reduceIte, hb], by simp -implicitDefEqProofs only [set_at, Nat.reduceEqDiff, ↓reduceIte, hii]⟩, fun hh => (by cases hh), fin⟩
end Go.Proofs.YtdkcfccepjimbaaGreatDoor

namespace Go.Proofs.YtdkcfccepjimbaaGreatDoor
open Go Go.EvL Go.PE
variable {ext : PCallF}
theorem f133 (x y : PartD) (s : PS) (r : Bool) (h : ∀ s, pcall Tryz.prog Γ ext 86 [x.parts, y.parts] s = some (.sc (.bool r), s)) :
    pcall Tryz.prog Γ ext 133 [.agg x.cells, .agg y.cells] s = some (.sc (.bool (x.eqB y && r)), s) := by
  rw [pcall_u (fn := p133) (by rfl) _ _ (by simp [p133])]
  cases h1 : x.kind == y.kind with
  | false => simp -implicitDefEqProofs only [p133, pcode_seq, pcode_r, pcode_ret, pops_u, pops_g, pops_nil, runK_some, runG_false, actP, opP, initP, Nat.zero_add, Nat.add_zero, Nat.reduceAdd, guardP, Option.map_some, Option.bind_some, pval_tmp, pval_const, set_at, Nat.reduceEqDiff, cellsP, ↓reduceIte, pvOf, seq_n, asBool_b, regE_some, new_h, new_n, new_w, ld_ptr, ofCells, List.length_cons, List.length_nil, Nat.left_eq_add, Nat.one_ne_zero, Nat.reduceLeDiff, Nat.zero_le, and_self, List.drop_zero, List.take_succ_cons, List.take_zero, Nat.le_refl, bin_eql, b_tt, leaveP, resP, oneRes, frz, frz2, frz1, endK_r, Bool.false_eq_true, PartD.cells, PartD.eqB, h1, Bool.false_and]
  | true =>
    cases h2 : x.text.toList == y.text.toList with
    | false => simp -implicitDefEqProofs only [p133, pcode_seq, pcode_r, pcode_ret, pops_u, pops_g, pops_nil, runK_some, runG_true, runG_false, actP, opP, initP, Nat.zero_add, Nat.add_zero, Nat.reduceAdd, guardP, Option.map_some, Option.bind_some, pval_tmp, pval_const, set_at, Nat.reduceEqDiff, cellsP, ↓reduceIte, pvOf, seq_n, asBool_b, regE_some, new_h, new_n, new_w, ld_ptr, ofCells, List.length_cons, List.length_nil, Nat.left_eq_add, Nat.one_ne_zero, Nat.reduceLeDiff, Nat.zero_le, and_self, List.drop_succ_cons, List.drop_zero, List.take_succ_cons, List.take_zero, Nat.le_refl, bin_eql, bin_seql, beq_self_eq_true, b_tt, leaveP, resP, oneRes, frz, frz2, frz1, endK_r, Bool.false_eq_true, PartD.cells, PartD.eqB, h1, h2, Bool.false_and, Bool.and_false]
    | true =>
      cases h3 : x.op == y.op with
      | false => simp -implicitDefEqProofs only [p133, pcode_seq, pcode_r, pcode_ret, pops_u, pops_g, pops_nil, runK_some, runG_true, runG_false, actP, opP, initP, Nat.zero_add, Nat.add_zero, Nat.reduceAdd, guardP, Option.map_some, Option.bind_some, pval_tmp, pval_const, set_at, Nat.reduceEqDiff, cellsP, ↓reduceIte, pvOf, seq_n, asBool_b, regE_some, new_h, new_n, new_w, ld_ptr, ofCells, List.length_cons, List.length_nil, Nat.left_eq_add, Nat.one_ne_zero, Nat.reduceLeDiff, Nat.zero_le, and_self, List.drop_succ_cons, List.drop_zero, List.take_succ_cons, List.take_zero, Nat.le_refl, bin_eql, bin_seql, beq_self_eq_true, b_tt, leaveP, resP, oneRes, frz, frz2, frz1, endK_r, Bool.false_eq_true, PartD.cells, PartD.eqB, h1, h2, h3, Bool.false_and, Bool.and_false]
      | true =>
        cases h4 : x.colon == y.colon with
        | false => simp -implicitDefEqProofs only [p133, pcode_seq, pcode_r, pcode_ret, pops_u, pops_g, pops_nil, runK_some, runG_true, runG_false, actP, opP, initP, Nat.zero_add, Nat.add_zero, Nat.reduceAdd, guardP, Option.map_some, Option.bind_some, pval_tmp, pval_const, set_at, Nat.reduceEqDiff, cellsP, ↓reduceIte, pvOf, seq_n, asBool_b, regE_some, new_h, new_n, new_w, ld_ptr, ofCells, List.length_cons, List.length_nil, Nat.left_eq_add, Nat.one_ne_zero, Nat.reduceLeDiff, Nat.zero_le, and_self, List.drop_succ_cons, List.drop_zero, List.take_succ_cons, List.take_zero, Nat.le_refl, bin_eql, bin_seql, beq_self_eq_true, b_tt, leaveP, resP, oneRes, frz, frz2, frz1, endK_r, Bool.false_eq_true, PartD.cells, PartD.eqB, h1, h2, h3, h4, bin_beql Tryz.underlying4, Bool.false_and, Bool.and_false]
        | true => simp -implicitDefEqProofs only [p133, pcode_seq, pcode_r, pcode_ret, pops_u, pops_g, pops_nil, runK_some, runG_true, actP, opP, initP, Nat.zero_add, Nat.add_zero, Nat.reduceAdd, guardP, Option.map_some, Option.bind_some, pval_tmp, pval_const, pval_func, set_at, Nat.reduceEqDiff, cellsP, ↓reduceIte, pvOf, seq_n, asBool_b, regE_some, new_h, new_n, new_w, ld_ptr, ofCells, List.length_cons, List.length_nil, Nat.left_eq_add, Nat.one_ne_zero, Nat.reduceLeDiff, Nat.zero_le, and_self, List.drop_succ_cons, List.drop_zero, List.take_succ_cons, List.take_zero, Nat.le_refl, bin_eql, bin_seql, beq_self_eq_true, callP, leaveP, resP, oneRes, frz, frz2, frz1, List.map_cons, List.map_nil, List.nil_append, List.append_nil, endK_r, Bool.false_eq_true, PartD.cells, PartD.eqB, h1, h2, h3, h4, h, bin_beql Tryz.underlying4, Bool.true_and]

/-- parts of a word, nested less than d deep -/
def PartsAt : Nat → PV → Prop
  | 0, _ => False
  | d + 1, p => ∃ l : Option (List PartD), p = slP 63 PartD.cells l ∧ (l.getD []).length < 4611686018427387904 ∧ ∀ x ∈ l.getD [], PartsAt d x.parts
theorem oneP_sl {α : Type} (e : Nat) (c : α → List PV) (l : Option (List α)) : oneP (slP e c l) = true := by cases l <;> rfl
theorem PartsAt.one {d : Nat} {p : PV} (h : PartsAt d p) : oneP p = true := by
  cases d with
  | zero => cases h
  | succ d => obtain ⟨l, rfl, _⟩ := h; exact oneP_sl _ _ _
theorem PartD.ones {d : Nat} {x : PartD} (h : PartsAt d x.parts) : x.cells.all oneP = true := by
  simp only [PartD.cells, List.all_cons, List.all_nil, h.one, Bool.and_true]; rfl
theorem g132 : Γ 132 = some (eqF 63 5 #[(.int .i64 0), (.string ⟨#[]⟩), (.int .i64 0), (.bool false), (.slice none 0 0)] 3) := (rfl)
theorem parts_same : ∀ (d : Nat) (a b : PV), PartsAt d a → PartsAt d b → ∃ r, (∀ s, pcall Tryz.prog Γ ext 86 [a, b] s = some (.sc (.bool r), s)) ∧ ∀ s, pcall Tryz.prog Γ ext 87 [a, b] s = some (.sc (.bool r), s) := by
  intro d
  induction d with
  | zero => intro a b h; cases h
  | succ d ih =>
    rintro a b ⟨l, rfl, hl, hl'⟩ ⟨m, rfl, hm, hm'⟩
    have key : ∀ i : Nat, ∃ r : Bool, ∀ x y : PartD, (l.getD [])[i]? = some x → (m.getD [])[i]? = some y → (∀ s, pcall Tryz.prog Γ ext 86 [x.parts, y.parts] s = some (.sc (.bool r), s)) ∧ ∀ s, pcall Tryz.prog Γ ext 87 [x.parts, y.parts] s = some (.sc (.bool r), s) := by
      intro i
      cases hx : (l.getD [])[i]? with
      | none => exact ⟨true, fun x y h => by cases h⟩
      | some x =>
        cases hy : (m.getD [])[i]? with
        | none => exact ⟨true, fun x y _ h => by cases h⟩
        | some y =>
          obtain ⟨r, hr⟩ := ih x.parts y.parts (hl' x (List.mem_of_getElem? hx)) (hm' y (List.mem_of_getElem? hy))
          exact ⟨r, fun x' y' h1 h2 => by injection h1 with h1; injection h2 with h2; subst h1; subst h2; exact hr⟩
    obtain ⟨r, hr⟩ := Classical.axiomOfChoice key
    refine ⟨(l.getD []).length == (m.getD []).length && allB (fun i => (match (l.getD [])[i]?, (m.getD [])[i]? with | some x, some y => x.eqB y | _, _ => true) && r i) 0 (l.getD []).length, fun s => ?_, fun s => ?_⟩
    · have h132 := eq_func (P := Tryz.prog) (ext := ext) (e := 63) (t := 63) PartD.len (by rfl) g132 (l := l) (m := m) (fun x hx => hx.elim (fun h => PartD.ones (hl' x h)) (fun h => PartD.ones (hm' x h))) (g := 133) hl (r := fun i => (match (l.getD [])[i]?, (m.getD [])[i]? with | some x, some y => x.eqB y | _, _ => true) && r i) (fun i x y h1 h2 s => by
        simp only [h1, h2]
        exact f133 x y s (r i) (hr i x y h1 h2).1)
      rw [pcall_u (fn := p86) (by rfl) _ _ (by simp [p86])]
      simp -implicitDefEqProofs only [p86, pcode_seq, pcode_r, pcode_ret, pops_u, pops_nil, runK_some, actP, opP, initP, Nat.zero_add, Option.map_some, Option.bind_some, pval_tmp, pval_const, pval_func, set_at, Nat.reduceEqDiff, ↓reduceIte, pvOf, seq_n, regE_some, Nat.one_ne_zero, Nat.le_refl, callP, leaveP, resP, oneRes, frz, frz2, frz1, List.map_cons, List.map_nil, List.nil_append, List.append_nil, endK_r, Bool.false_eq_true, reduceCtorEq, h132]
    · refine ref_func8 hl (G := 87) (nt := 61) (inner := inner87) (by rw [← is87]; rfl) (by omega) (fun i x y h1 h2 f s hin => ?_) s
      have h := in87 (ext := ext) x y (hl' x (List.mem_of_getElem? h1)).one (hm' y (List.mem_of_getElem? h2)).one (r i) (hr i x y h1 h2).2 h1 h2 f s hin
      simp only [h1, h2]
      exact h
end Go.Proofs.YtdkcfccepjimbaaGreatDoor

namespace Go.Proofs.YtdkcfccepjimbaaGreatDoor
open Go Go.EvL Go.PE
variable {ext : PCallF}
structure WordD where
  pos : Int
  parts : PV
def WordD.cells (x : WordD) : List PV := [.sc (.int .i64 x.pos), x.parts]
theorem WordD.len (x : WordD) : x.cells.length = 2 := (rfl)
def inner55 : PCode := (.seq (.draw [(⟨some 17, .mv (.tmp 0), none⟩, [0], []),
             (⟨some 18, .mv (.tmp 5), none⟩, [5], [0]),
             (⟨some 19, .iaddr 2 (.tmp 17) (.tmp 18), none⟩, [17, 18], []),
             (⟨some 20, .faddr 1 (.tmp 19), none⟩, [19], []),
             (⟨some 21, .load 54 false 1 (.tmp 20), none⟩, [20], []),
             (⟨some 22, .mv (.tmp 1), none⟩, [1], [4, 3, 2, 1, 0]),
             (⟨some 23, .mv (.tmp 5), none⟩, [5], [5, 4, 3, 2, 1, 0]),
             (⟨some 24, .iaddr 2 (.tmp 22) (.tmp 23), none⟩, [22, 23], [4, 3, 2, 1, 0]),
             (⟨some 25, .faddr 1 (.tmp 24), none⟩, [24], [4, 3, 2, 1, 0]),
             (⟨some 26, .load 54 false 1 (.tmp 25), none⟩, [25], [4, 3, 2, 1, 0]),
             (⟨some 27, .call (.func 87) [(.tmp 21), (.tmp 26)], none⟩, [21, 26], []),
             (⟨some 28, .un .not (.tmp 27), none⟩, [27], [])])
          (.cond (.tmp 28)
            (.seq (.reg [⟨some 4, .mv (.const (.bool false)), none⟩])
            .ret)
            (.skip)))
theorem g55 : Γ 55 = some (refF6 29 inner55) := (rfl)
theorem g48 : Γ 48 = some (eqF 56 2 #[(.int .i64 0), (.slice none 0 0)] 3) := (rfl)
theorem f47 (x y : WordD) (r : Bool) (h : ∀ s, pcall Tryz.prog Γ ext 86 [x.parts, y.parts] s = some (.sc (.bool r), s)) (s : PS) : pcall Tryz.prog Γ ext 47 [.agg x.cells, .agg y.cells] s = some (.sc (.bool r), s) := by
  rw [pcall_u (fn := p47) (by rfl) _ _ (by simp [p47])]
  simp -implicitDefEqProofs only [p47, pcode_seq, pcode_r, pcode_ret, pops_u, pops_nil, runK_some, actP, opP, initP, Nat.zero_add, Nat.reduceAdd, Option.map_some, Option.bind_some, pval_tmp, pval_const, pval_func, set_at, Nat.reduceEqDiff, cellsP, ↓reduceIte, pvOf, seq_n, regE_some, new_h, new_n, new_w, ld_ptr, ofCells, List.length_cons, List.length_nil, Nat.left_eq_add, Nat.one_ne_zero, Nat.zero_le, and_self, List.drop_succ_cons, List.drop_zero, List.take_succ_cons, List.take_zero, Nat.le_refl, callP, leaveP, resP, oneRes, frz, frz2, frz1, List.map_cons, List.map_nil, List.nil_append, List.append_nil, endK_r, Bool.false_eq_true, WordD.cells, h]
theorem in55 (x y : WordD) (r : Bool) (h : ∀ s, pcall Tryz.prog Γ ext 87 [x.parts, y.parts] s = some (.sc (.bool r), s)) : InnerOK Tryz.prog Γ ext 56 WordD.cells inner55 x y r := by
  intro l m i hl hm f s hin
  obtain ⟨l, rfl⟩ : ∃ k, l = some k := by cases l with | none => simp at hl | some k => exact ⟨k, rfl⟩
  obtain ⟨m, rfl⟩ : ∃ k, m = some k := by cases m with | none => simp at hm | some k => exact ⟨k, rfl⟩
  obtain ⟨ha, hb, hii⟩ := hin
  simp only [slP, Option.getD_some] at ha hb hl hm
  have hi : i < l.length := (List.getElem?_eq_some_iff.1 hl).1
  have hj : i < m.length := (List.getElem?_eq_some_iff.1 hm).1
  have h1 := flat_len WordD.len l
  have h2 := flat_len WordD.len m
  obtain ⟨r1, h3⟩ := flat_at WordD.len hl
  obtain ⟨r2, h4⟩ := flat_at WordD.len hm
  cases r with
  | false =>
    simp -implicitDefEqProofs only [inner55, pcode_seq, pcode_r, pcode_ret, pcode_skip, pcode_cond, pcode_block, pops_u, pops_nil, runK_some, actP, opP, Nat.zero_add, Nat.reduceAdd, Option.map_some, Option.bind_some, pval_tmp, pval_const, pval_func, set_at, Nat.reduceEqDiff, ↓reduceIte, pvOf, seq_n, blk_r, cond_t, asBool_b, regE_some, ofCells, List.length_cons, Nat.one_ne_zero, Nat.reduceLeDiff, and_self, true_and, List.drop_succ_cons, List.drop_zero, List.take_succ_cons, List.take_zero, un_not, Bool.not_false, callP, List.map_cons, List.map_nil, List.nil_append, List.append_nil, List.cons_append, Bool.false_eq_true, reduceCtorEq, natP_cast, pcode_d, pdraw_nil, pdraw_u, drK_some, only_at, effO, effA, pureI, okAll_nil, okAll_cons, okPair_e, okPair_li, List.mem_cons, List.not_mem_nil, or_false, or_true, or_self, implies_true, false_implies, forall_const, ha, hb, hii, hi, hj, h1, h2, h3, h4, ld_litp, WordD.cells, h, pu87]
    exact ⟨_, _, rfl, by simp -implicitDefEqProofs only [set_at, ↓reduceIte], fun n0 w1 w2 => ⟨w1, w2⟩⟩
  | true =>
    simp -implicitDefEqProofs only [inner55, pcode_seq, pcode_r, pcode_ret, pcode_skip, pcode_cond, pcode_block, pops_u, pops_nil, runK_some, actP, opP, Nat.zero_add, Nat.reduceAdd, Option.map_some, Option.bind_some, pval_tmp, pval_const, pval_func, set_at, Nat.reduceEqDiff, ↓reduceIte, pvOf, seq_n, blk_n, cond_f, asBool_b, regE_some, ofCells, List.length_cons, Nat.one_ne_zero, Nat.reduceLeDiff, and_self, true_and, List.drop_succ_cons, List.drop_zero, List.take_succ_cons, List.take_zero, un_not, Bool.not_true, callP, List.map_cons, List.map_nil, List.nil_append, List.append_nil, List.cons_append, Bool.true_eq_false, Bool.false_eq_true, reduceCtorEq, natP_cast, pcode_d, pdraw_nil, pdraw_u, drK_some, only_at, effO, effA, pureI, okAll_nil, okAll_cons, okPair_e, okPair_li, List.mem_cons, List.not_mem_nil, or_false, or_true, or_self, implies_true, false_implies, forall_const, ha, hb, hii, hi, hj, h1, h2, h3, h4, ld_litp, WordD.cells, h, pu87]
    exact ⟨_, _, rfl, ⟨by simp -implicitDefEqProofs only [set_at, ↓reduceIte, reduceCtorEq, ha], by simp -implicitDefEqProofs only [set_at, Nat.reduceEqDiff, ↓reduceIte, hb], by simp -implicitDefEqProofs only [set_at, Nat.reduceEqDiff, ↓reduceIte, hii]⟩, fun n0 w1 w2 => ⟨w1, w2⟩⟩
def WordsAt (d : Nat) (p : PV) : Prop := ∃ l : Option (List WordD), p = slP 56 WordD.cells l ∧ (l.getD []).length < 4611686018427387904 ∧ ∀ x ∈ l.getD [], PartsAt d x.parts
theorem words_same {d : Nat} {a b : PV} (ha : WordsAt d a) (hb : WordsAt d b) : ∃ r, (∀ s, pcall Tryz.prog Γ ext 48 [a, b, .fn 47 [] []] s = some (.sc (.bool r), s)) ∧ ∀ s, pcall Tryz.prog Γ ext 55 [a, b] s = some (.sc (.bool r), s) := by
  obtain ⟨l, rfl, hl, hl'⟩ := ha
  obtain ⟨m, rfl, hm, hm'⟩ := hb
  refine two_same WordD.len (by rfl) g48 g55 (by omega) (fun x hx => ?_) hl (fun x hx y hy => ?_)
  · have : PartsAt d x.parts := hx.elim (hl' x) (hm' x)
    simp only [WordD.cells, List.all_cons, List.all_nil, this.one, Bool.and_true]; rfl
  · obtain ⟨r, h1, h2⟩ := parts_same (ext := ext) d x.parts y.parts (hl' x hx) (hm' y hy)
    exact ⟨r, fun s => f47 x y r h1 s, in55 x y r h2⟩
end Go.Proofs.YtdkcfccepjimbaaGreatDoor

namespace Go.Proofs.YtdkcfccepjimbaaGreatDoor
open Go Go.EvL Go.PE
variable {ext : PCallF}
structure AssignD where
  pos : Int
  name : ByteArray
  vpos : Int
  parts : PV
def AssignD.cells (x : AssignD) : List PV := [.sc (.int .i64 x.pos), .sc (.string x.name), .sc (.int .i64 x.vpos), x.parts]
theorem AssignD.len (x : AssignD) : x.cells.length = 4 := (rfl)
def inner54 : PCode := (.seq (.draw [(⟨some 17, .mv (.tmp 0), none⟩, [0], []),
             (⟨some 18, .mv (.tmp 5), none⟩, [5], [0]),
             (⟨some 19, .iaddr 4 (.tmp 17) (.tmp 18), none⟩, [17, 18], []),
             (⟨some 20, .faddr 1 (.tmp 19), none⟩, [19], []),
             (⟨some 21, .load 9 false 1 (.tmp 20), none⟩, [20], []),
             (⟨some 22, .mv (.tmp 1), none⟩, [1], [4, 3, 2, 1, 0]),
             (⟨some 23, .mv (.tmp 5), none⟩, [5], [5, 4, 3, 2, 1, 0]),
             (⟨some 24, .iaddr 4 (.tmp 22) (.tmp 23), none⟩, [22, 23], [4, 3, 2, 1, 0]),
             (⟨some 25, .faddr 1 (.tmp 24), none⟩, [24], [4, 3, 2, 1, 0]),
             (⟨some 26, .load 9 false 1 (.tmp 25), none⟩, [25], [4, 3, 2, 1, 0]),
             (⟨some 27, .bin .neq 9 (.tmp 21) (.tmp 26), none⟩, [21, 26], []),
             (⟨some 28, .mv (.tmp 27), none⟩, [27], []),
             (⟨some 29, .mv (.tmp 0), (some (28, false))⟩, [0, 28], []),
             (⟨some 30, .mv (.tmp 5), (some (28, false))⟩, [5, 28], [12]),
             (⟨some 31, .iaddr 4 (.tmp 29) (.tmp 30), (some (28, false))⟩, [29, 30, 28], []),
             (⟨some 32, .faddr 2 (.tmp 31), (some (28, false))⟩, [31, 28], []),
             (⟨some 33, .faddr 1 (.tmp 32), (some (28, false))⟩, [32, 28], []),
             (⟨some 34, .load 54 false 1 (.tmp 33), (some (28, false))⟩, [33, 28], []),
             (⟨some 35, .mv (.tmp 1), (some (28, false))⟩, [1, 28], [17, 16, 15, 14, 13, 12]),
             (⟨some 36, .mv (.tmp 5), (some (28, false))⟩, [5, 28], [18, 17, 16, 15, 14, 13, 12]),
             (⟨some 37, .iaddr 4 (.tmp 35) (.tmp 36), (some (28, false))⟩, [35, 36, 28], [17, 16, 15, 14, 13, 12]),
             (⟨some 38, .faddr 2 (.tmp 37), (some (28, false))⟩, [37, 28], [17, 16, 15, 14, 13, 12]),
             (⟨some 39, .faddr 1 (.tmp 38), (some (28, false))⟩, [38, 28], [17, 16, 15, 14, 13, 12]),
             (⟨some 40, .load 54 false 1 (.tmp 39), (some (28, false))⟩, [39, 28], [17, 16, 15, 14, 13, 12]),
             (⟨some 41, .call (.func 87) [(.tmp 34), (.tmp 40)], (some (28, false))⟩, [34, 40, 28], []),
             (⟨some 42, .un .not (.tmp 41), (some (28, false))⟩, [41, 28], []),
             (⟨some 43, .pick (.tmp 28) (.const (.bool true)) (.tmp 42), none⟩, [28, 42], [])])
          (.cond (.tmp 43)
            (.seq (.reg [⟨some 4, .mv (.const (.bool false)), none⟩])
            .ret)
            (.skip)))
theorem g54 : Γ 54 = some (refF6 44 inner54) := (rfl)
theorem g45 : Γ 45 = some (eqF 58 4 #[(.int .i64 0), (.string ⟨#[]⟩), (.int .i64 0), (.slice none 0 0)] 3) := (rfl)
theorem f46 (x y : AssignD) (r : Bool) (h : ∀ s, pcall Tryz.prog Γ ext 86 [x.parts, y.parts] s = some (.sc (.bool r), s)) (s : PS) : pcall Tryz.prog Γ ext 46 [.agg x.cells, .agg y.cells] s = some (.sc (.bool (x.name.toList == y.name.toList && r)), s) := by
  have h47 := f47 (ext := ext) ⟨x.vpos, x.parts⟩ ⟨y.vpos, y.parts⟩ r h
  simp only [WordD.cells] at h47
  rw [pcall_u (fn := p46) (by rfl) _ _ (by simp [p46])]
  cases e1 : x.name.toList == y.name.toList with
  | false => simp -implicitDefEqProofs only [p46, pcode_seq, pcode_r, pcode_ret, pops_u, pops_g, pops_nil, runK_some, runG_false, actP, opP, initP, Nat.zero_add, Nat.reduceAdd, guardP, Option.map_some, Option.bind_some, pval_tmp, pval_const, set_at, Nat.reduceEqDiff, cellsP, ↓reduceIte, pvOf, seq_n, asBool_b, regE_some, new_h, new_n, new_w, ld_ptr, ofCells, List.length_cons, List.length_nil, Nat.left_eq_add, Nat.one_ne_zero, Nat.reduceLeDiff, Nat.zero_le, and_self, List.drop_succ_cons, List.drop_zero, List.take_succ_cons, List.take_zero, Nat.le_refl, bin_seql, b_tt, leaveP, resP, oneRes, frz, frz2, frz1, endK_r, Bool.false_eq_true, AssignD.cells, e1, Bool.false_and]
  | true => simp -implicitDefEqProofs only [p46, pcode_seq, pcode_r, pcode_ret, pops_u, pops_g, pops_nil, runK_some, runG_true, actP, opP, initP, Nat.zero_add, Nat.reduceAdd, guardP, Option.map_some, Option.bind_some, pval_tmp, pval_const, pval_func, set_at, Nat.reduceEqDiff, cellsP, ↓reduceIte, pvOf, seq_n, asBool_b, regE_some, new_h, new_n, new_w, ld_ptr, ofCells, List.length_cons, List.length_nil, Nat.left_eq_add, Nat.one_ne_zero, Nat.reduceLeDiff, Nat.zero_le, and_self, List.drop_succ_cons, List.drop_zero, List.take_succ_cons, List.take_zero, Nat.le_refl, bin_seql, beq_self_eq_true, callP, leaveP, resP, oneRes, frz, frz2, frz1, List.map_cons, List.map_nil, List.nil_append, List.append_nil, endK_r, Bool.false_eq_true, AssignD.cells, e1, h47, Bool.true_and]
theorem in54 (x y : AssignD) (r : Bool) (h : ∀ s, pcall Tryz.prog Γ ext 87 [x.parts, y.parts] s = some (.sc (.bool r), s)) : InnerOK Tryz.prog Γ ext 58 AssignD.cells inner54 x y (x.name.toList == y.name.toList && r) := by
  intro l m i hl hm f s hin
  obtain ⟨l, rfl⟩ : ∃ k, l = some k := by cases l with | none => simp at hl | some k => exact ⟨k, rfl⟩
  obtain ⟨m, rfl⟩ : ∃ k, m = some k := by cases m with | none => simp at hm | some k => exact ⟨k, rfl⟩
  obtain ⟨ha, hb, hii⟩ := hin
  simp only [slP, Option.getD_some] at ha hb hl hm
  have hi : i < l.length := (List.getElem?_eq_some_iff.1 hl).1
  have hj : i < m.length := (List.getElem?_eq_some_iff.1 hm).1
  have h1 := flat_len AssignD.len l
  have h2 := flat_len AssignD.len m
  obtain ⟨r1, h3⟩ := flat_at AssignD.len hl
  obtain ⟨r2, h4⟩ := flat_at AssignD.len hm
  cases e1 : x.name.toList == y.name.toList with
  | false =>
    simp -implicitDefEqProofs only [inner54, pcode_seq, pcode_r, pcode_ret, pcode_skip, pcode_cond, pcode_block, pops_u, pops_nil, runK_some, actP, opP, Nat.zero_add, Nat.reduceAdd, guardP, Option.map_some, Option.bind_some, pval_tmp, pval_const, pval_func, set_at, Nat.reduceEqDiff, ↓reduceIte, pvOf, seq_n, blk_r, cond_t, asBool_b, regE_some, ofCells, List.length_cons, Nat.one_ne_zero, Nat.reduceLeDiff, and_self, true_and, List.drop_succ_cons, List.drop_zero, List.take_succ_cons, List.take_zero, bin_sneq, Bool.not_true, Bool.not_false, b_ff, List.nil_append, List.cons_append, Bool.false_eq_true, reduceCtorEq, natP_cast, pcode_d, pdraw_nil, pdraw_u, pdraw_g, drK_some, drG_false, only_at, effO, effA, pureI, okAll_nil, okAll_cons, okPair_e, okPair_li, List.mem_cons, List.not_mem_nil, or_false, or_true, or_self, implies_true, false_implies, forall_const, ha, hb, hii, hi, hj, h1, h2, h3, h4, ld_litp, AssignD.cells, e1, Bool.false_and, pu87]
    exact ⟨_, _, rfl, by simp -implicitDefEqProofs only [set_at, ↓reduceIte], fun n0 w1 w2 => ⟨w1, w2⟩⟩
  | true =>
    cases r with
    | false =>
      simp -implicitDefEqProofs only [inner54, pcode_seq, pcode_r, pcode_ret, pcode_skip, pcode_cond, pcode_block, pops_u, pops_nil, runK_some, actP, opP, Nat.zero_add, Nat.reduceAdd, guardP, Option.map_some, Option.bind_some, pval_tmp, pval_const, pval_func, set_at, Nat.reduceEqDiff, ↓reduceIte, pvOf, seq_n, blk_r, cond_t, asBool_b, regE_some, ofCells, List.length_cons, Nat.one_ne_zero, Nat.reduceLeDiff, and_self, true_and, List.drop_succ_cons, List.drop_zero, List.take_succ_cons, List.take_zero, bin_sneq, un_not, beq_self_eq_true, Bool.not_true, Bool.not_false, callP, List.map_cons, List.map_nil, List.nil_append, List.append_nil, List.cons_append, Bool.false_eq_true, reduceCtorEq, natP_cast, pcode_d, pdraw_nil, pdraw_u, pdraw_g, drK_some, drG_true, only_at, effO, effA, pureI, okAll_nil, okAll_cons, okPair_e, okPair_li, List.mem_cons, List.not_mem_nil, or_false, or_true, or_self, implies_true, false_implies, forall_const, ha, hb, hii, hi, hj, h1, h2, h3, h4, ld_litp, AssignD.cells, e1, h, Bool.true_and, pu87]
      exact ⟨_, _, rfl, by simp -implicitDefEqProofs only [set_at, ↓reduceIte], fun n0 w1 w2 => ⟨w1, w2⟩⟩
    | true =>
      simp -implicitDefEqProofs only [inner54, pcode_seq, pcode_r, pcode_ret, pcode_skip, pcode_cond, pcode_block, pops_u, pops_nil, runK_some, actP, opP, Nat.zero_add, Nat.reduceAdd, guardP, Option.map_some, Option.bind_some, pval_tmp, pval_const, pval_func, set_at, Nat.reduceEqDiff, ↓reduceIte, pvOf, seq_n, blk_n, cond_f, asBool_b, regE_some, ofCells, List.length_cons, Nat.one_ne_zero, Nat.reduceLeDiff, and_self, true_and, List.drop_succ_cons, List.drop_zero, List.take_succ_cons, List.take_zero, bin_sneq, un_not, beq_self_eq_true, Bool.not_true, callP, List.map_cons, List.map_nil, List.nil_append, List.append_nil, List.cons_append, Bool.true_eq_false, Bool.false_eq_true, reduceCtorEq, natP_cast, pcode_d, pdraw_nil, pdraw_u, pdraw_g, drK_some, drG_true, only_at, effO, effA, pureI, okAll_nil, okAll_cons, okPair_e, okPair_li, List.mem_cons, List.not_mem_nil, or_false, or_true, or_self, implies_true, false_implies, forall_const, ha, hb, hii, hi, hj, h1, h2, h3, h4, ld_litp, AssignD.cells, e1, h, Bool.true_and, pu87]
      exact ⟨_, _, rfl, ⟨by simp -implicitDefEqProofs only [set_at, ↓reduceIte, reduceCtorEq, ha], by simp -implicitDefEqProofs only [set_at, Nat.reduceEqDiff, ↓reduceIte, hb], by simp -implicitDefEqProofs only [set_at, Nat.reduceEqDiff, ↓reduceIte, hii]⟩, fun n0 w1 w2 => ⟨w1, w2⟩⟩
def AssignsAt (d : Nat) (p : PV) : Prop := ∃ l : Option (List AssignD), p = slP 58 AssignD.cells l ∧ (l.getD []).length < 4611686018427387904 ∧ ∀ x ∈ l.getD [], PartsAt d x.parts
theorem assigns_same {d : Nat} {a b : PV} (ha : AssignsAt d a) (hb : AssignsAt d b) : ∃ r, (∀ s, pcall Tryz.prog Γ ext 45 [a, b, .fn 46 [] []] s = some (.sc (.bool r), s)) ∧ ∀ s, pcall Tryz.prog Γ ext 54 [a, b] s = some (.sc (.bool r), s) := by
  obtain ⟨l, rfl, hl, hl'⟩ := ha
  obtain ⟨m, rfl, hm, hm'⟩ := hb
  refine two_same AssignD.len (by rfl) g45 g54 (by omega) (fun x hx => ?_) hl (fun x hx y hy => ?_)
  · have : PartsAt d x.parts := hx.elim (hl' x) (hm' x)
    simp only [AssignD.cells, List.all_cons, List.all_nil, this.one, Bool.and_true]; rfl
  · obtain ⟨r, h1, h2⟩ := parts_same (ext := ext) d x.parts y.parts (hl' x hx) (hm' y hy)
    exact ⟨_, fun s => f46 x y r h1 s, in54 x y r h2⟩
end Go.Proofs.YtdkcfccepjimbaaGreatDoor

namespace Go.Proofs.YtdkcfccepjimbaaGreatDoor
open Go Go.EvL Go.PE
variable {ext : PCallF}
structure RedirD where
  pos : Int
  fd : Int
  op : Int
  tpos : Int
  parts : PV
def RedirD.cells (x : RedirD) : List PV := [.sc (.int .i64 x.pos), .sc (.int .i64 x.fd), .sc (.int .i64 x.op), .sc (.int .i64 x.tpos), x.parts]
theorem RedirD.len (x : RedirD) : x.cells.length = 5 := (rfl)
def RedirD.eqB (x y : RedirD) (r : Bool) : Bool := x.fd == y.fd && (x.op == y.op && r)
def inner56 : PCode := (.seq (.draw [(⟨some 17, .mv (.tmp 0), none⟩, [0], []),
             (⟨some 18, .mv (.tmp 5), none⟩, [5], [0]),
             (⟨some 19, .iaddr 5 (.tmp 17) (.tmp 18), none⟩, [17, 18], []),
             (⟨some 20, .faddr 1 (.tmp 19), none⟩, [19], []),
             (⟨some 21, .load 3 false 1 (.tmp 20), none⟩, [20], []),
             (⟨some 22, .mv (.tmp 1), none⟩, [1], [4, 3, 2, 1, 0]),
             (⟨some 23, .mv (.tmp 5), none⟩, [5], [5, 4, 3, 2, 1, 0]),
             (⟨some 24, .iaddr 5 (.tmp 22) (.tmp 23), none⟩, [22, 23], [4, 3, 2, 1, 0]),
             (⟨some 25, .faddr 1 (.tmp 24), none⟩, [24], [4, 3, 2, 1, 0]),
             (⟨some 26, .load 3 false 1 (.tmp 25), none⟩, [25], [4, 3, 2, 1, 0]),
             (⟨some 27, .bin .neq 3 (.tmp 21) (.tmp 26), none⟩, [21, 26], []),
             (⟨some 28, .mv (.tmp 27), none⟩, [27], []),
             (⟨some 29, .mv (.tmp 0), (some (28, false))⟩, [0, 28], []),
             (⟨some 30, .mv (.tmp 5), (some (28, false))⟩, [5, 28], [12]),
             (⟨some 31, .iaddr 5 (.tmp 29) (.tmp 30), (some (28, false))⟩, [29, 30, 28], []),
             (⟨some 32, .faddr 2 (.tmp 31), (some (28, false))⟩, [31, 28], []),
             (⟨some 33, .load 3 false 1 (.tmp 32), (some (28, false))⟩, [32, 28], []),
             (⟨some 34, .mv (.tmp 1), (some (28, false))⟩, [1, 28], [16, 15, 14, 13, 12]),
             (⟨some 35, .mv (.tmp 5), (some (28, false))⟩, [5, 28], [17, 16, 15, 14, 13, 12]),
             (⟨some 36, .iaddr 5 (.tmp 34) (.tmp 35), (some (28, false))⟩, [34, 35, 28], [16, 15, 14, 13, 12]),
             (⟨some 37, .faddr 2 (.tmp 36), (some (28, false))⟩, [36, 28], [16, 15, 14, 13, 12]),
             (⟨some 38, .load 3 false 1 (.tmp 37), (some (28, false))⟩, [37, 28], [16, 15, 14, 13, 12]),
             (⟨some 39, .bin .neq 3 (.tmp 33) (.tmp 38), (some (28, false))⟩, [33, 38, 28], []),
             (⟨some 40, .pick (.tmp 28) (.const (.bool true)) (.tmp 39), none⟩, [28, 39], []),
             (⟨some 41, .mv (.tmp 40), none⟩, [40], []),
             (⟨some 42, .mv (.tmp 0), (some (41, false))⟩, [0, 41], []),
             (⟨some 43, .mv (.tmp 5), (some (41, false))⟩, [5, 41], [25]),
             (⟨some 44, .iaddr 5 (.tmp 42) (.tmp 43), (some (41, false))⟩, [42, 43, 41], []),
             (⟨some 45, .faddr 3 (.tmp 44), (some (41, false))⟩, [44, 41], []),
             (⟨some 46, .faddr 1 (.tmp 45), (some (41, false))⟩, [45, 41], []),
             (⟨some 47, .load 54 false 1 (.tmp 46), (some (41, false))⟩, [46, 41], []),
             (⟨some 48, .mv (.tmp 1), (some (41, false))⟩, [1, 41], [30, 29, 28, 27, 26, 25]),
             (⟨some 49, .mv (.tmp 5), (some (41, false))⟩, [5, 41], [31, 30, 29, 28, 27, 26, 25]),
             (⟨some 50, .iaddr 5 (.tmp 48) (.tmp 49), (some (41, false))⟩, [48, 49, 41], [30, 29, 28, 27, 26, 25]),
             (⟨some 51, .faddr 3 (.tmp 50), (some (41, false))⟩, [50, 41], [30, 29, 28, 27, 26, 25]),
             (⟨some 52, .faddr 1 (.tmp 51), (some (41, false))⟩, [51, 41], [30, 29, 28, 27, 26, 25]),
             (⟨some 53, .load 54 false 1 (.tmp 52), (some (41, false))⟩, [52, 41], [30, 29, 28, 27, 26, 25]),
             (⟨some 54, .call (.func 87) [(.tmp 47), (.tmp 53)], (some (41, false))⟩, [47, 53, 41], []),
             (⟨some 55, .un .not (.tmp 54), (some (41, false))⟩, [54, 41], []),
             (⟨some 56, .pick (.tmp 41) (.const (.bool true)) (.tmp 55), none⟩, [41, 55], [])])
          (.cond (.tmp 56)
            (.seq (.reg [⟨some 4, .mv (.const (.bool false)), none⟩])
            .ret)
            (.skip)))
theorem g56 : Γ 56 = some (refF6 57 inner56) := (rfl)
theorem g49 : Γ 49 = some (eqF 70 5 #[(.int .i64 0), (.int .i64 0), (.int .i64 0), (.int .i64 0), (.slice none 0 0)] 3) := (rfl)
theorem f50 (x y : RedirD) (r : Bool) (h : ∀ s, pcall Tryz.prog Γ ext 86 [x.parts, y.parts] s = some (.sc (.bool r), s)) (s : PS) : pcall Tryz.prog Γ ext 50 [.agg x.cells, .agg y.cells] s = some (.sc (.bool (x.eqB y r)), s) := by
  have h47 := f47 (ext := ext) ⟨x.tpos, x.parts⟩ ⟨y.tpos, y.parts⟩ r h
  simp only [WordD.cells] at h47
  rw [pcall_u (fn := p50) (by rfl) _ _ (by simp [p50])]
  cases e1 : x.fd == y.fd with
  | false => simp -implicitDefEqProofs only [p50, pcode_seq, pcode_r, pcode_ret, pops_u, pops_g, pops_nil, runK_some, runG_false, actP, opP, initP, Nat.zero_add, Nat.reduceAdd, guardP, Option.map_some, Option.bind_some, pval_tmp, pval_const, set_at, Nat.reduceEqDiff, cellsP, ↓reduceIte, pvOf, seq_n, asBool_b, regE_some, new_h, new_n, new_w, ld_ptr, ofCells, List.length_cons, List.length_nil, Nat.left_eq_add, Nat.one_ne_zero, Nat.reduceLeDiff, Nat.zero_le, and_self, List.drop_succ_cons, List.drop_zero, List.take_succ_cons, List.take_zero, Nat.le_refl, bin_eql, b_tt, leaveP, resP, oneRes, frz, frz2, frz1, endK_r, Bool.false_eq_true, RedirD.cells, RedirD.eqB, e1, Bool.false_and]
  | true =>
    cases e2 : x.op == y.op with
    | false => simp -implicitDefEqProofs only [p50, pcode_seq, pcode_r, pcode_ret, pops_u, pops_g, pops_nil, runK_some, runG_true, runG_false, actP, opP, initP, Nat.zero_add, Nat.reduceAdd, guardP, Option.map_some, Option.bind_some, pval_tmp, pval_const, set_at, Nat.reduceEqDiff, cellsP, ↓reduceIte, pvOf, seq_n, asBool_b, regE_some, new_h, new_n, new_w, ld_ptr, ofCells, List.length_cons, List.length_nil, Nat.left_eq_add, Nat.one_ne_zero, Nat.reduceLeDiff, Nat.zero_le, and_self, List.drop_succ_cons, List.drop_zero, List.take_succ_cons, List.take_zero, Nat.le_refl, bin_eql, beq_self_eq_true, b_tt, leaveP, resP, oneRes, frz, frz2, frz1, endK_r, Bool.false_eq_true, RedirD.cells, RedirD.eqB, e1, e2, Bool.false_and, Bool.true_and]
    | true => simp -implicitDefEqProofs only [p50, pcode_seq, pcode_r, pcode_ret, pops_u, pops_g, pops_nil, runK_some, runG_true, actP, opP, initP, Nat.zero_add, Nat.reduceAdd, guardP, Option.map_some, Option.bind_some, pval_tmp, pval_const, pval_func, set_at, Nat.reduceEqDiff, cellsP, ↓reduceIte, pvOf, seq_n, asBool_b, regE_some, new_h, new_n, new_w, ld_ptr, ofCells, List.length_cons, List.length_nil, Nat.left_eq_add, Nat.one_ne_zero, Nat.reduceLeDiff, Nat.zero_le, and_self, List.drop_succ_cons, List.drop_zero, List.take_succ_cons, List.take_zero, Nat.le_refl, bin_eql, beq_self_eq_true, callP, leaveP, resP, oneRes, frz, frz2, frz1, List.map_cons, List.map_nil, List.nil_append, List.append_nil, endK_r, Bool.false_eq_true, RedirD.cells, RedirD.eqB, e1, e2, h47, Bool.true_and]
theorem in56 (x y : RedirD) (r : Bool) (h : ∀ s, pcall Tryz.prog Γ ext 87 [x.parts, y.parts] s = some (.sc (.bool r), s)) : InnerOK Tryz.prog Γ ext 70 RedirD.cells inner56 x y (x.eqB y r) := by
  intro l m i hl hm f s hin
  obtain ⟨l, rfl⟩ : ∃ k, l = some k := by cases l with | none => simp at hl | some k => exact ⟨k, rfl⟩
  obtain ⟨m, rfl⟩ : ∃ k, m = some k := by cases m with | none => simp at hm | some k => exact ⟨k, rfl⟩
  obtain ⟨ha, hb, hii⟩ := hin
  simp only [slP, Option.getD_some] at ha hb hl hm
  have hi : i < l.length := (List.getElem?_eq_some_iff.1 hl).1
  have hj : i < m.length := (List.getElem?_eq_some_iff.1 hm).1
  have h1 := flat_len RedirD.len l
  have h2 := flat_len RedirD.len m
  obtain ⟨r1, h3⟩ := flat_at RedirD.len hl
  obtain ⟨r2, h4⟩ := flat_at RedirD.len hm
  have c1 : (bne x.fd y.fd) = !(x.fd == y.fd) := (rfl)
  have c2 : (bne x.op y.op) = !(x.op == y.op) := (rfl)
  unfold RedirD.eqB
  cases e1 : x.fd == y.fd with
  | false =>
    simp -implicitDefEqProofs only [inner56, pcode_seq, pcode_r, pcode_ret, pcode_skip, pcode_cond, pcode_block, pops_u, pops_nil, runK_some, actP, opP, Nat.zero_add, Nat.reduceAdd, guardP, Option.map_some, Option.bind_some, pval_tmp, pval_const, pval_func, set_at, Nat.reduceEqDiff, ↓reduceIte, pvOf, seq_n, blk_r, cond_t, asBool_b, regE_some, ofCells, List.length_cons, Nat.one_ne_zero, Nat.reduceLeDiff, and_self, true_and, List.drop_succ_cons, List.drop_zero, List.take_succ_cons, List.take_zero, bin_neq, Bool.not_true, Bool.not_false, b_ff, List.nil_append, List.cons_append, Bool.false_eq_true, reduceCtorEq, natP_cast, pcode_d, pdraw_nil, pdraw_u, pdraw_g, drK_some, drG_false, only_at, effO, effA, pureI, okAll_nil, okAll_cons, okPair_e, okPair_li, List.mem_cons, List.not_mem_nil, or_false, or_true, or_self, implies_true, false_implies, forall_const, ha, hb, hii, hi, hj, h1, h2, h3, h4, ld_litp, RedirD.cells, pu87, c1, e1, Bool.false_and]
    exact ⟨_, _, rfl, by simp -implicitDefEqProofs only [set_at, ↓reduceIte], fun n0 w1 w2 => ⟨w1, w2⟩⟩
  | true =>
    cases e2 : x.op == y.op with
    | false =>
      simp -implicitDefEqProofs only [inner56, pcode_seq, pcode_r, pcode_ret, pcode_skip, pcode_cond, pcode_block, pops_u, pops_nil, runK_some, actP, opP, Nat.zero_add, Nat.reduceAdd, guardP, Option.map_some, Option.bind_some, pval_tmp, pval_const, pval_func, set_at, Nat.reduceEqDiff, ↓reduceIte, pvOf, seq_n, blk_r, cond_t, asBool_b, regE_some, ofCells, List.length_cons, Nat.one_ne_zero, Nat.reduceLeDiff, and_self, true_and, List.drop_succ_cons, List.drop_zero, List.take_succ_cons, List.take_zero, bin_neq, beq_self_eq_true, Bool.not_true, Bool.not_false, b_ff, List.nil_append, List.cons_append, Bool.false_eq_true, reduceCtorEq, natP_cast, pcode_d, pdraw_nil, pdraw_u, pdraw_g, drK_some, drG_true, drG_false, only_at, effO, effA, pureI, okAll_nil, okAll_cons, okPair_e, okPair_li, List.mem_cons, List.not_mem_nil, or_false, or_true, or_self, implies_true, false_implies, forall_const, ha, hb, hii, hi, hj, h1, h2, h3, h4, ld_litp, RedirD.cells, pu87, c1, c2, e1, e2, Bool.false_and, Bool.true_and]
      exact ⟨_, _, rfl, by simp -implicitDefEqProofs only [set_at, ↓reduceIte], fun n0 w1 w2 => ⟨w1, w2⟩⟩
    | true =>
      cases r with
      | false =>
        simp -implicitDefEqProofs only [inner56, pcode_seq, pcode_r, pcode_ret, pcode_skip, pcode_cond, pcode_block, pops_u, pops_nil, runK_some, actP, opP, Nat.zero_add, Nat.reduceAdd, guardP, Option.map_some, Option.bind_some, pval_tmp, pval_const, pval_func, set_at, Nat.reduceEqDiff, ↓reduceIte, pvOf, seq_n, blk_r, cond_t, asBool_b, regE_some, ofCells, List.length_cons, Nat.one_ne_zero, Nat.reduceLeDiff, and_self, true_and, List.drop_succ_cons, List.drop_zero, List.take_succ_cons, List.take_zero, bin_neq, un_not, beq_self_eq_true, Bool.not_true, Bool.not_false, callP, List.map_cons, List.map_nil, List.nil_append, List.append_nil, List.cons_append, Bool.false_eq_true, reduceCtorEq, natP_cast, pcode_d, pdraw_nil, pdraw_u, pdraw_g, drK_some, drG_true, only_at, effO, effA, pureI, okAll_nil, okAll_cons, okPair_e, okPair_li, List.mem_cons, List.not_mem_nil, or_false, or_true, or_self, implies_true, false_implies, forall_const, ha, hb, hii, hi, hj, h1, h2, h3, h4, ld_litp, RedirD.cells, pu87, c1, c2, e1, e2, h, Bool.true_and]
        exact ⟨_, _, rfl, by simp -implicitDefEqProofs only [set_at, ↓reduceIte], fun n0 w1 w2 => ⟨w1, w2⟩⟩
      | true =>
        simp -implicitDefEqProofs only [inner56, pcode_seq, pcode_r, pcode_ret, pcode_skip, pcode_cond, pcode_block, pops_u, pops_nil, runK_some, actP, opP, Nat.zero_add, Nat.reduceAdd, guardP, Option.map_some, Option.bind_some, pval_tmp, pval_const, pval_func, set_at, Nat.reduceEqDiff, ↓reduceIte, pvOf, seq_n, blk_n, cond_f, asBool_b, regE_some, ofCells, List.length_cons, Nat.one_ne_zero, Nat.reduceLeDiff, and_self, true_and, List.drop_succ_cons, List.drop_zero, List.take_succ_cons, List.take_zero, bin_neq, un_not, beq_self_eq_true, Bool.not_true, callP, List.map_cons, List.map_nil, List.nil_append, List.append_nil, List.cons_append, Bool.true_eq_false, Bool.false_eq_true, reduceCtorEq, natP_cast, pcode_d, pdraw_nil, pdraw_u, pdraw_g, drK_some, drG_true, only_at, effO, effA, pureI, okAll_nil, okAll_cons, okPair_e, okPair_li, List.mem_cons, List.not_mem_nil, or_false, or_true, or_self, implies_true, false_implies, forall_const, ha, hb, hii, hi, hj, h1, h2, h3, h4, ld_litp, RedirD.cells, pu87, c1, c2, e1, e2, h, Bool.true_and]
        exact ⟨_, _, rfl, ⟨by simp -implicitDefEqProofs only [set_at, ↓reduceIte, reduceCtorEq, ha], by simp -implicitDefEqProofs only [set_at, Nat.reduceEqDiff, ↓reduceIte, hb], by simp -implicitDefEqProofs only [set_at, Nat.reduceEqDiff, ↓reduceIte, hii]⟩, fun n0 w1 w2 => ⟨w1, w2⟩⟩
def RedirsAt (d : Nat) (p : PV) : Prop := ∃ l : Option (List RedirD), p = slP 70 RedirD.cells l ∧ (l.getD []).length < 4611686018427387904 ∧ ∀ x ∈ l.getD [], PartsAt d x.parts
theorem redirs_same {d : Nat} {a b : PV} (ha : RedirsAt d a) (hb : RedirsAt d b) : ∃ r, (∀ s, pcall Tryz.prog Γ ext 49 [a, b, .fn 50 [] []] s = some (.sc (.bool r), s)) ∧ ∀ s, pcall Tryz.prog Γ ext 56 [a, b] s = some (.sc (.bool r), s) := by
  obtain ⟨l, rfl, hl, hl'⟩ := ha
  obtain ⟨m, rfl, hm, hm'⟩ := hb
  refine two_same RedirD.len (by rfl) g49 g56 (by omega) (fun x hx => ?_) hl (fun x hx y hy => ?_)
  · have : PartsAt d x.parts := hx.elim (hl' x) (hm' x)
    simp only [RedirD.cells, List.all_cons, List.all_nil, this.one, Bool.and_true]; rfl
  · obtain ⟨r, h1, h2⟩ := parts_same (ext := ext) d x.parts y.parts (hl' x hx) (hm' y hy)
    exact ⟨_, fun s => f50 x y r h1 s, in56 x y r h2⟩
end Go.Proofs.YtdkcfccepjimbaaGreatDoor
