/- What functions of the program and of the reference compute, on values. No statement is proved here. -/
import Derived.Test.YtflfflfodghgpaaGreatDoorPeC
import Derived.Test.YtflfflfodghgpaaGreatDoorTxB
import Derived.Test.YtflfflfodghgpaaGreatDoorPeD
import Derived.Laws.Strings
set_option linter.unusedSimpArgs false
set_option linter.unusedVariables false
namespace Go.Proofs.YtflfflfodghgpaaGreatDoor
open Go Go.EvL Go.PE
variable {ext : PCallF}
structure PartD where
  kind : Int
  text : ByteArray
  op : Int
  colon : Bool
  parts : PV
def PartD.cells (x : PartD) : List PV := [.sc (.int .i64 x.kind), .sc (.string x.text), .sc (.int .i64 x.op), .sc (.bool x.colon), x.parts]
theorem PartD.len (x : PartD) : x.cells.length = 5 := (rfl)
def PartD.eqB (x y : PartD) : Bool := x.kind == y.kind && (x.text.toList == y.text.toList && (x.op == y.op && x.colon == y.colon))
def inner87 : PCode := (.seq (.draw [(⟨some 19, .mv (.tmp 0), none⟩, [0], []),
             (⟨some 20, .mv (.tmp 5), none⟩, [5], [0]),
             (⟨some 21, .iaddr 5 (.tmp 19) (.tmp 20), none⟩, [19, 20], []),
             (⟨some 22, .load 90 true 5 (.tmp 21), none⟩, [21], []),
             (⟨some 23, .mv (.tmp 1), none⟩, [1], [3, 2, 1, 0]),
             (⟨some 24, .mv (.tmp 5), none⟩, [5], [4, 3, 2, 1, 0]),
             (⟨some 25, .iaddr 5 (.tmp 23) (.tmp 24), none⟩, [23, 24], [3, 2, 1, 0]),
             (⟨some 26, .load 90 true 5 (.tmp 25), none⟩, [25], [3, 2, 1, 0]),
             (⟨some 6, .alloc 90 (.agg #[(.int .i64 0), (.string ⟨#[]⟩), (.int .i64 0), (.bool false), (.slice none 0 0)]), none⟩, [], [7, 6, 5, 4, 3, 2, 1, 0]),
             (⟨some 7, .alloc 90 (.agg #[(.int .i64 0), (.string ⟨#[]⟩), (.int .i64 0), (.bool false), (.slice none 0 0)]), none⟩, [], [8, 7, 6, 5, 4, 3, 2, 1, 0]),
             (⟨none, .store 90 5 (.tmp 6) (.tmp 22), none⟩, [6, 22], [7, 6, 5, 4]),
             (⟨none, .store 90 5 (.tmp 7) (.tmp 26), none⟩, [7, 26], [])])
          (.seq (.reg [⟨some 27, .faddr 0 (.tmp 6), none⟩,
             ⟨some 28, .load 3 false 1 (.tmp 27), none⟩,
             ⟨some 29, .faddr 0 (.tmp 7), none⟩,
             ⟨some 30, .load 3 false 1 (.tmp 29), none⟩,
             ⟨some 31, .bin .neq 3 (.tmp 28) (.tmp 30), none⟩,
             ⟨some 32, .mv (.tmp 31), none⟩,
             ⟨some 33, .faddr 1 (.tmp 6), (some (32, false))⟩,
             ⟨some 34, .load 9 false 1 (.tmp 33), (some (32, false))⟩,
             ⟨some 35, .faddr 1 (.tmp 7), (some (32, false))⟩,
             ⟨some 36, .load 9 false 1 (.tmp 35), (some (32, false))⟩,
             ⟨some 37, .bin .neq 9 (.tmp 34) (.tmp 36), (some (32, false))⟩,
             ⟨some 38, .pick (.tmp 32) (.const (.bool true)) (.tmp 37), none⟩,
             ⟨some 39, .mv (.tmp 38), none⟩,
             ⟨some 40, .faddr 2 (.tmp 6), (some (39, false))⟩,
             ⟨some 41, .load 3 false 1 (.tmp 40), (some (39, false))⟩,
             ⟨some 42, .faddr 2 (.tmp 7), (some (39, false))⟩,
             ⟨some 43, .load 3 false 1 (.tmp 42), (some (39, false))⟩,
             ⟨some 44, .bin .neq 3 (.tmp 41) (.tmp 43), (some (39, false))⟩,
             ⟨some 45, .pick (.tmp 39) (.const (.bool true)) (.tmp 44), none⟩,
             ⟨some 46, .mv (.tmp 45), none⟩,
             ⟨some 47, .faddr 3 (.tmp 6), (some (46, false))⟩,
             ⟨some 48, .load 4 false 1 (.tmp 47), (some (46, false))⟩,
             ⟨some 49, .faddr 3 (.tmp 7), (some (46, false))⟩,
             ⟨some 50, .load 4 false 1 (.tmp 49), (some (46, false))⟩,
             ⟨some 51, .bin .neq 4 (.tmp 48) (.tmp 50), (some (46, false))⟩,
             ⟨some 52, .pick (.tmp 46) (.const (.bool true)) (.tmp 51), none⟩,
             ⟨some 53, .mv (.tmp 52), none⟩,
             ⟨some 54, .faddr 4 (.tmp 6), (some (53, false))⟩,
             ⟨some 55, .load 80 false 1 (.tmp 54), (some (53, false))⟩,
             ⟨some 56, .faddr 4 (.tmp 7), (some (53, false))⟩,
             ⟨some 57, .load 80 false 1 (.tmp 56), (some (53, false))⟩,
             ⟨some 58, .call (.func 185) [(.tmp 55), (.tmp 57)], (some (53, false))⟩,
             ⟨some 59, .un .not (.tmp 58), (some (53, false))⟩,
             ⟨some 60, .pick (.tmp 53) (.const (.bool true)) (.tmp 59), none⟩])
          (.cond (.tmp 60)
            (.seq (.reg [⟨some 4, .mv (.const (.bool false)), none⟩])
            .ret)
            (.skip))))
theorem is87 : p185 = refF8 61 inner87 := rfl
theorem pu87 : puOf Γ 185 = true := (rfl)
theorem in87 (x y : PartD) (hx : oneP x.parts = true) (hy : oneP y.parts = true) (r : Bool) (h : ∀ s, pcall Tryz.prog Γ ext 185 [x.parts, y.parts] s = some (.sc (.bool r), s)) {l m : Option (List PartD)} {i : Nat} (hl : (l.getD [])[i]? = some x) (hm : (m.getD [])[i]? = some y) (f : PFr) (s : PS) (hin : RefIn 90 PartD.cells l m i f) :
    ∃ f' s', pcode Tryz.prog Γ ext (.block 1 inner87) f s = some (if (x.eqB y && r) then (.normal, f', s') else (.ret, f', s')) ∧ ((x.eqB y && r) = true → f' 0 = f 0 ∧ f' 1 = f 1 ∧ f' 5 = f 5) ∧ ((x.eqB y && r) = false → f' 4 = .sc (.bool false)) ∧ (∀ n0, n0 ≤ s.n → n0 ≤ s.w → n0 ≤ s'.n ∧ n0 ≤ s'.w) := by
  obtain ⟨l, rfl⟩ : ∃ k, l = some k := by cases l with | none => simp at hl | some k => exact ⟨k, rfl⟩
  obtain ⟨m, rfl⟩ : ∃ k, m = some k := by cases m with | none => simp at hm | some k => exact ⟨k, rfl⟩
  obtain ⟨ha, hb, hii⟩ := hin
  simp only [slP, Option.getD_some] at ha hb hl hm
  have hi : i < l.length := (List.getElem?_eq_some_iff.1 hl).1
  have hj : i < m.length := (List.getElem?_eq_some_iff.1 hm).1
  have h1 := flat_len PartD.len l
  have h2 := flat_len PartD.len m
  have h3 := ld_sl PartD.len hl
  have h4 := ld_sl PartD.len hm
  have ox : x.cells.all oneP = true := by simp only [PartD.cells, List.all_cons, List.all_nil, hx, Bool.and_true]; rfl
  have oy : y.cells.all oneP = true := by simp only [PartD.cells, List.all_cons, List.all_nil, hy, Bool.and_true]; rfl
  have lx : x.cells.length = 5 := x.len
  have ly : y.cells.length = 5 := y.len
  have c1 : (bne x.kind y.kind) = !(x.kind == y.kind) := (rfl)
  have c2 : (bne x.op y.op) = !(x.op == y.op) := (rfl)
  have fin : ∀ (n0 : Nat), n0 ≤ s.n → n0 ≤ s.w → n0 ≤ s.n + 1 + 1 ∧ n0 ≤ min (min s.w s.n) (s.n + 1) := fun n0 w1 w2 => ⟨by omega, by omega⟩
  simp -implicitDefEqProofs only [inner87, pcode_seq, pcode_r, pcode_block, pops_u, runK_some, actP, opP, Nat.zero_add, Nat.add_zero, Nat.reduceAdd, Option.map_some, Option.bind_some, pval_tmp, set_at, Nat.reduceEqDiff, cellsP, ↓reduceIte, pvOf, seq_n, regE_some, new_h, new_n, put_h, put_n, ld_ptr, ofCells, List.length_cons, List.length_nil, Nat.left_eq_add, Nat.add_eq_left, Nat.one_ne_zero, Nat.reduceLeDiff, and_self, List.drop_zero, Nat.le_refl, Nat.le_add_right, List.map_cons, List.map_nil, Bool.false_eq_true, reduceCtorEq, st_all, natP_cast, pcode_d, pdraw_nil, pdraw_u, drK_some, drK_none, only_at, effO, effA, pureI, okAll_nil, okAll_cons, okPair_e, okPair_st, okPair_li, List.mem_cons, List.not_mem_nil, or_false, or_true, or_self, implies_true, false_implies, Nat.le_add_right, ha, hb, hii, hi, hj, h1, h2, h3, h4, ox, oy, lx, ly]
  simp -implicitDefEqProofs only [PartD.cells] at h ⊢
  cases e1 : x.kind == y.kind with
  | false =>
    simp -implicitDefEqProofs only [pcode_seq, pcode_r, pcode_ret, pcode_skip, pcode_cond, pops_u, pops_g, pops_nil, runK_some, runG_false, actP, opP, Nat.zero_add, Nat.add_zero, Nat.reduceAdd, guardP, Option.map_some, Option.bind_some, pval_tmp, pval_const, set_at, Nat.reduceEqDiff, ↓reduceIte, pvOf, seq_n, blk_r, cond_t, asBool_b, regE_some, put_h, ld_ptr, ofCells, List.length_cons, List.length_nil, Nat.reduceLeDiff, and_self, List.drop_zero, List.take_succ_cons, List.take_zero, Nat.le_refl, bin_neq, Bool.not_true, Bool.not_false, b_ff, Bool.false_eq_true, PartD.eqB, e1, Bool.false_and, c1]
    exact ⟨_, _, rfl, fun hh => (by cases hh), fun _ => by simp -implicitDefEqProofs only [set_at, ↓reduceIte], fin⟩
  | true =>
    cases e2 : x.text.toList == y.text.toList with
    | false =>
      simp -implicitDefEqProofs only [pcode_seq, pcode_r, pcode_ret, pcode_skip, pcode_cond, pops_u, pops_g, pops_nil, runK_some, runG_true, runG_false, actP, opP, Nat.zero_add, Nat.add_zero, Nat.reduceAdd, guardP, Option.map_some, Option.bind_some, pval_tmp, pval_const, set_at, Nat.reduceEqDiff, ↓reduceIte, pvOf, seq_n, blk_r, cond_t, asBool_b, regE_some, put_h, ld_ptr, ofCells, List.length_cons, List.length_nil, Nat.left_eq_add, Nat.one_ne_zero, Nat.reduceLeDiff, and_self, List.drop_succ_cons, List.drop_zero, List.take_succ_cons, List.take_zero, Nat.le_refl, bin_neq, bin_sneq, beq_self_eq_true, Bool.not_true, Bool.not_false, b_ff, Bool.false_eq_true, PartD.eqB, e1, e2, Bool.false_and, Bool.true_and, c1]
      exact ⟨_, _, rfl, fun hh => (by cases hh), fun _ => by simp -implicitDefEqProofs only [set_at, ↓reduceIte], fin⟩
    | true =>
      cases e3 : x.op == y.op with
      | false =>
        simp -implicitDefEqProofs only [pcode_seq, pcode_r, pcode_ret, pcode_skip, pcode_cond, pops_u, pops_g, pops_nil, runK_some, runG_true, runG_false, actP, opP, Nat.zero_add, Nat.add_zero, Nat.reduceAdd, guardP, Option.map_some, Option.bind_some, pval_tmp, pval_const, set_at, Nat.reduceEqDiff, ↓reduceIte, pvOf, seq_n, blk_r, cond_t, asBool_b, regE_some, put_h, ld_ptr, ofCells, List.length_cons, List.length_nil, Nat.left_eq_add, Nat.one_ne_zero, Nat.reduceLeDiff, and_self, List.drop_succ_cons, List.drop_zero, List.take_succ_cons, List.take_zero, Nat.le_refl, bin_neq, bin_sneq, beq_self_eq_true, Bool.not_true, Bool.not_false, b_ff, Bool.false_eq_true, PartD.eqB, e1, e2, e3, Bool.false_and, Bool.true_and, c1, c2]
        exact ⟨_, _, rfl, fun hh => (by cases hh), fun _ => by simp -implicitDefEqProofs only [set_at, ↓reduceIte], fin⟩
      | true =>
        cases e4 : x.colon == y.colon with
        | false =>
          simp -implicitDefEqProofs only [pcode_seq, pcode_r, pcode_ret, pcode_skip, pcode_cond, pops_u, pops_g, pops_nil, runK_some, runG_true, runG_false, actP, opP, Nat.zero_add, Nat.add_zero, Nat.reduceAdd, guardP, Option.map_some, Option.bind_some, pval_tmp, pval_const, set_at, Nat.reduceEqDiff, ↓reduceIte, pvOf, seq_n, blk_r, cond_t, asBool_b, regE_some, put_h, ld_ptr, ofCells, List.length_cons, List.length_nil, Nat.left_eq_add, Nat.one_ne_zero, Nat.reduceLeDiff, and_self, List.drop_succ_cons, List.drop_zero, List.take_succ_cons, List.take_zero, Nat.le_refl, bin_neq, bin_sneq, beq_self_eq_true, Bool.not_true, Bool.not_false, b_ff, Bool.false_eq_true, PartD.eqB, e1, e2, e3, e4, Bool.false_and, Bool.true_and, c1, c2, bin_bneq Tryz.underlying4]
          exact ⟨_, _, rfl, fun hh => (by cases hh), fun _ => by simp -implicitDefEqProofs only [set_at, ↓reduceIte], fin⟩
        | true =>
          cases r with
          | false =>
            simp -implicitDefEqProofs only [pcode_seq, pcode_r, pcode_ret, pcode_skip, pcode_cond, pops_u, pops_g, pops_nil, runK_some, runG_true, actP, opP, Nat.zero_add, Nat.add_zero, Nat.reduceAdd, guardP, Option.map_some, Option.bind_some, pval_tmp, pval_const, pval_func, set_at, Nat.reduceEqDiff, ↓reduceIte, pvOf, seq_n, blk_r, cond_t, asBool_b, regE_some, put_h, ld_ptr, ofCells, List.length_cons, List.length_nil, Nat.left_eq_add, Nat.one_ne_zero, Nat.reduceLeDiff, and_self, List.drop_succ_cons, List.drop_zero, List.take_succ_cons, List.take_zero, Nat.le_refl, bin_neq, bin_sneq, un_not, beq_self_eq_true, Bool.not_true, Bool.not_false, callP, List.map_cons, List.map_nil, List.nil_append, List.append_nil, Bool.false_eq_true, PartD.eqB, e1, e2, e3, e4, h, Bool.and_false, Bool.true_and, c1, c2, bin_bneq Tryz.underlying4]
            exact ⟨_, _, rfl, fun hh => (by cases hh), fun _ => by simp -implicitDefEqProofs only [set_at, ↓reduceIte], fin⟩
          | true =>
            simp -implicitDefEqProofs only [pcode_seq, pcode_r, pcode_ret, pcode_skip, pcode_cond, pops_u, pops_g, pops_nil, runK_some, runG_true, actP, opP, Nat.zero_add, Nat.add_zero, Nat.reduceAdd, guardP, Option.map_some, Option.bind_some, pval_tmp, pval_const, pval_func, set_at, Nat.reduceEqDiff, ↓reduceIte, pvOf, seq_n, blk_n, cond_f, asBool_b, regE_some, put_h, ld_ptr, ofCells, List.length_cons, List.length_nil, Nat.left_eq_add, Nat.one_ne_zero, Nat.reduceLeDiff, and_self, List.drop_succ_cons, List.drop_zero, List.take_succ_cons, List.take_zero, Nat.le_refl, bin_neq, bin_sneq, un_not, beq_self_eq_true, Bool.not_true, callP, List.map_cons, List.map_nil, List.nil_append, List.append_nil, Bool.true_eq_false, Bool.false_eq_true, PartD.eqB, e1, e2, e3, e4, h, Bool.and_true, c1, c2, bin_bneq Tryz.underlying4]
            exact ⟨_, _, rfl, fun _ => ⟨by simp -implicitDefEqProofs only [set_at, ↓reduceIte, reduceCtorEq, ha], by simp -implicitDefEqProofs only [set_at, Nat.reduceEqDiff, ↓reduceIte, hb], by simp -implicitDefEqProofs only [set_at, Nat.reduceEqDiff, ↓reduceIte, hii]⟩, fun hh => (by cases hh), fin⟩
end Go.Proofs.YtflfflfodghgpaaGreatDoor


set_option linter.unusedSimpArgs false
namespace Go.Proofs.YtflfflfodghgpaaGreatDoor
open Go Go.EvL Go.PE
variable {ext : PCallF}
def allQ {α : Type} (q : α → α → Bool) : List α → List α → Bool
  | [], [] => true
  | x :: l, y :: m => q x y && allQ q l m
  | _, _ => false
def eqlB (t es : Nat) (ag : Bool) : PCode := (sr [ob 14 (bn .lss 3 13 12)]
 (.seq (.cond (tp 14)
 .skip
 (.exit 0))
 (.seq (.block 1 (sr [mt 15 13, mt 5 15]
 (.seq (.draw [(mt 16 0, [0], []), (mt 17 5, [5], [0]), (ob 18 (.iaddr es (tp 16) (tp 17)), [16, 17], []), (ob 19 (.load t ag es (tp 18)), [18], []), (mt 20 1, [1], [3, 2, 1, 0]), (mt 21 5, [5], [4, 3, 2, 1, 0]), (ob 22 (.iaddr es (tp 20) (tp 21)), [20, 21], [3, 2, 1, 0]), (ob 23 (.load t ag es (tp 22)), [22], [3, 2, 1, 0]), (ob 24 (bn .neq t 19 23), [19, 23], [])])
 (.cond (tp 24)
 (sr [mk 4 (.bool false)]
 .ret)
 .skip))))
 (.reg [ob 25 (bi .add 13 1), mt 13 25]))))
def eqlR : PCode := (sr [mk 4 (.bool true)]
 .ret)
def eqlF (t es : Nat) (ag : Bool) : PFn := ⟨26, (sr [mk 4 (.bool false)]
 (.seq (iff [mt 6 0, ob 7 (.len false (tp 6)), mt 8 1, ob 9 (.len false (tp 8)), ob 10 (bn .neq 3 7 9)] 10
 (sr [mk 4 (.bool false)]
 .ret)
 .skip)
 (.seq (sr [mt 11 0, ob 12 (.len false (tp 11)), mk 13 (.int .i64 0)]
 (.block 0 (.loop (eqlB t es ag)))) eqlR))), [.tmp 4], false⟩
def rflB (t es : Nat) (ag : Bool) : PCode := (.seq (iff [mt 11 5, mt 12 0, ob 13 (.len false (tp 12)), ob 14 (bn .lss 3 11 13)] 14
 .skip
 (.exit 0))
 (.seq (.block 1 (.seq (.draw [(mt 17 0, [0], []), (mt 18 5, [5], [0]), (ob 19 (.iaddr es (tp 17) (tp 18)), [17, 18], []), (ob 20 (.load t ag es (tp 19)), [19], []), (mt 21 1, [1], [3, 2, 1, 0]), (mt 22 5, [5], [4, 3, 2, 1, 0]), (ob 23 (.iaddr es (tp 21) (tp 22)), [21, 22], [3, 2, 1, 0]), (ob 24 (.load t ag es (tp 23)), [23], [3, 2, 1, 0]), (ob 25 (bn .neq t 20 24), [20, 24], [])])
 (.cond (tp 25)
 (sr [mk 4 (.bool false)]
 .ret)
 .skip)))
 (.reg [mt 15 5, ob 16 (bi .add 15 1), mt 5 16])))
def rflF (t es : Nat) (ag : Bool) : PFn := ⟨26, (sr [mk 4 (.bool false)]
 (.seq (iff [mt 6 0, ob 7 (.len false (tp 6)), mt 8 1, ob 9 (.len false (tp 8)), ob 10 (bn .neq 3 7 9)] 10
 (sr [mk 4 (.bool false)]
 .ret)
 .skip)
 (.seq (sr [mk 5 (.int .i64 0)]
 (.block 0 (.loop (rflB t es ag)))) eqlR))), [.tmp 4], false⟩
theorem g101 : Γ 101 = some (eqlF 99 5 true) := rfl
theorem g102 : Γ 102 = some (eqlF 9 1 false) := rfl
theorem g104 : Γ 104 = some (eqlF 123 2 true) := rfl
theorem g105 : Γ 105 = some (eqlF 101 2 true) := rfl
theorem g42 : Γ 42 = some (rflF 99 5 true) := rfl
theorem g43 : Γ 43 = some (rflF 9 1 false) := rfl
theorem g44 : Γ 44 = some (rflF 123 2 true) := rfl
theorem g83 : Γ 83 = some (rflF 101 2 true) := rfl
/-- what is asked of the elements -/
structure ElOK {α : Type} (t es : Nat) (ag : Bool) (c : α → List PV) (v : α → PV) (q : α → α → Bool) (l m : List α) : Prop where
  len : ∀ x, (c x).length = es
  val : ∀ x, ofCells ag (c x) = some (v x)
  cmp : ∀ x ∈ l, ∀ y ∈ m, ∀ i j, binP Tryz.prog .neq t (.tmp i) (.tmp j) (v x) (v y) = some (.sc (.bool (!(q x y))))
section
variable {α : Type} {t es : Nat} {ag : Bool} {c : α → List PV} {v : α → PV} {q : α → α → Bool} {l m : List α}
theorem eql_loop (hE : ElOK t es ag c v q l m) (hlm : l.length = m.length) (hx : l.length < 1000000000000) (s : PS) : ∀ (k i : Nat) (f : PFr), i + k = l.length → f 0 = .lit t l.length (l.flatMap c) → f 1 = .lit t m.length (m.flatMap c) → f 12 = .sc (.int .i64 (l.length : Int)) → f 13 = .sc (.int .i64 (i : Int)) →
    Er (fun f' s' => s' = s ∧ f' 4 = .sc (.bool (allQ q (l.drop i) (m.drop i)))) (LP Tryz.prog Γ ext 0 (eqlB t es ag) eqlR f s) := by
  intro k
  induction k with
  | zero =>
    intro i f hk h0 h1 h12 h13
    have e1 : decide (i < l.length) = false := decide_eq_false (by omega)
    have ha : allQ q (l.drop i) (m.drop i) = true := by rw [List.drop_eq_nil_of_le (by omega), List.drop_eq_nil_of_le (by omega)]; rfl
    refine LP_case fun L hL => ?_
    simp -implicitDefEqProofs (disch := omega) only [ZA, Nat.reduceAdd, Nat.reduceEqDiff, ↓reduceIte, Nat.reduceLeDiff, reduceCtorEq, Nat.reduceBEq, Nat.reduceLT, actP, opP, pvOf, ofCells, callP, leaveP, resP, oneRes, frz, frz2, frz1, frzT, eqlB, eqlR, h0, h1, h12, h13, e1, ha]
  | succ k ih =>
    intro i f hk h0 h1 h12 h13
    have hl : i < l.length := by omega
    have hm : i < m.length := by omega
    have e1 : decide (i < l.length) = true := decide_eq_true hl
    have hj : l[i]? = some l[i] := List.getElem?_eq_getElem hl
    have hj2 : m[i]? = some m[i] := List.getElem?_eq_getElem hm
    have hfl := flat_len hE.len l
    have hfm := flat_len hE.len m
    have hk3 := ld_sl hE.len hj
    have hk4 := ld_sl hE.len hj2
    have v1 := hE.val l[i]
    have v2 := hE.val m[i]
    simp only [ofCells] at v1 v2
    have hc := hE.cmp _ (List.getElem_mem hl) _ (List.getElem_mem hm)
    have hd : allQ q (l.drop i) (m.drop i) = (q l[i] m[i] && allQ q (l.drop (i + 1)) (m.drop (i + 1))) := by
      rw [List.drop_eq_getElem_cons hl, List.drop_eq_getElem_cons hm]
      rfl
    rw [hd]
    refine LP_case fun L hL => ?_
    cases cq : q l[i] m[i] with
    | false =>
      rw [cq] at hc
      simp -implicitDefEqProofs (disch := first | omega | (unfold OkAll OkPair; simp <;> omega)) only [ZA, Nat.reduceAdd, Nat.reduceEqDiff, ↓reduceIte, Nat.reduceLeDiff, reduceCtorEq, Nat.reduceBEq, Nat.reduceLT, actP, opP, pvOf, ofCells, callP, leaveP, resP, oneRes, frz, frz2, frz1, frzT, ZD, effO, effA, pureI, eqlB, eqlR, h0, h1, h12, h13, e1, hl, hm, hfl, hfm, hk3, hk4, v1, v2, hc, Bool.not_false, Bool.false_and]
    | true =>
      rw [cq] at hc
      simp -implicitDefEqProofs (disch := first | omega | (unfold OkAll OkPair; simp <;> omega)) only [ZA, Nat.reduceAdd, Nat.reduceEqDiff, ↓reduceIte, Nat.reduceLeDiff, reduceCtorEq, Nat.reduceBEq, Nat.reduceLT, actP, opP, pvOf, ofCells, callP, leaveP, resP, oneRes, frz, frz2, frz1, frzT, ZD, effO, effA, pureI, eqlB, h0, h1, h12, h13, e1, hl, hm, hfl, hfm, hk3, hk4, v1, v2, hc, Bool.not_true, Bool.true_and]
      subst hL
      exact ih (i + 1) _ (by omega) (by simp -implicitDefEqProofs (disch := omega) only [ZA, Nat.reduceAdd, Nat.reduceEqDiff, ↓reduceIte, Nat.reduceLeDiff, reduceCtorEq, Nat.reduceBEq, Nat.reduceLT, actP, opP, pvOf, ofCells, callP, leaveP, resP, oneRes, frz, frz2, frz1, frzT, h0]) (by simp -implicitDefEqProofs (disch := omega) only [ZA, Nat.reduceAdd, Nat.reduceEqDiff, ↓reduceIte, Nat.reduceLeDiff, reduceCtorEq, Nat.reduceBEq, Nat.reduceLT, actP, opP, pvOf, ofCells, callP, leaveP, resP, oneRes, frz, frz2, frz1, frzT, h1]) (by simp -implicitDefEqProofs (disch := omega) only [ZA, Nat.reduceAdd, Nat.reduceEqDiff, ↓reduceIte, Nat.reduceLeDiff, reduceCtorEq, Nat.reduceBEq, Nat.reduceLT, actP, opP, pvOf, ofCells, callP, leaveP, resP, oneRes, frz, frz2, frz1, frzT, h12]) (by simp -implicitDefEqProofs (disch := omega) only [ZA, Nat.reduceAdd, Nat.reduceEqDiff, ↓reduceIte, Nat.reduceLeDiff, reduceCtorEq, Nat.reduceBEq, Nat.reduceLT, actP, opP, pvOf, ofCells, callP, leaveP, resP, oneRes, frz, frz2, frz1, frzT])
theorem rfl_loop (hE : ElOK t es ag c v q l m) (hlm : l.length = m.length) (hx : l.length < 1000000000000) (s : PS) : ∀ (k i : Nat) (f : PFr), i + k = l.length → f 0 = .lit t l.length (l.flatMap c) → f 1 = .lit t m.length (m.flatMap c) → f 5 = .sc (.int .i64 (i : Int)) →
    Er (fun f' s' => s' = s ∧ f' 4 = .sc (.bool (allQ q (l.drop i) (m.drop i)))) (LP Tryz.prog Γ ext 0 (rflB t es ag) eqlR f s) := by
  intro k
  induction k with
  | zero =>
    intro i f hk h0 h1 h5
    have e1 : decide (i < l.length) = false := decide_eq_false (by omega)
    have ha : allQ q (l.drop i) (m.drop i) = true := by rw [List.drop_eq_nil_of_le (by omega), List.drop_eq_nil_of_le (by omega)]; rfl
    refine LP_case fun L hL => ?_
    simp -implicitDefEqProofs (disch := omega) only [ZA, Nat.reduceAdd, Nat.reduceEqDiff, ↓reduceIte, Nat.reduceLeDiff, reduceCtorEq, Nat.reduceBEq, Nat.reduceLT, actP, opP, pvOf, ofCells, callP, leaveP, resP, oneRes, frz, frz2, frz1, frzT, rflB, eqlR, h0, h1, h5, e1, lenP, ha]
  | succ k ih =>
    intro i f hk h0 h1 h5
    have hl : i < l.length := by omega
    have hm : i < m.length := by omega
    have e1 : decide (i < l.length) = true := decide_eq_true hl
    have hj : l[i]? = some l[i] := List.getElem?_eq_getElem hl
    have hj2 : m[i]? = some m[i] := List.getElem?_eq_getElem hm
    have hfl := flat_len hE.len l
    have hfm := flat_len hE.len m
    have hk3 := ld_sl hE.len hj
    have hk4 := ld_sl hE.len hj2
    have v1 := hE.val l[i]
    have v2 := hE.val m[i]
    simp only [ofCells] at v1 v2
    have hc := hE.cmp _ (List.getElem_mem hl) _ (List.getElem_mem hm)
    have hd : allQ q (l.drop i) (m.drop i) = (q l[i] m[i] && allQ q (l.drop (i + 1)) (m.drop (i + 1))) := by
      rw [List.drop_eq_getElem_cons hl, List.drop_eq_getElem_cons hm]
      rfl
    rw [hd]
    refine LP_case fun L hL => ?_
    cases cq : q l[i] m[i] with
    | false =>
      rw [cq] at hc
      simp -implicitDefEqProofs (disch := first | omega | (unfold OkAll OkPair; simp <;> omega)) only [ZA, Nat.reduceAdd, Nat.reduceEqDiff, ↓reduceIte, Nat.reduceLeDiff, reduceCtorEq, Nat.reduceBEq, Nat.reduceLT, actP, opP, pvOf, ofCells, callP, leaveP, resP, oneRes, frz, frz2, frz1, frzT, ZD, effO, effA, pureI, rflB, eqlR, h0, h1, h5, e1, lenP, hl, hm, hfl, hfm, hk3, hk4, v1, v2, hc, Bool.not_false, Bool.false_and]
    | true =>
      rw [cq] at hc
      simp -implicitDefEqProofs (disch := first | omega | (unfold OkAll OkPair; simp <;> omega)) only [ZA, Nat.reduceAdd, Nat.reduceEqDiff, ↓reduceIte, Nat.reduceLeDiff, reduceCtorEq, Nat.reduceBEq, Nat.reduceLT, actP, opP, pvOf, ofCells, callP, leaveP, resP, oneRes, frz, frz2, frz1, frzT, ZD, effO, effA, pureI, rflB, h0, h1, h5, e1, lenP, hl, hm, hfl, hfm, hk3, hk4, v1, v2, hc, Bool.not_true, Bool.true_and]
      subst hL
      exact ih (i + 1) _ (by omega) (by simp -implicitDefEqProofs (disch := omega) only [ZA, Nat.reduceAdd, Nat.reduceEqDiff, ↓reduceIte, Nat.reduceLeDiff, reduceCtorEq, Nat.reduceBEq, Nat.reduceLT, actP, opP, pvOf, ofCells, callP, leaveP, resP, oneRes, frz, frz2, frz1, frzT, h0]) (by simp -implicitDefEqProofs (disch := omega) only [ZA, Nat.reduceAdd, Nat.reduceEqDiff, ↓reduceIte, Nat.reduceLeDiff, reduceCtorEq, Nat.reduceBEq, Nat.reduceLT, actP, opP, pvOf, ofCells, callP, leaveP, resP, oneRes, frz, frz2, frz1, frzT, h1]) (by simp -implicitDefEqProofs (disch := omega) only [ZA, Nat.reduceAdd, Nat.reduceEqDiff, ↓reduceIte, Nat.reduceLeDiff, reduceCtorEq, Nat.reduceBEq, Nat.reduceLT, actP, opP, pvOf, ofCells, callP, leaveP, resP, oneRes, frz, frz2, frz1, frzT])
theorem allQ_ne {α : Type} {q : α → α → Bool} : ∀ {l m : List α}, l.length ≠ m.length → allQ q l m = false
  | [], [], h => absurd rfl h
  | [], _ :: _, _ => rfl
  | _ :: _, [], _ => rfl
  | x :: l, y :: m, h => by
    rw [allQ, allQ_ne (fun e => h (by rw [List.length_cons, List.length_cons, e])), Bool.and_false]
theorem eql_ok {G : Nat} (hG : Γ G = some (eqlF t es ag)) {la lb : Option (List α)} (hE : ElOK t es ag c v q (la.getD []) (lb.getD [])) (hx : (la.getD []).length < 1000000000000) (hy : (lb.getD []).length < 1000000000000) (s : PS) :
    pcall Tryz.prog Γ ext G [slP t c la, slP t c lb] s = some (.sc (.bool (allQ q (la.getD []) (lb.getD []))), s) := by
  have h1 := slP_len (e := t) (c := c) la
  have h2 := slP_len (e := t) (c := c) lb
  refine er_call1 (r := 4) hG (by simp [eqlF]) (by rfl) (by rfl) ?_
  unfold eqlF
  cases cn : (la.getD []).length == (lb.getD []).length with
  | false =>
    rw [allQ_ne (ne_of_beq_false cn)]
    simp -implicitDefEqProofs (disch := omega) only [ZA, Nat.reduceAdd, Nat.reduceEqDiff, ↓reduceIte, Nat.reduceLeDiff, reduceCtorEq, Nat.reduceBEq, Nat.reduceLT, actP, opP, pvOf, ofCells, callP, leaveP, resP, oneRes, frz, frz2, frz1, frzT, h1, h2, bne, cn, Bool.not_false]
  | true =>
    have hn := eq_of_beq cn
    simp -implicitDefEqProofs (disch := omega) only [ZA, Nat.reduceAdd, Nat.reduceEqDiff, ↓reduceIte, Nat.reduceLeDiff, reduceCtorEq, Nat.reduceBEq, Nat.reduceLT, actP, opP, pvOf, ofCells, callP, leaveP, resP, oneRes, frz, frz2, frz1, frzT, h1, h2, bne, cn, Bool.not_true]
    cases la with
    | none =>
      have hb : lb.getD [] = [] := List.eq_nil_of_length_eq_zero hn.symm
      have z0 : decide ((0 : Int) < ((0 : Nat) : Int)) = false := rfl
      rw [hb]
      refine LP_case fun L hL => ?_
      simp -implicitDefEqProofs (disch := omega) only [ZA, Nat.reduceAdd, Nat.reduceEqDiff, ↓reduceIte, Nat.reduceLeDiff, reduceCtorEq, Nat.reduceBEq, Nat.reduceLT, actP, opP, pvOf, ofCells, callP, leaveP, resP, oneRes, frz, frz2, frz1, frzT, eqlB, eqlR, Option.getD_none, List.length_nil, z0]
      rfl
    | some l =>
      cases lb with
      | none =>
        have ha : l = [] := List.eq_nil_of_length_eq_zero hn
        subst ha
        have z0 : decide ((0 : Int) < ((0 : Nat) : Int)) = false := rfl
        refine LP_case fun L hL => ?_
        simp -implicitDefEqProofs (disch := omega) only [ZA, Nat.reduceAdd, Nat.reduceEqDiff, ↓reduceIte, Nat.reduceLeDiff, reduceCtorEq, Nat.reduceBEq, Nat.reduceLT, actP, opP, pvOf, ofCells, callP, leaveP, resP, oneRes, frz, frz2, frz1, frzT, eqlB, eqlR, Option.getD_some, List.length_nil, z0]
        rfl
      | some m =>
        have key := fun f a b c d => eql_loop (ext := ext) hE hn hx ⟨s.h, s.n, s.n⟩ l.length 0 f (Nat.zero_add _) a b c d
        simp only [List.drop_zero, Option.getD_some] at key
        exact key _ (by simp -implicitDefEqProofs (disch := omega) only [ZA, Nat.reduceAdd, Nat.reduceEqDiff, ↓reduceIte, Nat.reduceLeDiff, reduceCtorEq, Nat.reduceBEq, Nat.reduceLT, actP, opP, pvOf, ofCells, callP, leaveP, resP, oneRes, frz, frz2, frz1, frzT, slP]) (by simp -implicitDefEqProofs (disch := omega) only [ZA, Nat.reduceAdd, Nat.reduceEqDiff, ↓reduceIte, Nat.reduceLeDiff, reduceCtorEq, Nat.reduceBEq, Nat.reduceLT, actP, opP, pvOf, ofCells, callP, leaveP, resP, oneRes, frz, frz2, frz1, frzT, slP]) (by simp -implicitDefEqProofs (disch := omega) only [ZA, Nat.reduceAdd, Nat.reduceEqDiff, ↓reduceIte, Nat.reduceLeDiff, reduceCtorEq, Nat.reduceBEq, Nat.reduceLT, actP, opP, pvOf, ofCells, callP, leaveP, resP, oneRes, frz, frz2, frz1, frzT, Option.getD_some]) (by simp -implicitDefEqProofs (disch := omega) only [ZA, Nat.reduceAdd, Nat.reduceEqDiff, ↓reduceIte, Nat.reduceLeDiff, reduceCtorEq, Nat.reduceBEq, Nat.reduceLT, actP, opP, pvOf, ofCells, callP, leaveP, resP, oneRes, frz, frz2, frz1, frzT] <;> rfl)
theorem rfl_ok {G : Nat} (hG : Γ G = some (rflF t es ag)) {la lb : Option (List α)} (hE : ElOK t es ag c v q (la.getD []) (lb.getD [])) (hx : (la.getD []).length < 1000000000000) (hy : (lb.getD []).length < 1000000000000) (s : PS) :
    pcall Tryz.prog Γ ext G [slP t c la, slP t c lb] s = some (.sc (.bool (allQ q (la.getD []) (lb.getD []))), s) := by
  have h1 := slP_len (e := t) (c := c) la
  have h2 := slP_len (e := t) (c := c) lb
  refine er_call1 (r := 4) hG (by simp [rflF]) (by rfl) (by rfl) ?_
  unfold rflF
  cases cn : (la.getD []).length == (lb.getD []).length with
  | false =>
    rw [allQ_ne (ne_of_beq_false cn)]
    simp -implicitDefEqProofs (disch := omega) only [ZA, Nat.reduceAdd, Nat.reduceEqDiff, ↓reduceIte, Nat.reduceLeDiff, reduceCtorEq, Nat.reduceBEq, Nat.reduceLT, actP, opP, pvOf, ofCells, callP, leaveP, resP, oneRes, frz, frz2, frz1, frzT, h1, h2, bne, cn, Bool.not_false]
  | true =>
    have hn := eq_of_beq cn
    simp -implicitDefEqProofs (disch := omega) only [ZA, Nat.reduceAdd, Nat.reduceEqDiff, ↓reduceIte, Nat.reduceLeDiff, reduceCtorEq, Nat.reduceBEq, Nat.reduceLT, actP, opP, pvOf, ofCells, callP, leaveP, resP, oneRes, frz, frz2, frz1, frzT, h1, h2, bne, cn, Bool.not_true]
    cases la with
    | none =>
      have hb : lb.getD [] = [] := List.eq_nil_of_length_eq_zero hn.symm
      have z0 : decide ((0 : Int) < 0) = false := rfl
      rw [hb]
      refine LP_case fun L hL => ?_
      simp -implicitDefEqProofs (disch := omega) only [ZA, Nat.reduceAdd, Nat.reduceEqDiff, ↓reduceIte, Nat.reduceLeDiff, reduceCtorEq, Nat.reduceBEq, Nat.reduceLT, actP, opP, pvOf, ofCells, callP, leaveP, resP, oneRes, frz, frz2, frz1, frzT, rflB, eqlR, slP, lenP, z0]
      rfl
    | some l =>
      cases lb with
      | none =>
        have ha : l = [] := List.eq_nil_of_length_eq_zero hn
        subst ha
        have z0 : decide ((0 : Int) < ((0 : Nat) : Int)) = false := rfl
        refine LP_case fun L hL => ?_
        simp -implicitDefEqProofs (disch := omega) only [ZA, Nat.reduceAdd, Nat.reduceEqDiff, ↓reduceIte, Nat.reduceLeDiff, reduceCtorEq, Nat.reduceBEq, Nat.reduceLT, actP, opP, pvOf, ofCells, callP, leaveP, resP, oneRes, frz, frz2, frz1, frzT, rflB, eqlR, slP, lenP, List.length_nil, z0]
        rfl
      | some m =>
        have key := fun f a b c => rfl_loop (ext := ext) hE hn hx ⟨s.h, s.n, s.n⟩ l.length 0 f (Nat.zero_add _) a b c
        simp only [List.drop_zero, Option.getD_some] at key
        exact key _ (by simp -implicitDefEqProofs (disch := omega) only [ZA, Nat.reduceAdd, Nat.reduceEqDiff, ↓reduceIte, Nat.reduceLeDiff, reduceCtorEq, Nat.reduceBEq, Nat.reduceLT, actP, opP, pvOf, ofCells, callP, leaveP, resP, oneRes, frz, frz2, frz1, frzT, slP]) (by simp -implicitDefEqProofs (disch := omega) only [ZA, Nat.reduceAdd, Nat.reduceEqDiff, ↓reduceIte, Nat.reduceLeDiff, reduceCtorEq, Nat.reduceBEq, Nat.reduceLT, actP, opP, pvOf, ofCells, callP, leaveP, resP, oneRes, frz, frz2, frz1, frzT, slP]) (by simp -implicitDefEqProofs (disch := omega) only [ZA, Nat.reduceAdd, Nat.reduceEqDiff, ↓reduceIte, Nat.reduceLeDiff, reduceCtorEq, Nat.reduceBEq, Nat.reduceLT, actP, opP, pvOf, ofCells, callP, leaveP, resP, oneRes, frz, frz2, frz1, frzT] <;> rfl)
end
end Go.Proofs.YtflfflfodghgpaaGreatDoor


namespace Go.Mir
inductive Part where
  | mk (kind : Int) (text : List UInt8) (op : Int) (colon : Bool) (parts : List Part)
def Part.kind : Part → Int | .mk k _ _ _ _ => k
def Part.text : Part → List UInt8 | .mk _ t _ _ _ => t
def Part.op : Part → Int | .mk _ _ o _ _ => o
def Part.colon : Part → Bool | .mk _ _ _ c _ => c
def Part.parts : Part → List Part | .mk _ _ _ _ p => p
def sub (l : List UInt8) (a b : Nat) : List UInt8 := (l.drop a).take (b - a)
/-- the text of a command substitution -/
def wrap (t : List UInt8) : List UInt8 := 36 :: 40 :: (t ++ [41])
abbrev R := Except (Nat × Nat) (List Part × Nat)
end Go.Mir


set_option linter.unusedSimpArgs false
namespace Go.Proofs.YtflfflfodghgpaaGreatDoor
open Go Go.EvL Go.PE Go.Mir
variable {ext : PCallF} {b : ByteArray}
theorem ne_of_beq_false {a c : Nat} (h : (a == c) = false) : a ≠ c := beq_eq_false_iff_ne.1 h
end Go.Proofs.YtflfflfodghgpaaGreatDoor


set_option linter.unusedSimpArgs false
namespace Go.Mir
open Go Go.PE
mutual
def encP : Part → List PV
  | .mk k t o c ps => [.sc (.int .i64 k), .sc (.string ⟨⟨t⟩⟩), .sc (.int .i64 o), .sc (.bool c), encL ps]
def encL : List Part → PV
  | [] => .sc (.slice none 0 0)
  | p :: ps => .lit 90 (ps.length + 1) (encP p ++ encC ps)
def encC : List Part → List PV
  | [] => []
  | p :: ps => encP p ++ encC ps
end
end Go.Mir
namespace Go.PE
open Go Go.EvL
end Go.PE
namespace Go.Proofs.YtflfflfodghgpaaGreatDoor
open Go Go.EvL Go.PE Go.Mir
variable {ext : PCallF} {b : ByteArray}
end Go.Proofs.YtflfflfodghgpaaGreatDoor


set_option linter.unusedSimpArgs false
namespace Go.Proofs.YtflfflfodghgpaaGreatDoor
open Go Go.EvL Go.PE Go.Mir
variable {ext : PCallF} {b : ByteArray}
structure PI (b : ByteArray) (a p lv fr o : Nat) (acc : List Part) (v : PV) (s0 : PS) (f : PFr) (s : PS) : Prop where
  f0 : f 0 = .sc (.string b)
  f1 : f 1 = .sc (.int .i64 (a : Int))
  f2 : f 2 = .sc (.int .i64 (p : Int))
  f3 : f 3 = .sc (.int .i64 (lv : Int))
  f4 : f 4 = .sc (.int .i64 (fr : Int))
  f10 : f 10 = .ptr s0.n 0 3
  f11 : f 11 = v
  f12 : f 12 = .sc (.int .i64 (o : Int))
  acc : Acc 90 5 encP (s0.n + 1) acc v s
  cell : s.h s0.n = ⟨[.sc (.slice none 0 0), .sc (.int .i64 0), .sc (.int .i64 0)], 0, 314⟩
  n : s0.n + 1 ≤ s.n
  w : s0.n ≤ s.w
end Go.Proofs.YtflfflfodghgpaaGreatDoor


namespace Go.Proofs.YtflfflfodghgpaaGreatDoor
open Go Go.EvL Go.PE
variable {ext : PCallF}
theorem f133 (x y : PartD) (s : PS) (r : Bool) (h : ∀ s, pcall Tryz.prog Γ ext 186 [x.parts, y.parts] s = some (.sc (.bool r), s)) :
    pcall Tryz.prog Γ ext 249 [.agg x.cells, .agg y.cells] s = some (.sc (.bool (x.eqB y && r)), s) := by
  rw [pcall_u (fn := p249) (by rfl) _ _ (by simp [p249])]
  cases h1 : x.kind == y.kind with
  | false => simp -implicitDefEqProofs only [p249, pcode_seq, pcode_r, pcode_ret, pops_u, pops_g, pops_nil, runK_some, runG_false, actP, opP, initP, Nat.zero_add, Nat.add_zero, Nat.reduceAdd, guardP, Option.map_some, Option.bind_some, pval_tmp, pval_const, set_at, Nat.reduceEqDiff, cellsP, ↓reduceIte, pvOf, seq_n, asBool_b, regE_some, new_h, new_n, new_w, ld_ptr, ofCells, List.length_cons, List.length_nil, Nat.left_eq_add, Nat.one_ne_zero, Nat.reduceLeDiff, Nat.zero_le, and_self, List.drop_zero, List.take_succ_cons, List.take_zero, Nat.le_refl, bin_eql, b_tt, leaveP, resP, oneRes, frz, frz2, frz1, endK_r, Bool.false_eq_true, PartD.cells, PartD.eqB, h1, Bool.false_and]
  | true =>
    cases h2 : x.text.toList == y.text.toList with
    | false => simp -implicitDefEqProofs only [p249, pcode_seq, pcode_r, pcode_ret, pops_u, pops_g, pops_nil, runK_some, runG_true, runG_false, actP, opP, initP, Nat.zero_add, Nat.add_zero, Nat.reduceAdd, guardP, Option.map_some, Option.bind_some, pval_tmp, pval_const, set_at, Nat.reduceEqDiff, cellsP, ↓reduceIte, pvOf, seq_n, asBool_b, regE_some, new_h, new_n, new_w, ld_ptr, ofCells, List.length_cons, List.length_nil, Nat.left_eq_add, Nat.one_ne_zero, Nat.reduceLeDiff, Nat.zero_le, and_self, List.drop_succ_cons, List.drop_zero, List.take_succ_cons, List.take_zero, Nat.le_refl, bin_eql, bin_seql, beq_self_eq_true, b_tt, leaveP, resP, oneRes, frz, frz2, frz1, endK_r, Bool.false_eq_true, PartD.cells, PartD.eqB, h1, h2, Bool.false_and, Bool.and_false]
    | true =>
      cases h3 : x.op == y.op with
      | false => simp -implicitDefEqProofs only [p249, pcode_seq, pcode_r, pcode_ret, pops_u, pops_g, pops_nil, runK_some, runG_true, runG_false, actP, opP, initP, Nat.zero_add, Nat.add_zero, Nat.reduceAdd, guardP, Option.map_some, Option.bind_some, pval_tmp, pval_const, set_at, Nat.reduceEqDiff, cellsP, ↓reduceIte, pvOf, seq_n, asBool_b, regE_some, new_h, new_n, new_w, ld_ptr, ofCells, List.length_cons, List.length_nil, Nat.left_eq_add, Nat.one_ne_zero, Nat.reduceLeDiff, Nat.zero_le, and_self, List.drop_succ_cons, List.drop_zero, List.take_succ_cons, List.take_zero, Nat.le_refl, bin_eql, bin_seql, beq_self_eq_true, b_tt, leaveP, resP, oneRes, frz, frz2, frz1, endK_r, Bool.false_eq_true, PartD.cells, PartD.eqB, h1, h2, h3, Bool.false_and, Bool.and_false]
      | true =>
        cases h4 : x.colon == y.colon with
        | false => simp -implicitDefEqProofs only [p249, pcode_seq, pcode_r, pcode_ret, pops_u, pops_g, pops_nil, runK_some, runG_true, runG_false, actP, opP, initP, Nat.zero_add, Nat.add_zero, Nat.reduceAdd, guardP, Option.map_some, Option.bind_some, pval_tmp, pval_const, set_at, Nat.reduceEqDiff, cellsP, ↓reduceIte, pvOf, seq_n, asBool_b, regE_some, new_h, new_n, new_w, ld_ptr, ofCells, List.length_cons, List.length_nil, Nat.left_eq_add, Nat.one_ne_zero, Nat.reduceLeDiff, Nat.zero_le, and_self, List.drop_succ_cons, List.drop_zero, List.take_succ_cons, List.take_zero, Nat.le_refl, bin_eql, bin_seql, beq_self_eq_true, b_tt, leaveP, resP, oneRes, frz, frz2, frz1, endK_r, Bool.false_eq_true, PartD.cells, PartD.eqB, h1, h2, h3, h4, bin_beql Tryz.underlying4, Bool.false_and, Bool.and_false]
        | true => simp -implicitDefEqProofs only [p249, pcode_seq, pcode_r, pcode_ret, pops_u, pops_g, pops_nil, runK_some, runG_true, actP, opP, initP, Nat.zero_add, Nat.add_zero, Nat.reduceAdd, guardP, Option.map_some, Option.bind_some, pval_tmp, pval_const, pval_func, set_at, Nat.reduceEqDiff, cellsP, ↓reduceIte, pvOf, seq_n, asBool_b, regE_some, new_h, new_n, new_w, ld_ptr, ofCells, List.length_cons, List.length_nil, Nat.left_eq_add, Nat.one_ne_zero, Nat.reduceLeDiff, Nat.zero_le, and_self, List.drop_succ_cons, List.drop_zero, List.take_succ_cons, List.take_zero, Nat.le_refl, bin_eql, bin_seql, beq_self_eq_true, callP, leaveP, resP, oneRes, frz, frz2, frz1, List.map_cons, List.map_nil, List.nil_append, List.append_nil, endK_r, Bool.false_eq_true, PartD.cells, PartD.eqB, h1, h2, h3, h4, h, bin_beql Tryz.underlying4, Bool.true_and]
/-- parts of a word, nested less than d deep -/
def PartsAt : Nat → PV → Prop
  | 0, _ => False
  | d + 1, p => ∃ l : Option (List PartD), p = slP 90 PartD.cells l ∧ (l.getD []).length < 4611686018427387904 ∧ ∀ x ∈ l.getD [], PartsAt d x.parts
theorem oneP_sl {α : Type} (e : Nat) (c : α → List PV) (l : Option (List α)) : oneP (slP e c l) = true := by cases l <;> rfl
theorem PartsAt.one {d : Nat} {p : PV} (h : PartsAt d p) : oneP p = true := by
  cases d with
  | zero => cases h
  | succ d => obtain ⟨l, rfl, _⟩ := h; exact oneP_sl _ _ _
theorem PartD.ones {d : Nat} {x : PartD} (h : PartsAt d x.parts) : x.cells.all oneP = true := by
  simp only [PartD.cells, List.all_cons, List.all_nil, h.one, Bool.and_true]; rfl
theorem g132 : Γ 248 = some (eqF 90 5 #[(.int .i64 0), (.string ⟨#[]⟩), (.int .i64 0), (.bool false), (.slice none 0 0)] 3) := (rfl)
theorem parts_same : ∀ (d : Nat) (a b : PV), PartsAt d a → PartsAt d b → ∃ r, (∀ s, pcall Tryz.prog Γ ext 186 [a, b] s = some (.sc (.bool r), s)) ∧ ∀ s, pcall Tryz.prog Γ ext 185 [a, b] s = some (.sc (.bool r), s) := by
  intro d
  induction d with
  | zero => intro a b h; cases h
  | succ d ih =>
    rintro a b ⟨l, rfl, hl, hl'⟩ ⟨m, rfl, hm, hm'⟩
    have key : ∀ i : Nat, ∃ r : Bool, ∀ x y : PartD, (l.getD [])[i]? = some x → (m.getD [])[i]? = some y → (∀ s, pcall Tryz.prog Γ ext 186 [x.parts, y.parts] s = some (.sc (.bool r), s)) ∧ ∀ s, pcall Tryz.prog Γ ext 185 [x.parts, y.parts] s = some (.sc (.bool r), s) := by
      intro i
      cases hx : (l.getD [])[i]? with
      | none => exact ⟨true, fun x y h => by cases h⟩
      | some x =>
        cases hy : (m.getD [])[i]? with
        | none => exact ⟨true, fun x y _ h => by cases h⟩
        | some y =>
          obtain ⟨r, hr⟩ := ih x.parts y.parts (hl' x (List.mem_of_getElem? hx)) (hm' y (List.mem_of_getElem? hy))
          exact ⟨r, fun x' y' h1 h2 => by injection h1 with h1; injection h2 with h2; subst h1; subst h2; exact hr⟩
    obtain ⟨r, hr⟩ := Classical.axiomOfChoice key
    refine ⟨(l.getD []).length == (m.getD []).length && allB (fun i => (match (l.getD [])[i]?, (m.getD [])[i]? with | some x, some y => x.eqB y | _, _ => true) && r i) 0 (l.getD []).length, fun s => ?_, fun s => ?_⟩
    · have h132 := eq_func (P := Tryz.prog) (ext := ext) (e := 90) (t := 90) PartD.len (by rfl) g132 (l := l) (m := m) (fun x hx => hx.elim (fun h => PartD.ones (hl' x h)) (fun h => PartD.ones (hm' x h))) (g := 249) hl (r := fun i => (match (l.getD [])[i]?, (m.getD [])[i]? with | some x, some y => x.eqB y | _, _ => true) && r i) (fun i x y h1 h2 s => by
        simp only [h1, h2]
        exact f133 x y s (r i) (hr i x y h1 h2).1)
      rw [pcall_u (fn := p186) (by rfl) _ _ (by simp [p186])]
      simp -implicitDefEqProofs only [p186, pcode_seq, pcode_r, pcode_ret, pops_u, pops_nil, runK_some, actP, opP, initP, Nat.zero_add, Option.map_some, Option.bind_some, pval_tmp, pval_const, pval_func, set_at, Nat.reduceEqDiff, ↓reduceIte, pvOf, seq_n, regE_some, Nat.one_ne_zero, Nat.le_refl, callP, leaveP, resP, oneRes, frz, frz2, frz1, List.map_cons, List.map_nil, List.nil_append, List.append_nil, endK_r, Bool.false_eq_true, reduceCtorEq, h132]
    · refine ref_func8 hl (G := 185) (nt := 61) (inner := inner87) (by rw [← is87]; rfl) (by omega) (fun i x y h1 h2 f s hin => ?_) s
      have h := in87 (ext := ext) x y (hl' x (List.mem_of_getElem? h1)).one (hm' y (List.mem_of_getElem? h2)).one (r i) (hr i x y h1 h2).2 h1 h2 f s hin
      simp only [h1, h2]
      exact h
end Go.Proofs.YtflfflfodghgpaaGreatDoor


namespace Go.Proofs.YtflfflfodghgpaaGreatDoor
open Go Go.EvL Go.PE Go.Mir
mutual
def EnP : Part → PartD → Prop
  | .mk k t o c ps, x => x.kind = k ∧ x.text = ⟨⟨t⟩⟩ ∧ x.op = o ∧ x.colon = c ∧ ∃ y : Option (List PartD), x.parts = slP 90 PartD.cells y ∧ EnD ps (y.getD [])
def EnD : List Part → List PartD → Prop
  | [], xs => xs = []
  | p :: ps, xs => ∃ x xs', xs = x :: xs' ∧ EnP p x ∧ EnD ps xs'
end
def EnL (l : List Part) (v : PV) : Prop := ∃ y : Option (List PartD), v = slP 90 PartD.cells y ∧ EnD l (y.getD [])
theorem EnD.nil {xs : List PartD} (h : EnD [] xs) : xs = [] := by rw [EnD] at h; exact h
theorem EnD.cons {p : Part} {ps : List Part} {xs : List PartD} (h : EnD (p :: ps) xs) : ∃ x xs', xs = x :: xs' ∧ EnP p x ∧ EnD ps xs' := by rw [EnD] at h; exact h
theorem EnD.length : ∀ {l : List Part} {xs : List PartD}, EnD l xs → xs.length = l.length
  | [], _, h => by rw [h.nil]; rfl
  | _ :: ps, _, h => by
    obtain ⟨x, xs', rfl, _, h⟩ := h.cons
    rw [List.length_cons, List.length_cons, EnD.length h]
theorem EnD.drop : ∀ {i : Nat} {l : List Part} {xs : List PartD}, EnD l xs → EnD (l.drop i) (xs.drop i)
  | 0, _, _, h => h
  | _ + 1, [], _, h => by rw [h.nil]; show EnD [] []; rw [EnD]
  | i + 1, _ :: ps, _, h => by
    obtain ⟨x, xs', rfl, _, h⟩ := h.cons
    exact EnD.drop (i := i) h
/-- what a slice of parts may be read as -/
theorem PartsAt.read : ∀ {d : Nat} {v : PV}, PartsAt d v → ∃ l, EnL l v
  | 0, _, h => by cases h
  | d + 1, v, h => by
    obtain ⟨y, rfl, _, h⟩ := h
    suffices hh : ∀ xs : List PartD, (∀ x ∈ xs, PartsAt d x.parts) → ∃ l, EnD l xs by
      obtain ⟨l, hl⟩ := hh _ h
      exact ⟨l, y, rfl, hl⟩
    intro xs
    induction xs with
    | nil => exact fun _ => ⟨[], by rw [EnD]⟩
    | cons x xs ih =>
      intro hx
      obtain ⟨l, hl⟩ := ih fun z hz => hx z (List.mem_cons_of_mem _ hz)
      obtain ⟨ps, z, hz, hp⟩ := PartsAt.read (hx x (List.mem_cons_self ..))
      refine ⟨.mk x.kind x.text.data.toList x.op x.colon ps :: l, ?_⟩
      rw [EnD]
      refine ⟨x, xs, rfl, ?_, hl⟩
      rw [EnP]
      exact ⟨rfl, rfl, rfl, rfl, z, hz, hp⟩
end Go.Proofs.YtflfflfodghgpaaGreatDoor


set_option linter.unusedSimpArgs false
namespace Go.PE
open Go Go.EvL
theorem er_call1w {P : Program} {Γ : Nat → Option PFn} {ext : PCallF} {g r : Nat} {fn : PFn} {args : List PV} {s : PS} {u : Value} (hg : Γ g = some fn) (hl : args.length ≤ fn.nt) (hr : fn.res = [.tmp r]) (hk : fn.keep = false) (h : Er (fun f' s' => s.n ≤ s'.w ∧ f' r = .sc u) (pcode P Γ ext fn.body (initP args 0) ⟨s.h, s.n, s.n⟩)) : pcall P Γ ext g args s = some (.sc u, s) := by
  refine er_call hg hl h ?_
  rintro f s' ⟨hw, h⟩
  refine leave_p (vs := [.sc u]) hk (by rw [hr]; simp only [resP, Option.map_some, h]) hw ?_
  rfl
end Go.PE
namespace Go.Proofs.YtflfflfodghgpaaGreatDoor
open Go Go.EvL Go.PE Go.Mir
variable {ext : PCallF}
end Go.Proofs.YtflfflfodghgpaaGreatDoor


namespace Go.Proofs.YtflfflfodghgpaaGreatDoor
open Go Go.EvL Go.PE
variable {ext : PCallF}
structure WordD where
  pos : Int
  parts : PV
def WordD.cells (x : WordD) : List PV := [.sc (.int .i64 x.pos), x.parts]
theorem WordD.len (x : WordD) : x.cells.length = 2 := (rfl)
def inner55 : PCode := (.seq (.draw [(⟨some 17, .mv (.tmp 0), none⟩, [0], []),
             (⟨some 18, .mv (.tmp 5), none⟩, [5], [0]),
             (⟨some 19, .iaddr 2 (.tmp 17) (.tmp 18), none⟩, [17, 18], []),
             (⟨some 20, .faddr 1 (.tmp 19), none⟩, [19], []),
             (⟨some 21, .load 80 false 1 (.tmp 20), none⟩, [20], []),
             (⟨some 22, .mv (.tmp 1), none⟩, [1], [4, 3, 2, 1, 0]),
             (⟨some 23, .mv (.tmp 5), none⟩, [5], [5, 4, 3, 2, 1, 0]),
             (⟨some 24, .iaddr 2 (.tmp 22) (.tmp 23), none⟩, [22, 23], [4, 3, 2, 1, 0]),
             (⟨some 25, .faddr 1 (.tmp 24), none⟩, [24], [4, 3, 2, 1, 0]),
             (⟨some 26, .load 80 false 1 (.tmp 25), none⟩, [25], [4, 3, 2, 1, 0]),
             (⟨some 27, .call (.func 185) [(.tmp 21), (.tmp 26)], none⟩, [21, 26], []),
             (⟨some 28, .un .not (.tmp 27), none⟩, [27], [])])
          (.cond (.tmp 28)
            (.seq (.reg [⟨some 4, .mv (.const (.bool false)), none⟩])
            .ret)
            (.skip)))
theorem g55 : Γ 116 = some (refF6 29 inner55) := (rfl)
theorem g48 : Γ 123 = some (eqF 82 2 #[(.int .i64 0), (.slice none 0 0)] 3) := (rfl)
theorem f47 (x y : WordD) (r : Bool) (h : ∀ s, pcall Tryz.prog Γ ext 186 [x.parts, y.parts] s = some (.sc (.bool r), s)) (s : PS) : pcall Tryz.prog Γ ext 122 [.agg x.cells, .agg y.cells] s = some (.sc (.bool r), s) := by
  rw [pcall_u (fn := p122) (by rfl) _ _ (by simp [p122])]
  simp -implicitDefEqProofs only [p122, pcode_seq, pcode_r, pcode_ret, pops_u, pops_nil, runK_some, actP, opP, initP, Nat.zero_add, Nat.reduceAdd, Option.map_some, Option.bind_some, pval_tmp, pval_const, pval_func, set_at, Nat.reduceEqDiff, cellsP, ↓reduceIte, pvOf, seq_n, regE_some, new_h, new_n, new_w, ld_ptr, ofCells, List.length_cons, List.length_nil, Nat.left_eq_add, Nat.one_ne_zero, Nat.zero_le, and_self, List.drop_succ_cons, List.drop_zero, List.take_succ_cons, List.take_zero, Nat.le_refl, callP, leaveP, resP, oneRes, frz, frz2, frz1, List.map_cons, List.map_nil, List.nil_append, List.append_nil, endK_r, Bool.false_eq_true, WordD.cells, h]
theorem in55 (x y : WordD) (r : Bool) (h : ∀ s, pcall Tryz.prog Γ ext 185 [x.parts, y.parts] s = some (.sc (.bool r), s)) : InnerOK Tryz.prog Γ ext 82 WordD.cells inner55 x y r := by
  intro l m i hl hm f s hin
  obtain ⟨l, rfl⟩ : ∃ k, l = some k := by cases l with | none => simp at hl | some k => exact ⟨k, rfl⟩
  obtain ⟨m, rfl⟩ : ∃ k, m = some k := by cases m with | none => simp at hm | some k => exact ⟨k, rfl⟩
  obtain ⟨ha, hb, hii⟩ := hin
  simp only [slP, Option.getD_some] at ha hb hl hm
  have hi : i < l.length := (List.getElem?_eq_some_iff.1 hl).1
  have hj : i < m.length := (List.getElem?_eq_some_iff.1 hm).1
  have h1 := flat_len WordD.len l
  have h2 := flat_len WordD.len m
  obtain ⟨r1, h3⟩ := flat_at WordD.len hl
  obtain ⟨r2, h4⟩ := flat_at WordD.len hm
  cases r with
  | false =>
    simp -implicitDefEqProofs only [inner55, pcode_seq, pcode_r, pcode_ret, pcode_skip, pcode_cond, pcode_block, pops_u, pops_nil, runK_some, actP, opP, Nat.zero_add, Nat.reduceAdd, Option.map_some, Option.bind_some, pval_tmp, pval_const, pval_func, set_at, Nat.reduceEqDiff, ↓reduceIte, pvOf, seq_n, blk_r, cond_t, asBool_b, regE_some, ofCells, List.length_cons, Nat.one_ne_zero, Nat.reduceLeDiff, and_self, true_and, List.drop_succ_cons, List.drop_zero, List.take_succ_cons, List.take_zero, un_not, Bool.not_false, callP, List.map_cons, List.map_nil, List.nil_append, List.append_nil, List.cons_append, Bool.false_eq_true, reduceCtorEq, natP_cast, pcode_d, pdraw_nil, pdraw_u, drK_some, only_at, effO, effA, pureI, okAll_nil, okAll_cons, okPair_e, okPair_li, List.mem_cons, List.not_mem_nil, or_false, or_true, or_self, implies_true, false_implies, forall_const, ha, hb, hii, hi, hj, h1, h2, h3, h4, ld_litp, WordD.cells, h, pu87]
    exact ⟨_, _, rfl, by simp -implicitDefEqProofs only [set_at, ↓reduceIte], fun n0 w1 w2 => ⟨w1, w2⟩⟩
  | true =>
    simp -implicitDefEqProofs only [inner55, pcode_seq, pcode_r, pcode_ret, pcode_skip, pcode_cond, pcode_block, pops_u, pops_nil, runK_some, actP, opP, Nat.zero_add, Nat.reduceAdd, Option.map_some, Option.bind_some, pval_tmp, pval_const, pval_func, set_at, Nat.reduceEqDiff, ↓reduceIte, pvOf, seq_n, blk_n, cond_f, asBool_b, regE_some, ofCells, List.length_cons, Nat.one_ne_zero, Nat.reduceLeDiff, and_self, true_and, List.drop_succ_cons, List.drop_zero, List.take_succ_cons, List.take_zero, un_not, Bool.not_true, callP, List.map_cons, List.map_nil, List.nil_append, List.append_nil, List.cons_append, Bool.true_eq_false, Bool.false_eq_true, reduceCtorEq, natP_cast, pcode_d, pdraw_nil, pdraw_u, drK_some, only_at, effO, effA, pureI, okAll_nil, okAll_cons, okPair_e, okPair_li, List.mem_cons, List.not_mem_nil, or_false, or_true, or_self, implies_true, false_implies, forall_const, ha, hb, hii, hi, hj, h1, h2, h3, h4, ld_litp, WordD.cells, h, pu87]
    exact ⟨_, _, rfl, ⟨by simp -implicitDefEqProofs only [set_at, ↓reduceIte, reduceCtorEq, ha], by simp -implicitDefEqProofs only [set_at, Nat.reduceEqDiff, ↓reduceIte, hb], by simp -implicitDefEqProofs only [set_at, Nat.reduceEqDiff, ↓reduceIte, hii]⟩, fun n0 w1 w2 => ⟨w1, w2⟩⟩
def WordsAt (d : Nat) (p : PV) : Prop := ∃ l : Option (List WordD), p = slP 82 WordD.cells l ∧ (l.getD []).length < 4611686018427387904 ∧ ∀ x ∈ l.getD [], PartsAt d x.parts
theorem words_same {d : Nat} {a b : PV} (ha : WordsAt d a) (hb : WordsAt d b) : ∃ r, (∀ s, pcall Tryz.prog Γ ext 123 [a, b, .fn 122 [] []] s = some (.sc (.bool r), s)) ∧ ∀ s, pcall Tryz.prog Γ ext 116 [a, b] s = some (.sc (.bool r), s) := by
  obtain ⟨l, rfl, hl, hl'⟩ := ha
  obtain ⟨m, rfl, hm, hm'⟩ := hb
  refine two_same WordD.len (by rfl) g48 g55 (by omega) (fun x hx => ?_) hl (fun x hx y hy => ?_)
  · have : PartsAt d x.parts := hx.elim (hl' x) (hm' x)
    simp only [WordD.cells, List.all_cons, List.all_nil, this.one, Bool.and_true]; rfl
  · obtain ⟨r, h1, h2⟩ := parts_same (ext := ext) d x.parts y.parts (hl' x hx) (hm' y hy)
    exact ⟨r, fun s => f47 x y r h1 s, in55 x y r h2⟩
end Go.Proofs.YtflfflfodghgpaaGreatDoor


namespace Go.Proofs.YtflfflfodghgpaaGreatDoor
open Go Go.EvL Go.PE
variable {ext : PCallF}
structure AssignD where
  pos : Int
  name : ByteArray
  vpos : Int
  parts : PV
def AssignD.cells (x : AssignD) : List PV := [.sc (.int .i64 x.pos), .sc (.string x.name), .sc (.int .i64 x.vpos), x.parts]
theorem AssignD.len (x : AssignD) : x.cells.length = 4 := (rfl)
def inner54 : PCode := (.seq (.draw [(⟨some 17, .mv (.tmp 0), none⟩, [0], []),
             (⟨some 18, .mv (.tmp 5), none⟩, [5], [0]),
             (⟨some 19, .iaddr 4 (.tmp 17) (.tmp 18), none⟩, [17, 18], []),
             (⟨some 20, .faddr 1 (.tmp 19), none⟩, [19], []),
             (⟨some 21, .load 9 false 1 (.tmp 20), none⟩, [20], []),
             (⟨some 22, .mv (.tmp 1), none⟩, [1], [4, 3, 2, 1, 0]),
             (⟨some 23, .mv (.tmp 5), none⟩, [5], [5, 4, 3, 2, 1, 0]),
             (⟨some 24, .iaddr 4 (.tmp 22) (.tmp 23), none⟩, [22, 23], [4, 3, 2, 1, 0]),
             (⟨some 25, .faddr 1 (.tmp 24), none⟩, [24], [4, 3, 2, 1, 0]),
             (⟨some 26, .load 9 false 1 (.tmp 25), none⟩, [25], [4, 3, 2, 1, 0]),
             (⟨some 27, .bin .neq 9 (.tmp 21) (.tmp 26), none⟩, [21, 26], []),
             (⟨some 28, .mv (.tmp 27), none⟩, [27], []),
             (⟨some 29, .mv (.tmp 0), (some (28, false))⟩, [0, 28], []),
             (⟨some 30, .mv (.tmp 5), (some (28, false))⟩, [5, 28], [12]),
             (⟨some 31, .iaddr 4 (.tmp 29) (.tmp 30), (some (28, false))⟩, [29, 30, 28], []),
             (⟨some 32, .faddr 2 (.tmp 31), (some (28, false))⟩, [31, 28], []),
             (⟨some 33, .faddr 1 (.tmp 32), (some (28, false))⟩, [32, 28], []),
             (⟨some 34, .load 80 false 1 (.tmp 33), (some (28, false))⟩, [33, 28], []),
             (⟨some 35, .mv (.tmp 1), (some (28, false))⟩, [1, 28], [17, 16, 15, 14, 13, 12]),
             (⟨some 36, .mv (.tmp 5), (some (28, false))⟩, [5, 28], [18, 17, 16, 15, 14, 13, 12]),
             (⟨some 37, .iaddr 4 (.tmp 35) (.tmp 36), (some (28, false))⟩, [35, 36, 28], [17, 16, 15, 14, 13, 12]),
             (⟨some 38, .faddr 2 (.tmp 37), (some (28, false))⟩, [37, 28], [17, 16, 15, 14, 13, 12]),
             (⟨some 39, .faddr 1 (.tmp 38), (some (28, false))⟩, [38, 28], [17, 16, 15, 14, 13, 12]),
             (⟨some 40, .load 80 false 1 (.tmp 39), (some (28, false))⟩, [39, 28], [17, 16, 15, 14, 13, 12]),
             (⟨some 41, .call (.func 185) [(.tmp 34), (.tmp 40)], (some (28, false))⟩, [34, 40, 28], []),
             (⟨some 42, .un .not (.tmp 41), (some (28, false))⟩, [41, 28], []),
             (⟨some 43, .pick (.tmp 28) (.const (.bool true)) (.tmp 42), none⟩, [28, 42], [])])
          (.cond (.tmp 43)
            (.seq (.reg [⟨some 4, .mv (.const (.bool false)), none⟩])
            .ret)
            (.skip)))
theorem g54 : Γ 115 = some (refF6 44 inner54) := (rfl)
theorem g45 : Γ 120 = some (eqF 84 4 #[(.int .i64 0), (.string ⟨#[]⟩), (.int .i64 0), (.slice none 0 0)] 3) := (rfl)
theorem f46 (x y : AssignD) (r : Bool) (h : ∀ s, pcall Tryz.prog Γ ext 186 [x.parts, y.parts] s = some (.sc (.bool r), s)) (s : PS) : pcall Tryz.prog Γ ext 121 [.agg x.cells, .agg y.cells] s = some (.sc (.bool (x.name.toList == y.name.toList && r)), s) := by
  have h47 := f47 (ext := ext) ⟨x.vpos, x.parts⟩ ⟨y.vpos, y.parts⟩ r h
  simp only [WordD.cells] at h47
  rw [pcall_u (fn := p121) (by rfl) _ _ (by simp [p121])]
  cases e1 : x.name.toList == y.name.toList with
  | false => simp -implicitDefEqProofs only [p121, pcode_seq, pcode_r, pcode_ret, pops_u, pops_g, pops_nil, runK_some, runG_false, actP, opP, initP, Nat.zero_add, Nat.reduceAdd, guardP, Option.map_some, Option.bind_some, pval_tmp, pval_const, set_at, Nat.reduceEqDiff, cellsP, ↓reduceIte, pvOf, seq_n, asBool_b, regE_some, new_h, new_n, new_w, ld_ptr, ofCells, List.length_cons, List.length_nil, Nat.left_eq_add, Nat.one_ne_zero, Nat.reduceLeDiff, Nat.zero_le, and_self, List.drop_succ_cons, List.drop_zero, List.take_succ_cons, List.take_zero, Nat.le_refl, bin_seql, b_tt, leaveP, resP, oneRes, frz, frz2, frz1, endK_r, Bool.false_eq_true, AssignD.cells, e1, Bool.false_and]
  | true => simp -implicitDefEqProofs only [p121, pcode_seq, pcode_r, pcode_ret, pops_u, pops_g, pops_nil, runK_some, runG_true, actP, opP, initP, Nat.zero_add, Nat.reduceAdd, guardP, Option.map_some, Option.bind_some, pval_tmp, pval_const, pval_func, set_at, Nat.reduceEqDiff, cellsP, ↓reduceIte, pvOf, seq_n, asBool_b, regE_some, new_h, new_n, new_w, ld_ptr, ofCells, List.length_cons, List.length_nil, Nat.left_eq_add, Nat.one_ne_zero, Nat.reduceLeDiff, Nat.zero_le, and_self, List.drop_succ_cons, List.drop_zero, List.take_succ_cons, List.take_zero, Nat.le_refl, bin_seql, beq_self_eq_true, callP, leaveP, resP, oneRes, frz, frz2, frz1, List.map_cons, List.map_nil, List.nil_append, List.append_nil, endK_r, Bool.false_eq_true, AssignD.cells, e1, h47, Bool.true_and]
theorem in54 (x y : AssignD) (r : Bool) (h : ∀ s, pcall Tryz.prog Γ ext 185 [x.parts, y.parts] s = some (.sc (.bool r), s)) : InnerOK Tryz.prog Γ ext 84 AssignD.cells inner54 x y (x.name.toList == y.name.toList && r) := by
  intro l m i hl hm f s hin
  obtain ⟨l, rfl⟩ : ∃ k, l = some k := by cases l with | none => simp at hl | some k => exact ⟨k, rfl⟩
  obtain ⟨m, rfl⟩ : ∃ k, m = some k := by cases m with | none => simp at hm | some k => exact ⟨k, rfl⟩
  obtain ⟨ha, hb, hii⟩ := hin
  simp only [slP, Option.getD_some] at ha hb hl hm
  have hi : i < l.length := (List.getElem?_eq_some_iff.1 hl).1
  have hj : i < m.length := (List.getElem?_eq_some_iff.1 hm).1
  have h1 := flat_len AssignD.len l
  have h2 := flat_len AssignD.len m
  obtain ⟨r1, h3⟩ := flat_at AssignD.len hl
  obtain ⟨r2, h4⟩ := flat_at AssignD.len hm
  cases e1 : x.name.toList == y.name.toList with
  | false =>
    simp -implicitDefEqProofs only [inner54, pcode_seq, pcode_r, pcode_ret, pcode_skip, pcode_cond, pcode_block, pops_u, pops_nil, runK_some, actP, opP, Nat.zero_add, Nat.reduceAdd, guardP, Option.map_some, Option.bind_some, pval_tmp, pval_const, pval_func, set_at, Nat.reduceEqDiff, ↓reduceIte, pvOf, seq_n, blk_r, cond_t, asBool_b, regE_some, ofCells, List.length_cons, Nat.one_ne_zero, Nat.reduceLeDiff, and_self, true_and, List.drop_succ_cons, List.drop_zero, List.take_succ_cons, List.take_zero, bin_sneq, Bool.not_true, Bool.not_false, b_ff, List.nil_append, List.cons_append, Bool.false_eq_true, reduceCtorEq, natP_cast, pcode_d, pdraw_nil, pdraw_u, pdraw_g, drK_some, drG_false, only_at, effO, effA, pureI, okAll_nil, okAll_cons, okPair_e, okPair_li, List.mem_cons, List.not_mem_nil, or_false, or_true, or_self, implies_true, false_implies, forall_const, ha, hb, hii, hi, hj, h1, h2, h3, h4, ld_litp, AssignD.cells, e1, Bool.false_and, pu87]
    exact ⟨_, _, rfl, by simp -implicitDefEqProofs only [set_at, ↓reduceIte], fun n0 w1 w2 => ⟨w1, w2⟩⟩
  | true =>
    cases r with
    | false =>
      simp -implicitDefEqProofs only [inner54, pcode_seq, pcode_r, pcode_ret, pcode_skip, pcode_cond, pcode_block, pops_u, pops_nil, runK_some, actP, opP, Nat.zero_add, Nat.reduceAdd, guardP, Option.map_some, Option.bind_some, pval_tmp, pval_const, pval_func, set_at, Nat.reduceEqDiff, ↓reduceIte, pvOf, seq_n, blk_r, cond_t, asBool_b, regE_some, ofCells, List.length_cons, Nat.one_ne_zero, Nat.reduceLeDiff, and_self, true_and, List.drop_succ_cons, List.drop_zero, List.take_succ_cons, List.take_zero, bin_sneq, un_not, beq_self_eq_true, Bool.not_true, Bool.not_false, callP, List.map_cons, List.map_nil, List.nil_append, List.append_nil, List.cons_append, Bool.false_eq_true, reduceCtorEq, natP_cast, pcode_d, pdraw_nil, pdraw_u, pdraw_g, drK_some, drG_true, only_at, effO, effA, pureI, okAll_nil, okAll_cons, okPair_e, okPair_li, List.mem_cons, List.not_mem_nil, or_false, or_true, or_self, implies_true, false_implies, forall_const, ha, hb, hii, hi, hj, h1, h2, h3, h4, ld_litp, AssignD.cells, e1, h, Bool.true_and, pu87]
      exact ⟨_, _, rfl, by simp -implicitDefEqProofs only [set_at, ↓reduceIte], fun n0 w1 w2 => ⟨w1, w2⟩⟩
    | true =>
      simp -implicitDefEqProofs only [inner54, pcode_seq, pcode_r, pcode_ret, pcode_skip, pcode_cond, pcode_block, pops_u, pops_nil, runK_some, actP, opP, Nat.zero_add, Nat.reduceAdd, guardP, Option.map_some, Option.bind_some, pval_tmp, pval_const, pval_func, set_at, Nat.reduceEqDiff, ↓reduceIte, pvOf, seq_n, blk_n, cond_f, asBool_b, regE_some, ofCells, List.length_cons, Nat.one_ne_zero, Nat.reduceLeDiff, and_self, true_and, List.drop_succ_cons, List.drop_zero, List.take_succ_cons, List.take_zero, bin_sneq, un_not, beq_self_eq_true, Bool.not_true, callP, List.map_cons, List.map_nil, List.nil_append, List.append_nil, List.cons_append, Bool.true_eq_false, Bool.false_eq_true, reduceCtorEq, natP_cast, pcode_d, pdraw_nil, pdraw_u, pdraw_g, drK_some, drG_true, only_at, effO, effA, pureI, okAll_nil, okAll_cons, okPair_e, okPair_li, List.mem_cons, List.not_mem_nil, or_false, or_true, or_self, implies_true, false_implies, forall_const, ha, hb, hii, hi, hj, h1, h2, h3, h4, ld_litp, AssignD.cells, e1, h, Bool.true_and, pu87]
      exact ⟨_, _, rfl, ⟨by simp -implicitDefEqProofs only [set_at, ↓reduceIte, reduceCtorEq, ha], by simp -implicitDefEqProofs only [set_at, Nat.reduceEqDiff, ↓reduceIte, hb], by simp -implicitDefEqProofs only [set_at, Nat.reduceEqDiff, ↓reduceIte, hii]⟩, fun n0 w1 w2 => ⟨w1, w2⟩⟩
def AssignsAt (d : Nat) (p : PV) : Prop := ∃ l : Option (List AssignD), p = slP 84 AssignD.cells l ∧ (l.getD []).length < 4611686018427387904 ∧ ∀ x ∈ l.getD [], PartsAt d x.parts
theorem assigns_same {d : Nat} {a b : PV} (ha : AssignsAt d a) (hb : AssignsAt d b) : ∃ r, (∀ s, pcall Tryz.prog Γ ext 120 [a, b, .fn 121 [] []] s = some (.sc (.bool r), s)) ∧ ∀ s, pcall Tryz.prog Γ ext 115 [a, b] s = some (.sc (.bool r), s) := by
  obtain ⟨l, rfl, hl, hl'⟩ := ha
  obtain ⟨m, rfl, hm, hm'⟩ := hb
  refine two_same AssignD.len (by rfl) g45 g54 (by omega) (fun x hx => ?_) hl (fun x hx y hy => ?_)
  · have : PartsAt d x.parts := hx.elim (hl' x) (hm' x)
    simp only [AssignD.cells, List.all_cons, List.all_nil, this.one, Bool.and_true]; rfl
  · obtain ⟨r, h1, h2⟩ := parts_same (ext := ext) d x.parts y.parts (hl' x hx) (hm' y hy)
    exact ⟨_, fun s => f46 x y r h1 s, in54 x y r h2⟩
end Go.Proofs.YtflfflfodghgpaaGreatDoor


namespace Go.Proofs.YtflfflfodghgpaaGreatDoor
open Go Go.EvL Go.PE
variable {ext : PCallF}
structure RedirD where
  pos : Int
  fd : Int
  op : Int
  tpos : Int
  parts : PV
def RedirD.cells (x : RedirD) : List PV := [.sc (.int .i64 x.pos), .sc (.int .i64 x.fd), .sc (.int .i64 x.op), .sc (.int .i64 x.tpos), x.parts]
theorem RedirD.len (x : RedirD) : x.cells.length = 5 := (rfl)
def RedirD.eqB (x y : RedirD) (r : Bool) : Bool := x.fd == y.fd && (x.op == y.op && r)
def inner56 : PCode := (.seq (.draw [(⟨some 17, .mv (.tmp 0), none⟩, [0], []),
             (⟨some 18, .mv (.tmp 5), none⟩, [5], [0]),
             (⟨some 19, .iaddr 5 (.tmp 17) (.tmp 18), none⟩, [17, 18], []),
             (⟨some 20, .faddr 1 (.tmp 19), none⟩, [19], []),
             (⟨some 21, .load 3 false 1 (.tmp 20), none⟩, [20], []),
             (⟨some 22, .mv (.tmp 1), none⟩, [1], [4, 3, 2, 1, 0]),
             (⟨some 23, .mv (.tmp 5), none⟩, [5], [5, 4, 3, 2, 1, 0]),
             (⟨some 24, .iaddr 5 (.tmp 22) (.tmp 23), none⟩, [22, 23], [4, 3, 2, 1, 0]),
             (⟨some 25, .faddr 1 (.tmp 24), none⟩, [24], [4, 3, 2, 1, 0]),
             (⟨some 26, .load 3 false 1 (.tmp 25), none⟩, [25], [4, 3, 2, 1, 0]),
             (⟨some 27, .bin .neq 3 (.tmp 21) (.tmp 26), none⟩, [21, 26], []),
             (⟨some 28, .mv (.tmp 27), none⟩, [27], []),
             (⟨some 29, .mv (.tmp 0), (some (28, false))⟩, [0, 28], []),
             (⟨some 30, .mv (.tmp 5), (some (28, false))⟩, [5, 28], [12]),
             (⟨some 31, .iaddr 5 (.tmp 29) (.tmp 30), (some (28, false))⟩, [29, 30, 28], []),
             (⟨some 32, .faddr 2 (.tmp 31), (some (28, false))⟩, [31, 28], []),
             (⟨some 33, .load 3 false 1 (.tmp 32), (some (28, false))⟩, [32, 28], []),
             (⟨some 34, .mv (.tmp 1), (some (28, false))⟩, [1, 28], [16, 15, 14, 13, 12]),
             (⟨some 35, .mv (.tmp 5), (some (28, false))⟩, [5, 28], [17, 16, 15, 14, 13, 12]),
             (⟨some 36, .iaddr 5 (.tmp 34) (.tmp 35), (some (28, false))⟩, [34, 35, 28], [16, 15, 14, 13, 12]),
             (⟨some 37, .faddr 2 (.tmp 36), (some (28, false))⟩, [36, 28], [16, 15, 14, 13, 12]),
             (⟨some 38, .load 3 false 1 (.tmp 37), (some (28, false))⟩, [37, 28], [16, 15, 14, 13, 12]),
             (⟨some 39, .bin .neq 3 (.tmp 33) (.tmp 38), (some (28, false))⟩, [33, 38, 28], []),
             (⟨some 40, .pick (.tmp 28) (.const (.bool true)) (.tmp 39), none⟩, [28, 39], []),
             (⟨some 41, .mv (.tmp 40), none⟩, [40], []),
             (⟨some 42, .mv (.tmp 0), (some (41, false))⟩, [0, 41], []),
             (⟨some 43, .mv (.tmp 5), (some (41, false))⟩, [5, 41], [25]),
             (⟨some 44, .iaddr 5 (.tmp 42) (.tmp 43), (some (41, false))⟩, [42, 43, 41], []),
             (⟨some 45, .faddr 3 (.tmp 44), (some (41, false))⟩, [44, 41], []),
             (⟨some 46, .faddr 1 (.tmp 45), (some (41, false))⟩, [45, 41], []),
             (⟨some 47, .load 80 false 1 (.tmp 46), (some (41, false))⟩, [46, 41], []),
             (⟨some 48, .mv (.tmp 1), (some (41, false))⟩, [1, 41], [30, 29, 28, 27, 26, 25]),
             (⟨some 49, .mv (.tmp 5), (some (41, false))⟩, [5, 41], [31, 30, 29, 28, 27, 26, 25]),
             (⟨some 50, .iaddr 5 (.tmp 48) (.tmp 49), (some (41, false))⟩, [48, 49, 41], [30, 29, 28, 27, 26, 25]),
             (⟨some 51, .faddr 3 (.tmp 50), (some (41, false))⟩, [50, 41], [30, 29, 28, 27, 26, 25]),
             (⟨some 52, .faddr 1 (.tmp 51), (some (41, false))⟩, [51, 41], [30, 29, 28, 27, 26, 25]),
             (⟨some 53, .load 80 false 1 (.tmp 52), (some (41, false))⟩, [52, 41], [30, 29, 28, 27, 26, 25]),
             (⟨some 54, .call (.func 185) [(.tmp 47), (.tmp 53)], (some (41, false))⟩, [47, 53, 41], []),
             (⟨some 55, .un .not (.tmp 54), (some (41, false))⟩, [54, 41], []),
             (⟨some 56, .pick (.tmp 41) (.const (.bool true)) (.tmp 55), none⟩, [41, 55], [])])
          (.cond (.tmp 56)
            (.seq (.reg [⟨some 4, .mv (.const (.bool false)), none⟩])
            .ret)
            (.skip)))
theorem g56 : Γ 117 = some (refF6 57 inner56) := (rfl)
theorem g49 : Γ 124 = some (eqF 148 5 #[(.int .i64 0), (.int .i64 0), (.int .i64 0), (.int .i64 0), (.slice none 0 0)] 3) := (rfl)
theorem f50 (x y : RedirD) (r : Bool) (h : ∀ s, pcall Tryz.prog Γ ext 186 [x.parts, y.parts] s = some (.sc (.bool r), s)) (s : PS) : pcall Tryz.prog Γ ext 125 [.agg x.cells, .agg y.cells] s = some (.sc (.bool (x.eqB y r)), s) := by
  have h47 := f47 (ext := ext) ⟨x.tpos, x.parts⟩ ⟨y.tpos, y.parts⟩ r h
  simp only [WordD.cells] at h47
  rw [pcall_u (fn := p125) (by rfl) _ _ (by simp [p125])]
  cases e1 : x.fd == y.fd with
  | false => simp -implicitDefEqProofs only [p125, pcode_seq, pcode_r, pcode_ret, pops_u, pops_g, pops_nil, runK_some, runG_false, actP, opP, initP, Nat.zero_add, Nat.reduceAdd, guardP, Option.map_some, Option.bind_some, pval_tmp, pval_const, set_at, Nat.reduceEqDiff, cellsP, ↓reduceIte, pvOf, seq_n, asBool_b, regE_some, new_h, new_n, new_w, ld_ptr, ofCells, List.length_cons, List.length_nil, Nat.left_eq_add, Nat.one_ne_zero, Nat.reduceLeDiff, Nat.zero_le, and_self, List.drop_succ_cons, List.drop_zero, List.take_succ_cons, List.take_zero, Nat.le_refl, bin_eql, b_tt, leaveP, resP, oneRes, frz, frz2, frz1, endK_r, Bool.false_eq_true, RedirD.cells, RedirD.eqB, e1, Bool.false_and]
  | true =>
    cases e2 : x.op == y.op with
    | false => simp -implicitDefEqProofs only [p125, pcode_seq, pcode_r, pcode_ret, pops_u, pops_g, pops_nil, runK_some, runG_true, runG_false, actP, opP, initP, Nat.zero_add, Nat.reduceAdd, guardP, Option.map_some, Option.bind_some, pval_tmp, pval_const, set_at, Nat.reduceEqDiff, cellsP, ↓reduceIte, pvOf, seq_n, asBool_b, regE_some, new_h, new_n, new_w, ld_ptr, ofCells, List.length_cons, List.length_nil, Nat.left_eq_add, Nat.one_ne_zero, Nat.reduceLeDiff, Nat.zero_le, and_self, List.drop_succ_cons, List.drop_zero, List.take_succ_cons, List.take_zero, Nat.le_refl, bin_eql, beq_self_eq_true, b_tt, leaveP, resP, oneRes, frz, frz2, frz1, endK_r, Bool.false_eq_true, RedirD.cells, RedirD.eqB, e1, e2, Bool.false_and, Bool.true_and]
    | true => simp -implicitDefEqProofs only [p125, pcode_seq, pcode_r, pcode_ret, pops_u, pops_g, pops_nil, runK_some, runG_true, actP, opP, initP, Nat.zero_add, Nat.reduceAdd, guardP, Option.map_some, Option.bind_some, pval_tmp, pval_const, pval_func, set_at, Nat.reduceEqDiff, cellsP, ↓reduceIte, pvOf, seq_n, asBool_b, regE_some, new_h, new_n, new_w, ld_ptr, ofCells, List.length_cons, List.length_nil, Nat.left_eq_add, Nat.one_ne_zero, Nat.reduceLeDiff, Nat.zero_le, and_self, List.drop_succ_cons, List.drop_zero, List.take_succ_cons, List.take_zero, Nat.le_refl, bin_eql, beq_self_eq_true, callP, leaveP, resP, oneRes, frz, frz2, frz1, List.map_cons, List.map_nil, List.nil_append, List.append_nil, endK_r, Bool.false_eq_true, RedirD.cells, RedirD.eqB, e1, e2, h47, Bool.true_and]
theorem in56 (x y : RedirD) (r : Bool) (h : ∀ s, pcall Tryz.prog Γ ext 185 [x.parts, y.parts] s = some (.sc (.bool r), s)) : InnerOK Tryz.prog Γ ext 148 RedirD.cells inner56 x y (x.eqB y r) := by
  intro l m i hl hm f s hin
  obtain ⟨l, rfl⟩ : ∃ k, l = some k := by cases l with | none => simp at hl | some k => exact ⟨k, rfl⟩
  obtain ⟨m, rfl⟩ : ∃ k, m = some k := by cases m with | none => simp at hm | some k => exact ⟨k, rfl⟩
  obtain ⟨ha, hb, hii⟩ := hin
  simp only [slP, Option.getD_some] at ha hb hl hm
  have hi : i < l.length := (List.getElem?_eq_some_iff.1 hl).1
  have hj : i < m.length := (List.getElem?_eq_some_iff.1 hm).1
  have h1 := flat_len RedirD.len l
  have h2 := flat_len RedirD.len m
  obtain ⟨r1, h3⟩ := flat_at RedirD.len hl
  obtain ⟨r2, h4⟩ := flat_at RedirD.len hm
  have c1 : (bne x.fd y.fd) = !(x.fd == y.fd) := (rfl)
  have c2 : (bne x.op y.op) = !(x.op == y.op) := (rfl)
  unfold RedirD.eqB
  cases e1 : x.fd == y.fd with
  | false =>
    simp -implicitDefEqProofs only [inner56, pcode_seq, pcode_r, pcode_ret, pcode_skip, pcode_cond, pcode_block, pops_u, pops_nil, runK_some, actP, opP, Nat.zero_add, Nat.reduceAdd, guardP, Option.map_some, Option.bind_some, pval_tmp, pval_const, pval_func, set_at, Nat.reduceEqDiff, ↓reduceIte, pvOf, seq_n, blk_r, cond_t, asBool_b, regE_some, ofCells, List.length_cons, Nat.one_ne_zero, Nat.reduceLeDiff, and_self, true_and, List.drop_succ_cons, List.drop_zero, List.take_succ_cons, List.take_zero, bin_neq, Bool.not_true, Bool.not_false, b_ff, List.nil_append, List.cons_append, Bool.false_eq_true, reduceCtorEq, natP_cast, pcode_d, pdraw_nil, pdraw_u, pdraw_g, drK_some, drG_false, only_at, effO, effA, pureI, okAll_nil, okAll_cons, okPair_e, okPair_li, List.mem_cons, List.not_mem_nil, or_false, or_true, or_self, implies_true, false_implies, forall_const, ha, hb, hii, hi, hj, h1, h2, h3, h4, ld_litp, RedirD.cells, pu87, c1, e1, Bool.false_and]
    exact ⟨_, _, rfl, by simp -implicitDefEqProofs only [set_at, ↓reduceIte], fun n0 w1 w2 => ⟨w1, w2⟩⟩
  | true =>
    cases e2 : x.op == y.op with
    | false =>
      simp -implicitDefEqProofs only [inner56, pcode_seq, pcode_r, pcode_ret, pcode_skip, pcode_cond, pcode_block, pops_u, pops_nil, runK_some, actP, opP, Nat.zero_add, Nat.reduceAdd, guardP, Option.map_some, Option.bind_some, pval_tmp, pval_const, pval_func, set_at, Nat.reduceEqDiff, ↓reduceIte, pvOf, seq_n, blk_r, cond_t, asBool_b, regE_some, ofCells, List.length_cons, Nat.one_ne_zero, Nat.reduceLeDiff, and_self, true_and, List.drop_succ_cons, List.drop_zero, List.take_succ_cons, List.take_zero, bin_neq, beq_self_eq_true, Bool.not_true, Bool.not_false, b_ff, List.nil_append, List.cons_append, Bool.false_eq_true, reduceCtorEq, natP_cast, pcode_d, pdraw_nil, pdraw_u, pdraw_g, drK_some, drG_true, drG_false, only_at, effO, effA, pureI, okAll_nil, okAll_cons, okPair_e, okPair_li, List.mem_cons, List.not_mem_nil, or_false, or_true, or_self, implies_true, false_implies, forall_const, ha, hb, hii, hi, hj, h1, h2, h3, h4, ld_litp, RedirD.cells, pu87, c1, c2, e1, e2, Bool.false_and, Bool.true_and]
      exact ⟨_, _, rfl, by simp -implicitDefEqProofs only [set_at, ↓reduceIte], fun n0 w1 w2 => ⟨w1, w2⟩⟩
    | true =>
      cases r with
      | false =>
        simp -implicitDefEqProofs only [inner56, pcode_seq, pcode_r, pcode_ret, pcode_skip, pcode_cond, pcode_block, pops_u, pops_nil, runK_some, actP, opP, Nat.zero_add, Nat.reduceAdd, guardP, Option.map_some, Option.bind_some, pval_tmp, pval_const, pval_func, set_at, Nat.reduceEqDiff, ↓reduceIte, pvOf, seq_n, blk_r, cond_t, asBool_b, regE_some, ofCells, List.length_cons, Nat.one_ne_zero, Nat.reduceLeDiff, and_self, true_and, List.drop_succ_cons, List.drop_zero, List.take_succ_cons, List.take_zero, bin_neq, un_not, beq_self_eq_true, Bool.not_true, Bool.not_false, callP, List.map_cons, List.map_nil, List.nil_append, List.append_nil, List.cons_append, Bool.false_eq_true, reduceCtorEq, natP_cast, pcode_d, pdraw_nil, pdraw_u, pdraw_g, drK_some, drG_true, only_at, effO, effA, pureI, okAll_nil, okAll_cons, okPair_e, okPair_li, List.mem_cons, List.not_mem_nil, or_false, or_true, or_self, implies_true, false_implies, forall_const, ha, hb, hii, hi, hj, h1, h2, h3, h4, ld_litp, RedirD.cells, pu87, c1, c2, e1, e2, h, Bool.true_and]
        exact ⟨_, _, rfl, by simp -implicitDefEqProofs only [set_at, ↓reduceIte], fun n0 w1 w2 => ⟨w1, w2⟩⟩
      | true =>
        simp -implicitDefEqProofs only [inner56, pcode_seq, pcode_r, pcode_ret, pcode_skip, pcode_cond, pcode_block, pops_u, pops_nil, runK_some, actP, opP, Nat.zero_add, Nat.reduceAdd, guardP, Option.map_some, Option.bind_some, pval_tmp, pval_const, pval_func, set_at, Nat.reduceEqDiff, ↓reduceIte, pvOf, seq_n, blk_n, cond_f, asBool_b, regE_some, ofCells, List.length_cons, Nat.one_ne_zero, Nat.reduceLeDiff, and_self, true_and, List.drop_succ_cons, List.drop_zero, List.take_succ_cons, List.take_zero, bin_neq, un_not, beq_self_eq_true, Bool.not_true, callP, List.map_cons, List.map_nil, List.nil_append, List.append_nil, List.cons_append, Bool.true_eq_false, Bool.false_eq_true, reduceCtorEq, natP_cast, pcode_d, pdraw_nil, pdraw_u, pdraw_g, drK_some, drG_true, only_at, effO, effA, pureI, okAll_nil, okAll_cons, okPair_e, okPair_li, List.mem_cons, List.not_mem_nil, or_false, or_true, or_self, implies_true, false_implies, forall_const, ha, hb, hii, hi, hj, h1, h2, h3, h4, ld_litp, RedirD.cells, pu87, c1, c2, e1, e2, h, Bool.true_and]
        exact ⟨_, _, rfl, ⟨by simp -implicitDefEqProofs only [set_at, ↓reduceIte, reduceCtorEq, ha], by simp -implicitDefEqProofs only [set_at, Nat.reduceEqDiff, ↓reduceIte, hb], by simp -implicitDefEqProofs only [set_at, Nat.reduceEqDiff, ↓reduceIte, hii]⟩, fun n0 w1 w2 => ⟨w1, w2⟩⟩
def RedirsAt (d : Nat) (p : PV) : Prop := ∃ l : Option (List RedirD), p = slP 148 RedirD.cells l ∧ (l.getD []).length < 4611686018427387904 ∧ ∀ x ∈ l.getD [], PartsAt d x.parts
theorem redirs_same {d : Nat} {a b : PV} (ha : RedirsAt d a) (hb : RedirsAt d b) : ∃ r, (∀ s, pcall Tryz.prog Γ ext 124 [a, b, .fn 125 [] []] s = some (.sc (.bool r), s)) ∧ ∀ s, pcall Tryz.prog Γ ext 117 [a, b] s = some (.sc (.bool r), s) := by
  obtain ⟨l, rfl, hl, hl'⟩ := ha
  obtain ⟨m, rfl, hm, hm'⟩ := hb
  refine two_same RedirD.len (by rfl) g49 g56 (by omega) (fun x hx => ?_) hl (fun x hx y hy => ?_)
  · have : PartsAt d x.parts := hx.elim (hl' x) (hm' x)
    simp only [RedirD.cells, List.all_cons, List.all_nil, this.one, Bool.and_true]; rfl
  · obtain ⟨r, h1, h2⟩ := parts_same (ext := ext) d x.parts y.parts (hl' x hx) (hm' y hy)
    exact ⟨_, fun s => f50 x y r h1 s, in56 x y r h2⟩
end Go.Proofs.YtflfflfodghgpaaGreatDoor


namespace Go.Proofs.YtflfflfodghgpaaGreatDoor
open Go Go.EvL Go.PE
variable {ext : PCallF}
structure NodeD where
  kind : Int
  pos : Int
  name : ByteArray
  all : Bool
  assigns : PV
  words : PV
  redirs : PV
  kids : PV
  items : PV
def NodeD.cells (x : NodeD) : List PV := [.sc (.int .i64 x.kind), .sc (.int .i64 x.pos), .sc (.string x.name), .sc (.bool x.all), x.assigns, x.words, x.redirs, x.kids, x.items]
theorem NodeD.len (x : NodeD) : x.cells.length = 9 := (rfl)
structure ItemD where
  pats : PV
  body : PV
def ItemD.cells (x : ItemD) : List PV := [x.pats, x.body]
theorem ItemD.len (x : ItemD) : x.cells.length = 2 := (rfl)
def inner57 : PCode := (.seq (.draw [(⟨some 17, .mv (.tmp 0), none⟩, [0], []),
             (⟨some 18, .mv (.tmp 5), none⟩, [5], [0]),
             (⟨some 19, .iaddr 9 (.tmp 17) (.tmp 18), none⟩, [17, 18], []),
             (⟨some 20, .load 28 true 9 (.tmp 19), none⟩, [19], []),
             (⟨some 21, .mv (.tmp 1), none⟩, [1], [3, 2, 1, 0]),
             (⟨some 22, .mv (.tmp 5), none⟩, [5], [4, 3, 2, 1, 0]),
             (⟨some 23, .iaddr 9 (.tmp 21) (.tmp 22), none⟩, [21, 22], [3, 2, 1, 0]),
             (⟨some 24, .load 28 true 9 (.tmp 23), none⟩, [23], [3, 2, 1, 0]),
             (⟨some 25, .call (.func 56) [(.tmp 20), (.tmp 24)], none⟩, [20, 24], []),
             (⟨some 26, .un .not (.tmp 25), none⟩, [25], [])])
          (.cond (.tmp 26)
            (.seq (.reg [⟨some 4, .mv (.const (.bool false)), none⟩])
            .ret)
            (.skip)))
def inner58 : PCode := (.seq (.draw [(⟨some 17, .mv (.tmp 0), none⟩, [0], []),
             (⟨some 18, .mv (.tmp 5), none⟩, [5], [0]),
             (⟨some 19, .iaddr 2 (.tmp 17) (.tmp 18), none⟩, [17, 18], []),
             (⟨some 20, .faddr 0 (.tmp 19), none⟩, [19], []),
             (⟨some 21, .load 23 false 1 (.tmp 20), none⟩, [20], []),
             (⟨some 22, .mv (.tmp 1), none⟩, [1], [4, 3, 2, 1, 0]),
             (⟨some 23, .mv (.tmp 5), none⟩, [5], [5, 4, 3, 2, 1, 0]),
             (⟨some 24, .iaddr 2 (.tmp 22) (.tmp 23), none⟩, [22, 23], [4, 3, 2, 1, 0]),
             (⟨some 25, .faddr 0 (.tmp 24), none⟩, [24], [4, 3, 2, 1, 0]),
             (⟨some 26, .load 23 false 1 (.tmp 25), none⟩, [25], [4, 3, 2, 1, 0]),
             (⟨some 27, .call (.func 116) [(.tmp 21), (.tmp 26)], none⟩, [21, 26], []),
             (⟨some 28, .un .not (.tmp 27), none⟩, [27], []),
             (⟨some 29, .mv (.tmp 28), none⟩, [28], []),
             (⟨some 30, .mv (.tmp 0), (some (29, false))⟩, [0, 29], []),
             (⟨some 31, .mv (.tmp 5), (some (29, false))⟩, [5, 29], [13]),
             (⟨some 32, .iaddr 2 (.tmp 30) (.tmp 31), (some (29, false))⟩, [30, 31, 29], []),
             (⟨some 33, .faddr 1 (.tmp 32), (some (29, false))⟩, [32, 29], []),
             (⟨some 34, .load 25 false 1 (.tmp 33), (some (29, false))⟩, [33, 29], []),
             (⟨some 35, .mv (.tmp 1), (some (29, false))⟩, [1, 29], [17, 16, 15, 14, 13]),
             (⟨some 36, .mv (.tmp 5), (some (29, false))⟩, [5, 29], [18, 17, 16, 15, 14, 13]),
             (⟨some 37, .iaddr 2 (.tmp 35) (.tmp 36), (some (29, false))⟩, [35, 36, 29], [17, 16, 15, 14, 13]),
             (⟨some 38, .faddr 1 (.tmp 37), (some (29, false))⟩, [37, 29], [17, 16, 15, 14, 13]),
             (⟨some 39, .load 25 false 1 (.tmp 38), (some (29, false))⟩, [38, 29], [17, 16, 15, 14, 13]),
             (⟨some 40, .call (.func 118) [(.tmp 34), (.tmp 39)], (some (29, false))⟩, [34, 39, 29], []),
             (⟨some 41, .un .not (.tmp 40), (some (29, false))⟩, [40, 29], []),
             (⟨some 42, .pick (.tmp 29) (.const (.bool true)) (.tmp 41), none⟩, [29, 41], [])])
          (.cond (.tmp 42)
            (.seq (.reg [⟨some 4, .mv (.const (.bool false)), none⟩])
            .ret)
            (.skip)))
theorem pu21 : puOf Γ 56 = true := (rfl)
theorem pu55 : puOf Γ 116 = true := (rfl)
theorem pu57 : puOf Γ 118 = true := (rfl)
theorem g57 : Γ 118 = some (refF6 27 inner57) := (rfl)
theorem g58 : Γ 119 = some (refF6 43 inner58) := (rfl)
theorem g51 : Γ 126 = some (eqF 28 9 #[(.int .i64 0), (.int .i64 0), (.string ⟨#[]⟩), (.bool false), (.slice none 0 0), (.slice none 0 0), (.slice none 0 0), (.slice none 0 0), (.slice none 0 0)] 3) := (rfl)
theorem g52 : Γ 127 = some (eqF 150 2 #[(.slice none 0 0), (.slice none 0 0)] 3) := (rfl)
theorem in57 (x y : NodeD) (r : Bool) (h : ∀ s, pcall Tryz.prog Γ ext 56 [.agg x.cells, .agg y.cells] s = some (.sc (.bool r), s)) : InnerOK Tryz.prog Γ ext 28 NodeD.cells inner57 x y r := by
  intro l m i hl hm f s hin
  obtain ⟨l, rfl⟩ : ∃ k, l = some k := by cases l with | none => simp at hl | some k => exact ⟨k, rfl⟩
  obtain ⟨m, rfl⟩ : ∃ k, m = some k := by cases m with | none => simp at hm | some k => exact ⟨k, rfl⟩
  obtain ⟨ha, hb, hii⟩ := hin
  simp only [slP, Option.getD_some] at ha hb hl hm
  have hi : i < l.length := (List.getElem?_eq_some_iff.1 hl).1
  have hj : i < m.length := (List.getElem?_eq_some_iff.1 hm).1
  have h1 := flat_len NodeD.len l
  have h2 := flat_len NodeD.len m
  obtain ⟨r1, h3⟩ := flat_at NodeD.len hl
  obtain ⟨r2, h4⟩ := flat_at NodeD.len hm
  simp only [NodeD.cells] at h
  cases r with
  | false =>
    simp -implicitDefEqProofs only [inner57, pcode_seq, pcode_r, pcode_ret, pcode_skip, pcode_cond, pcode_block, pops_u, pops_nil, runK_some, actP, opP, Nat.zero_add, Nat.reduceAdd, Option.map_some, Option.bind_some, pval_tmp, pval_const, pval_func, set_at, Nat.reduceEqDiff, ↓reduceIte, pvOf, seq_n, blk_r, cond_t, asBool_b, regE_some, ofCells, List.length_cons, Nat.one_ne_zero, Nat.reduceLeDiff, and_self, true_and, List.take_succ_cons, List.take_zero, un_not, Bool.not_false, callP, List.map_cons, List.map_nil, List.nil_append, List.append_nil, List.cons_append, Bool.false_eq_true, reduceCtorEq, natP_cast, pcode_d, pdraw_nil, pdraw_u, drK_some, only_at, effO, effA, pureI, okAll_nil, okAll_cons, okPair_e, okPair_li, List.mem_cons, List.not_mem_nil, or_false, or_true, or_self, implies_true, false_implies, forall_const, ha, hb, hii, hi, hj, h1, h2, h3, h4, ld_litp, NodeD.cells, pu21, h]
    exact ⟨_, _, rfl, by simp -implicitDefEqProofs only [set_at, ↓reduceIte], fun n0 w1 w2 => ⟨w1, w2⟩⟩
  | true =>
    simp -implicitDefEqProofs only [inner57, pcode_seq, pcode_r, pcode_ret, pcode_skip, pcode_cond, pcode_block, pops_u, pops_nil, runK_some, actP, opP, Nat.zero_add, Nat.reduceAdd, Option.map_some, Option.bind_some, pval_tmp, pval_const, pval_func, set_at, Nat.reduceEqDiff, ↓reduceIte, pvOf, seq_n, blk_n, cond_f, asBool_b, regE_some, ofCells, List.length_cons, Nat.one_ne_zero, Nat.reduceLeDiff, and_self, true_and, List.take_succ_cons, List.take_zero, un_not, Bool.not_true, callP, List.map_cons, List.map_nil, List.nil_append, List.append_nil, List.cons_append, Bool.true_eq_false, reduceCtorEq, natP_cast, pcode_d, pdraw_nil, pdraw_u, drK_some, only_at, effO, effA, pureI, okAll_nil, okAll_cons, okPair_e, okPair_li, List.mem_cons, List.not_mem_nil, or_false, or_true, or_self, implies_true, false_implies, forall_const, ha, hb, hii, hi, hj, h1, h2, h3, h4, ld_litp, NodeD.cells, pu21, h]
    exact ⟨_, _, rfl, ⟨by simp -implicitDefEqProofs only [set_at, ↓reduceIte, reduceCtorEq, ha], by simp -implicitDefEqProofs only [set_at, Nat.reduceEqDiff, ↓reduceIte, hb], by simp -implicitDefEqProofs only [set_at, Nat.reduceEqDiff, ↓reduceIte, hii]⟩, fun n0 w1 w2 => ⟨w1, w2⟩⟩
theorem in58 (x y : ItemD) (r q : Bool) (h : ∀ s, pcall Tryz.prog Γ ext 116 [x.pats, y.pats] s = some (.sc (.bool r), s)) (k : ∀ s, pcall Tryz.prog Γ ext 118 [x.body, y.body] s = some (.sc (.bool q), s)) : InnerOK Tryz.prog Γ ext 150 ItemD.cells inner58 x y (r && q) := by
  intro l m i hl hm f s hin
  obtain ⟨l, rfl⟩ : ∃ k, l = some k := by cases l with | none => simp at hl | some k => exact ⟨k, rfl⟩
  obtain ⟨m, rfl⟩ : ∃ k, m = some k := by cases m with | none => simp at hm | some k => exact ⟨k, rfl⟩
  obtain ⟨ha, hb, hii⟩ := hin
  simp only [slP, Option.getD_some] at ha hb hl hm
  have hi : i < l.length := (List.getElem?_eq_some_iff.1 hl).1
  have hj : i < m.length := (List.getElem?_eq_some_iff.1 hm).1
  have h1 := flat_len ItemD.len l
  have h2 := flat_len ItemD.len m
  obtain ⟨r1, h3⟩ := flat_at ItemD.len hl
  obtain ⟨r2, h4⟩ := flat_at ItemD.len hm
  cases r with
  | false =>
    simp -implicitDefEqProofs only [inner58, pcode_seq, pcode_r, pcode_ret, pcode_skip, pcode_cond, pcode_block, pops_u, pops_nil, runK_some, actP, opP, Nat.zero_add, Nat.reduceAdd, guardP, Option.map_some, Option.bind_some, pval_tmp, pval_const, pval_func, set_at, Nat.reduceEqDiff, ↓reduceIte, pvOf, seq_n, blk_r, cond_t, asBool_b, regE_some, ofCells, List.length_cons, Nat.one_ne_zero, Nat.reduceLeDiff, Nat.zero_le, and_self, true_and, List.drop_zero, List.take_succ_cons, List.take_zero, un_not, Bool.not_true, Bool.not_false, callP, b_ff, List.map_cons, List.map_nil, List.nil_append, List.append_nil, List.cons_append, Bool.false_eq_true, reduceCtorEq, natP_cast, pcode_d, pdraw_nil, pdraw_u, pdraw_g, drK_some, drG_false, only_at, effO, effA, pureI, okAll_nil, okAll_cons, okPair_e, okPair_li, List.mem_cons, List.not_mem_nil, or_false, or_true, or_self, implies_true, false_implies, forall_const, ha, hb, hii, hi, hj, h1, h2, h3, h4, ld_litp, ItemD.cells, pu55, pu57, h, Bool.false_and]
    exact ⟨_, _, rfl, by simp -implicitDefEqProofs only [set_at, ↓reduceIte], fun n0 w1 w2 => ⟨w1, w2⟩⟩
  | true =>
    cases q with
    | false =>
      simp -implicitDefEqProofs only [inner58, pcode_seq, pcode_r, pcode_ret, pcode_skip, pcode_cond, pcode_block, pops_u, pops_nil, runK_some, actP, opP, Nat.zero_add, Nat.reduceAdd, guardP, Option.map_some, Option.bind_some, pval_tmp, pval_const, pval_func, set_at, Nat.reduceEqDiff, ↓reduceIte, pvOf, seq_n, blk_r, cond_t, asBool_b, regE_some, ofCells, List.length_cons, Nat.one_ne_zero, Nat.reduceLeDiff, Nat.zero_le, and_self, true_and, List.drop_succ_cons, List.drop_zero, List.take_succ_cons, List.take_zero, un_not, beq_self_eq_true, Bool.not_true, Bool.not_false, callP, List.map_cons, List.map_nil, List.nil_append, List.append_nil, List.cons_append, Bool.true_eq_false, Bool.false_eq_true, reduceCtorEq, natP_cast, pcode_d, pdraw_nil, pdraw_u, pdraw_g, drK_some, drG_true, only_at, effO, effA, pureI, okAll_nil, okAll_cons, okPair_e, okPair_li, List.mem_cons, List.not_mem_nil, or_false, or_true, or_self, implies_true, false_implies, forall_const, ha, hb, hii, hi, hj, h1, h2, h3, h4, ld_litp, ItemD.cells, pu55, pu57, h, k, Bool.true_and]
      exact ⟨_, _, rfl, by simp -implicitDefEqProofs only [set_at, ↓reduceIte], fun n0 w1 w2 => ⟨w1, w2⟩⟩
    | true =>
      simp -implicitDefEqProofs only [inner58, pcode_seq, pcode_r, pcode_ret, pcode_skip, pcode_cond, pcode_block, pops_u, pops_nil, runK_some, actP, opP, Nat.zero_add, Nat.reduceAdd, guardP, Option.map_some, Option.bind_some, pval_tmp, pval_const, pval_func, set_at, Nat.reduceEqDiff, ↓reduceIte, pvOf, seq_n, blk_n, cond_f, asBool_b, regE_some, ofCells, List.length_cons, Nat.one_ne_zero, Nat.reduceLeDiff, Nat.zero_le, and_self, true_and, List.drop_succ_cons, List.drop_zero, List.take_succ_cons, List.take_zero, un_not, beq_self_eq_true, Bool.not_true, callP, List.map_cons, List.map_nil, List.nil_append, List.append_nil, List.cons_append, Bool.true_eq_false, Bool.false_eq_true, reduceCtorEq, natP_cast, pcode_d, pdraw_nil, pdraw_u, pdraw_g, drK_some, drG_true, only_at, effO, effA, pureI, okAll_nil, okAll_cons, okPair_e, okPair_li, List.mem_cons, List.not_mem_nil, or_false, or_true, or_self, implies_true, false_implies, forall_const, ha, hb, hii, hi, hj, h1, h2, h3, h4, ld_litp, ItemD.cells, pu55, pu57, h, k, Bool.true_and]
      exact ⟨_, _, rfl, ⟨by simp -implicitDefEqProofs only [set_at, ↓reduceIte, reduceCtorEq, ha], by simp -implicitDefEqProofs only [set_at, Nat.reduceEqDiff, ↓reduceIte, hb], by simp -implicitDefEqProofs only [set_at, Nat.reduceEqDiff, ↓reduceIte, hii]⟩, fun n0 w1 w2 => ⟨w1, w2⟩⟩
theorem f53 (x y : ItemD) (r q : Bool) (h : ∀ s, pcall Tryz.prog Γ ext 123 [x.pats, y.pats, .fn 122 [] []] s = some (.sc (.bool r), s)) (k : ∀ s, pcall Tryz.prog Γ ext 126 [x.body, y.body, .fn 60 [] []] s = some (.sc (.bool q), s)) (s : PS) : pcall Tryz.prog Γ ext 128 [.agg x.cells, .agg y.cells] s = some (.sc (.bool (r && q)), s) := by
  rw [pcall_u (fn := p128) (by rfl) _ _ (by simp [p128])]
  cases r with
  | false => simp -implicitDefEqProofs only [p128, pcode_seq, pcode_r, pcode_ret, pops_u, pops_g, pops_nil, runK_some, runG_false, actP, opP, initP, Nat.zero_add, Nat.add_zero, Nat.reduceAdd, guardP, Option.map_some, Option.bind_some, pval_tmp, pval_const, pval_func, set_at, Nat.reduceEqDiff, cellsP, ↓reduceIte, pvOf, seq_n, asBool_b, regE_some, new_h, new_n, new_w, ld_ptr, ofCells, List.length_cons, List.length_nil, Nat.left_eq_add, Nat.one_ne_zero, Nat.reduceLeDiff, Nat.zero_le, and_self, List.drop_zero, List.take_succ_cons, List.take_zero, Nat.le_refl, callP, b_tt, leaveP, resP, oneRes, frz, frz2, frz1, List.map_cons, List.map_nil, List.nil_append, List.append_nil, endK_r, Bool.false_eq_true, ItemD.cells, h, Bool.false_and]
  | true => simp -implicitDefEqProofs only [p128, pcode_seq, pcode_r, pcode_ret, pops_u, pops_g, pops_nil, runK_some, runG_true, actP, opP, initP, Nat.zero_add, Nat.add_zero, Nat.reduceAdd, guardP, Option.map_some, Option.bind_some, pval_tmp, pval_const, pval_func, set_at, Nat.reduceEqDiff, cellsP, ↓reduceIte, pvOf, seq_n, asBool_b, regE_some, new_h, new_n, new_w, ld_ptr, ofCells, List.length_cons, List.length_nil, Nat.left_eq_add, Nat.one_ne_zero, Nat.reduceLeDiff, Nat.zero_le, and_self, List.drop_succ_cons, List.drop_zero, List.take_succ_cons, List.take_zero, Nat.le_refl, beq_self_eq_true, callP, leaveP, resP, oneRes, frz, frz2, frz1, List.map_cons, List.map_nil, List.nil_append, List.append_nil, endK_r, Bool.false_eq_true, ItemD.cells, h, k, Bool.true_and]
end Go.Proofs.YtflfflfodghgpaaGreatDoor


namespace Go.Proofs.YtflfflfodghgpaaGreatDoor
open Go Go.EvL Go.PE
variable {ext : PCallF}
def eqN (x y : NodeD) (a w q k i : Bool) : Bool := x.kind == y.kind && (x.name.toList == y.name.toList && (x.all == y.all && (a && (w && (q && (k && i))))))
set_option maxHeartbeats 1000000 in
theorem f20 (x y : NodeD) (a w q k i : Bool) (hA : ∀ s, pcall Tryz.prog Γ ext 120 [x.assigns, y.assigns, .fn 121 [] []] s = some (.sc (.bool a), s)) (hW : ∀ s, pcall Tryz.prog Γ ext 123 [x.words, y.words, .fn 122 [] []] s = some (.sc (.bool w), s)) (hR : ∀ s, pcall Tryz.prog Γ ext 124 [x.redirs, y.redirs, .fn 125 [] []] s = some (.sc (.bool q), s)) (hK : ∀ s, pcall Tryz.prog Γ ext 126 [x.kids, y.kids, .fn 60 [] []] s = some (.sc (.bool k), s)) (hI : ∀ s, pcall Tryz.prog Γ ext 127 [x.items, y.items, .fn 128 [] []] s = some (.sc (.bool i), s)) (s : PS) :
    pcall Tryz.prog Γ ext 60 [.agg x.cells, .agg y.cells] s = some (.sc (.bool (eqN x y a w q k i)), s) := by
  rw [pcall_u (fn := p60) (by rfl) _ _ (by simp [p60])]
  cases e1 : x.kind == y.kind with
  | false => simp -implicitDefEqProofs only [p60, pcode_seq, pcode_r, pcode_ret, pops_u, pops_g, pops_nil, runK_some, runG_false, actP, opP, initP, Nat.zero_add, Nat.add_zero, Nat.reduceAdd, guardP, Option.map_some, Option.bind_some, pval_tmp, pval_const, set_at, Nat.reduceEqDiff, cellsP, ↓reduceIte, pvOf, seq_n, asBool_b, regE_some, new_h, new_n, new_w, ld_ptr, ofCells, List.length_cons, List.length_nil, Nat.left_eq_add, Nat.one_ne_zero, Nat.reduceLeDiff, Nat.zero_le, and_self, List.drop_zero, List.take_succ_cons, List.take_zero, Nat.le_refl, bin_eql, b_tt, leaveP, resP, oneRes, frz, frz2, frz1, endK_r, Bool.false_eq_true, NodeD.cells, eqN, e1, Bool.false_and]
  | true =>
    cases e2 : x.name.toList == y.name.toList with
    | false => simp -implicitDefEqProofs only [p60, pcode_seq, pcode_r, pcode_ret, pops_u, pops_g, pops_nil, runK_some, runG_true, runG_false, actP, opP, initP, Nat.zero_add, Nat.add_zero, Nat.reduceAdd, guardP, Option.map_some, Option.bind_some, pval_tmp, pval_const, set_at, Nat.reduceEqDiff, cellsP, ↓reduceIte, pvOf, seq_n, asBool_b, regE_some, new_h, new_n, new_w, ld_ptr, ofCells, List.length_cons, List.length_nil, Nat.left_eq_add, Nat.one_ne_zero, Nat.reduceLeDiff, Nat.zero_le, and_self, List.drop_succ_cons, List.drop_zero, List.take_succ_cons, List.take_zero, Nat.le_refl, bin_eql, bin_seql, beq_self_eq_true, b_tt, leaveP, resP, oneRes, frz, frz2, frz1, endK_r, Bool.false_eq_true, NodeD.cells, eqN, e1, e2, Bool.false_and, Bool.true_and]
    | true =>
      cases e3 : x.all == y.all with
      | false => simp -implicitDefEqProofs only [p60, pcode_seq, pcode_r, pcode_ret, pops_u, pops_g, pops_nil, runK_some, runG_true, runG_false, actP, opP, initP, Nat.zero_add, Nat.add_zero, Nat.reduceAdd, guardP, Option.map_some, Option.bind_some, pval_tmp, pval_const, set_at, Nat.reduceEqDiff, cellsP, ↓reduceIte, pvOf, seq_n, asBool_b, regE_some, new_h, new_n, new_w, ld_ptr, ofCells, List.length_cons, List.length_nil, Nat.left_eq_add, Nat.one_ne_zero, Nat.reduceLeDiff, Nat.zero_le, and_self, List.drop_succ_cons, List.drop_zero, List.take_succ_cons, List.take_zero, Nat.le_refl, bin_eql, bin_seql, beq_self_eq_true, b_tt, leaveP, resP, oneRes, frz, frz2, frz1, endK_r, Bool.false_eq_true, NodeD.cells, eqN, e1, e2, e3, bin_beql Tryz.underlying4, Bool.false_and, Bool.true_and]
      | true =>
        cases a with
        | false => simp -implicitDefEqProofs only [p60, pcode_seq, pcode_r, pcode_ret, pops_u, pops_g, pops_nil, runK_some, runG_true, runG_false, actP, opP, initP, Nat.zero_add, Nat.add_zero, Nat.reduceAdd, guardP, Option.map_some, Option.bind_some, pval_tmp, pval_const, pval_func, set_at, Nat.reduceEqDiff, cellsP, ↓reduceIte, pvOf, seq_n, asBool_b, regE_some, new_h, new_n, new_w, ld_ptr, ofCells, List.length_cons, List.length_nil, Nat.left_eq_add, Nat.one_ne_zero, Nat.reduceLeDiff, Nat.zero_le, and_self, List.drop_succ_cons, List.drop_zero, List.take_succ_cons, List.take_zero, Nat.le_refl, bin_eql, bin_seql, beq_self_eq_true, callP, b_tt, leaveP, resP, oneRes, frz, frz2, frz1, List.map_cons, List.map_nil, List.nil_append, List.append_nil, endK_r, Bool.false_eq_true, NodeD.cells, eqN, e1, e2, e3, hA, bin_beql Tryz.underlying4, Bool.false_and, Bool.true_and]
        | true =>
          cases w with
          | false => simp -implicitDefEqProofs only [p60, pcode_seq, pcode_r, pcode_ret, pops_u, pops_g, pops_nil, runK_some, runG_true, runG_false, actP, opP, initP, Nat.zero_add, Nat.add_zero, Nat.reduceAdd, guardP, Option.map_some, Option.bind_some, pval_tmp, pval_const, pval_func, set_at, Nat.reduceEqDiff, cellsP, ↓reduceIte, pvOf, seq_n, asBool_b, regE_some, new_h, new_n, new_w, ld_ptr, ofCells, List.length_cons, List.length_nil, Nat.left_eq_add, Nat.one_ne_zero, Nat.reduceLeDiff, Nat.zero_le, and_self, List.drop_succ_cons, List.drop_zero, List.take_succ_cons, List.take_zero, Nat.le_refl, bin_eql, bin_seql, beq_self_eq_true, callP, b_tt, leaveP, resP, oneRes, frz, frz2, frz1, List.map_cons, List.map_nil, List.nil_append, List.append_nil, endK_r, Bool.false_eq_true, NodeD.cells, eqN, e1, e2, e3, hA, hW, bin_beql Tryz.underlying4, Bool.false_and, Bool.true_and]
          | true =>
            cases q with
            | false => simp -implicitDefEqProofs only [p60, pcode_seq, pcode_r, pcode_ret, pops_u, pops_g, pops_nil, runK_some, runG_true, runG_false, actP, opP, initP, Nat.zero_add, Nat.add_zero, Nat.reduceAdd, guardP, Option.map_some, Option.bind_some, pval_tmp, pval_const, pval_func, set_at, Nat.reduceEqDiff, cellsP, ↓reduceIte, pvOf, seq_n, asBool_b, regE_some, new_h, new_n, new_w, ld_ptr, ofCells, List.length_cons, List.length_nil, Nat.left_eq_add, Nat.one_ne_zero, Nat.reduceLeDiff, Nat.zero_le, and_self, List.drop_succ_cons, List.drop_zero, List.take_succ_cons, List.take_zero, Nat.le_refl, bin_eql, bin_seql, beq_self_eq_true, callP, b_tt, leaveP, resP, oneRes, frz, frz2, frz1, List.map_cons, List.map_nil, List.nil_append, List.append_nil, endK_r, Bool.false_eq_true, NodeD.cells, eqN, e1, e2, e3, hA, hW, hR, bin_beql Tryz.underlying4, Bool.false_and, Bool.true_and]
            | true =>
              cases k with
              | false => simp -implicitDefEqProofs only [p60, pcode_seq, pcode_r, pcode_ret, pops_u, pops_g, pops_nil, runK_some, runG_true, runG_false, actP, opP, initP, Nat.zero_add, Nat.add_zero, Nat.reduceAdd, guardP, Option.map_some, Option.bind_some, pval_tmp, pval_const, pval_func, set_at, Nat.reduceEqDiff, cellsP, ↓reduceIte, pvOf, seq_n, asBool_b, regE_some, new_h, new_n, new_w, ld_ptr, ofCells, List.length_cons, List.length_nil, Nat.left_eq_add, Nat.one_ne_zero, Nat.reduceLeDiff, Nat.zero_le, and_self, List.drop_succ_cons, List.drop_zero, List.take_succ_cons, List.take_zero, Nat.le_refl, bin_eql, bin_seql, beq_self_eq_true, callP, b_tt, leaveP, resP, oneRes, frz, frz2, frz1, List.map_cons, List.map_nil, List.nil_append, List.append_nil, endK_r, Bool.false_eq_true, NodeD.cells, eqN, e1, e2, e3, hA, hW, hR, hK, bin_beql Tryz.underlying4, Bool.false_and, Bool.true_and]
              | true =>
                cases i with
                | false => simp -implicitDefEqProofs only [p60, pcode_seq, pcode_r, pcode_ret, pops_u, pops_g, pops_nil, runK_some, runG_true, actP, opP, initP, Nat.zero_add, Nat.add_zero, Nat.reduceAdd, guardP, Option.map_some, Option.bind_some, pval_tmp, pval_const, pval_func, set_at, Nat.reduceEqDiff, cellsP, ↓reduceIte, pvOf, seq_n, asBool_b, regE_some, new_h, new_n, new_w, ld_ptr, ofCells, List.length_cons, List.length_nil, Nat.left_eq_add, Nat.one_ne_zero, Nat.reduceLeDiff, Nat.zero_le, and_self, List.drop_succ_cons, List.drop_zero, List.take_succ_cons, List.take_zero, Nat.le_refl, bin_eql, bin_seql, beq_self_eq_true, callP, leaveP, resP, oneRes, frz, frz2, frz1, List.map_cons, List.map_nil, List.nil_append, List.append_nil, endK_r, Bool.false_eq_true, NodeD.cells, eqN, e1, e2, e3, hA, hW, hR, hK, hI, bin_beql Tryz.underlying4, Bool.and_false]
                | true => simp -implicitDefEqProofs only [p60, pcode_seq, pcode_r, pcode_ret, pops_u, pops_g, pops_nil, runK_some, runG_true, actP, opP, initP, Nat.zero_add, Nat.add_zero, Nat.reduceAdd, guardP, Option.map_some, Option.bind_some, pval_tmp, pval_const, pval_func, set_at, Nat.reduceEqDiff, cellsP, ↓reduceIte, pvOf, seq_n, asBool_b, regE_some, new_h, new_n, new_w, ld_ptr, ofCells, List.length_cons, List.length_nil, Nat.left_eq_add, Nat.one_ne_zero, Nat.reduceLeDiff, Nat.zero_le, and_self, List.drop_succ_cons, List.drop_zero, List.take_succ_cons, List.take_zero, Nat.le_refl, bin_eql, bin_seql, beq_self_eq_true, callP, leaveP, resP, oneRes, frz, frz2, frz1, List.map_cons, List.map_nil, List.nil_append, List.append_nil, endK_r, Bool.false_eq_true, NodeD.cells, eqN, e1, e2, e3, hA, hW, hR, hK, hI, bin_beql Tryz.underlying4, Bool.true_and]
set_option maxHeartbeats 1000000 in
theorem f21 (x y : NodeD) (a w q k i : Bool) (hA : ∀ s, pcall Tryz.prog Γ ext 115 [x.assigns, y.assigns] s = some (.sc (.bool a), s)) (hW : ∀ s, pcall Tryz.prog Γ ext 116 [x.words, y.words] s = some (.sc (.bool w), s)) (hR : ∀ s, pcall Tryz.prog Γ ext 117 [x.redirs, y.redirs] s = some (.sc (.bool q), s)) (hK : ∀ s, pcall Tryz.prog Γ ext 118 [x.kids, y.kids] s = some (.sc (.bool k), s)) (hI : ∀ s, pcall Tryz.prog Γ ext 119 [x.items, y.items] s = some (.sc (.bool i), s)) (s : PS) :
    pcall Tryz.prog Γ ext 56 [.agg x.cells, .agg y.cells] s = some (.sc (.bool (eqN x y a w q k i)), s) := by
  have c1 : (bne x.kind y.kind) = !(x.kind == y.kind) := (rfl)
  rw [pcall_u (fn := p56) (by rfl) _ _ (by simp [p56])]
  cases e1 : x.kind == y.kind with
  | false => simp -implicitDefEqProofs only [p56, pcode_seq, pcode_r, pcode_ret, pcode_skip, pcode_cond, pops_u, pops_g, pops_nil, runK_some, runG_false, actP, opP, initP, Nat.zero_add, Nat.add_zero, Nat.reduceAdd, guardP, Option.map_some, Option.bind_some, pval_tmp, pval_const, set_at, Nat.reduceEqDiff, cellsP, ↓reduceIte, pvOf, seq_n, seq_r, cond_t, asBool_b, regE_some, new_h, new_n, new_w, ld_ptr, ofCells, List.length_cons, List.length_nil, Nat.left_eq_add, Nat.one_ne_zero, Nat.reduceLeDiff, Nat.zero_le, and_self, List.drop_zero, List.take_succ_cons, List.take_zero, Nat.le_refl, bin_neq, Bool.not_true, Bool.not_false, b_ff, leaveP, resP, oneRes, frz, frz2, frz1, endK_r, Bool.false_eq_true, NodeD.cells, eqN, e1, c1, Bool.false_and]
  | true =>
    cases e2 : x.name.toList == y.name.toList with
    | false => simp -implicitDefEqProofs only [p56, pcode_seq, pcode_r, pcode_ret, pcode_skip, pcode_cond, pops_u, pops_g, pops_nil, runK_some, runG_true, runG_false, actP, opP, initP, Nat.zero_add, Nat.add_zero, Nat.reduceAdd, guardP, Option.map_some, Option.bind_some, pval_tmp, pval_const, set_at, Nat.reduceEqDiff, cellsP, ↓reduceIte, pvOf, seq_n, seq_r, cond_t, asBool_b, regE_some, new_h, new_n, new_w, ld_ptr, ofCells, List.length_cons, List.length_nil, Nat.left_eq_add, Nat.one_ne_zero, Nat.reduceLeDiff, Nat.zero_le, and_self, List.drop_succ_cons, List.drop_zero, List.take_succ_cons, List.take_zero, Nat.le_refl, bin_neq, bin_sneq, beq_self_eq_true, Bool.not_true, Bool.not_false, b_ff, leaveP, resP, oneRes, frz, frz2, frz1, endK_r, Bool.false_eq_true, NodeD.cells, eqN, e1, e2, c1, Bool.false_and, Bool.true_and]
    | true =>
      cases e3 : x.all == y.all with
      | false => simp -implicitDefEqProofs only [p56, pcode_seq, pcode_r, pcode_ret, pcode_skip, pcode_cond, pops_u, pops_g, pops_nil, runK_some, runG_true, runG_false, actP, opP, initP, Nat.zero_add, Nat.add_zero, Nat.reduceAdd, guardP, Option.map_some, Option.bind_some, pval_tmp, pval_const, set_at, Nat.reduceEqDiff, cellsP, ↓reduceIte, pvOf, seq_n, seq_r, cond_t, asBool_b, regE_some, new_h, new_n, new_w, ld_ptr, ofCells, List.length_cons, List.length_nil, Nat.left_eq_add, Nat.one_ne_zero, Nat.reduceLeDiff, Nat.zero_le, and_self, List.drop_succ_cons, List.drop_zero, List.take_succ_cons, List.take_zero, Nat.le_refl, bin_neq, bin_sneq, beq_self_eq_true, Bool.not_true, Bool.not_false, b_ff, leaveP, resP, oneRes, frz, frz2, frz1, endK_r, Bool.false_eq_true, NodeD.cells, eqN, e1, e2, e3, bin_bneq Tryz.underlying4, c1, Bool.false_and, Bool.true_and]
      | true =>
        cases a with
        | false => simp -implicitDefEqProofs only [p56, pcode_seq, pcode_r, pcode_ret, pcode_skip, pcode_cond, pops_u, pops_g, pops_nil, runK_some, runG_true, runG_false, actP, opP, initP, Nat.zero_add, Nat.add_zero, Nat.reduceAdd, guardP, Option.map_some, Option.bind_some, pval_tmp, pval_const, pval_func, set_at, Nat.reduceEqDiff, cellsP, ↓reduceIte, pvOf, seq_n, seq_r, cond_t, asBool_b, regE_some, new_h, new_n, new_w, ld_ptr, ofCells, List.length_cons, List.length_nil, Nat.left_eq_add, Nat.one_ne_zero, Nat.reduceLeDiff, Nat.zero_le, and_self, List.drop_succ_cons, List.drop_zero, List.take_succ_cons, List.take_zero, Nat.le_refl, bin_neq, bin_sneq, un_not, beq_self_eq_true, Bool.not_true, Bool.not_false, callP, b_ff, leaveP, resP, oneRes, frz, frz2, frz1, List.map_cons, List.map_nil, List.nil_append, List.append_nil, endK_r, Bool.false_eq_true, NodeD.cells, eqN, e1, e2, e3, hA, bin_bneq Tryz.underlying4, c1, Bool.false_and, Bool.true_and]
        | true =>
          cases w with
          | false => simp -implicitDefEqProofs only [p56, pcode_seq, pcode_r, pcode_ret, pcode_skip, pcode_cond, pops_u, pops_g, pops_nil, runK_some, runG_true, actP, opP, initP, Nat.zero_add, Nat.add_zero, Nat.reduceAdd, guardP, Option.map_some, Option.bind_some, pval_tmp, pval_const, pval_func, set_at, Nat.reduceEqDiff, cellsP, ↓reduceIte, pvOf, seq_n, seq_r, cond_t, asBool_b, regE_some, new_h, new_n, new_w, ld_ptr, ofCells, List.length_cons, List.length_nil, Nat.left_eq_add, Nat.one_ne_zero, Nat.reduceLeDiff, Nat.zero_le, and_self, List.drop_succ_cons, List.drop_zero, List.take_succ_cons, List.take_zero, Nat.le_refl, bin_neq, bin_sneq, un_not, beq_self_eq_true, Bool.not_true, Bool.not_false, callP, leaveP, resP, oneRes, frz, frz2, frz1, List.map_cons, List.map_nil, List.nil_append, List.append_nil, endK_r, Bool.false_eq_true, NodeD.cells, eqN, e1, e2, e3, hA, hW, bin_bneq Tryz.underlying4, c1, Bool.false_and, Bool.true_and]
          | true =>
            cases q with
            | false => simp -implicitDefEqProofs only [p56, pcode_seq, pcode_r, pcode_ret, pcode_skip, pcode_cond, pops_u, pops_g, pops_nil, runK_some, runG_true, runG_false, actP, opP, initP, Nat.zero_add, Nat.add_zero, Nat.reduceAdd, guardP, Option.map_some, Option.bind_some, pval_tmp, pval_const, pval_func, set_at, Nat.reduceEqDiff, cellsP, ↓reduceIte, pvOf, seq_n, cond_f, asBool_b, regE_some, new_h, new_n, new_w, ld_ptr, ofCells, List.length_cons, List.length_nil, Nat.left_eq_add, Nat.one_ne_zero, Nat.reduceLeDiff, Nat.zero_le, and_self, List.drop_succ_cons, List.drop_zero, List.take_succ_cons, List.take_zero, Nat.le_refl, bin_neq, bin_sneq, un_not, beq_self_eq_true, Bool.not_true, callP, b_tt, leaveP, resP, oneRes, frz, frz2, frz1, List.map_cons, List.map_nil, List.nil_append, List.append_nil, endK_r, Bool.false_eq_true, NodeD.cells, eqN, e1, e2, e3, hA, hW, hR, bin_bneq Tryz.underlying4, c1, Bool.false_and, Bool.true_and]
            | true =>
              cases k with
              | false => simp -implicitDefEqProofs only [p56, pcode_seq, pcode_r, pcode_ret, pcode_skip, pcode_cond, pops_u, pops_g, pops_nil, runK_some, runG_true, runG_false, actP, opP, initP, Nat.zero_add, Nat.add_zero, Nat.reduceAdd, guardP, Option.map_some, Option.bind_some, pval_tmp, pval_const, pval_func, set_at, Nat.reduceEqDiff, cellsP, ↓reduceIte, pvOf, seq_n, cond_f, asBool_b, regE_some, new_h, new_n, new_w, ld_ptr, ofCells, List.length_cons, List.length_nil, Nat.left_eq_add, Nat.one_ne_zero, Nat.reduceLeDiff, Nat.zero_le, and_self, List.drop_succ_cons, List.drop_zero, List.take_succ_cons, List.take_zero, Nat.le_refl, bin_neq, bin_sneq, un_not, beq_self_eq_true, Bool.not_true, callP, b_tt, leaveP, resP, oneRes, frz, frz2, frz1, List.map_cons, List.map_nil, List.nil_append, List.append_nil, endK_r, Bool.false_eq_true, NodeD.cells, eqN, e1, e2, e3, hA, hW, hR, hK, bin_bneq Tryz.underlying4, c1, Bool.false_and, Bool.true_and]
              | true =>
                cases i with
                | false => simp -implicitDefEqProofs only [p56, pcode_seq, pcode_r, pcode_ret, pcode_skip, pcode_cond, pops_u, pops_g, pops_nil, runK_some, runG_true, actP, opP, initP, Nat.zero_add, Nat.add_zero, Nat.reduceAdd, guardP, Option.map_some, Option.bind_some, pval_tmp, pval_const, pval_func, set_at, Nat.reduceEqDiff, cellsP, ↓reduceIte, pvOf, seq_n, cond_f, asBool_b, regE_some, new_h, new_n, new_w, ld_ptr, ofCells, List.length_cons, List.length_nil, Nat.left_eq_add, Nat.one_ne_zero, Nat.reduceLeDiff, Nat.zero_le, and_self, List.drop_succ_cons, List.drop_zero, List.take_succ_cons, List.take_zero, Nat.le_refl, bin_neq, bin_sneq, un_not, beq_self_eq_true, Bool.not_true, callP, leaveP, resP, oneRes, frz, frz2, frz1, List.map_cons, List.map_nil, List.nil_append, List.append_nil, endK_r, Bool.false_eq_true, NodeD.cells, eqN, e1, e2, e3, hA, hW, hR, hK, hI, bin_bneq Tryz.underlying4, c1, Bool.and_false]
                | true => simp -implicitDefEqProofs only [p56, pcode_seq, pcode_r, pcode_ret, pcode_skip, pcode_cond, pops_u, pops_g, pops_nil, runK_some, runG_true, actP, opP, initP, Nat.zero_add, Nat.add_zero, Nat.reduceAdd, guardP, Option.map_some, Option.bind_some, pval_tmp, pval_const, pval_func, set_at, Nat.reduceEqDiff, cellsP, ↓reduceIte, pvOf, seq_n, cond_f, asBool_b, regE_some, new_h, new_n, new_w, ld_ptr, ofCells, List.length_cons, List.length_nil, Nat.left_eq_add, Nat.one_ne_zero, Nat.reduceLeDiff, Nat.zero_le, and_self, List.drop_succ_cons, List.drop_zero, List.take_succ_cons, List.take_zero, Nat.le_refl, bin_neq, bin_sneq, un_not, beq_self_eq_true, Bool.not_true, callP, leaveP, resP, oneRes, frz, frz2, frz1, List.map_cons, List.map_nil, List.nil_append, List.append_nil, endK_r, Bool.false_eq_true, NodeD.cells, eqN, e1, e2, e3, hA, hW, hR, hK, hI, bin_bneq Tryz.underlying4, c1, Bool.true_and]
end Go.Proofs.YtflfflfodghgpaaGreatDoor


namespace Go.Proofs.YtflfflfodghgpaaGreatDoor
open Go Go.EvL Go.PE
variable {ext : PCallF}
/-- a slice whose elements have a property -/
def RowAt {α : Type} (e : Nat) (c : α → List PV) (Q : α → Prop) (p : PV) : Prop := ∃ l : Option (List α), p = slP e c l ∧ (l.getD []).length < 4611686018427387904 ∧ ∀ x ∈ l.getD [], Q x
theorem RowAt.one {α : Type} {e : Nat} {c : α → List PV} {Q : α → Prop} {p : PV} (h : RowAt e c Q p) : oneP p = true := by
  obtain ⟨l, rfl, _⟩ := h; exact oneP_sl _ _ _
/-- a node, nested less than d deep, its parts less than D -/
def NodeAt (D : Nat) : Nat → NodeD → Prop
  | 0, _ => False
  | d + 1, x => AssignsAt D x.assigns ∧ WordsAt D x.words ∧ RedirsAt D x.redirs ∧ RowAt 28 NodeD.cells (NodeAt D d) x.kids ∧ RowAt 150 ItemD.cells (fun it => WordsAt D it.pats ∧ RowAt 28 NodeD.cells (NodeAt D d) it.body) x.items
theorem NodeAt.ones {D d : Nat} {x : NodeD} (h : NodeAt D d x) : x.cells.all oneP = true := by
  cases d with
  | zero => cases h
  | succ d =>
    obtain ⟨h1, h2, h3, h4, h5⟩ := h
    have w1 : oneP x.assigns = true := RowAt.one h1
    have w2 : oneP x.words = true := RowAt.one h2
    have w3 : oneP x.redirs = true := RowAt.one h3
    simp only [NodeD.cells, List.all_cons, List.all_nil, w1, w2, w3, h4.one, h5.one, Bool.and_true]; rfl
theorem kids_same {D d : Nat} (ih : ∀ x y, NodeAt D d x → NodeAt D d y → ∃ r, (∀ s, pcall Tryz.prog Γ ext 60 [.agg x.cells, .agg y.cells] s = some (.sc (.bool r), s)) ∧ ∀ s, pcall Tryz.prog Γ ext 56 [.agg x.cells, .agg y.cells] s = some (.sc (.bool r), s))
    {a b : PV} (ha : RowAt 28 NodeD.cells (NodeAt D d) a) (hb : RowAt 28 NodeD.cells (NodeAt D d) b) : ∃ r, (∀ s, pcall Tryz.prog Γ ext 126 [a, b, .fn 60 [] []] s = some (.sc (.bool r), s)) ∧ ∀ s, pcall Tryz.prog Γ ext 118 [a, b] s = some (.sc (.bool r), s) := by
  obtain ⟨l, rfl, hl, hl'⟩ := ha
  obtain ⟨m, rfl, hm, hm'⟩ := hb
  refine two_same NodeD.len (by rfl) g51 g57 (by omega) (fun x hx => ?_) hl (fun x hx y hy => ?_)
  · exact (hx.elim (hl' x) (hm' x)).ones
  · obtain ⟨r, h1, h2⟩ := ih x y (hl' x hx) (hm' y hy)
    exact ⟨r, h1, in57 x y r h2⟩
theorem node_same {D : Nat} : ∀ (d : Nat) (x y : NodeD), NodeAt D d x → NodeAt D d y → ∃ r, (∀ s, pcall Tryz.prog Γ ext 60 [.agg x.cells, .agg y.cells] s = some (.sc (.bool r), s)) ∧ ∀ s, pcall Tryz.prog Γ ext 56 [.agg x.cells, .agg y.cells] s = some (.sc (.bool r), s) := by
  intro d
  induction d with
  | zero => intro x y h; cases h
  | succ d ih =>
    rintro x y ⟨x1, x2, x3, x4, x5⟩ ⟨y1, y2, y3, y4, y5⟩
    obtain ⟨a, a1, a2⟩ := assigns_same (ext := ext) x1 y1
    obtain ⟨w, w1, w2⟩ := words_same (ext := ext) x2 y2
    obtain ⟨q, q1, q2⟩ := redirs_same (ext := ext) x3 y3
    obtain ⟨k, k1, k2⟩ := kids_same ih x4 y4
    obtain ⟨i, i1, i2⟩ : ∃ r, (∀ s, pcall Tryz.prog Γ ext 127 [x.items, y.items, .fn 128 [] []] s = some (.sc (.bool r), s)) ∧ ∀ s, pcall Tryz.prog Γ ext 119 [x.items, y.items] s = some (.sc (.bool r), s) := by
      obtain ⟨l, el, hl, hl'⟩ := x5
      obtain ⟨m, em, hm, hm'⟩ := y5
      rw [el, em]
      refine two_same ItemD.len (by rfl) g52 g58 (by omega) (fun z hz => ?_) hl (fun z hz v hv => ?_)
      · have h := hz.elim (hl' z) (hm' z)
        have w1 : oneP z.pats = true := RowAt.one h.1
        simp only [ItemD.cells, List.all_cons, List.all_nil, w1, h.2.one, Bool.and_true]
      · obtain ⟨r1, b1, b2⟩ := words_same (ext := ext) (hl' z hz).1 (hm' v hv).1
        obtain ⟨r2, d1, d2⟩ := kids_same ih (hl' z hz).2 (hm' v hv).2
        exact ⟨_, fun s => f53 z v r1 r2 b1 d1 s, in58 z v r1 r2 b2 d2⟩
    exact ⟨_, fun s => f20 x y a w q k i a1 w1 q1 k1 i1 s, fun s => f21 x y a w q k i a2 w2 q2 k2 i2 s⟩
end Go.Proofs.YtflfflfodghgpaaGreatDoor


namespace Go.Proofs.YtflfflfodghgpaaGreatDoor
open Go Go.EvL Go.PE
variable {ext : PCallF}
theorem parts_refl : ∀ (d : Nat) (a : PV), PartsAt d a → ∀ s, pcall Tryz.prog Γ ext 186 [a, a] s = some (.sc (.bool true), s) := by
  intro d
  induction d with
  | zero => intro a h; cases h
  | succ d ih =>
    rintro a ⟨l, rfl, hl, hl'⟩ s
    have h132 := fun s => eq_refl (P := Tryz.prog) (ext := ext) (e := 90) (t := 90) PartD.len (by rfl) g132 (l := l) (fun x hx => PartD.ones (hl' x hx)) (g := 249) hl (fun x hx s => by
      have h := f133 x x s true (ih x.parts (hl' x hx))
      rw [h]
      simp [PartD.eqB]) s
    rw [pcall_u (fn := p186) (by rfl) _ _ (by simp [p186])]
    simp -implicitDefEqProofs only [p186, pcode_seq, pcode_r, pcode_ret, pops_u, pops_nil, runK_some, actP, opP, initP, Nat.zero_add, Option.map_some, Option.bind_some, pval_tmp, pval_const, pval_func, set_at, Nat.reduceEqDiff, ↓reduceIte, pvOf, seq_n, regE_some, Nat.one_ne_zero, Nat.le_refl, callP, leaveP, resP, oneRes, frz, frz2, frz1, List.map_cons, List.map_nil, List.nil_append, List.append_nil, endK_r, Bool.false_eq_true, reduceCtorEq, h132]
theorem words_refl {d : Nat} {a : PV} (ha : WordsAt d a) (s : PS) : pcall Tryz.prog Γ ext 123 [a, a, .fn 122 [] []] s = some (.sc (.bool true), s) := by
  obtain ⟨l, rfl, hl, hl'⟩ := ha
  refine eq_refl WordD.len (by rfl) g48 (fun x hx => ?_) hl (fun x hx s => ?_) s
  · have : PartsAt d x.parts := hl' x hx
    simp only [WordD.cells, List.all_cons, List.all_nil, this.one, Bool.and_true]; rfl
  · exact f47 x x true (parts_refl d x.parts (hl' x hx)) s
theorem assigns_refl {d : Nat} {a : PV} (ha : AssignsAt d a) (s : PS) : pcall Tryz.prog Γ ext 120 [a, a, .fn 121 [] []] s = some (.sc (.bool true), s) := by
  obtain ⟨l, rfl, hl, hl'⟩ := ha
  refine eq_refl AssignD.len (by rfl) g45 (fun x hx => ?_) hl (fun x hx s => ?_) s
  · have : PartsAt d x.parts := hl' x hx
    simp only [AssignD.cells, List.all_cons, List.all_nil, this.one, Bool.and_true]; rfl
  · rw [f46 x x true (parts_refl d x.parts (hl' x hx)) s]; simp
theorem redirs_refl {d : Nat} {a : PV} (ha : RedirsAt d a) (s : PS) : pcall Tryz.prog Γ ext 124 [a, a, .fn 125 [] []] s = some (.sc (.bool true), s) := by
  obtain ⟨l, rfl, hl, hl'⟩ := ha
  refine eq_refl RedirD.len (by rfl) g49 (fun x hx => ?_) hl (fun x hx s => ?_) s
  · have : PartsAt d x.parts := hl' x hx
    simp only [RedirD.cells, List.all_cons, List.all_nil, this.one, Bool.and_true]; rfl
  · rw [f50 x x true (parts_refl d x.parts (hl' x hx)) s]; simp [RedirD.eqB]
theorem kids_refl {D d : Nat} (ih : ∀ x, NodeAt D d x → ∀ s, pcall Tryz.prog Γ ext 60 [.agg x.cells, .agg x.cells] s = some (.sc (.bool true), s)) {a : PV} (ha : RowAt 28 NodeD.cells (NodeAt D d) a) (s : PS) : pcall Tryz.prog Γ ext 126 [a, a, .fn 60 [] []] s = some (.sc (.bool true), s) := by
  obtain ⟨l, rfl, hl, hl'⟩ := ha
  exact eq_refl NodeD.len (by rfl) g51 (fun x hx => (hl' x hx).ones) hl (fun x hx s => ih x (hl' x hx) s) s
theorem node_refl {D : Nat} : ∀ (d : Nat) (x : NodeD), NodeAt D d x → ∀ s, pcall Tryz.prog Γ ext 60 [.agg x.cells, .agg x.cells] s = some (.sc (.bool true), s) := by
  intro d
  induction d with
  | zero => intro x h; cases h
  | succ d ih =>
    rintro x ⟨x1, x2, x3, x4, x5⟩ s
    have i1 : ∀ s, pcall Tryz.prog Γ ext 127 [x.items, x.items, .fn 128 [] []] s = some (.sc (.bool true), s) := by
      intro s
      obtain ⟨l, el, hl, hl'⟩ := x5
      rw [el]
      refine eq_refl ItemD.len (by rfl) g52 (fun z hz => ?_) hl (fun z hz s => ?_) s
      · have h := hl' z hz
        have w1 : oneP z.pats = true := RowAt.one h.1
        simp only [ItemD.cells, List.all_cons, List.all_nil, w1, h.2.one, Bool.and_true]
      · exact f53 z z true true (words_refl (hl' z hz).1) (kids_refl ih (hl' z hz).2) s
    rw [f20 x x true true true true true (assigns_refl x1) (words_refl x2) (redirs_refl x3) (kids_refl ih x4) i1 s]
    simp [eqN]
end Go.Proofs.YtflfflfodghgpaaGreatDoor


namespace Go.Proofs.YtflfflfodghgpaaGreatDoor
open Go Go.EvL Go.PE
variable {ext : PCallF}
structure CntI (a : PV) (s0 : PS) (i : Nat) (f : PFr) (s : PS) : Prop where
  s : s = s0
  a : f 0 = a
  i : f 6 = .sc (.int .i64 (i : Int))
  x : ∃ z : Int, f 4 = .sc (.int .i64 z)
  y : ∃ z : Int, f 5 = .sc (.int .i64 z)
theorem count_ok : ∀ (d : Nat) (a : PV), PartsAt d a → ∀ s, ∃ z y : Int, pcall Tryz.prog Γ ext 58 [a] s = some (.tup [.sc (.int .i64 z), .sc (.int .i64 y)], s) := by
  intro d
  induction d with
  | zero => intro a h; cases h
  | succ d ih =>
    rintro a ⟨l, rfl, hl, hl'⟩ s
    have L := slP_len (e := 90) (c := PartD.cells) l
    suffices h : ∃ q, pcall Tryz.prog Γ ext 58 [slP 90 PartD.cells l] s = some q ∧ ∃ z y : Int, q = (.tup [.sc (.int .i64 z), .sc (.int .i64 y)], s) by
      obtain ⟨q, e, z, y, rfl⟩ := h
      exact ⟨z, y, e⟩
    refine W_call (fn := p58) (by rfl) (by simp [p58]) ?_
    generalize hQ : EndQ p58 s _ = Q
    unfold p58
    refine W_rseq (fun f s' => s' = ⟨s.h, s.n, s.n⟩ ∧ f 0 = slP 90 PartD.cells l) ?_ ?_
    · simp -implicitDefEqProofs only [pops_u, pops_nil, runK_some, actP, opP, initP, pval_const, pvOf]
      exact ⟨_, _, rfl, rfl, rfl⟩
    rintro f _ ⟨rfl, h0⟩
    refine W_rseq (fun f s' => s' = ⟨s.h, s.n, s.n⟩ ∧ f 0 = slP 90 PartD.cells l ∧ (∃ z : Int, f 4 = .sc (.int .i64 z)) ∧ ∃ z : Int, f 5 = .sc (.int .i64 z)) ?_ ?_
    · simp -implicitDefEqProofs only [pops_u, pops_nil, runK_some, actP, opP, Option.map_some, pval_tmp, pval_const, set_at, ↓reduceIte, pvOf, h0, L]
      exact ⟨_, _, rfl, rfl, h0, ⟨_, rfl⟩, ⟨_, rfl⟩⟩
    rintro f _ ⟨rfl, h0, h4, h5⟩
    refine W_assoc ?_
    refine W_rseq (CntI (slP 90 PartD.cells l) ⟨s.h, s.n, s.n⟩ 0) ?_ ?_
    · simp -implicitDefEqProofs only [pops_u, pops_nil, runK_some, actP, opP, pval_const, pvOf]
      exact ⟨_, _, rfl, rfl, h0, rfl, h4, h5⟩
    intro f s1 hI
    refine W_lseq (l.getD []).length (CntI (slP 90 PartD.cells l) ⟨s.h, s.n, s.n⟩) (CntI (slP 90 PartD.cells l) ⟨s.h, s.n, s.n⟩ (l.getD []).length) hI ?_ ?_
    · rintro i f _ hi ⟨rfl, h0, h6, ⟨z, hz⟩, ⟨y, hy⟩⟩
      by_cases hlt : i < (l.getD []).length
      · have h5 : (decide ((i : Int) < ((l.getD []).length : Int))) = true := by simp; exact hlt
        have hx : (l.getD [])[i]? = some ((l.getD [])[i]) := List.getElem?_eq_getElem hlt
        generalize (l.getD [])[i] = x at hx
        obtain ⟨m, rfl⟩ : ∃ k, l = some k := by cases l with | none => simp at hx | some k => exact ⟨k, rfl⟩
        obtain ⟨cz, cy, hc⟩ := ih x.parts (hl' x (List.mem_of_getElem? hx)) ⟨s.h, s.n, s.n⟩
        simp only [slP, Option.getD_some] at h0 hx hlt L h5 hl
        have h1 := flat_len PartD.len m
        obtain ⟨r1, h3⟩ := flat_at PartD.len hx
        have h7 := wrap_succ (i := i) (by omega)
        simp -implicitDefEqProofs only [pcode_seq, pcode_r, pcode_skip, pcode_exit, pcode_cond, pcode_block, pops_u, pops_nil, runK_some, actP, opP, Option.map_some, Option.bind_some, pval_tmp, pval_const, pval_func, set_at, Nat.reduceEqDiff, ↓reduceIte, pvOf, seq_n, blk_n, cond_t, asBool_b, regE_some, ofCells, List.length_cons, Nat.reduceLeDiff, and_self, List.drop_succ_cons, List.drop_zero, List.take_succ_cons, List.take_zero, bin_add, bin_lss, callP, List.map_cons, List.map_nil, List.nil_append, List.append_nil, List.cons_append, Bool.false_eq_true, reduceCtorEq, natP_cast, W_some, rnd_n, len_str, List.getElem?_cons_zero, List.getElem?_cons_succ, h0, h6, hz, hy, L, h5, h7, hlt, h1, h3, ld_litp, PartD.cells, hc, slP]
        exact ⟨hlt, rfl, h0, rfl, ⟨_, rfl⟩, ⟨_, rfl⟩⟩
      · obtain rfl : i = (l.getD []).length := by omega
        have h5 : (decide (((l.getD []).length : Int) < ((l.getD []).length : Int))) = false := by simp
        simp -implicitDefEqProofs only [pcode_seq, pcode_r, pcode_skip, pcode_exit, pcode_cond, pops_u, pops_nil, runK_some, actP, opP, Option.map_some, pval_tmp, set_at, Nat.reduceEqDiff, ↓reduceIte, seq_n, seq_e, cond_f, asBool_b, regE_some, true_and, bin_lss, reduceCtorEq, W_some, rnd_e, h0, h6, L, h5]
        exact ⟨rfl, h0, h6, ⟨z, hz⟩, ⟨y, hy⟩⟩
    · rintro f _ ⟨rfl, h0, h6, ⟨z, hz⟩, ⟨y, hy⟩⟩
      refine W_rret ?_
      simp -implicitDefEqProofs only [pops_u, pops_nil, runK_some, actP, opP, pval_tmp, set_at, Nat.reduceEqDiff, ↓reduceIte, hz, hy]
      refine ⟨_, _, rfl, ?_⟩
      subst hQ
      refine endQ_r ?_ ⟨z, y, rfl⟩
      simp -implicitDefEqProofs only [Option.map_some, Option.bind_some, set_at, Nat.reduceEqDiff, ↓reduceIte, Nat.le_refl, leaveP, resP, oneRes, frz, frz2, frz1, Bool.false_eq_true, frzT, p58]
end Go.Proofs.YtflfflfodghgpaaGreatDoor


namespace Go.Proofs.YtflfflfodghgpaaGreatDoor
open Go Go.EvL Go.PE
variable {ext : PCallF}
theorem take_flat {α β : Type} {g : α → List β} {l : List α} {i : Nat} {x : α} (h : l[i]? = some x) : (l.take (i + 1)).flatMap g = (l.take i).flatMap g ++ g x := by
  rw [List.take_add_one, h, List.flatMap_append]
  simp
theorem take_flat_le {α β : Type} {g : α → List β} (l : List α) (i : Nat) : ((l.take i).flatMap g).length ≤ (l.flatMap g).length := by
  conv => rhs; rw [← List.take_append_drop i l, List.flatMap_append, List.length_append]
  omega
theorem NodeD.clean {x : NodeD} (h1 : clean1 x.assigns = true) (h2 : clean1 x.words = true) (h3 : clean1 x.redirs = true) (h4 : clean1 x.kids = true) (h5 : clean1 x.items = true) : x.cells.all clean1 = true := by
  simp only [NodeD.cells, List.all_cons, List.all_nil, h1, h2, h3, h4, h5, Bool.and_true]; rfl
theorem clean_sl {α : Type} (e : Nat) (c : α → List PV) (l : Option (List α)) : clean1 (slP e c l) = true := by cases l <;> rfl
theorem RowAt.clean {α : Type} {e : Nat} {c : α → List PV} {Q : α → Prop} {p : PV} (h : RowAt e c Q p) : clean1 p = true := by
  obtain ⟨l, rfl, _⟩ := h; exact clean_sl _ _ _
theorem NodeAt.cleans {D d : Nat} {x : NodeD} (h : NodeAt D d x) : x.cells.all clean1 = true := by
  cases d with
  | zero => cases h
  | succ d =>
    obtain ⟨h1, h2, h3, h4, h5⟩ := h
    exact NodeD.clean (RowAt.clean h1) (RowAt.clean h2) (RowAt.clean h3) h4.clean h5.clean
structure KidI (x : NodeD) (b : Nat) (l : List NodeD) (f : PFr) (s : PS) : Prop where
  p : f 1 = .ptr b 0 9
  h : s.h b = ⟨x.cells, 0, 28⟩
  n : b + 1 ≤ s.n
  w : b ≤ s.w
  acc : Acc 28 9 NodeD.cells (b + 1) l (f 3) s
theorem kids_ok (x : NodeD) (lk : Option (List NodeD)) (li : Option (List ItemD)) (bd : ItemD → Option (List NodeD)) (hk : x.kids = slP 28 NodeD.cells lk) (hit : x.items = slP 150 ItemD.cells li) (hbd : ∀ it ∈ li.getD [], it.body = slP 28 NodeD.cells (bd it))
    (hbig : (lk.getD []).length + ((li.getD []).flatMap fun it => (bd it).getD []).length ≤ 16777216) (hlen : (li.getD []).length ≤ 16777216)
    (ho : ∀ y, y ∈ lk.getD [] ∨ (∃ it ∈ li.getD [], y ∈ (bd it).getD []) → y.cells.all oneP = true ∧ y.cells.all clean1 = true) (s : PS) :
    pcall Tryz.prog Γ ext 59 [.agg x.cells] s = some (slP 28 NodeD.cells (optL (lk.getD [] ++ (li.getD []).flatMap fun it => (bd it).getD [])), s) := by
  have L := slP_len (e := 150) (c := ItemD.cells) li
  suffices h : ∃ q, pcall Tryz.prog Γ ext 59 [.agg x.cells] s = some q ∧ q = (slP 28 NodeD.cells (optL (lk.getD [] ++ (li.getD []).flatMap fun it => (bd it).getD [])), s) by
    obtain ⟨q, e, rfl⟩ := h
    exact e
  refine W_call (fn := p59) (by rfl) (by simp [p59]) ?_
  generalize hQ : EndQ p59 s _ = Q
  unfold p59
  refine W_rseq (fun f s' => f 1 = .ptr s.n 0 9 ∧ s'.h s.n = ⟨x.cells, 0, 28⟩ ∧ s'.n = s.n + 1 ∧ s'.w = s.n) ?_ ?_
  · simp -implicitDefEqProofs only [pops_u, pops_nil, runK_some, actP, opP, initP, pval_tmp, pval_const, set_at, cellsP, ↓reduceIte, pvOf]
    exact ⟨_, _, rfl, rfl, by simp -implicitDefEqProofs only [↓reduceIte, new_h], rfl, rfl⟩
  rintro f s1 ⟨p1, p2, p3, p4⟩
  refine W_rseq (KidI x s.n []) ?_ ?_
  · simp -implicitDefEqProofs only [pops_u, pops_nil, runK_some, actP, opP, pval_const, pvOf]
    exact ⟨_, _, rfl, p1, p2, by omega, by omega, .nil _ _ _ _ _⟩
  rintro f s1 ⟨p1, p2, p3, p4, p5⟩
  refine W_rseq (KidI x s.n (lk.getD [])) ?_ ?_
  · obtain ⟨v', s', a1, a2, a3, a4, a5⟩ := p5.app (bytes := 160) NodeD.len (lk.getD []) (by omega) (by simp only [List.length_nil]; omega) (by simp only [List.length_nil]; omega) (fun y hy => (ho y (.inl hy)).1) p3
    have he := elems_sl (e := 28) NodeD.len lk s1
    simp only [NodeD.cells] at p2
    simp -implicitDefEqProofs only [pops_u, pops_nil, runK_some, actP, opP, Nat.zero_add, Nat.reduceAdd, Option.map_some, Option.bind_some, pval_tmp, set_at, Nat.reduceEqDiff, ↓reduceIte, ld_ptr, ofCells, List.length_cons, List.length_nil, Nat.reduceLeDiff, Nat.zero_le, and_self, List.drop_succ_cons, List.drop_zero, List.take_succ_cons, List.take_zero, Nat.le_refl, Bool.false_eq_true, p1, p2, hk, he, a1]
    refine ⟨_, _, rfl, p1, ?_, by omega, a5 _ (by omega) p4, by rw [List.nil_append] at a2; exact a2⟩
    rw [a3 _ (by omega)]
    exact p2
  rintro f s1 hI
  refine W_assoc ?_
  refine W_rseq (fun f s1 => KidI x s.n (lk.getD [] ++ ((li.getD []).take 0).flatMap fun it => (bd it).getD []) f s1 ∧ f 4 = .sc (.int .i64 ((0 : Nat) : Int))) ?_ ?_
  · obtain ⟨p1, p2, p3, p4, p5⟩ := hI
    simp -implicitDefEqProofs only [pops_u, pops_nil, runK_some, actP, opP, pval_const, pvOf, List.take_zero]
    exact ⟨_, _, rfl, ⟨p1, p2, p3, p4, by rw [List.flatMap_nil, List.append_nil]; exact p5⟩, rfl⟩
  rintro f s1 hI
  refine W_lseq (li.getD []).length (fun i f s1 => KidI x s.n (lk.getD [] ++ ((li.getD []).take i).flatMap fun it => (bd it).getD []) f s1 ∧ f 4 = .sc (.int .i64 (i : Int))) (fun f s1 => KidI x s.n (lk.getD [] ++ (li.getD []).flatMap fun it => (bd it).getD []) f s1) hI ?_ ?_
  · rintro i f s1 hi ⟨⟨p1, p2, p3, p4, p5⟩, h4⟩
    by_cases hlt : i < (li.getD []).length
    · have h5 : (decide ((i : Int) < ((li.getD []).length : Int))) = true := by simp; exact hlt
      have hx : (li.getD [])[i]? = some ((li.getD [])[i]) := List.getElem?_eq_getElem hlt
      generalize (li.getD [])[i] = it at hx
      have hmem := List.mem_of_getElem? hx
      have hb := hbd it hmem
      have hfl := take_flat (g := fun it => (bd it).getD []) hx
      have hle := take_flat_le (g := fun it => (bd it).getD []) (li.getD []) (i + 1)
      rw [hfl, List.length_append] at hle
      obtain ⟨v', s', a1, a2, a3, a4, a5⟩ := p5.app (bytes := 160) NodeD.len ((bd it).getD []) (by omega) (by rw [List.length_append]; omega) (by rw [List.length_append]; omega) (fun y hy => (ho y (.inr ⟨it, hmem, hy⟩)).1) p3
      have he := elems_sl (e := 28) NodeD.len (bd it) s1
      have h6 : s'.h s.n = ⟨x.cells, 0, 28⟩ := by rw [a3 _ (by omega)]; exact p2
      obtain ⟨m, rfl⟩ : ∃ k, li = some k := by cases li with | none => simp at hx | some k => exact ⟨k, rfl⟩
      simp only [slP, Option.getD_some] at hit hx hlt L h5 hlen hfl
      have h1 := flat_len ItemD.len m
      obtain ⟨r1, h3⟩ := flat_at ItemD.len hx
      have h7 := wrap_succ (i := i) (by omega)
      simp only [NodeD.cells, hit] at p2
      simp -implicitDefEqProofs only [pcode_seq, pcode_r, pcode_skip, pcode_exit, pcode_cond, pcode_block, pops_u, pops_nil, runK_some, actP, opP, Nat.zero_add, Nat.reduceAdd, Option.map_some, Option.bind_some, pval_tmp, pval_const, set_at, Nat.reduceEqDiff, ↓reduceIte, pvOf, seq_n, blk_n, cond_t, asBool_b, regE_some, ld_ptr, ofCells, List.length_cons, List.length_nil, Nat.reduceLeDiff, Nat.zero_le, and_self, and_true, List.drop_succ_cons, List.drop_zero, List.take_succ_cons, List.take_zero, Nat.le_refl, bin_add, bin_lss, List.nil_append, List.cons_append, Bool.false_eq_true, natP_cast, W_some, rnd_n, p1, p2, h4, L, h5, h7, hlt, h1, h3, ld_litp, ItemD.cells, hb, he, a1]
      refine ⟨hlt, p1, h6, by omega, a5 _ (by omega) p4, ?_⟩
      show Acc 28 9 NodeD.cells (s.n + 1) (lk.getD [] ++ (m.take (i + 1)).flatMap fun it => (bd it).getD []) v' s'
      rw [hfl, ← List.append_assoc]
      exact a2
    · obtain rfl : i = (li.getD []).length := by omega
      have h5 : (decide (((li.getD []).length : Int) < ((li.getD []).length : Int))) = false := by simp
      have p2' := p2
      simp only [NodeD.cells, hit] at p2'
      simp -implicitDefEqProofs only [pcode_seq, pcode_r, pcode_skip, pcode_exit, pcode_cond, pops_u, pops_nil, runK_some, actP, opP, Nat.zero_add, Nat.reduceAdd, Option.map_some, Option.bind_some, pval_tmp, set_at, Nat.reduceEqDiff, ↓reduceIte, seq_n, seq_e, cond_f, asBool_b, regE_some, ld_ptr, ofCells, List.length_cons, List.length_nil, Nat.zero_le, and_self, true_and, List.drop_succ_cons, List.drop_zero, List.take_succ_cons, List.take_zero, Nat.le_refl, bin_lss, Bool.false_eq_true, W_some, rnd_e, p1, p2', h4, L, h5]
      refine ⟨p1, p2, p3, p4, ?_⟩
      rw [List.take_length] at p5
      exact p5
  · rintro f s1 ⟨p1, p2, p3, p4, p5⟩
    refine W_rret ?_
    simp -implicitDefEqProofs only [pops_u, pops_nil, runK_some, actP, opP, pval_tmp, set_at, ↓reduceIte]
    refine ⟨_, _, rfl, ?_⟩
    subst hQ
    refine endQ_r ?_ rfl
    refine leave_p (vs := [f 3]) rfl rfl p4 ?_
    refine frz_of (p5.frz NodeD.len (by omega) fun y hy => ?_)
    rw [List.mem_append, List.mem_flatMap] at hy
    exact (ho y (hy.imp id id)).2
end Go.Proofs.YtflfflfodghgpaaGreatDoor


namespace Go.Proofs.YtflfflfodghgpaaGreatDoor
open Go Go.EvL Go.PE
variable {ext : PCallF}
theorem take_map {α β : Type} {g : α → β} {l : List α} {i : Nat} {x : α} (h : l[i]? = some x) : (l.take (i + 1)).map g = (l.take i).map g ++ [g x] := by
  rw [List.take_add_one, h, List.map_append]
  simp
def AssignD.val (y : AssignD) : WordD := ⟨y.vpos, y.parts⟩
def RedirD.tgt (y : RedirD) : WordD := ⟨y.tpos, y.parts⟩
theorem WordD.one {y : WordD} (h : oneP y.parts = true) : y.cells.all oneP = true := by simp only [WordD.cells, List.all_cons, List.all_nil, h, Bool.and_true]; rfl
theorem WordD.clean {y : WordD} (h : clean1 y.parts = true) : y.cells.all clean1 = true := by simp only [WordD.cells, List.all_cons, List.all_nil, h, Bool.and_true]; rfl
structure WrdI (x : NodeD) (b : Nat) (l : List WordD) (f : PFr) (s : PS) : Prop where
  p : f 1 = .ptr b 0 9
  h : s.h b = ⟨x.cells, 0, 28⟩
  n : b + 1 ≤ s.n
  w : b ≤ s.w
  acc : Acc 82 2 WordD.cells (b + 1) l (f 3) s
def wordsL (la : List AssignD) (lw : List WordD) (lr : List RedirD) (li : List ItemD) (pt : ItemD → Option (List WordD)) : List WordD := la.map AssignD.val ++ lw ++ lr.map RedirD.tgt ++ li.flatMap fun it => (pt it).getD []
theorem wordsL_ok (x : NodeD) (la : Option (List AssignD)) (lw : Option (List WordD)) (lr : Option (List RedirD)) (li : Option (List ItemD)) (pt : ItemD → Option (List WordD)) (ha : x.assigns = slP 84 AssignD.cells la) (hw : x.words = slP 82 WordD.cells lw) (hr : x.redirs = slP 148 RedirD.cells lr) (hit : x.items = slP 150 ItemD.cells li)
    (hpt : ∀ it ∈ li.getD [], it.pats = slP 82 WordD.cells (pt it)) (hbig : (la.getD []).length + (lw.getD []).length + (lr.getD []).length + ((li.getD []).flatMap fun it => (pt it).getD []).length ≤ 16777216) (hlen : (li.getD []).length ≤ 16777216)
    (ho : ∀ y ∈ wordsL (la.getD []) (lw.getD []) (lr.getD []) (li.getD []) pt, oneP y.parts = true ∧ clean1 y.parts = true) (s : PS) :
    pcall Tryz.prog Γ ext 57 [.agg x.cells] s = some (slP 82 WordD.cells (optL (wordsL (la.getD []) (lw.getD []) (lr.getD []) (li.getD []) pt)), s) := by
  have LA := slP_len (e := 84) (c := AssignD.cells) la
  have LR := slP_len (e := 148) (c := RedirD.cells) lr
  have LI := slP_len (e := 150) (c := ItemD.cells) li
  have o1 : ∀ y ∈ la.getD [], oneP y.parts = true := fun y hy => (ho y.val (by simp only [wordsL, List.mem_append, List.mem_map]; exact .inl (.inl (.inl ⟨y, hy, rfl⟩)))).1
  have o2 : ∀ y ∈ lw.getD [], oneP y.parts = true := fun y hy => (ho y (by simp only [wordsL, List.mem_append]; exact .inl (.inl (.inr hy)))).1
  have o3 : ∀ y ∈ lr.getD [], oneP y.parts = true := fun y hy => (ho y.tgt (by simp only [wordsL, List.mem_append, List.mem_map]; exact .inl (.inr ⟨y, hy, rfl⟩))).1
  have o4 : ∀ it ∈ li.getD [], ∀ y ∈ (pt it).getD [], oneP y.parts = true := fun it hi y hy => (ho y (by simp only [wordsL, List.mem_append, List.mem_flatMap]; exact .inr ⟨it, hi, hy⟩)).1
  suffices h : ∃ q, pcall Tryz.prog Γ ext 57 [.agg x.cells] s = some q ∧ q = (slP 82 WordD.cells (optL (wordsL (la.getD []) (lw.getD []) (lr.getD []) (li.getD []) pt)), s) by
    obtain ⟨q, e, rfl⟩ := h
    exact e
  refine W_call (fn := p57) (by rfl) (by simp [p57]) ?_
  generalize hQ : EndQ p57 s _ = Q
  unfold p57
  refine W_rseq (fun f s' => f 1 = .ptr s.n 0 9 ∧ s'.h s.n = ⟨x.cells, 0, 28⟩ ∧ s'.n = s.n + 1 ∧ s'.w = s.n) ?_ ?_
  · simp -implicitDefEqProofs only [pops_u, pops_nil, runK_some, actP, opP, initP, pval_tmp, pval_const, set_at, cellsP, ↓reduceIte, pvOf]
    exact ⟨_, _, rfl, rfl, by simp -implicitDefEqProofs only [↓reduceIte, new_h], rfl, rfl⟩
  rintro f s1 ⟨p1, p2, p3, p4⟩
  refine W_rseq (WrdI x s.n []) ?_ ?_
  · simp -implicitDefEqProofs only [pops_u, pops_nil, runK_some, actP, opP, pval_const, pvOf]
    exact ⟨_, _, rfl, p1, p2, by omega, by omega, .nil _ _ _ _ _⟩
  rintro f s1 hI
  refine W_assoc ?_
  refine W_rseq (fun f s1 => WrdI x s.n ([] ++ ((la.getD []).take 0).map AssignD.val) f s1 ∧ f 4 = .sc (.int .i64 ((0 : Nat) : Int))) ?_ ?_
  · obtain ⟨p1, p2, p3, p4, p5⟩ := hI
    simp -implicitDefEqProofs only [pops_u, pops_nil, runK_some, actP, opP, pval_const, pvOf, List.take_zero, List.map_nil, List.append_nil]
    exact ⟨_, _, rfl, ⟨p1, p2, p3, p4, by first | exact p5 | (rw [List.append_nil]; exact p5)⟩, rfl⟩
  rintro f s1 hI
  refine W_lseq (la.getD []).length (fun i f s1 => WrdI x s.n ([] ++ ((la.getD []).take i).map AssignD.val) f s1 ∧ f 4 = .sc (.int .i64 (i : Int))) (fun f s1 => WrdI x s.n ([] ++ (la.getD []).map AssignD.val) f s1) hI ?_ ?_
  · rintro i f s1 hi ⟨⟨p1, p2, p3, p4, p5⟩, h4⟩
    by_cases hlt : i < (la.getD []).length
    · have h5 : (decide ((i : Int) < ((la.getD []).length : Int))) = true := by simp; exact hlt
      have hx : (la.getD [])[i]? = some ((la.getD [])[i]) := List.getElem?_eq_getElem hlt
      generalize (la.getD [])[i] = y at hx
      have hmem := List.mem_of_getElem? hx
      have hfl := take_map (g := AssignD.val) hx
      obtain ⟨v', s', a1, a2, a3, a4, a5⟩ := (p5.new ⟨y.val.cells, 0, 82⟩).app (bytes := 32) WordD.len [y.val] (by omega) (by simp only [List.length_append, List.length_map, List.length_take, List.length_cons, List.length_nil]; omega) (by simp only [List.length_append, List.length_map, List.length_take, List.length_cons, List.length_nil]; omega) (fun z hz => by rw [List.mem_singleton] at hz; subst hz; exact WordD.one (o1 y hmem)) (by rw [new_n]; omega)
      have h6 : s'.h s.n = ⟨x.cells, 0, 28⟩ := by rw [a3 _ (by omega), new_h, if_neg (by omega)]; exact p2
      have h8 : s.n ≤ s'.w := a5 _ (by omega) (by rw [new_w]; exact p4)
      rw [new_n] at a4
      obtain ⟨m, rfl⟩ : ∃ k, la = some k := by cases la with | none => simp at hx | some k => exact ⟨k, rfl⟩
      simp only [slP, Option.getD_some] at ha hx hlt LA h5 hbig hfl
      have h1 := flat_len AssignD.len m
      obtain ⟨r1, h3⟩ := flat_at AssignD.len hx
      have h7 := wrap_succ (i := i) (by omega)
      simp only [NodeD.cells, ha] at p2
      simp only [List.flatMap_cons, List.flatMap_nil, List.append_nil, WordD.cells, AssignD.val, List.length_cons, List.length_nil, Nat.zero_add] at a1
      simp -implicitDefEqProofs only [pcode_seq, pcode_r, pcode_skip, pcode_exit, pcode_cond, pcode_block, pops_u, pops_nil, runK_some, actP, opP, Nat.zero_add, Nat.reduceAdd, Option.map_some, Option.bind_some, pval_tmp, pval_const, set_at, Nat.reduceEqDiff, cellsP, ↓reduceIte, pvOf, seq_n, blk_n, cond_t, asBool_b, regE_some, new_h, ld_ptr, ofCells, List.length_cons, List.length_nil, Nat.reduceLeDiff, Nat.zero_le, and_self, and_true, List.drop_succ_cons, List.drop_zero, List.take_succ_cons, List.take_zero, Nat.le_refl, bin_add, bin_lss, List.map_cons, List.map_nil, List.nil_append, List.append_nil, List.cons_append, Bool.false_eq_true, natP_cast, W_some, rnd_n, p1, p2, h4, LA, h5, h7, hlt, h1, h3, ld_litp, AssignD.cells, fillP, elemsP, Nat.reduceMul, List.drop_nil, List.take_nil, a1]
      refine ⟨hlt, p1, h6, by omega, h8, ?_⟩
      show Acc 82 2 WordD.cells (s.n + 1) ([] ++ (m.take (i + 1)).map AssignD.val) v' s'
      rw [hfl, ← List.append_assoc]
      exact a2
    · obtain rfl : i = (la.getD []).length := by omega
      have h5 : (decide (((la.getD []).length : Int) < ((la.getD []).length : Int))) = false := by simp
      have p2' := p2
      simp only [NodeD.cells, ha] at p2'
      simp -implicitDefEqProofs only [pcode_seq, pcode_r, pcode_skip, pcode_exit, pcode_cond, pops_u, pops_nil, runK_some, actP, opP, Nat.zero_add, Nat.reduceAdd, Option.map_some, Option.bind_some, pval_tmp, set_at, Nat.reduceEqDiff, ↓reduceIte, seq_n, seq_e, cond_f, asBool_b, regE_some, ld_ptr, ofCells, List.length_cons, List.length_nil, Nat.reduceLeDiff, Nat.zero_le, and_self, true_and, List.drop_succ_cons, List.drop_zero, List.take_succ_cons, List.take_zero, Nat.le_refl, bin_lss, List.nil_append, Bool.false_eq_true, W_some, rnd_e, p1, p2', h4, LA, h5]
      refine ⟨p1, p2, p3, p4, ?_⟩
      rw [List.take_length] at p5
      exact p5
  rintro f s1 ⟨p1, p2, p3, p4, p5⟩
  refine W_rseq (WrdI x s.n ([] ++ (la.getD []).map AssignD.val ++ lw.getD [])) ?_ ?_
  · obtain ⟨v', s', a1, a2, a3, a4, a5⟩ := p5.app (bytes := 32) WordD.len (lw.getD []) (by omega) (by simp only [List.length_append, List.length_map, List.length_nil]; omega) (by simp only [List.length_append, List.length_map, List.length_nil]; omega) (fun y hy => WordD.one (o2 y hy)) p3
    have he := elems_sl (e := 82) WordD.len lw s1
    have h6 : s'.h s.n = ⟨x.cells, 0, 28⟩ := by rw [a3 _ (by omega)]; exact p2
    simp only [NodeD.cells] at p2
    simp -implicitDefEqProofs only [pops_u, pops_nil, runK_some, actP, opP, Nat.zero_add, Nat.reduceAdd, Option.map_some, Option.bind_some, pval_tmp, set_at, Nat.reduceEqDiff, ↓reduceIte, ld_ptr, ofCells, List.length_cons, List.length_nil, Nat.reduceLeDiff, Nat.zero_le, and_self, List.drop_succ_cons, List.drop_zero, List.take_succ_cons, List.take_zero, Nat.le_refl, List.nil_append, Bool.false_eq_true, p1, p2, hw, he, a1]
    refine ⟨_, _, rfl, p1, h6, by omega, a5 _ (by omega) p4, ?_⟩
    rw [List.nil_append] at a2
    exact a2
  rintro f s1 hI
  refine W_assoc ?_
  refine W_rseq (fun f s1 => WrdI x s.n (([] ++ (la.getD []).map AssignD.val ++ lw.getD []) ++ ((lr.getD []).take 0).map RedirD.tgt) f s1 ∧ f 5 = .sc (.int .i64 ((0 : Nat) : Int))) ?_ ?_
  · obtain ⟨p1, p2, p3, p4, p5⟩ := hI
    simp -implicitDefEqProofs only [pops_u, pops_nil, runK_some, actP, opP, pval_const, pvOf, List.take_zero, List.map_nil, List.nil_append, List.append_nil]
    exact ⟨_, _, rfl, ⟨p1, p2, p3, p4, by first | exact p5 | (rw [List.append_nil]; exact p5)⟩, rfl⟩
  rintro f s1 hI
  refine W_lseq (lr.getD []).length (fun i f s1 => WrdI x s.n (([] ++ (la.getD []).map AssignD.val ++ lw.getD []) ++ ((lr.getD []).take i).map RedirD.tgt) f s1 ∧ f 5 = .sc (.int .i64 (i : Int))) (fun f s1 => WrdI x s.n (([] ++ (la.getD []).map AssignD.val ++ lw.getD []) ++ (lr.getD []).map RedirD.tgt) f s1) hI ?_ ?_
  · rintro i f s1 hi ⟨⟨p1, p2, p3, p4, p5⟩, h4⟩
    by_cases hlt : i < (lr.getD []).length
    · have h5 : (decide ((i : Int) < ((lr.getD []).length : Int))) = true := by simp; exact hlt
      have hx : (lr.getD [])[i]? = some ((lr.getD [])[i]) := List.getElem?_eq_getElem hlt
      generalize (lr.getD [])[i] = y at hx
      have hmem := List.mem_of_getElem? hx
      have hfl := take_map (g := RedirD.tgt) hx
      obtain ⟨v', s', a1, a2, a3, a4, a5⟩ := (p5.new ⟨y.tgt.cells, 0, 82⟩).app (bytes := 32) WordD.len [y.tgt] (by omega) (by simp only [List.length_append, List.length_map, List.length_take, List.length_cons, List.length_nil]; omega) (by simp only [List.length_append, List.length_map, List.length_take, List.length_cons, List.length_nil]; omega) (fun z hz => by rw [List.mem_singleton] at hz; subst hz; exact WordD.one (o3 y hmem)) (by rw [new_n]; omega)
      have h6 : s'.h s.n = ⟨x.cells, 0, 28⟩ := by rw [a3 _ (by omega), new_h, if_neg (by omega)]; exact p2
      have h8 : s.n ≤ s'.w := a5 _ (by omega) (by rw [new_w]; exact p4)
      rw [new_n] at a4
      obtain ⟨m, rfl⟩ : ∃ k, lr = some k := by cases lr with | none => simp at hx | some k => exact ⟨k, rfl⟩
      simp only [slP, Option.getD_some] at hr hx hlt LR h5 hbig hfl
      have h1 := flat_len RedirD.len m
      obtain ⟨r1, h3⟩ := flat_at RedirD.len hx
      have h7 := wrap_succ (i := i) (by omega)
      simp only [NodeD.cells, hr] at p2
      simp only [List.flatMap_cons, List.flatMap_nil, List.append_nil, WordD.cells, RedirD.tgt, List.length_cons, List.length_nil, Nat.zero_add] at a1
      simp -implicitDefEqProofs only [pcode_seq, pcode_r, pcode_skip, pcode_exit, pcode_cond, pcode_block, pops_u, pops_nil, runK_some, actP, opP, Nat.zero_add, Nat.reduceAdd, Option.map_some, Option.bind_some, pval_tmp, pval_const, set_at, Nat.reduceEqDiff, cellsP, ↓reduceIte, pvOf, seq_n, blk_n, cond_t, asBool_b, regE_some, new_h, ld_ptr, ofCells, List.length_cons, List.length_nil, Nat.reduceLeDiff, Nat.zero_le, and_self, and_true, List.drop_succ_cons, List.drop_zero, List.take_succ_cons, List.take_zero, Nat.le_refl, bin_add, bin_lss, List.map_cons, List.map_nil, List.nil_append, List.append_nil, List.cons_append, Bool.false_eq_true, natP_cast, W_some, rnd_n, p1, p2, h4, LR, h5, h7, hlt, h1, h3, ld_litp, RedirD.cells, fillP, elemsP, Nat.reduceMul, List.drop_nil, List.take_nil, a1]
      refine ⟨hlt, p1, h6, by omega, h8, ?_⟩
      show Acc 82 2 WordD.cells (s.n + 1) (([] ++ (la.getD []).map AssignD.val ++ lw.getD []) ++ (m.take (i + 1)).map RedirD.tgt) v' s'
      rw [hfl, ← List.append_assoc]
      exact a2
    · obtain rfl : i = (lr.getD []).length := by omega
      have h5 : (decide (((lr.getD []).length : Int) < ((lr.getD []).length : Int))) = false := by simp
      have p2' := p2
      simp only [NodeD.cells, hr] at p2'
      simp -implicitDefEqProofs only [pcode_seq, pcode_r, pcode_skip, pcode_exit, pcode_cond, pops_u, pops_nil, runK_some, actP, opP, Nat.zero_add, Nat.reduceAdd, Option.map_some, Option.bind_some, pval_tmp, set_at, Nat.reduceEqDiff, ↓reduceIte, seq_n, seq_e, cond_f, asBool_b, regE_some, ld_ptr, ofCells, List.length_cons, List.length_nil, Nat.reduceLeDiff, Nat.zero_le, and_self, true_and, List.drop_succ_cons, List.drop_zero, List.take_succ_cons, List.take_zero, Nat.le_refl, bin_lss, List.nil_append, Bool.false_eq_true, W_some, rnd_e, p1, p2', h4, LR, h5]
      refine ⟨p1, p2, p3, p4, ?_⟩
      rw [List.take_length] at p5
      exact p5
  rintro f s1 hI
  refine W_assoc ?_
  refine W_rseq (fun f s1 => WrdI x s.n ((([] ++ (la.getD []).map AssignD.val ++ lw.getD []) ++ (lr.getD []).map RedirD.tgt) ++ ((li.getD []).take 0).flatMap fun it => (pt it).getD []) f s1 ∧ f 6 = .sc (.int .i64 ((0 : Nat) : Int))) ?_ ?_
  · obtain ⟨p1, p2, p3, p4, p5⟩ := hI
    simp -implicitDefEqProofs only [pops_u, pops_nil, runK_some, actP, opP, pval_const, pvOf, List.take_zero, List.nil_append]
    exact ⟨_, _, rfl, ⟨p1, p2, p3, p4, by rw [List.flatMap_nil, List.append_nil]; exact p5⟩, rfl⟩
  rintro f s1 hI
  refine W_lseq (li.getD []).length (fun i f s1 => WrdI x s.n ((([] ++ (la.getD []).map AssignD.val ++ lw.getD []) ++ (lr.getD []).map RedirD.tgt) ++ ((li.getD []).take i).flatMap fun it => (pt it).getD []) f s1 ∧ f 6 = .sc (.int .i64 (i : Int))) (fun f s1 => WrdI x s.n (wordsL (la.getD []) (lw.getD []) (lr.getD []) (li.getD []) pt) f s1) hI ?_ ?_
  · rintro i f s1 hi ⟨⟨p1, p2, p3, p4, p5⟩, h4⟩
    by_cases hlt : i < (li.getD []).length
    · have h5 : (decide ((i : Int) < ((li.getD []).length : Int))) = true := by simp; exact hlt
      have hx : (li.getD [])[i]? = some ((li.getD [])[i]) := List.getElem?_eq_getElem hlt
      generalize (li.getD [])[i] = it at hx
      have hmem := List.mem_of_getElem? hx
      have hb := hpt it hmem
      have hfl := take_flat (g := fun it => (pt it).getD []) hx
      have hle := take_flat_le (g := fun it => (pt it).getD []) (li.getD []) (i + 1)
      rw [hfl, List.length_append] at hle
      obtain ⟨v', s', a1, a2, a3, a4, a5⟩ := p5.app (bytes := 32) WordD.len ((pt it).getD []) (by omega) (by simp only [List.length_append, List.length_map, List.length_nil]; omega) (by simp only [List.length_append, List.length_map, List.length_nil]; omega) (fun y hy => WordD.one (o4 it hmem y hy)) p3
      have he := elems_sl (e := 82) WordD.len (pt it) s1
      have h6 : s'.h s.n = ⟨x.cells, 0, 28⟩ := by rw [a3 _ (by omega)]; exact p2
      obtain ⟨m, rfl⟩ : ∃ k, li = some k := by cases li with | none => simp at hx | some k => exact ⟨k, rfl⟩
      simp only [slP, Option.getD_some] at hit hx hlt LI h5 hlen hfl
      have h1 := flat_len ItemD.len m
      obtain ⟨r1, h3⟩ := flat_at ItemD.len hx
      have h7 := wrap_succ (i := i) (by omega)
      simp only [NodeD.cells, hit] at p2
      simp -implicitDefEqProofs only [pcode_seq, pcode_r, pcode_skip, pcode_exit, pcode_cond, pcode_block, pops_u, pops_nil, runK_some, actP, opP, Nat.zero_add, Nat.reduceAdd, Option.map_some, Option.bind_some, pval_tmp, pval_const, set_at, Nat.reduceEqDiff, ↓reduceIte, pvOf, seq_n, blk_n, cond_t, asBool_b, regE_some, ld_ptr, ofCells, List.length_cons, List.length_nil, Nat.reduceLeDiff, Nat.zero_le, and_self, and_true, List.drop_succ_cons, List.drop_zero, List.take_succ_cons, List.take_zero, Nat.le_refl, bin_add, bin_lss, List.nil_append, List.cons_append, Bool.false_eq_true, natP_cast, W_some, rnd_n, p1, p2, h4, LI, h5, h7, hlt, h1, h3, ld_litp, ItemD.cells, hb, he, a1]
      refine ⟨hlt, p1, h6, by omega, a5 _ (by omega) p4, ?_⟩
      show Acc 82 2 WordD.cells (s.n + 1) ((([] ++ (la.getD []).map AssignD.val ++ lw.getD []) ++ (lr.getD []).map RedirD.tgt) ++ (m.take (i + 1)).flatMap fun it => (pt it).getD []) v' s'
      rw [hfl, ← List.append_assoc]
      exact a2
    · obtain rfl : i = (li.getD []).length := by omega
      have h5 : (decide (((li.getD []).length : Int) < ((li.getD []).length : Int))) = false := by simp
      have p2' := p2
      simp only [NodeD.cells, hit] at p2'
      simp -implicitDefEqProofs only [pcode_seq, pcode_r, pcode_skip, pcode_exit, pcode_cond, pops_u, pops_nil, runK_some, actP, opP, Nat.zero_add, Nat.reduceAdd, Option.map_some, Option.bind_some, pval_tmp, set_at, Nat.reduceEqDiff, ↓reduceIte, seq_n, seq_e, cond_f, asBool_b, regE_some, ld_ptr, ofCells, List.length_cons, List.length_nil, Nat.zero_le, and_self, true_and, List.drop_succ_cons, List.drop_zero, List.take_succ_cons, List.take_zero, Nat.le_refl, bin_lss, List.nil_append, Bool.false_eq_true, W_some, rnd_e, p1, p2', h4, LI, h5]
      refine ⟨p1, p2, p3, p4, ?_⟩
      rw [List.take_length] at p5
      exact p5
  · rintro f s1 ⟨p1, p2, p3, p4, p5⟩
    refine W_rret ?_
    simp -implicitDefEqProofs only [pops_u, pops_nil, runK_some, actP, opP, pval_tmp, set_at, ↓reduceIte]
    refine ⟨_, _, rfl, ?_⟩
    subst hQ
    refine endQ_r ?_ rfl
    refine leave_p (vs := [f 3]) rfl rfl p4 ?_
    exact frz_of (p5.frz WordD.len (by omega) fun y hy => WordD.clean (ho y hy).2)
end Go.Proofs.YtflfflfodghgpaaGreatDoor


namespace Go.Proofs.YtflfflfodghgpaaGreatDoor
open Go Go.EvL Go.PE
variable {ext : PCallF}
def kidsL (lk : List NodeD) (li : List ItemD) (bd : ItemD → Option (List NodeD)) : List NodeD := lk ++ li.flatMap fun it => (bd it).getD []
structure Dec (D d : Nat) (x : NodeD) (la : Option (List AssignD)) (lw : Option (List WordD)) (lr : Option (List RedirD)) (lk : Option (List NodeD)) (li : Option (List ItemD)) (pt : ItemD → Option (List WordD)) (bd : ItemD → Option (List NodeD)) : Prop where
  a : x.assigns = slP 84 AssignD.cells la
  w : x.words = slP 82 WordD.cells lw
  r : x.redirs = slP 148 RedirD.cells lr
  k : x.kids = slP 28 NodeD.cells lk
  i : x.items = slP 150 ItemD.cells li
  hpt : ∀ it ∈ li.getD [], it.pats = slP 82 WordD.cells (pt it)
  hbd : ∀ it ∈ li.getD [], it.body = slP 28 NodeD.cells (bd it)
  words : ∀ y ∈ wordsL (la.getD []) (lw.getD []) (lr.getD []) (li.getD []) pt, PartsAt D y.parts
  kids : ∀ y ∈ kidsL (lk.getD []) (li.getD []) bd, NodeAt D d y
theorem NodeAt.dec {D d : Nat} {x : NodeD} (h : NodeAt D (d + 1) x) : ∃ la lw lr lk li pt bd, Dec D d x la lw lr lk li pt bd := by
  obtain ⟨⟨la, a1, _, a2⟩, ⟨lw, w1, _, w2⟩, ⟨lr, r1, _, r2⟩, ⟨lk, k1, _, k2⟩, ⟨li, i1, _, i2⟩⟩ := h
  have hp : ∀ it : ItemD, ∃ l : Option (List WordD), it ∈ li.getD [] → it.pats = slP 82 WordD.cells l ∧ ∀ y ∈ l.getD [], PartsAt D y.parts := fun it => by
    by_cases hi : it ∈ li.getD []
    · obtain ⟨l, e1, _, e2⟩ := (i2 it hi).1
      exact ⟨l, fun _ => ⟨e1, e2⟩⟩
    · exact ⟨none, fun hh => absurd hh hi⟩
  have hb : ∀ it : ItemD, ∃ l : Option (List NodeD), it ∈ li.getD [] → it.body = slP 28 NodeD.cells l ∧ ∀ y ∈ l.getD [], NodeAt D d y := fun it => by
    by_cases hi : it ∈ li.getD []
    · obtain ⟨l, e1, _, e2⟩ := (i2 it hi).2
      exact ⟨l, fun _ => ⟨e1, e2⟩⟩
    · exact ⟨none, fun hh => absurd hh hi⟩
  obtain ⟨pt, hpt⟩ := Classical.axiomOfChoice hp
  obtain ⟨bd, hbd⟩ := Classical.axiomOfChoice hb
  refine ⟨la, lw, lr, lk, li, pt, bd, a1, w1, r1, k1, i1, fun it hi => (hpt it hi).1, fun it hi => (hbd it hi).1, fun y hy => ?_, fun y hy => ?_⟩
  · simp only [wordsL, List.mem_append, List.mem_map, List.mem_flatMap] at hy
    rcases hy with ((⟨z, hz, rfl⟩ | hy) | ⟨z, hz, rfl⟩) | ⟨it, hi, hy⟩
    · exact a2 z hz
    · exact w2 y hy
    · exact r2 z hz
    · exact (hpt it hi).2 y hy
  · simp only [kidsL, List.mem_append, List.mem_flatMap] at hy
    rcases hy with hy | ⟨it, hi, hy⟩
    · exact k2 y hy
    · exact (hbd it hi).2 y hy
theorem PartsAt.clean {d : Nat} {p : PV} (h : PartsAt d p) : clean1 p = true := by
  cases d with
  | zero => cases h
  | succ d => obtain ⟨l, rfl, _⟩ := h; exact clean_sl _ _ _
section
variable {D d : Nat} {x : NodeD} {la : Option (List AssignD)} {lw : Option (List WordD)} {lr : Option (List RedirD)} {lk : Option (List NodeD)} {li : Option (List ItemD)} {pt : ItemD → Option (List WordD)} {bd : ItemD → Option (List NodeD)}
theorem Dec.sizes (h : Dec D d x la lw lr lk li pt bd) {N : Nat} (hN : bulks x.cells ≤ N) : (la.getD []).length + (lw.getD []).length + (lr.getD []).length + ((li.getD []).flatMap fun it => (pt it).getD []).length ≤ N ∧ (lk.getD []).length + ((li.getD []).flatMap fun it => (bd it).getD []).length ≤ N ∧ (li.getD []).length ≤ N ∧ ∀ y ∈ kidsL (lk.getD []) (li.getD []) bd, bulks y.cells ≤ N := by
  simp only [NodeD.cells, bulks_cons, bulks_nil, h.a, h.w, h.r, h.k, h.i] at hN
  have hA := len_slP (e := 84) (c := AssignD.cells) (fun y => by rw [AssignD.len]; omega) la
  have hW := len_slP (e := 82) (c := WordD.cells) (fun y => by rw [WordD.len]; omega) lw
  have hR := len_slP (e := 148) (c := RedirD.cells) (fun y => by rw [RedirD.len]; omega) lr
  have hK := len_slP (e := 28) (c := NodeD.cells) (fun y => by rw [NodeD.len]; omega) lk
  have hI := len_slP (e := 150) (c := ItemD.cells) (fun y => by rw [ItemD.len]; omega) li
  have hK2 := bulks_slP 28 NodeD.cells lk
  have hI2 := bulks_slP 150 ItemD.cells li
  have hic : ∀ it ∈ li.getD [], bulks it.cells = (slP 82 WordD.cells (pt it)).bulk + (slP 28 NodeD.cells (bd it)).bulk := fun it hi => by
    simp only [ItemD.cells, bulks_cons, bulks_nil, h.hpt it hi, h.hbd it hi, Nat.add_zero]
  have hP := len_flat (c := ItemD.cells) (g := fun it => (pt it).getD []) (li.getD []) fun it hi => by
    have := len_slP (e := 82) (c := WordD.cells) (fun y => by rw [WordD.len]; omega) (pt it)
    rw [hic it hi]; omega
  have hB := len_flat (c := ItemD.cells) (g := fun it => (bd it).getD []) (li.getD []) fun it hi => by
    have := len_slP (e := 28) (c := NodeD.cells) (fun y => by rw [NodeD.len]; omega) (bd it)
    rw [hic it hi]; omega
  refine ⟨by omega, by omega, by omega, fun y hy => ?_⟩
  simp only [kidsL, List.mem_append, List.mem_flatMap] at hy
  rcases hy with hy | ⟨it, hi, hy⟩
  · have := bulks_flat (c := NodeD.cells) hy; omega
  · have h1 := bulks_flat (c := NodeD.cells) hy
    have h2 := bulks_slP 28 NodeD.cells (bd it)
    have h3 := bulks_flat (c := ItemD.cells) hi
    rw [hic it hi] at h3
    omega
theorem Dec.words_ok (h : Dec D d x la lw lr lk li pt bd) (hN : bulks x.cells ≤ 16777216) (s : PS) : pcall Tryz.prog Γ ext 57 [.agg x.cells] s = some (slP 82 WordD.cells (optL (wordsL (la.getD []) (lw.getD []) (lr.getD []) (li.getD []) pt)), s) := by
  obtain ⟨n1, n2, n3, _⟩ := h.sizes hN
  exact wordsL_ok x la lw lr li pt h.a h.w h.r h.i h.hpt n1 n3 (fun y hy => ⟨(h.words y hy).one, (h.words y hy).clean⟩) s
theorem Dec.kids_ok (h : Dec D d x la lw lr lk li pt bd) (hN : bulks x.cells ≤ 16777216) (s : PS) : pcall Tryz.prog Γ ext 59 [.agg x.cells] s = some (slP 28 NodeD.cells (optL (kidsL (lk.getD []) (li.getD []) bd)), s) := by
  obtain ⟨n1, n2, n3, _⟩ := h.sizes hN
  refine Go.Proofs.YtflfflfodghgpaaGreatDoor.kids_ok x lk li bd h.k h.i h.hbd n2 n3 (fun y hy => ?_) s
  have hy' : y ∈ kidsL (lk.getD []) (li.getD []) bd := by
    simp only [kidsL, List.mem_append, List.mem_flatMap]
    exact hy
  exact ⟨(h.kids y hy').ones, (h.kids y hy').cleans⟩
end
structure WgtI (x : NodeD) (b : Nat) (s0 : PS) (slot : Nat) (i : Nat) (f : PFr) (s : PS) : Prop where
  s : s0 = s
  p : f 1 = .ptr b 0 9
  z : ∃ z : Int, f 3 = .sc (.int .i64 z)
  i : f slot = .sc (.int .i64 (i : Int))
theorem weight_ok {D : Nat} : ∀ (d : Nat) (x : NodeD), NodeAt D d x → bulks x.cells ≤ 16777216 → ∀ s, ∃ z : Int, pcall Tryz.prog Γ ext 15 [.agg x.cells] s = some (.sc (.int .i64 z), s) := by
  intro d
  induction d with
  | zero => intro x h; cases h
  | succ d ih =>
    intro x hx hN s
    obtain ⟨la, lw, lr, lk, li, pt, bd, hd⟩ := hx.dec
    obtain ⟨n1, n2, n3, n4⟩ := hd.sizes hN
    have LA := slP_len (e := 84) (c := AssignD.cells) la
    have LR := slP_len (e := 148) (c := RedirD.cells) lr
    have LI := slP_len (e := 150) (c := ItemD.cells) li
    suffices h : ∃ q, pcall Tryz.prog Γ ext 15 [.agg x.cells] s = some q ∧ ∃ z : Int, q = (.sc (.int .i64 z), s) by
      obtain ⟨q, e, z, rfl⟩ := h
      exact ⟨z, e⟩
    refine W_call (fn := p15) (by rfl) (by simp [p15]) ?_
    generalize hQ : EndQ p15 s _ = Q
    unfold p15
    refine W_rseq (fun f s' => f 1 = .ptr s.n 0 9 ∧ s'.h s.n = ⟨x.cells, 0, 28⟩ ∧ s'.n = s.n + 1 ∧ s'.w = s.n) ?_ ?_
    · simp -implicitDefEqProofs only [pops_u, pops_nil, runK_some, actP, opP, initP, pval_tmp, pval_const, set_at, cellsP, ↓reduceIte, pvOf]
      exact ⟨_, _, rfl, rfl, by simp -implicitDefEqProofs only [↓reduceIte, new_h], rfl, rfl⟩
    rintro f s1 ⟨p1, p2, p3, p4⟩
    have q2 := p2
    simp only [NodeD.cells, hd.a, hd.r, hd.i] at q2
    refine W_rseq (fun f s' => s1 = s' ∧ f 1 = .ptr s.n 0 9 ∧ ∃ z : Int, f 3 = .sc (.int .i64 z)) ?_ ?_
    · simp -implicitDefEqProofs only [pops_u, pops_nil, runK_some, actP, opP, Nat.zero_add, Nat.reduceAdd, Option.map_some, Option.bind_some, pval_tmp, pval_const, set_at, Nat.reduceEqDiff, ↓reduceIte, pvOf, ld_ptr, ofCells, List.length_cons, List.length_nil, Nat.reduceLeDiff, Nat.zero_le, and_self, List.drop_succ_cons, List.drop_zero, List.take_succ_cons, List.take_zero, Nat.le_refl, bin_add, Bool.false_eq_true, len_str, p1, q2, LA, LR, LI]
      exact ⟨_, _, rfl, rfl, p1, _, rfl⟩
    rintro f _ ⟨rfl, p1, hz⟩
    refine W_assoc ?_
    refine W_rseq (WgtI x s.n s1 4 0) ?_ ?_
    · simp -implicitDefEqProofs only [pops_u, pops_nil, runK_some, actP, opP, pval_const, pvOf]
      exact ⟨_, _, rfl, rfl, p1, hz, rfl⟩
    intro f s' hI
    refine W_lseq (la.getD []).length (WgtI x s.n s1 4) (WgtI x s.n s1 4 (la.getD []).length) hI ?_ ?_
    · rintro i f _ hi ⟨rfl, p1, ⟨z, hz⟩, h4⟩
      by_cases hlt : i < (la.getD []).length
      · have h5 : (decide ((i : Int) < ((la.getD []).length : Int))) = true := by simp; exact hlt
        have hx : (la.getD [])[i]? = some ((la.getD [])[i]) := List.getElem?_eq_getElem hlt
        generalize (la.getD [])[i] = y at hx
        obtain ⟨m, rfl⟩ : ∃ k, la = some k := by cases la with | none => simp at hx | some k => exact ⟨k, rfl⟩
        simp only [slP, Option.getD_some] at q2 hx hlt LA h5 n1
        have h1 := flat_len AssignD.len m
        obtain ⟨r1, h3⟩ := flat_at AssignD.len hx
        have h7 := wrap_succ (i := i) (by omega)
        simp -implicitDefEqProofs only [pcode_seq, pcode_r, pcode_skip, pcode_exit, pcode_cond, pcode_block, pops_u, pops_nil, runK_some, actP, opP, Nat.zero_add, Nat.reduceAdd, Option.map_some, Option.bind_some, pval_tmp, pval_const, set_at, Nat.reduceEqDiff, ↓reduceIte, pvOf, seq_n, blk_n, cond_t, asBool_b, regE_some, ld_ptr, ofCells, List.length_cons, List.length_nil, Nat.reduceLeDiff, Nat.zero_le, and_self, List.drop_succ_cons, List.drop_zero, List.take_succ_cons, List.take_zero, Nat.le_refl, bin_add, bin_lss, List.nil_append, List.cons_append, Bool.false_eq_true, natP_cast, W_some, rnd_n, len_str, p1, q2, h4, hz, LA, h5, h7, hlt, h1, h3, ld_litp, AssignD.cells]
        exact ⟨hlt, rfl, p1, ⟨_, rfl⟩, rfl⟩
      · obtain rfl : i = (la.getD []).length := by omega
        have h5 : (decide (((la.getD []).length : Int) < ((la.getD []).length : Int))) = false := by simp
        simp -implicitDefEqProofs only [pcode_seq, pcode_r, pcode_skip, pcode_exit, pcode_cond, pops_u, pops_nil, runK_some, actP, opP, Nat.zero_add, Nat.reduceAdd, Option.map_some, Option.bind_some, pval_tmp, set_at, Nat.reduceEqDiff, ↓reduceIte, seq_n, seq_e, cond_f, asBool_b, regE_some, ld_ptr, ofCells, List.length_cons, List.length_nil, Nat.reduceLeDiff, Nat.zero_le, and_self, true_and, List.drop_succ_cons, List.drop_zero, List.take_succ_cons, List.take_zero, Nat.le_refl, bin_lss, Bool.false_eq_true, W_some, rnd_e, p1, q2, h4, LA, h5]
        exact ⟨rfl, p1, ⟨z, hz⟩, h4⟩
    rintro f _ ⟨rfl, p1, hz, _⟩
    have h38 := hd.words_ok (ext := ext) hN s1
    have hwds := hd.words
    have hwn : (wordsL (la.getD []) (lw.getD []) (lr.getD []) (li.getD []) pt).length ≤ 16777216 := by simp only [wordsL, List.length_append, List.length_map]; omega
    generalize wordsL (la.getD []) (lw.getD []) (lr.getD []) (li.getD []) pt = wl at h38 hwds hwn
    have hwl : (optL wl).getD [] = wl := optL_get wl
    have LW := slP_len (e := 82) (c := WordD.cells) (optL wl)
    rw [hwl] at LW
    simp only [NodeD.cells] at h38
    have q3 := p2
    simp only [NodeD.cells] at q3
    refine W_rseq (fun f s' => s1 = s' ∧ f 1 = .ptr s.n 0 9 ∧ (∃ z : Int, f 3 = .sc (.int .i64 z)) ∧ f 5 = slP 82 WordD.cells (optL wl)) ?_ ?_
    · simp -implicitDefEqProofs only [pops_u, pops_nil, runK_some, actP, opP, Nat.zero_add, Nat.reduceAdd, Option.map_some, Option.bind_some, pval_tmp, pval_func, set_at, ↓reduceIte, ld_ptr, ofCells, List.length_cons, List.length_nil, Nat.zero_le, and_self, List.drop_zero, List.take_succ_cons, List.take_zero, Nat.le_refl, callP, List.map_cons, List.map_nil, List.nil_append, List.append_nil, p1, q3, h38]
      exact ⟨_, _, rfl, rfl, p1, hz, rfl⟩
    rintro f _ ⟨rfl, p1, hz, hw⟩
    refine W_assoc ?_
    refine W_rseq (fun f s' => WgtI x s.n s1 6 0 f s' ∧ f 5 = slP 82 WordD.cells (optL wl)) ?_ ?_
    · simp -implicitDefEqProofs only [pops_u, pops_nil, runK_some, actP, opP, pval_const, pvOf]
      exact ⟨_, _, rfl, ⟨rfl, p1, hz, rfl⟩, hw⟩
    intro f s' hI
    refine W_lseq wl.length (fun i f s' => WgtI x s.n s1 6 i f s' ∧ f 5 = slP 82 WordD.cells (optL wl)) (WgtI x s.n s1 6 wl.length) hI ?_ ?_
    · rintro i f _ hi ⟨⟨rfl, p1, ⟨z, hz⟩, h4⟩, hw⟩
      by_cases hlt : i < wl.length
      · have h5 : (decide ((i : Int) < (wl.length : Int))) = true := by simp; exact hlt
        have hx : wl[i]? = some (wl[i]) := List.getElem?_eq_getElem hlt
        generalize wl[i] = y at hx
        obtain ⟨cz, cy, hc⟩ := count_ok (ext := ext) D y.parts (hwds y (List.mem_of_getElem? hx)) s1
        have hw' := hw
        obtain hop : optL wl = some wl := by cases wl with | nil => simp at hx | cons a l => rfl
        rw [hop] at hw' LW
        simp only [slP] at hw' LW
        have h1 := flat_len WordD.len wl
        obtain ⟨r1, h3⟩ := flat_at WordD.len hx
        have h7 := wrap_succ (i := i) (by omega)
        simp -implicitDefEqProofs only [pcode_seq, pcode_r, pcode_skip, pcode_exit, pcode_cond, pcode_block, pops_u, pops_nil, runK_some, actP, opP, Option.map_some, Option.bind_some, pval_tmp, pval_const, pval_func, set_at, Nat.reduceEqDiff, ↓reduceIte, pvOf, seq_n, blk_n, cond_t, asBool_b, regE_some, ofCells, List.length_cons, Nat.reduceLeDiff, and_self, true_and, List.drop_succ_cons, List.drop_zero, List.take_succ_cons, List.take_zero, bin_add, bin_lss, callP, List.map_cons, List.map_nil, List.nil_append, List.append_nil, List.cons_append, Bool.false_eq_true, natP_cast, W_some, rnd_n, List.getElem?_cons_zero, List.getElem?_cons_succ, hw', h4, hz, LW, h5, h7, hlt, h1, h3, ld_litp, WordD.cells, hc]
        exact ⟨⟨rfl, p1, ⟨_, rfl⟩, rfl⟩, hw'.symm.trans hw⟩
      · obtain rfl : i = wl.length := by omega
        have h5 : (decide ((wl.length : Int) < (wl.length : Int))) = false := by simp
        simp -implicitDefEqProofs only [pcode_seq, pcode_r, pcode_skip, pcode_exit, pcode_cond, pops_u, pops_nil, runK_some, actP, opP, Option.map_some, pval_tmp, set_at, Nat.reduceEqDiff, ↓reduceIte, seq_n, seq_e, cond_f, asBool_b, regE_some, true_and, bin_lss, W_some, rnd_e, hw, h4, LW, h5]
        exact ⟨rfl, p1, ⟨z, hz⟩, h4⟩
    rintro f _ ⟨rfl, p1, hz, _⟩
    have h40 := hd.kids_ok (ext := ext) hN s1
    have hks := hd.kids
    have hkn : (kidsL (lk.getD []) (li.getD []) bd).length ≤ 16777216 := by simp only [kidsL, List.length_append]; omega
    generalize kidsL (lk.getD []) (li.getD []) bd = kl at h40 hks n4 hkn
    have LK := slP_len (e := 28) (c := NodeD.cells) (optL kl)
    rw [optL_get] at LK
    simp only [NodeD.cells] at h40
    refine W_rseq (fun f s' => s1 = s' ∧ f 1 = .ptr s.n 0 9 ∧ (∃ z : Int, f 3 = .sc (.int .i64 z)) ∧ f 9 = slP 28 NodeD.cells (optL kl)) ?_ ?_
    · simp -implicitDefEqProofs only [pops_u, pops_nil, runK_some, actP, opP, Nat.zero_add, Nat.reduceAdd, Option.map_some, Option.bind_some, pval_tmp, pval_func, set_at, ↓reduceIte, ld_ptr, ofCells, List.length_cons, List.length_nil, Nat.zero_le, and_self, List.drop_zero, List.take_succ_cons, List.take_zero, Nat.le_refl, callP, List.map_cons, List.map_nil, List.nil_append, List.append_nil, p1, q3, h40]
      exact ⟨_, _, rfl, rfl, p1, hz, rfl⟩
    rintro f _ ⟨rfl, p1, hz, hw⟩
    refine W_assoc ?_
    refine W_rseq (fun f s' => WgtI x s.n s1 10 0 f s' ∧ f 9 = slP 28 NodeD.cells (optL kl)) ?_ ?_
    · simp -implicitDefEqProofs only [pops_u, pops_nil, runK_some, actP, opP, pval_const, pvOf]
      exact ⟨_, _, rfl, ⟨rfl, p1, hz, rfl⟩, hw⟩
    intro f s' hI
    refine W_lseq kl.length (fun i f s' => WgtI x s.n s1 10 i f s' ∧ f 9 = slP 28 NodeD.cells (optL kl)) (WgtI x s.n s1 10 kl.length) hI ?_ ?_
    · rintro i f _ hi ⟨⟨rfl, p1, ⟨z, hz⟩, h4⟩, hw⟩
      by_cases hlt : i < kl.length
      · have h5 : (decide ((i : Int) < (kl.length : Int))) = true := by simp; exact hlt
        have hx : kl[i]? = some (kl[i]) := List.getElem?_eq_getElem hlt
        generalize kl[i] = y at hx
        obtain ⟨cz, hc⟩ := ih y (hks y (List.mem_of_getElem? hx)) (n4 y (List.mem_of_getElem? hx)) s1
        have hw' := hw
        obtain hop : optL kl = some kl := by cases kl with | nil => simp at hx | cons a l => rfl
        rw [hop] at hw' LK
        simp only [slP] at hw' LK
        have h1 := flat_len NodeD.len kl
        have h3 := ld_sl NodeD.len hx
        have h7 := wrap_succ (i := i) (by omega)
        simp -implicitDefEqProofs only [pcode_seq, pcode_r, pcode_skip, pcode_exit, pcode_cond, pcode_block, pops_u, pops_nil, runK_some, actP, opP, Option.map_some, Option.bind_some, pval_tmp, pval_const, pval_func, set_at, Nat.reduceEqDiff, ↓reduceIte, pvOf, seq_n, blk_n, cond_t, asBool_b, regE_some, ofCells, and_self, true_and, bin_add, bin_lss, callP, List.map_cons, List.map_nil, List.nil_append, List.append_nil, natP_cast, W_some, rnd_n, hw', h4, hz, LK, h5, h7, hlt, h1, h3, hc]
        exact ⟨⟨rfl, p1, ⟨_, rfl⟩, rfl⟩, hw'.symm.trans hw⟩
      · obtain rfl : i = kl.length := by omega
        have h5 : (decide ((kl.length : Int) < (kl.length : Int))) = false := by simp
        simp -implicitDefEqProofs only [pcode_seq, pcode_r, pcode_skip, pcode_exit, pcode_cond, pops_u, pops_nil, runK_some, actP, opP, Option.map_some, pval_tmp, set_at, Nat.reduceEqDiff, ↓reduceIte, seq_n, seq_e, cond_f, asBool_b, regE_some, true_and, bin_lss, W_some, rnd_e, hw, h4, LK, h5]
        exact ⟨rfl, p1, ⟨z, hz⟩, h4⟩
    · rintro f _ ⟨rfl, p1, ⟨z, hz⟩, _⟩
      refine W_rret ?_
      simp -implicitDefEqProofs only [pops_u, pops_nil, runK_some, actP, opP, pval_tmp, set_at, ↓reduceIte, hz]
      refine ⟨_, _, rfl, ?_⟩
      subst hQ
      refine endQ_r ?_ ⟨z, rfl⟩
      exact leave_p (vs := [.sc (.int .i64 z)]) rfl rfl (by omega) rfl
end Go.Proofs.YtflfflfodghgpaaGreatDoor
