/- What At and Kid and their references give; the law SyntaxPaths on values. No statement is proved here. -/
import Derived.Test.YtdkcfccepjimbaaGreatDoorWalk
set_option linter.unusedSimpArgs false
set_option linter.unusedVariables false
namespace Go.PE
open Go Go.EvL
section
variable {P : Program} {Γ : Nat → Option PFn} {ext : PCallF}
theorem W_blk {id : Nat} {a : PCode} {f : PFr} {s : PS} {Q : PXt → PFr → PS → Prop} (h : W (pcode P Γ ext a f s) fun x f' s' => match x with | .exit j => if j = id then Q .normal f' s' else Q (.exit j) f' s' | x => Q x f' s') : W (pcode P Γ ext (.block id a) f s) Q := by
  obtain ⟨x, f', s', e, q⟩ := h
  rw [pcode_block, e]
  cases x with
  | normal => exact ⟨_, _, _, rfl, q⟩
  | ret => exact ⟨_, _, _, rfl, q⟩
  | exit j =>
    rw [blk_e]
    simp only at q
    split at q
    · rename_i h; rw [if_pos h]; exact ⟨_, _, _, rfl, q⟩
    · rename_i h; rw [if_neg h]; exact ⟨_, _, _, rfl, q⟩
theorem wrap_pred {i : Nat} (h : i < 4611686018427387904) : IntKind.i64.wrap ((i : Int) - 1) = (i : Int) - 1 := by
  cases i with
  | zero => rfl
  | succ i =>
    have : ((i + 1 : Nat) : Int) - 1 = (i : Int) := by omega
    rw [this]
    exact wrap_nat (by omega)
end
end Go.PE
namespace Go.Proofs.YtdkcfccepjimbaaGreatDoor
open Go Go.EvL Go.PE
variable {ext : PCallF}
/-! the kids of a node, as both sides have them -/
structure KOf (ext : PCallF) (D : Nat) (x : NodeD) (kl : List NodeD) : Prop where
  ref : ∀ s, pcall Tryz.prog Γ ext 40 [.agg x.cells] s = some (slP 28 NodeD.cells (optL kl), s)
  run : ∀ s, ∃ v, pcall Tryz.prog Γ ext 44 [.agg x.cells] s = some (v, s) ∧ SlLike 28 NodeD.cells kl v
  len : kl.length ≤ 16777216
  one : ∀ y ∈ kl, y.cells.all oneP = true
theorem kof_ok {D d : Nat} {x : NodeD} (hx : NodeAt D (d + 1) x) (hN : bulks x.cells ≤ 16777216) : ∃ kl, KOf ext D x kl ∧ ∀ y ∈ kl, NodeAt D d y ∧ bulks y.cells + 1 ≤ bulks x.cells := by
  obtain ⟨la, lw, lr, lk, li, pt, bd, hd⟩ := hx.dec
  obtain ⟨n1, n2, n3, n4⟩ := hd.sizes hN
  have hkb := hd.kidsBulk
  refine ⟨kidsL (lk.getD []) (li.getD []) bd, ⟨hd.kids_ok hN, hd.children_ok hN, by simp only [kidsL, List.length_append]; exact n2, fun y hy => (hd.kids y hy).ones⟩, fun y hy => ⟨hd.kids y hy, ?_⟩⟩
  have := bulks_flat (c := NodeD.cells) hy
  omega
abbrev OkN (D : Nat) (x : NodeD) : Prop := (∃ d, NodeAt D d x) ∧ bulks x.cells ≤ 16777216
theorem OkN.ones {D : Nat} {x : NodeD} (h : OkN D x) : x.cells.all oneP = true := by
  obtain ⟨⟨d, h⟩, _⟩ := h
  exact h.ones
/-! the path to a position -/
inductive AtR (ext : PCallF) (D : Nat) (p : Int) : NodeD → List Nat → Prop
  | stop (x : NodeD) (kl : List NodeD) (h : KOf ext D x kl) (ho : OkN D x) (ha : ∀ y ∈ kl, p < y.pos) : AtR ext D p x []
  | step (x : NodeD) (kl : List NodeD) (j : Nat) (y : NodeD) (L : List Nat) (h : KOf ext D x kl) (ho : OkN D x) (hj : kl[j]? = some y) (hp : y.pos ≤ p) (ha : ∀ (i : Nat) z, j < i → kl[i]? = some z → p < z.pos) (t : AtR ext D p y L) : AtR ext D p x (j :: L)
/-- the last element that has a property, if any -/
theorem last_of {α : Type} (q : α → Prop) (l : List α) : (∀ y ∈ l, ¬ q y) ∨ ∃ (j : Nat) (y : α), l[j]? = some y ∧ q y ∧ ∀ (i : Nat) z, j < i → l[i]? = some z → ¬ q z := by
  induction l with
  | nil => exact .inl fun y hy => by cases hy
  | cons a l ih =>
    rcases ih with h | ⟨j, y, h1, h2, h3⟩
    · by_cases ha : q a
      · refine .inr ⟨0, a, rfl, ha, fun i z hi hz => ?_⟩
        obtain ⟨i, rfl⟩ : ∃ k, i = k + 1 := ⟨i - 1, by omega⟩
        rw [List.getElem?_cons_succ] at hz
        exact h z (List.mem_of_getElem? hz)
      · refine .inl fun y hy => ?_
        rcases List.mem_cons.1 hy with rfl | hy
        · exact ha
        · exact h y hy
    · refine .inr ⟨j + 1, y, by rw [List.getElem?_cons_succ]; exact h1, h2, fun i z hi hz => ?_⟩
      obtain ⟨i, rfl⟩ : ∃ k, i = k + 1 := ⟨i - 1, by omega⟩
      rw [List.getElem?_cons_succ] at hz
      exact h3 i z (by omega) hz
theorem atR_ok {D : Nat} (p : Int) : ∀ (d : Nat) (x : NodeD), NodeAt D d x → bulks x.cells ≤ 16777216 → ∃ L, AtR ext D p x L ∧ L.length ≤ bulks x.cells := by
  intro d
  induction d with
  | zero => intro x h; cases h
  | succ d ih =>
    intro x hx hN
    obtain ⟨kl, hk, hy⟩ := kof_ok (ext := ext) hx hN
    rcases last_of (fun y : NodeD => y.pos ≤ p) kl with h | ⟨j, y, h1, h2, h3⟩
    · exact ⟨[], .stop x kl hk ⟨⟨_, hx⟩, hN⟩ (fun y hy => by have := h y hy; omega), Nat.zero_le _⟩
    · obtain ⟨q1, q2⟩ := hy y (List.mem_of_getElem? h1)
      obtain ⟨L, l1, l2⟩ := ih y q1 (by omega)
      exact ⟨j :: L, .step x kl j y L hk ⟨⟨_, hx⟩, hN⟩ h1 h2 (fun i z hi hz => by have := h3 i z hi hz; omega) l1, by rw [List.length_cons]; omega⟩
/-! the node at a path -/
inductive KidR (ext : PCallF) (D : Nat) : List Int → NodeD → Option NodeD → Prop
  | nil (x : NodeD) (ho : OkN D x) : KidR ext D [] x (some x)
  | bad (i : Int) (P : List Int) (x : NodeD) (kl : List NodeD) (h : KOf ext D x kl) (ho : OkN D x) (hi : i < 0 ∨ (kl.length : Int) ≤ i) : KidR ext D (i :: P) x none
  | step (j : Nat) (P : List Int) (x y : NodeD) (kl : List NodeD) (r : Option NodeD) (h : KOf ext D x kl) (ho : OkN D x) (hj : kl[j]? = some y) (t : KidR ext D P y r) : KidR ext D ((j : Int) :: P) x r
theorem kidR_ok {D : Nat} : ∀ (P : List Int) (d : Nat) (x : NodeD), NodeAt D d x → bulks x.cells ≤ 16777216 → ∃ r, KidR ext D P x r := by
  intro P
  induction P with
  | nil => intro d x hx hN; exact ⟨some x, .nil x ⟨⟨_, hx⟩, hN⟩⟩
  | cons i P ih =>
    intro d x hx hN
    cases d with
    | zero => cases hx
    | succ d =>
      obtain ⟨kl, hk, hy⟩ := kof_ok (ext := ext) hx hN
      by_cases hi : i < 0 ∨ (kl.length : Int) ≤ i
      · exact ⟨none, .bad i P x kl hk ⟨⟨_, hx⟩, hN⟩ hi⟩
      · obtain ⟨j, rfl⟩ : ∃ j : Nat, i = (j : Int) := ⟨i.toNat, by omega⟩
        have hj : kl[j]? = some (kl[j]'(by omega)) := List.getElem?_eq_getElem (by omega)
        generalize kl[j]'(by omega) = y at hj
        obtain ⟨q1, q2⟩ := hy y (List.mem_of_getElem? hj)
        obtain ⟨r, r1⟩ := ih d y q1 (by omega)
        exact ⟨r, .step j P x y kl r hk ⟨⟨_, hx⟩, hN⟩ hj r1⟩
theorem KidR.ok {D : Nat} {P : List Int} {x : NodeD} {r : Option NodeD} (h : KidR ext D P x r) : ∀ y, r = some y → OkN D y := by
  induction h with
  | nil x ho => intro y hy; injection hy with hy; subst hy; exact ho
  | bad => intro y hy; cases hy
  | step j P x y kl r h ho hj t ih => exact ih
theorem atR_kid {D : Nat} {p : Int} {x : NodeD} {L : List Nat} (h : AtR ext D p x L) : ∃ y, KidR ext D (L.map Int.ofNat) x (some y) := by
  induction h with
  | stop x kl h ho ha => exact ⟨x, .nil x ho⟩
  | step x kl j y L h ho hj hp ha t ih =>
    obtain ⟨z, hz⟩ := ih
    exact ⟨z, .step j _ x y kl _ h ho hj hz⟩
end Go.Proofs.YtdkcfccepjimbaaGreatDoor

namespace Go.Proofs.YtdkcfccepjimbaaGreatDoor
open Go Go.EvL Go.PE
variable {ext : PCallF}
/-! jobshellref11.At -/
def lastI (p : Int) (kl : List NodeD) : Nat → Int
  | 0 => -1
  | i + 1 => match kl[i]? with
    | some y => if y.pos ≤ p then (i : Int) else lastI p kl i
    | none => lastI p kl i
theorem lastI_none {p : Int} {kl : List NodeD} (h : ∀ y ∈ kl, p < y.pos) : ∀ m, lastI p kl m = -1 := by
  intro m
  induction m with
  | zero => rfl
  | succ m ih =>
    unfold lastI
    cases hm : kl[m]? with
    | none => exact ih
    | some y =>
      have := h y (List.mem_of_getElem? hm)
      simp only
      rw [if_neg (by omega)]
      exact ih
theorem lastI_some {p : Int} {kl : List NodeD} {j : Nat} {y : NodeD} (hj : kl[j]? = some y) (hp : y.pos ≤ p) (h : ∀ (i : Nat) z, j < i → kl[i]? = some z → p < z.pos) : ∀ m, j < m → lastI p kl m = (j : Int) := by
  intro m
  induction m with
  | zero => intro h; omega
  | succ m ih =>
    intro hm
    unfold lastI
    by_cases he : m = j
    · subst he
      rw [hj]
      simp only
      rw [if_pos hp]
    · cases hk : kl[m]? with
      | none => exact ih (by omega)
      | some z =>
        have := h m z (by omega) hk
        simp only
        rw [if_neg (by omega)]
        exact ih (by omega)
structure AtI (kl : List NodeD) (p : Int) (s0 : PS) (i : Nat) (f : PFr) (s : PS) : Prop where
  s : s0 = s
  a : f 1 = .sc (.int .i64 p)
  k : f 5 = slP 28 NodeD.cells (optL kl)
  j : f 6 = .sc (.int .i64 (lastI p kl i))
  x : f 7 = .sc (.int .i64 (i : Int))
theorem at_ref {D : Nat} {p : Int} {x : NodeD} {L : List Nat} (h : AtR ext D p x L) : L.length ≤ 100000000 → ∀ s, pcall Tryz.prog Γ ext 32 [.agg x.cells, .sc (.int .i64 p)] s = some (ints (L.map Int.ofNat), s) := by
  have main : ∀ (x : NodeD) (kl : List NodeD) (L : List Nat), KOf ext D x kl → (L = [] ∧ lastI p kl kl.length = -1) ∨ (∃ (j : Nat) (y : NodeD) (M : List Nat), L = j :: M ∧ kl[j]? = some y ∧ lastI p kl kl.length = (j : Int) ∧ ∀ s, pcall Tryz.prog Γ ext 32 [.agg y.cells, .sc (.int .i64 p)] s = some (ints (M.map Int.ofNat), s)) → L.length ≤ 100000000 → ∀ s, pcall Tryz.prog Γ ext 32 [.agg x.cells, .sc (.int .i64 p)] s = some (ints (L.map Int.ofNat), s) := by
    intro x kl L hk hor hlen s
    have h40 := hk.ref
    have hkn := hk.len
    have LK := slP_len (e := 28) (c := NodeD.cells) (optL kl)
    rw [optL_get] at LK
    suffices h : ∃ q, pcall Tryz.prog Γ ext 32 [.agg x.cells, .sc (.int .i64 p)] s = some q ∧ q = (ints (L.map Int.ofNat), s) by
      obtain ⟨q, e, rfl⟩ := h
      exact e
    refine W_call (fn := p32) (by rfl) (by simp [p32]) ?_
    generalize hQ : EndQ p32 s _ = Q
    unfold p32
    refine W_rseq (fun f s' => f 1 = .sc (.int .i64 p) ∧ f 2 = .ptr s.n 0 9 ∧ s'.h s.n = ⟨x.cells, 0, 28⟩ ∧ s'.n = s.n + 1 ∧ s'.w = s.n) ?_ ?_
    · simp -implicitDefEqProofs only [pops_u, pops_nil, runK_some, actP, opP, initP, Nat.zero_add, pval_tmp, pval_const, set_at, cellsP, ↓reduceIte, pvOf]
      exact ⟨_, _, rfl, rfl, rfl, by simp -implicitDefEqProofs only [↓reduceIte, new_h], rfl, rfl⟩
    rintro f s1 ⟨p0, p1, p2, p3, p4⟩
    refine W_rseq (fun f s' => s1 = s' ∧ f 1 = .sc (.int .i64 p) ∧ f 5 = slP 28 NodeD.cells (optL kl) ∧ f 6 = .sc (.int .i64 (-1))) ?_ ?_
    · simp only [NodeD.cells] at p2 h40
      simp -implicitDefEqProofs only [pops_u, pops_nil, runK_some, actP, opP, Nat.zero_add, Nat.reduceAdd, Option.map_some, Option.bind_some, pval_tmp, pval_const, pval_func, set_at, ↓reduceIte, pvOf, ld_ptr, ofCells, List.length_cons, List.length_nil, Nat.zero_le, and_self, List.drop_zero, List.take_succ_cons, List.take_zero, Nat.le_refl, callP, List.map_cons, List.map_nil, List.nil_append, List.append_nil, p1, p2, h40]
      exact ⟨_, _, rfl, rfl, p0, rfl, rfl⟩
    rintro f _ ⟨rfl, p0, p5, p6⟩
    refine W_assoc ?_
    refine W_rseq (AtI kl p s1 0) ?_ ?_
    · simp -implicitDefEqProofs only [pops_u, pops_nil, runK_some, actP, opP, pval_const, pvOf]
      exact ⟨_, _, rfl, rfl, p0, p5, p6, rfl⟩
    intro f s' hI
    refine W_lseq' kl.length (AtI kl p s1) (AtI kl p s1 kl.length) hI ?_ ?_
    · rintro i f _ hi ⟨rfl, q1, q5, q6, q7⟩ N K hN hK
      by_cases hlt : i < kl.length
      · have h5 : (decide ((i : Int) < (kl.length : Int))) = true := by simp; exact hlt
        have hx : kl[i]? = some (kl[i]) := List.getElem?_eq_getElem hlt
        generalize kl[i] = y at hx
        obtain hop : optL kl = some kl := by cases kl with | nil => simp at hx | cons a l => rfl
        have q5' := q5
        rw [hop] at q5' LK
        simp only [slP] at q5' LK
        have h1 := flat_len NodeD.len kl
        obtain ⟨r1, h3⟩ := flat_at NodeD.len hx
        have h7 := wrap_succ (i := i) (by omega)
        have hl : lastI p kl (i + 1) = if y.pos ≤ p then (i : Int) else lastI p kl i := by
          conv => lhs; unfold lastI
          rw [hx]
        by_cases hp : y.pos ≤ p
        · have g1 : decide (y.pos ≤ p) = true := by simp; exact hp
          rw [if_pos hp] at hl
          simp -implicitDefEqProofs only [pcode_seq, pcode_r, pcode_skip, pcode_exit, pcode_cond, pcode_block, pops_u, pops_nil, runK_some, actP, opP, Option.map_some, Option.bind_some, pval_tmp, pval_const, set_at, Nat.reduceEqDiff, ↓reduceIte, pvOf, seq_n, blk_n, cond_t, asBool_b, regE_some, ofCells, List.length_cons, Nat.reduceLeDiff, and_self, List.drop_succ_cons, List.drop_zero, List.take_succ_cons, List.take_zero, bin_add, bin_lss, bin_leq, List.nil_append, List.cons_append, Bool.false_eq_true, natP_cast, W_some, rnd_n, q1, q5', q7, LK, h5, h7, hlt, h1, h3, ld_litp, NodeD.cells, g1]
          exact hN _ _ hlt ⟨rfl, q1, q5, by rw [hl]; rfl, rfl⟩
        · have g1 : decide (y.pos ≤ p) = false := by simp; omega
          rw [if_neg hp] at hl
          simp -implicitDefEqProofs only [pcode_seq, pcode_r, pcode_skip, pcode_exit, pcode_cond, pcode_block, pops_u, pops_nil, runK_some, actP, opP, Option.map_some, Option.bind_some, pval_tmp, pval_const, set_at, Nat.reduceEqDiff, ↓reduceIte, pvOf, seq_n, blk_n, cond_t, cond_f, asBool_b, regE_some, ofCells, List.length_cons, Nat.reduceLeDiff, and_self, List.drop_succ_cons, List.drop_zero, List.take_succ_cons, List.take_zero, bin_add, bin_lss, bin_leq, List.nil_append, List.cons_append, Bool.false_eq_true, natP_cast, W_some, rnd_n, q1, q5', q7, LK, h5, h7, hlt, h1, h3, ld_litp, NodeD.cells, g1]
          exact hN _ _ hlt ⟨rfl, q1, q5, by rw [hl]; exact q6, rfl⟩
      · obtain rfl : i = kl.length := by omega
        have h5 : (decide ((kl.length : Int) < (kl.length : Int))) = false := by simp
        simp -implicitDefEqProofs only [pcode_seq, pcode_r, pcode_skip, pcode_exit, pcode_cond, pops_u, pops_nil, runK_some, actP, opP, Option.map_some, pval_tmp, set_at, Nat.reduceEqDiff, ↓reduceIte, seq_n, seq_e, cond_f, asBool_b, regE_some, true_and, bin_lss, W_some, rnd_e, q5, q7, LK, h5]
        exact hK _ _ ⟨rfl, q1, q5, q6, q7⟩
    · rintro f _ ⟨rfl, q1, q5, q6, q7⟩
      rcases hor with ⟨rfl, hl⟩ | ⟨j, y, M, rfl, hj, hl, hc⟩
      · rw [hl] at q6
        have g1 : decide ((-1 : Int) < 0) = true := rfl
        simp -implicitDefEqProofs only [pcode_seq, pcode_r, pcode_ret, pcode_skip, pcode_cond, pops_u, pops_nil, runK_some, actP, opP, Option.map_some, pval_tmp, pval_const, set_at, ↓reduceIte, pvOf, seq_n, seq_r, cond_t, asBool_b, regE_some, bin_lss, W_some, q6, g1]
        subst hQ
        exact endQ_r (leave_p rfl rfl (by omega) rfl) rfl
      · rw [hl] at q6
        have g1 : decide ((j : Int) < 0) = false := by simp
        refine W_assoc ?_
        refine W_rseq (fun f' s' => s1 = s' ∧ f' 1 = .sc (.int .i64 p) ∧ f' 5 = slP 28 NodeD.cells (optL kl) ∧ f' 6 = .sc (.int .i64 (j : Int)) ∧ f' 25 = .sc (.bool false)) ?_ ?_
        · simp -implicitDefEqProofs only [pops_u, pops_nil, runK_some, actP, opP, Option.map_some, pval_tmp, pval_const, set_at, ↓reduceIte, pvOf, bin_lss, q6, g1]
          exact ⟨_, _, rfl, rfl, q1, q5, q6, rfl⟩
        rintro f _ ⟨rfl, q1, q5, q6, q25⟩
        refine W_cseq (v := false) (by simp -implicitDefEqProofs only [pval_tmp, asBool_b, q25]) ?_
        refine W_skip ?_
        have hlt := (List.getElem?_eq_some_iff.1 hj).1
        obtain hop : optL kl = some kl := by cases kl with | nil => simp at hj | cons a l => rfl
        rw [hop] at q5
        simp only [slP] at q5
        have h1 := flat_len NodeD.len kl
        have h3 := ld_sl NodeD.len hj
        simp only [List.length_cons] at hlen
        have hacc : Acc 3 1 intC (s.n + 1) [(j : Int)] (.own s1.n 0 1 1) (s1.new ⟨[.sc (.int .i64 (j : Int))], 0, 3⟩) := .inr ⟨by simp, s1.n, by omega, by rw [new_n]; omega, rfl, by rw [new_h, if_pos rfl]; rfl⟩
        obtain ⟨v', s', a1, a2, a3, a4, a5⟩ := hacc.app (bytes := 8) intC_len (M.map Int.ofNat) (by omega) (by simp only [List.length_map, List.length_cons, List.length_nil]; omega) (by simp only [List.length_map, List.length_cons, List.length_nil]; omega) (fun z _ => intC_one z) (by rw [new_n]; omega)
        have he := elems_sl (e := 3) intC_len (optL (M.map Int.ofNat)) (s1.new ⟨[.sc (.int .i64 (j : Int))], 0, 3⟩)
        rw [optL_get] at he
        refine W_rret ?_
        simp -implicitDefEqProofs only [pops_u, pops_nil, runK_some, actP, opP, Nat.zero_add, Option.map_some, Option.bind_some, pval_tmp, pval_func, set_at, Nat.reduceEqDiff, cellsP, ↓reduceIte, ofCells, List.length_cons, List.length_nil, and_self, List.drop_succ_cons, List.take_zero, Nat.le_refl, callP, List.map_cons, List.map_nil, List.nil_append, List.append_nil, natP_cast, q1, q5, q6, hlt, h1, h3, hc, fillP, List.drop_nil, he, a1]
        refine ⟨_, _, rfl, ?_⟩
        subst hQ
        refine endQ_r ?_ rfl
        refine leave_p (vs := [v']) rfl rfl (a5 _ (by omega) (by rw [new_w]; omega)) ?_
        exact frz_of (a2.frz intC_len (by omega) fun y _ => intC_clean y)
  induction h with
  | stop x kl h ho ha =>
    intro hlen s
    exact main x kl [] h (.inl ⟨rfl, lastI_none ha _⟩) hlen s
  | step x kl j y M h ho hj hp ha t ih =>
    intro hlen s
    exact main x kl (j :: M) h (.inr ⟨j, y, M, rfl, hj, lastI_some hj hp ha _ (List.getElem?_eq_some_iff.1 hj).1, ih (by simp only [List.length_cons] at hlen; omega)⟩) hlen s
end Go.Proofs.YtdkcfccepjimbaaGreatDoor

namespace Go.Proofs.YtdkcfccepjimbaaGreatDoor
open Go Go.EvL Go.PE
variable {ext : PCallF}
/-! syntax.At -/
theorem Acc.put {α : Type} {e es b : Nat} {c : α → List PV} {l : List α} {v : PV} {s : PS} (h : Acc e es c b l v s) {k : Nat} (hk : k < b) (B : Blk) : Acc e es c b l v (s.put k B) := by
  rcases h with h | ⟨hl, k', k1, k2, rfl, k3⟩
  · exact .inl h
  · exact .inr ⟨hl, k', k1, by rw [put_n]; exact k2, rfl, by rw [put_h, if_neg (by omega)]; exact k3⟩
def loop30 : PCode := (.block 2
           (.loop
             (.seq (.seq (.reg [⟨some 13, .mv (.tmp 7), none⟩,
                 ⟨some 14, .bin .geq 3 (.tmp 13) (.const (.int .i64 0)), none⟩,
                 ⟨some 15, .mv (.tmp 14), none⟩,
                 ⟨some 16, .mv (.tmp 6), (some (15, true))⟩,
                 ⟨some 17, .mv (.tmp 7), (some (15, true))⟩,
                 ⟨some 18, .iaddr 9 (.tmp 16) (.tmp 17), (some (15, true))⟩,
                 ⟨some 19, .faddr 1 (.tmp 18), (some (15, true))⟩,
                 ⟨some 20, .load 3 false 1 (.tmp 19), (some (15, true))⟩,
                 ⟨some 21, .mv (.tmp 1), (some (15, true))⟩,
                 ⟨some 22, .bin .gtr 3 (.tmp 20) (.tmp 21), (some (15, true))⟩,
                 ⟨some 23, .pick (.tmp 15) (.tmp 22) (.const (.bool false)), none⟩])
              (.cond (.tmp 23)
                (.skip)
                (.exit 2)))
             (.block 3
               (.reg [⟨some 24, .mv (.tmp 7), none⟩,
                 ⟨some 25, .bin .sub 3 (.tmp 24) (.const (.int .i64 1)), none⟩,
                 ⟨some 7, .mv (.tmp 25), none⟩])))))
structure DnI (v : PV) (p : Int) (a2 a5 : PV) (s0 : PS) (f : PFr) (s : PS) : Prop where
  s : s0 = s
  a : f 1 = .sc (.int .i64 p)
  k : f 6 = v
  b : f 2 = a2
  l : f 5 = a5
theorem down_ok {kl : List NodeD} {v : PV} (hv : SlLike 28 NodeD.cells kl v) (hkn : kl.length ≤ 16777216) {p : Int} {m0 : Nat} (hm : m0 ≤ kl.length) (ha : ∀ (i : Nat) z, m0 ≤ i → kl[i]? = some z → p < z.pos) (hy : ∀ j, m0 = j + 1 → ∃ y, kl[j]? = some y ∧ y.pos ≤ p) {rest : PCode} {f : PFr} {s : PS} {Q : PXt → PFr → PS → Prop}
    (h1 : f 1 = .sc (.int .i64 p)) (h6 : f 6 = v) (h7 : f 7 = .sc (.int .i64 ((kl.length : Int) - 1)))
    (hk : ∀ f', f' 1 = .sc (.int .i64 p) → f' 6 = v → f' 2 = f 2 → f' 5 = f 5 → f' 7 = .sc (.int .i64 ((m0 : Int) - 1)) → W (pcode Tryz.prog Γ ext rest f' s) Q) : W (pcode Tryz.prog Γ ext (.seq loop30 rest) f s) Q := by
  unfold loop30
  generalize h2 : f 2 = a2 at hk
  generalize h5 : f 5 = a5 at hk
  refine W_lseq' (kl.length - m0) (fun r f' s' => DnI v p a2 a5 s f' s' ∧ f' 7 = .sc (.int .i64 (((kl.length - r : Nat) : Int) - 1))) (fun f' s' => DnI v p a2 a5 s f' s' ∧ f' 7 = .sc (.int .i64 ((m0 : Int) - 1))) ⟨⟨rfl, h1, h6, h2, h5⟩, h7⟩ ?_ ?_
  · rintro r f _ hr ⟨⟨rfl, q1, q6, q2, q5⟩, q7⟩ N K hN hK
    have hfl := flat_len NodeD.len kl
    by_cases hlt : r < kl.length - m0
    · obtain ⟨t, ht⟩ : ∃ t, kl.length - r = t + 1 := ⟨kl.length - r - 1, by omega⟩
      have e : ((kl.length - r : Nat) : Int) - 1 = (t : Int) := by rw [ht]; omega
      rw [e] at q7
      have htl : t < kl.length := by omega
      have hz : kl[t]? = some (kl[t]) := List.getElem?_eq_getElem htl
      generalize kl[t] = z at hz
      have hp := ha t z (by omega) hz
      obtain ⟨r1, h3⟩ := flat_at NodeD.len hz
      have g1 : decide ((t : Int) ≥ 0) = true := by simp
      have g2 : decide (z.pos > p) = true := by simp; exact hp
      have g3 := wrap_pred (i := t) (by omega)
      have hfin : ∀ f' : PFr, f' 1 = .sc (.int .i64 p) → f' 6 = v → f' 2 = a2 → f' 5 = a5 → f' 7 = .sc (.int .i64 ((t : Int) - 1)) → N f' s := fun f' e1 e6 e2 e5 e7 =>
        hN _ _ hlt ⟨⟨rfl, e1, e6, e2, e5⟩, by rw [e7]; congr 3; omega⟩
      rcases hv with ⟨rfl, rfl⟩ | rfl | rfl
      · simp at htl
      · simp -implicitDefEqProofs only [pcode_seq, pcode_r, pcode_skip, pcode_exit, pcode_cond, pcode_block, pops_u, pops_g, pops_nil, runK_some, runG_true, actP, opP, guardP, Option.map_some, Option.bind_some, pval_tmp, pval_const, set_at, Nat.reduceEqDiff, ↓reduceIte, pvOf, seq_n, blk_n, cond_t, asBool_b, regE_some, ofCells, List.length_cons, Nat.reduceLeDiff, and_self, List.drop_succ_cons, List.drop_zero, List.take_succ_cons, List.take_zero, bin_sub, bin_gtr, bin_geq, beq_self_eq_true, List.nil_append, List.cons_append, Bool.false_eq_true, natP_cast, W_some, rnd_n, q1, q6, q7, g1, g2, g3, htl, hfl, h3, ld_litp, NodeD.cells]
        exact hfin _ q1 q6 q2 q5 rfl
      · simp -implicitDefEqProofs only [pcode_seq, pcode_r, pcode_skip, pcode_exit, pcode_cond, pcode_block, pops_u, pops_g, pops_nil, runK_some, runG_true, actP, opP, guardP, Option.map_some, Option.bind_some, pval_tmp, pval_const, set_at, Nat.reduceEqDiff, ↓reduceIte, pvOf, seq_n, blk_n, cond_t, asBool_b, regE_some, ofCells, List.length_cons, Nat.reduceLeDiff, and_self, List.drop_succ_cons, List.drop_zero, List.take_succ_cons, List.take_zero, bin_sub, bin_gtr, bin_geq, beq_self_eq_true, List.nil_append, List.cons_append, Bool.false_eq_true, natP_cast, W_some, rnd_n, q1, q6, q7, g1, g2, g3, htl, hfl, h3, ld_litp, NodeD.cells]
        exact hfin _ q1 q6 q2 q5 rfl
    · have e0 : kl.length - r = m0 := by omega
      rw [e0] at q7
      cases m0 with
      | zero =>
        have g1 : decide ((((0 : Nat) : Int) - 1) ≥ 0) = false := by simp
        simp -implicitDefEqProofs only [pcode_seq, pcode_r, pcode_skip, pcode_exit, pcode_cond, pops_u, pops_g, pops_nil, runK_some, runG_false, actP, opP, guardP, Option.map_some, pval_tmp, pval_const, set_at, Nat.reduceEqDiff, ↓reduceIte, pvOf, seq_n, seq_e, cond_f, asBool_b, regE_some, true_and, bin_geq, b_tt, W_some, rnd_e, q7, g1]
        exact hK _ _ ⟨⟨rfl, q1, q6, q2, q5⟩, q7⟩
      | succ t =>
        have q7' := q7
        have e : ((t + 1 : Nat) : Int) - 1 = (t : Int) := by omega
        rw [e] at q7'
        obtain ⟨z, hz, hp⟩ := hy t rfl
        have htl : t < kl.length := by omega
        obtain ⟨r1, h3⟩ := flat_at NodeD.len hz
        have g1 : decide ((t : Int) ≥ 0) = true := by simp
        have g2 : decide (z.pos > p) = false := by simp; exact hp
        rcases hv with ⟨rfl, rfl⟩ | rfl | rfl
        · simp at htl
        · simp -implicitDefEqProofs only [pcode_seq, pcode_r, pcode_skip, pcode_exit, pcode_cond, pops_u, pops_g, pops_nil, runK_some, runG_true, actP, opP, guardP, Option.map_some, Option.bind_some, pval_tmp, pval_const, set_at, Nat.reduceEqDiff, ↓reduceIte, pvOf, seq_n, seq_e, cond_f, asBool_b, regE_some, ofCells, List.length_cons, Nat.reduceLeDiff, and_self, true_and, List.drop_succ_cons, List.drop_zero, List.take_succ_cons, List.take_zero, bin_gtr, bin_geq, beq_self_eq_true, List.nil_append, List.cons_append, Bool.false_eq_true, natP_cast, W_some, rnd_e, q1, q6, q7', g1, g2, htl, hfl, h3, ld_litp, NodeD.cells]
          exact hK _ _ ⟨⟨rfl, q1, q6, q2, q5⟩, q7⟩
        · simp -implicitDefEqProofs only [pcode_seq, pcode_r, pcode_skip, pcode_exit, pcode_cond, pops_u, pops_g, pops_nil, runK_some, runG_true, actP, opP, guardP, Option.map_some, Option.bind_some, pval_tmp, pval_const, set_at, Nat.reduceEqDiff, ↓reduceIte, pvOf, seq_n, seq_e, cond_f, asBool_b, regE_some, ofCells, List.length_cons, Nat.reduceLeDiff, and_self, true_and, List.drop_succ_cons, List.drop_zero, List.take_succ_cons, List.take_zero, bin_gtr, bin_geq, beq_self_eq_true, List.nil_append, List.cons_append, Bool.false_eq_true, natP_cast, W_some, rnd_e, q1, q6, q7', g1, g2, htl, hfl, h3, ld_litp, NodeD.cells]
          exact hK _ _ ⟨⟨rfl, q1, q6, q2, q5⟩, q7⟩
  · rintro f _ ⟨⟨rfl, q1, q6, q2, q5⟩, q7⟩
    exact hk f q1 q6 q2 q5 q7
end Go.Proofs.YtdkcfccepjimbaaGreatDoor

namespace Go.Proofs.YtdkcfccepjimbaaGreatDoor
open Go Go.EvL Go.PE
variable {ext : PCallF}
structure AtJ (b : Nat) (p : Int) (y : NodeD) (l : List Nat) (f : PFr) (s : PS) : Prop where
  a : f 1 = .sc (.int .i64 p)
  o : f 2 = .ptr b 0 9
  h : ∃ low, s.h b = ⟨y.cells, low, 28⟩ ∧ low ≤ 9
  n : b + 1 ≤ s.n
  w : b ≤ s.w
  acc : Acc 3 1 intC (b + 1) (l.map Int.ofNat) (f 5) s
theorem at_run {D : Nat} {p : Int} {x : NodeD} {L : List Nat} (h : AtR ext D p x L) (hlen : L.length ≤ 100000000) (s : PS) : pcall Tryz.prog Γ ext 30 [.agg x.cells, .sc (.int .i64 p)] s = some (ints (L.map Int.ofNat), s) := by
  suffices hh : ∃ q, pcall Tryz.prog Γ ext 30 [.agg x.cells, .sc (.int .i64 p)] s = some q ∧ q = (ints (L.map Int.ofNat), s) by
    obtain ⟨q, e, rfl⟩ := hh
    exact e
  refine W_call (fn := p30) (by rfl) (by simp [p30]) ?_
  generalize hQ : EndQ p30 s _ = Q
  unfold p30
  refine W_rseq (fun f s' => f 1 = .sc (.int .i64 p) ∧ f 2 = .ptr s.n 0 9 ∧ s'.h s.n = ⟨x.cells, 0, 28⟩ ∧ s'.n = s.n + 1 ∧ s'.w = s.n) ?_ ?_
  · simp -implicitDefEqProofs only [pops_u, pops_nil, runK_some, actP, opP, initP, Nat.zero_add, pval_tmp, pval_const, set_at, cellsP, ↓reduceIte, pvOf]
    exact ⟨_, _, rfl, rfl, rfl, by simp -implicitDefEqProofs only [↓reduceIte, new_h], rfl, rfl⟩
  rintro f s1 ⟨p0, p1, p2, p3, p4⟩
  refine W_rseq (AtJ s.n p x []) ?_ ?_
  · simp -implicitDefEqProofs only [pops_u, pops_nil, runK_some, actP, opP, pval_const, pvOf]
    exact ⟨_, _, rfl, p0, p1, ⟨0, p2, by omega⟩, by omega, by omega, .nil _ _ _ _ _⟩
  intro f s1 hI
  refine W_lend L.length (fun i f s' => ∃ y, AtR ext D p y (L.drop i) ∧ AtJ s.n p y (L.take i) f s') (fun _ _ => False) ⟨x, h, hI⟩ ?_ (fun _ _ h => h.elim)
  rintro i f s1 hi ⟨y, hy, q1, q2, ⟨low, q3, q3'⟩, q4, q5, q6⟩ N K hN _
  refine W_blk ?_
  generalize hR : (fun (x : PXt) (f' : PFr) (s' : PS) => _) = R
  have rN : ∀ f' s', i < L.length → (∃ y, AtR ext D p y (L.drop (i + 1)) ∧ AtJ s.n p y (L.take (i + 1)) f' s') → R .normal f' s' := fun f' s' h1 h2 => by subst hR; exact hN f' s' h1 h2
  have rR : ∀ f' s', Q .ret f' s' → R .ret f' s' := fun f' s' h1 => by subst hR; exact h1
  clear hR hN
  obtain ⟨kl, hk⟩ : ∃ kl, KOf ext D y kl ∧ ((L.drop i = [] ∧ ∀ z ∈ kl, p < z.pos) ∨ ∃ (j : Nat) (z : NodeD) (M : List Nat), L.drop i = j :: M ∧ kl[j]? = some z ∧ z.pos ≤ p ∧ (∀ (i : Nat) z, j < i → kl[i]? = some z → p < z.pos) ∧ AtR ext D p z M) := by
    generalize L.drop i = M at hy
    cases hy with
    | stop _ kl h ho ha => exact ⟨kl, h, .inl ⟨rfl, ha⟩⟩
    | step _ kl j z M h ho hj hp ha t => exact ⟨kl, h, .inr ⟨j, z, M, rfl, hj, hp, ha, t⟩⟩
  obtain ⟨hk, hor⟩ := hk
  obtain ⟨v, c1, c2⟩ := hk.run s1
  have hkn := hk.len
  have c3 := c2.len
  have c4 := wrap_pred (i := kl.length) (by omega)
  refine W_rseq (fun f' s' => s1 = s' ∧ f' 1 = .sc (.int .i64 p) ∧ f' 2 = .ptr s.n 0 9 ∧ f' 5 = f 5 ∧ f' 6 = v) ?_ ?_
  · simp only [NodeD.cells] at q3 c1
    simp -implicitDefEqProofs only [pops_u, pops_nil, runK_some, actP, opP, Nat.zero_add, Nat.reduceAdd, Option.map_some, Option.bind_some, pval_tmp, pval_func, set_at, ↓reduceIte, ld_ptr, ofCells, List.length_cons, List.length_nil, and_self, List.drop_zero, List.take_succ_cons, List.take_zero, Nat.le_refl, callP, List.map_cons, List.map_nil, List.nil_append, List.append_nil, q2, q3, q3', c1]
    exact ⟨_, _, rfl, rfl, q1, q2, rfl, rfl⟩
  rintro f' _ ⟨rfl, r1, r2, r5, r6⟩
  refine W_rseq (fun f' s' => s1 = s' ∧ f' 1 = .sc (.int .i64 p) ∧ f' 2 = .ptr s.n 0 9 ∧ f' 5 = f 5 ∧ f' 6 = v ∧ f' 7 = .sc (.int .i64 ((kl.length : Int) - 1))) ?_ ?_
  · simp -implicitDefEqProofs only [pops_u, pops_nil, runK_some, actP, opP, Option.map_some, pval_tmp, pval_const, set_at, ↓reduceIte, pvOf, bin_sub, r6, c3, c4]
    exact ⟨_, _, rfl, rfl, r1, r2, r5, r6, rfl⟩
  rintro f' _ ⟨rfl, r1, r2, r5, r6, r7⟩
  rcases hor with ⟨hd, ha⟩ | ⟨j, z, M, hd, hj, hp, ha, t⟩
  · refine down_ok (m0 := 0) c2 hkn (Nat.zero_le _) (fun i z _ hz => ha z (List.mem_of_getElem? hz)) (fun j hj => by cases hj) r1 r6 r7 ?_
    intro f2 e1 e6 e2 e5 e7
    have g1 : decide (((0 : Nat) : Int) - 1 < 0) = true := by simp
    rw [List.take_of_length_le (by rw [List.drop_eq_nil_iff] at hd; exact hd)] at q6
    simp -implicitDefEqProofs only [pcode_seq, pcode_r, pcode_ret, pcode_skip, pcode_cond, pops_u, pops_nil, runK_some, actP, opP, Option.map_some, pval_tmp, pval_const, set_at, Nat.reduceEqDiff, ↓reduceIte, pvOf, seq_n, seq_r, cond_t, asBool_b, regE_some, bin_lss, W_some, e5, e7, r5, g1]
    refine rR _ _ ?_
    subst hQ
    refine endQ_r ?_ rfl
    refine leave_p (vs := [f 5]) rfl rfl q5 ?_
    exact frz_of (q6.frz intC_len (by omega) fun y _ => intC_clean y)
  · have hjl := (List.getElem?_eq_some_iff.1 hj).1
    refine down_ok (m0 := j + 1) c2 hkn (by omega) (fun i z hi hz => ha i z (by omega) hz) (fun j' hj' => by
      have e : j = j' := by omega
      subst e
      exact ⟨z, hj, hp⟩) r1 r6 r7 ?_
    intro f2 e1 e6 e2 e5 e7
    have e : ((j + 1 : Nat) : Int) - 1 = (j : Int) := by omega
    rw [e] at e7
    have hil : i < L.length := by
      apply Decidable.byContradiction
      intro hh
      rw [List.drop_of_length_le (by omega)] at hd
      cases hd
    have hLi : L[i]? = some j := by
      have := List.getElem?_drop (xs := L) (i := i) (j := 0)
      rw [hd] at this
      simpa using this.symm
    have hdr : L.drop (i + 1) = M := by
      have : (L.drop i).drop 1 = L.drop (i + 1) := by rw [List.drop_drop]
      rw [← this, hd]
      rfl
    have htk : (L.take (i + 1)).map Int.ofNat = (L.take i).map Int.ofNat ++ [(j : Int)] := by rw [List.take_add_one, hLi]; simp
    have g1 : decide ((j : Int) < 0) = false := by simp
    have hfl := flat_len NodeD.len kl
    have h3 := ld_sl NodeD.len hj
    have hzo := hk.one z (List.mem_of_getElem? hj)
    have hzl : z.cells.length = 9 := z.len
    refine W_assoc ?_
    refine W_rseq (fun f' s' => s1 = s' ∧ f' 1 = .sc (.int .i64 p) ∧ f' 2 = .ptr s.n 0 9 ∧ f' 5 = f 5 ∧ f' 6 = v ∧ f' 7 = .sc (.int .i64 (j : Int)) ∧ f' 27 = .sc (.bool false)) ?_ ?_
    · simp -implicitDefEqProofs only [pops_u, pops_nil, runK_some, actP, opP, Option.map_some, pval_tmp, pval_const, set_at, ↓reduceIte, pvOf, bin_lss, e7, g1]
      exact ⟨_, _, rfl, rfl, e1, by rw [← r2]; exact e2, by rw [← r5]; exact e5, e6, e7, rfl⟩
    rintro f3 _ ⟨rfl, e1, e2, e5, e6, e7, e27⟩
    refine W_cseq (v := false) (by simp -implicitDefEqProofs only [pval_tmp, asBool_b, e27]) ?_
    refine W_skip ?_
    obtain ⟨v', s', a1, a2, a3, a4, a5⟩ := (q6.new ⟨intC (j : Int), 0, 3⟩).app (bytes := 8) intC_len [(j : Int)] (by omega) (by simp only [List.length_map, List.length_take, List.length_cons, List.length_nil]; omega) (by simp only [List.length_map, List.length_take, List.length_cons, List.length_nil]; omega) (fun z _ => intC_one z) (by rw [new_n]; omega)
    rw [new_n] at a4
    have h6 : s'.h s.n = ⟨y.cells, low, 28⟩ := by rw [a3 _ (by omega), new_h, if_neg (by omega)]; exact q3
    have h8 : s.n ≤ s'.w := a5 _ (by omega) (by rw [new_w]; exact q5)
    simp only [List.flatMap_cons, List.flatMap_nil, List.append_nil, intC, List.length_cons, List.length_nil, Nat.zero_add] at a1
    refine W_rseq (fun f' s2 => s' = s2 ∧ f' 1 = .sc (.int .i64 p) ∧ f' 2 = .ptr s.n 0 9 ∧ f' 5 = v' ∧ f' 6 = v ∧ f' 7 = .sc (.int .i64 (j : Int))) ?_ ?_
    · simp -implicitDefEqProofs only [pops_u, pops_nil, runK_some, actP, opP, Nat.zero_add, Option.map_some, Option.bind_some, pval_tmp, set_at, Nat.reduceEqDiff, cellsP, ↓reduceIte, new_h, List.length_cons, List.length_nil, Nat.zero_le, and_self, List.drop_succ_cons, List.drop_zero, List.take_succ_cons, List.take_zero, Nat.le_refl, List.map_cons, List.map_nil, List.nil_append, List.append_nil, e5, e7, fillP, elemsP, Nat.reduceMul, List.drop_nil, List.take_nil, a1]
      exact ⟨_, _, rfl, rfl, e1, e2, rfl, e6, e7⟩
    rintro f4 _ ⟨rfl, e1, e2, e5, e6, e7⟩
    have hia : opP Tryz.prog ((f4.set 33 v).set 34 (.sc (.int .i64 (j : Int)))) s' (.iaddr 9 (.tmp 33) (.tmp 34)) = some (.litp ((kl.flatMap NodeD.cells).drop (j * 9)), s') := c2.iaddr NodeD.len (by rw [pval_tmp, set_at]; rfl) (by rw [pval_tmp, set_at]; exact natP_cast _ _) hjl
    have hst : stP s' (.ptr s.n 0 9) z.cells = some (s'.put s.n ⟨z.cells, 9, 28⟩) := by
      rw [st_ptr, h6, if_pos ⟨by omega, by rw [y.len], hzo⟩]
      simp only [List.take_zero, List.nil_append, hzl, Nat.zero_add]
      rw [List.drop_of_length_le (by rw [y.len]; exact Nat.le_refl _), List.append_nil]
    refine W_reg ?_
    rw [pops_u]
    simp only [actP, opP, pval_tmp, e6, runK_some]
    rw [pops_u]
    simp only [actP, opP, pval_tmp, set_at, Nat.reduceEqDiff, if_false, e7, runK_some]
    rw [pops_u]
    simp only [actP]
    rw [hia]
    simp -implicitDefEqProofs only [pops_u, pops_nil, runK_some, runK_none, actP, opP, pval_tmp, set_at, Nat.reduceEqDiff, ↓reduceIte, e2, h3, ofCells, Option.bind_some, Option.map_some, cellsP, hzl, hst]
    refine ⟨_, _, rfl, rN _ _ hil ⟨z, by rw [hdr]; exact t, e1, e2, ⟨9, by rw [put_h, if_pos rfl], Nat.le_refl _⟩, by rw [put_n]; omega, by rw [put_w]; omega, ?_⟩⟩
    rw [htk]
    show Acc 3 1 intC (s.n + 1) ((L.take i).map Int.ofNat ++ [(j : Int)]) (f4 5) _
    rw [e5]
    exact Acc.put a2 (by omega) _
end Go.Proofs.YtdkcfccepjimbaaGreatDoor

namespace Go.PE
open Go Go.EvL
theorem frz1_clean {n : Nat} {s : PS} {p : PV} (h : clean1 p = true) : frz1 n s p = some p := by
  cases p with
  | fn g a b =>
    simp only [clean1, Bool.and_eq_true, List.isEmpty_iff] at h
    obtain ⟨rfl, rfl⟩ := h
    rfl
  | sc v => rfl
  | lit e m cs => rfl
  | litx e m cs => rfl
  | litp cs => rfl
  | _ => simp [clean1] at h
theorem frzL_clean {n : Nat} {s : PS} : ∀ {cs : List PV}, cs.all clean1 = true → frzL n s cs = some cs := by
  intro cs
  induction cs with
  | nil => intro _; rfl
  | cons p cs ih =>
    intro h
    simp only [List.all_cons, Bool.and_eq_true] at h
    simp only [frzL, frz1_clean h.1, ih h.2, Option.bind_some, Option.map_some]
theorem frz_pair {n : Nat} {s : PS} {cs : List PV} (v : Value) (h : cs.all clean1 = true) : frz n s (oneRes [.agg cs, .sc v]) = some (.tup [.agg cs, .sc v]) := by
  simp only [oneRes, frz, frzT, frz2, frzL_clean h, Option.map_some, Option.bind_some, frz1]
theorem res_node {f : PFr} {s : PS} {k low e : Nat} {cs : List PV} (h4 : f 4 = .ptr k 0 9) (hh : s.h k = ⟨cs, low, e⟩) (hl : low ≤ 9) (hc : cs.length = 9) : resP f s [.cell 4 true 9, .tmp 5] = some [.agg cs, f 5] := by
  simp only [resP, h4, ld_ptr, hh, Nat.zero_add, Nat.le_refl, hl, hc, and_self, if_true, List.drop_zero, Option.bind_some, Option.map_some, ofCells]
  rw [List.take_of_length_le (by omega)]
end Go.PE
namespace Go.Proofs.YtdkcfccepjimbaaGreatDoor
open Go Go.EvL Go.PE
variable {ext : PCallF}
/-! jobshellref11.Kid -/
def kidC (r : Option NodeD) : List PV := match r with
  | some y => y.cells
  | none => zeroN
theorem kidC_len (r : Option NodeD) : (kidC r).length = 9 := by
  cases r with
  | none => rfl
  | some y => exact y.len
theorem kidC_clean {D : Nat} {P : List Int} {x : NodeD} {r : Option NodeD} (h : KidR ext D P x r) : (kidC r).all clean1 = true ∧ (kidC r).all oneP = true := by
  cases r with
  | none => exact ⟨rfl, rfl⟩
  | some y =>
    obtain ⟨⟨d, hd⟩, _⟩ := h.ok y rfl
    exact ⟨hd.cleans, hd.ones⟩
def kidV (r : Option NodeD) : PV := .tup [.agg (kidC r), .sc (.bool r.isSome)]
theorem kid_fin {fn : PFn} (hk : fn.keep = false) (hr : fn.res = [.cell 4 true 9, .tmp 5]) {s : PS} {r : Option NodeD} (hc : (kidC r).all clean1 = true) (f : PFr) (s2 : PS) (low : Nat) (h4 : f 4 = .ptr (s.n + 1) 0 9) (h5 : f 5 = .sc (.bool r.isSome)) (hh : s2.h (s.n + 1) = ⟨kidC r, low, 28⟩) (hl : low ≤ 9) (hw : s.n ≤ s2.w) : EndQ fn s (fun q => q = (kidV r, s)) .ret f s2 := by
  refine endQ_r (leave_p (vs := [.agg (kidC r), .sc (.bool r.isSome)]) hk ?_ hw (frz_pair _ hc)) rfl
  rw [hr, res_node h4 hh hl (kidC_len r), h5]
theorem pu29 : puOf Γ 29 = true := (rfl)
theorem kid_ref {D : Nat} {P : List Int} {x : NodeD} {r : Option NodeD} (h : KidR ext D P x r) : ∀ (pp : Option (List Int)), pp.getD [] = P → P.length ≤ 16777216 → ∀ s, pcall Tryz.prog Γ ext 29 [.agg x.cells, slP 3 intC pp] s = some (kidV r, s) := by
  induction h with
  | nil x ho =>
    intro pp hpp _ s
    have hL := slP_len (e := 3) (c := intC) pp
    rw [hpp] at hL
    have hxo := ho.ones
    have hxl : x.cells.length = 9 := x.len
    obtain ⟨⟨d, hd⟩, _⟩ := ho
    suffices hh : ∃ q, pcall Tryz.prog Γ ext 29 [.agg x.cells, slP 3 intC pp] s = some q ∧ q = (kidV (some x), s) by
      obtain ⟨q, e, rfl⟩ := hh
      exact e
    refine W_call (fn := p29) (by rfl) (by simp [p29]) ?_
    generalize hQ : EndQ p29 s _ = Q
    unfold p29
    refine W_rseq (fun f s' => f 1 = slP 3 intC pp ∧ f 2 = .ptr s.n 0 9 ∧ f 4 = .ptr (s.n + 1) 0 9 ∧ s'.h s.n = ⟨x.cells, 0, 28⟩ ∧ s'.h (s.n + 1) = ⟨zeroN, 0, 28⟩ ∧ s'.w = s.n) ?_ ?_
    · simp -implicitDefEqProofs only [pops_u, pops_nil, runK_some, actP, opP, initP, Nat.zero_add, Nat.reduceAdd, pval_tmp, pval_const, set_at, cellsP, ↓reduceIte, pvOf, new_n, List.length_cons, List.length_nil, List.map_cons, List.map_nil]
      exact ⟨_, _, rfl, rfl, rfl, rfl, by simp -implicitDefEqProofs only [↓reduceIte, new_h, new_n, Nat.left_eq_add, Nat.one_ne_zero], by simp -implicitDefEqProofs only [↓reduceIte, new_h, new_n], rfl⟩
    rintro f s1 ⟨p1, p2, p4, q2, q4, pw⟩
    have g0 : ((([] : List Int).length : Int) == 0) = true := rfl
    have hst : stP s1 (.ptr (s.n + 1) 0 9) x.cells = some (s1.put (s.n + 1) ⟨x.cells, 9, 28⟩) := by
      rw [st_ptr, q4, if_pos ⟨by omega, rfl, hxo⟩]
      simp only [List.take_zero, List.nil_append, hxl, Nat.zero_add]
      congr 3
    have hld : ldP s1 (.ptr s.n 0 9) 9 = some x.cells := by
      rw [ld_ptr, q2]
      simp only [Nat.zero_add, Nat.le_refl, hxl, and_self, if_true, List.drop_zero, Nat.zero_le]
      rw [List.take_of_length_le (by omega)]
    refine W_assoc ?_
    refine W_rseq (fun f' s' => s1 = s' ∧ f' 2 = .ptr s.n 0 9 ∧ f' 4 = .ptr (s.n + 1) 0 9 ∧ f' 9 = .sc (.bool true)) ?_ ?_
    · simp -implicitDefEqProofs only [pops_u, pops_nil, runK_some, actP, opP, Option.map_some, pval_tmp, pval_const, set_at, ↓reduceIte, pvOf, List.length_nil, bin_eql, p1, hL]
      exact ⟨_, _, rfl, rfl, p2, p4, rfl⟩
    rintro f _ ⟨rfl, p2, p4, p9⟩
    refine W_cseq (v := true) (by simp -implicitDefEqProofs only [pval_tmp, asBool_b, p9]) ?_
    simp -implicitDefEqProofs only [W_some, pcode_seq, pcode_r, pcode_ret, seq_n, seq_r, regE_some, pops_u, pops_nil, runK_some, runK_none, actP, opP, pval_tmp, pval_const, pvOf, set_at, Nat.reduceEqDiff, ↓reduceIte, p2, p4, hld, ofCells, Option.bind_some, Option.map_some, cellsP, hxl, hst]
    subst hQ
    refine endQ_r (leave_p rfl (res_node (f := PFr.set _ 5 _) (k := s.n + 1) (low := 9) (e := 28) p4 (by rw [put_h, if_pos rfl]) (Nat.le_refl _) hxl) (by rw [put_w]; omega) (frz_pair _ hd.cleans)) rfl
  | bad i P x kl h ho hi =>
    intro pp hpp hPl s
    obtain rfl : pp = some (i :: P) := by cases pp with | none => cases hpp | some k => exact congrArg some hpp
    have hxo := ho.ones
    have hxl : x.cells.length = 9 := x.len
    have h40 := h.ref
    have hkn := h.len
    have LK := slP_len (e := 28) (c := NodeD.cells) (optL kl)
    rw [optL_get] at LK
    suffices hh : ∃ q, pcall Tryz.prog Γ ext 29 [.agg x.cells, slP 3 intC (some (i :: P))] s = some q ∧ q = (kidV none, s) by
      obtain ⟨q, e, rfl⟩ := hh
      exact e
    refine W_call (fn := p29) (by rfl) (by simp [p29]) ?_
    generalize hQ : EndQ p29 s _ = Q
    unfold p29
    refine W_rseq (fun f s' => f 1 = slP 3 intC (some (i :: P)) ∧ f 2 = .ptr s.n 0 9 ∧ f 4 = .ptr (s.n + 1) 0 9 ∧ s'.h s.n = ⟨x.cells, 0, 28⟩ ∧ s'.h (s.n + 1) = ⟨zeroN, 0, 28⟩ ∧ s'.w = s.n) ?_ ?_
    · simp -implicitDefEqProofs only [pops_u, pops_nil, runK_some, actP, opP, initP, Nat.zero_add, Nat.reduceAdd, pval_tmp, pval_const, set_at, cellsP, ↓reduceIte, pvOf, new_n, List.length_cons, List.length_nil, List.map_cons, List.map_nil]
      exact ⟨_, _, rfl, rfl, rfl, rfl, by simp -implicitDefEqProofs only [↓reduceIte, new_h, new_n, Nat.left_eq_add, Nat.one_ne_zero], by simp -implicitDefEqProofs only [↓reduceIte, new_h, new_n], rfl⟩
    rintro f s1 ⟨p1, p2, p4, q2, q4, pw⟩
    have g0 : (((P.length + 1 : Nat) : Int) == 0) = false := by rw [beq_eq_false_iff_ne]; omega
    have hfl := flat_len intC_len (i :: P)
    have hcell : (i :: P).flatMap intC = .sc (.int .i64 i) :: P.flatMap intC := rfl
    simp only [slP, hcell, List.length_cons, Nat.mul_one] at p1 hfl
    have hpos : 0 < P.length + 1 := Nat.succ_pos _
    refine W_assoc ?_
    refine W_rseq (fun f' s' => s1 = s' ∧ f' 1 = .lit 3 (P.length + 1) (.sc (.int .i64 i) :: P.flatMap intC) ∧ f' 2 = .ptr s.n 0 9 ∧ f' 4 = .ptr (s.n + 1) 0 9 ∧ f' 9 = .sc (.bool false)) ?_ ?_
    · simp -implicitDefEqProofs only [pops_u, pops_nil, runK_some, actP, opP, Option.map_some, pval_tmp, pval_const, set_at, ↓reduceIte, pvOf, bin_eql, p1, lenP, g0]
      exact ⟨_, _, rfl, rfl, p1, p2, p4, rfl⟩
    rintro f _ ⟨rfl, p1, p2, p4, p9⟩
    refine W_cseq (v := false) (by simp -implicitDefEqProofs only [pval_tmp, asBool_b, p9]) ?_
    refine W_skip ?_
    refine W_rseq (fun f' s' => s1 = s' ∧ f' 1 = .lit 3 (P.length + 1) (.sc (.int .i64 i) :: P.flatMap intC) ∧ f' 4 = .ptr (s.n + 1) 0 9 ∧ f' 6 = slP 28 NodeD.cells (optL kl)) ?_ ?_
    · simp only [NodeD.cells] at q2 h40
      simp -implicitDefEqProofs only [pops_u, pops_nil, runK_some, actP, opP, Nat.zero_add, Nat.reduceAdd, Option.map_some, Option.bind_some, pval_tmp, pval_func, set_at, ↓reduceIte, ld_ptr, ofCells, List.length_cons, List.length_nil, Nat.zero_le, and_self, List.drop_zero, List.take_succ_cons, List.take_zero, Nat.le_refl, callP, List.map_cons, List.map_nil, List.nil_append, List.append_nil, p2, q2, h40]
      exact ⟨_, _, rfl, rfl, p1, p4, rfl⟩
    rintro f _ ⟨rfl, p1, p4, p6⟩
    refine W_assoc ?_
    refine W_rseq (fun f' s' => s1 = s' ∧ f' 1 = .lit 3 (P.length + 1) (.sc (.int .i64 i) :: P.flatMap intC) ∧ f' 4 = .ptr (s.n + 1) 0 9 ∧ f' 6 = slP 28 NodeD.cells (optL kl) ∧ f' 24 = .sc (.bool true)) ?_ ?_
    · by_cases hi0 : i < 0
      · have g1 : decide (i < 0) = true := by simp; exact hi0
        simp -implicitDefEqProofs only [pops_u, pops_g, pops_nil, runK_some, runG_false, actP, opP, guardP, Option.map_some, Option.bind_some, pval_tmp, pval_const, set_at, Nat.reduceEqDiff, ↓reduceIte, pvOf, asBool_b, ofCells, List.length_cons, Nat.reduceLeDiff, and_self, List.drop_zero, List.take_succ_cons, List.take_zero, bin_lss, Bool.not_true, b_ff, Bool.false_eq_true, natP_zero, p1, g1, hpos, hfl, Nat.mul_one, ld_litp]
        exact ⟨_, _, rfl, rfl, p1, p4, p6, rfl⟩
      · have g1 : decide (i < 0) = false := by simp; omega
        have g2 : decide (i ≥ (kl.length : Int)) = true := by simp; omega
        simp -implicitDefEqProofs only [pops_u, pops_g, pops_nil, runK_some, runG_true, actP, opP, guardP, Option.map_some, Option.bind_some, pval_tmp, pval_const, set_at, Nat.reduceEqDiff, ↓reduceIte, pvOf, asBool_b, ofCells, List.length_cons, Nat.reduceLeDiff, and_self, List.drop_zero, List.take_succ_cons, List.take_zero, bin_lss, bin_geq, beq_self_eq_true, Bool.false_eq_true, natP_zero, p1, p6, LK, g1, g2, hpos, hfl, Nat.mul_one, ld_litp]
        exact ⟨_, _, rfl, rfl, p1, p4, p6, rfl⟩
    rintro f _ ⟨rfl, p1, p4, p6, p24⟩
    refine W_cseq (v := true) (by simp -implicitDefEqProofs only [pval_tmp, asBool_b, p24]) ?_
    have hst : stP s1 (.ptr (s.n + 1) 0 9) zeroN = some (s1.put (s.n + 1) ⟨zeroN, 9, 28⟩) := by
      rw [st_ptr, q4]; rfl
    simp -implicitDefEqProofs only [W_some, pcode_seq, pcode_r, pcode_ret, seq_n, seq_r, regE_some, pops_u, pops_nil, runK_some, runK_none, actP, opP, pval_tmp, pval_const, pvOf, set_at, Nat.reduceEqDiff, ↓reduceIte, p4, Option.map_some, cellsP, fillP, List.map_cons, List.map_nil, List.length_cons, List.length_nil, Nat.reduceAdd, hst]
    subst hQ
    exact kid_fin (r := none) rfl rfl rfl _ _ 9 p4 rfl (by rw [put_h, if_pos rfl]; rfl) (Nat.le_refl _) (by rw [put_w]; omega)
  | step j P x y kl r h ho hj t ih =>
    intro pp hpp hPl s
    obtain rfl : pp = some ((j : Int) :: P) := by cases pp with | none => cases hpp | some k => exact congrArg some hpp
    have hxo := ho.ones
    have hxl : x.cells.length = 9 := x.len
    have h40 := h.ref
    have hkn := h.len
    have LK := slP_len (e := 28) (c := NodeD.cells) (optL kl)
    rw [optL_get] at LK
    suffices hh : ∃ q, pcall Tryz.prog Γ ext 29 [.agg x.cells, slP 3 intC (some ((j : Int) :: P))] s = some q ∧ q = (kidV r, s) by
      obtain ⟨q, e, rfl⟩ := hh
      exact e
    refine W_call (fn := p29) (by rfl) (by simp [p29]) ?_
    generalize hQ : EndQ p29 s _ = Q
    unfold p29
    refine W_rseq (fun f s' => f 1 = slP 3 intC (some ((j : Int) :: P)) ∧ f 2 = .ptr s.n 0 9 ∧ f 4 = .ptr (s.n + 1) 0 9 ∧ s'.h s.n = ⟨x.cells, 0, 28⟩ ∧ s'.h (s.n + 1) = ⟨zeroN, 0, 28⟩ ∧ s'.w = s.n) ?_ ?_
    · simp -implicitDefEqProofs only [pops_u, pops_nil, runK_some, actP, opP, initP, Nat.zero_add, Nat.reduceAdd, pval_tmp, pval_const, set_at, cellsP, ↓reduceIte, pvOf, new_n, List.length_cons, List.length_nil, List.map_cons, List.map_nil]
      exact ⟨_, _, rfl, rfl, rfl, rfl, by simp -implicitDefEqProofs only [↓reduceIte, new_h, new_n, Nat.left_eq_add, Nat.one_ne_zero], by simp -implicitDefEqProofs only [↓reduceIte, new_h, new_n], rfl⟩
    rintro f s1 ⟨p1, p2, p4, q2, q4, pw⟩
    have g0 : (((P.length + 1 : Nat) : Int) == 0) = false := by rw [beq_eq_false_iff_ne]; omega
    have hfl := flat_len intC_len ((j : Int) :: P)
    have hcell : ((j : Int) :: P).flatMap intC = .sc (.int .i64 (j : Int)) :: P.flatMap intC := rfl
    simp only [slP, hcell, List.length_cons, Nat.mul_one] at p1 hfl
    have hpos : 0 < P.length + 1 := Nat.succ_pos _
    refine W_assoc ?_
    refine W_rseq (fun f' s' => s1 = s' ∧ f' 1 = .lit 3 (P.length + 1) (.sc (.int .i64 (j : Int)) :: P.flatMap intC) ∧ f' 2 = .ptr s.n 0 9 ∧ f' 4 = .ptr (s.n + 1) 0 9 ∧ f' 9 = .sc (.bool false)) ?_ ?_
    · simp -implicitDefEqProofs only [pops_u, pops_nil, runK_some, actP, opP, Option.map_some, pval_tmp, pval_const, set_at, ↓reduceIte, pvOf, bin_eql, p1, lenP, g0]
      exact ⟨_, _, rfl, rfl, p1, p2, p4, rfl⟩
    rintro f _ ⟨rfl, p1, p2, p4, p9⟩
    refine W_cseq (v := false) (by simp -implicitDefEqProofs only [pval_tmp, asBool_b, p9]) ?_
    refine W_skip ?_
    refine W_rseq (fun f' s' => s1 = s' ∧ f' 1 = .lit 3 (P.length + 1) (.sc (.int .i64 (j : Int)) :: P.flatMap intC) ∧ f' 4 = .ptr (s.n + 1) 0 9 ∧ f' 6 = slP 28 NodeD.cells (optL kl)) ?_ ?_
    · simp only [NodeD.cells] at q2 h40
      simp -implicitDefEqProofs only [pops_u, pops_nil, runK_some, actP, opP, Nat.zero_add, Nat.reduceAdd, Option.map_some, Option.bind_some, pval_tmp, pval_func, set_at, ↓reduceIte, ld_ptr, ofCells, List.length_cons, List.length_nil, Nat.zero_le, and_self, List.drop_zero, List.take_succ_cons, List.take_zero, Nat.le_refl, callP, List.map_cons, List.map_nil, List.nil_append, List.append_nil, p2, q2, h40]
      exact ⟨_, _, rfl, rfl, p1, p4, rfl⟩
    rintro f _ ⟨rfl, p1, p4, p6⟩
    refine W_assoc ?_
    refine W_rseq (fun f' s' => s1 = s' ∧ f' 1 = .lit 3 (P.length + 1) (.sc (.int .i64 (j : Int)) :: P.flatMap intC) ∧ f' 4 = .ptr (s.n + 1) 0 9 ∧ f' 6 = slP 28 NodeD.cells (optL kl) ∧ f' 24 = .sc (.bool false)) ?_ ?_
    · have hjl := (List.getElem?_eq_some_iff.1 hj).1
      have g1 : decide ((j : Int) < 0) = false := by simp
      have g2 : decide ((j : Int) ≥ (kl.length : Int)) = false := by simp; omega
      simp -implicitDefEqProofs only [pops_u, pops_g, pops_nil, runK_some, runG_true, actP, opP, guardP, Option.map_some, Option.bind_some, pval_tmp, pval_const, set_at, Nat.reduceEqDiff, ↓reduceIte, pvOf, asBool_b, ofCells, List.length_cons, Nat.reduceLeDiff, and_self, List.drop_zero, List.take_succ_cons, List.take_zero, bin_lss, bin_geq, beq_self_eq_true, Bool.false_eq_true, natP_zero, p1, p6, LK, g1, g2, hpos, hfl, Nat.mul_one, ld_litp]
      exact ⟨_, _, rfl, rfl, p1, p4, p6, rfl⟩
    rintro f _ ⟨rfl, p1, p4, p6, p24⟩
    refine W_cseq (v := false) (by simp -implicitDefEqProofs only [pval_tmp, asBool_b, p24]) ?_
    refine W_skip ?_
    have hjl := (List.getElem?_eq_some_iff.1 hj).1
    obtain hop : optL kl = some kl := by cases kl with | nil => simp at hj | cons a l => rfl
    rw [hop] at p6
    simp only [slP] at p6
    have hk1 := flat_len NodeD.len kl
    have hk3 := ld_sl NodeD.len hj
    have hcall := ih (some P) rfl (by simp only [List.length_cons] at hPl; omega)
    simp only [slP, kidV] at hcall
    obtain ⟨kc1, kc2⟩ := kidC_clean t
    have kc3 := kidC_len r
    have hfl2 := flat_len intC_len P
    rw [Nat.mul_one] at hfl2
    have htk : (P.flatMap intC).take P.length = P.flatMap intC := List.take_of_length_le (by omega)
    have hone : 1 ≤ P.length + 1 := by omega
    have hst : stP s1 (.ptr (s.n + 1) 0 9) (kidC r) = some (s1.put (s.n + 1) ⟨kidC r, 9, 28⟩) := by
      rw [st_ptr, q4, if_pos ⟨by omega, rfl, kc2⟩]
      simp only [List.take_zero, List.nil_append, kc3, Nat.zero_add]
      congr 3
      exact List.append_nil _
    have n1 : natP (.sc (.int .i64 1)) = some 1 := rfl
    refine W_dseq (fun f' s' => s' = s1.put (s.n + 1) ⟨kidC r, 9, 28⟩ ∧ f' 4 = .ptr (s.n + 1) 0 9 ∧ f' 5 = .sc (.bool r.isSome)) ?_ ?_
    · simp -implicitDefEqProofs only [actP, opP, Nat.zero_add, Nat.reduceAdd, Option.map_some, Option.bind_some, pval_tmp, pval_const, pval_func, set_at, Nat.reduceEqDiff, cellsP, ↓reduceIte, pvOf, put_n, ofCells, List.length_cons, Nat.one_ne_zero, and_self, List.drop_succ_cons, List.drop_zero, List.take_succ_cons, List.take_zero, Nat.le_refl, callP, List.map_cons, List.map_nil, List.nil_append, List.append_nil, Bool.false_eq_true, reduceCtorEq, natP_cast, natP_zero, List.getElem?_cons_zero, List.getElem?_cons_succ, pdraw_nil, pdraw_u, drK_some, drK_none, only_at, effO, effA, pureI, okAll_nil, okAll_cons, okPair_e, okPair_li, List.mem_cons, List.not_mem_nil, or_false, or_true, or_self, implies_true, false_implies, p1, p4, p6, hpos, hfl, hjl, hk1, hk3, hcall, hst, kc3, Nat.mul_one, ld_litp, slcP, optP, hiOf, n1, hone, Nat.add_sub_cancel, htk, pu29]
      exact ⟨_, _, rfl, rfl, p4, rfl⟩
    · rintro f _ ⟨rfl, p4, p5⟩
      rw [pcode_ret]
      refine ⟨_, _, _, rfl, ?_⟩
      subst hQ
      exact kid_fin rfl rfl kc1 _ _ 9 p4 p5 (by rw [put_h, if_pos rfl]) (Nat.le_refl _) (by rw [put_w]; omega)
end Go.Proofs.YtdkcfccepjimbaaGreatDoor

namespace Go.PE
open Go Go.EvL
theorem W_bseq2 {P : Program} {Γ : Nat → Option PFn} {ext : PCallF} {id : Nat} {a b : PCode} {f : PFr} {s : PS} {Q : PXt → PFr → PS → Prop} (N : PFr → PS → Prop) (h : W (pcode P Γ ext a f s) fun x f' s' => match x with | .normal => N f' s' | .ret => Q .ret f' s' | .exit _ => False) (hk : ∀ f s, N f s → W (pcode P Γ ext b f s) Q) : W (pcode P Γ ext (.seq (.block id a) b) f s) Q := by
  rw [pcode_seq]
  refine W_seq (N := N) (W_blk ?_) hk
  refine h.mono fun x f' s' hx => ?_
  cases x with
  | normal => exact hx
  | ret => exact hx
  | exit j => exact hx.elim
end Go.PE
namespace Go.Proofs.YtdkcfccepjimbaaGreatDoor
open Go Go.EvL Go.PE
variable {ext : PCallF}
/-! syntax.Kid -/
structure KdI (b : Nat) (pv : PV) (n : Nat) (y : NodeD) (f : PFr) (s : PS) : Prop where
  o : f 2 = .ptr b 0 9
  r : f 4 = .ptr (b + 1) 0 9
  p : f 9 = pv
  n : f 10 = .sc (.int .i64 (n : Int))
  h : ∃ low, s.h b = ⟨y.cells, low, 28⟩ ∧ low ≤ 9
  z : s.h (b + 1) = ⟨zeroN, 0, 28⟩
  w : b ≤ s.w
theorem kid_run {D : Nat} {P : List Int} {x : NodeD} {r : Option NodeD} (h : KidR ext D P x r) (pp : Option (List Int)) (hpp : pp.getD [] = P) (hPl : P.length ≤ 16777216) (c : NodeD) (hc : ∀ y, r = some y → (∀ s, pcall Tryz.prog Γ ext 59 [.agg y.cells] s = some (.agg c.cells, s)) ∧ c.cells.all oneP = true ∧ c.cells.all clean1 = true) (s : PS) :
    pcall Tryz.prog Γ ext 28 [.agg x.cells, slP 3 intC pp] s = some (kidV (r.map fun _ => c), s) := by
  have hL := slP_len (e := 3) (c := intC) pp
  rw [hpp] at hL
  suffices hh : ∃ q, pcall Tryz.prog Γ ext 28 [.agg x.cells, slP 3 intC pp] s = some q ∧ q = (kidV (r.map fun _ => c), s) by
    obtain ⟨q, e, rfl⟩ := hh
    exact e
  refine W_call (fn := p28) (by rfl) (by simp [p28]) ?_
  generalize hQ : EndQ p28 s _ = Q
  have finR : ∀ (f : PFr) (s2 : PS) (low : Nat), f 4 = .ptr (s.n + 1) 0 9 → f 5 = .sc (.bool (r.map fun _ => c).isSome) → s2.h (s.n + 1) = ⟨kidC (r.map fun _ => c), low, 28⟩ → low ≤ 9 → s.n ≤ s2.w → Q .ret f s2 := fun f s2 low h4 h5 hh hl hw => by
    subst hQ
    refine kid_fin rfl rfl ?_ f s2 low h4 h5 hh hl hw
    cases r with
    | none => rfl
    | some y => exact (hc y rfl).2.2
  clear hQ
  unfold p28
  refine W_rseq (fun f s' => f 1 = slP 3 intC pp ∧ f 2 = .ptr s.n 0 9 ∧ f 4 = .ptr (s.n + 1) 0 9 ∧ s'.h s.n = ⟨x.cells, 0, 28⟩ ∧ s'.h (s.n + 1) = ⟨zeroN, 0, 28⟩ ∧ s'.w = s.n) ?_ ?_
  · simp -implicitDefEqProofs only [pops_u, pops_nil, runK_some, actP, opP, initP, Nat.zero_add, Nat.reduceAdd, pval_tmp, pval_const, set_at, cellsP, ↓reduceIte, pvOf, new_n, List.length_cons, List.length_nil, List.map_cons, List.map_nil]
    exact ⟨_, _, rfl, rfl, rfl, rfl, by simp -implicitDefEqProofs only [↓reduceIte, new_h, new_n, Nat.left_eq_add, Nat.one_ne_zero], by simp -implicitDefEqProofs only [↓reduceIte, new_h, new_n], rfl⟩
  rintro f s1 ⟨p1, p2, p4, q2, q4, pw⟩
  refine W_assoc ?_
  refine W_rseq (fun f s' => KdI s.n (slP 3 intC pp) P.length x f s' ∧ f 11 = .sc (.int .i64 ((0 : Nat) : Int))) ?_ ?_
  · simp -implicitDefEqProofs only [pops_u, pops_nil, runK_some, actP, opP, Option.map_some, pval_tmp, pval_const, set_at, ↓reduceIte, pvOf, p1, hL]
    exact ⟨_, _, rfl, ⟨p2, p4, rfl, rfl, ⟨0, q2, by omega⟩, q4, by omega⟩, rfl⟩
  intro f s1 hI
  refine W_lseq' P.length (fun i f s' => ∃ y, KidR ext D (P.drop i) y r ∧ KdI s.n (slP 3 intC pp) P.length y f s' ∧ f 11 = .sc (.int .i64 (i : Int))) (fun f s' => ∃ y, KidR ext D [] y r ∧ KdI s.n (slP 3 intC pp) P.length y f s') ⟨x, h, hI⟩ ?_ ?_
  · rintro i f s1 hi ⟨y, hy, ⟨o1, o2, o3, o4, ⟨low, o5, o5'⟩, o6, o7⟩, o8⟩ N K hN hK
    by_cases hlt : i < P.length
    · have h5 : (decide ((i : Int) < (P.length : Int))) = true := by simp; exact hlt
      have h7 := wrap_succ (i := i) (by omega)
      obtain ⟨a, M, hd⟩ : ∃ a M, P.drop i = a :: M := ⟨_, _, List.drop_eq_getElem_cons hlt⟩
      have hPi : P[i]? = some a := by
        have := List.getElem?_drop (xs := P) (i := i) (j := 0)
        rw [hd] at this
        simpa using this.symm
      have hdr : P.drop (i + 1) = M := by
        have : (P.drop i).drop 1 = P.drop (i + 1) := by rw [List.drop_drop]
        rw [← this, hd]
        rfl
      rw [hd] at hy
      obtain ⟨kl, hk, hor⟩ : ∃ kl, KOf ext D y kl ∧ ((r = none ∧ (a < 0 ∨ (kl.length : Int) ≤ a)) ∨ ∃ (j : Nat) (z : NodeD), a = (j : Int) ∧ kl[j]? = some z ∧ KidR ext D M z r) := by
        cases hy with
        | bad _ _ _ kl hq ho hb => exact ⟨kl, hq, .inl ⟨rfl, hb⟩⟩
        | step j _ _ z kl _ hq ho hj t => exact ⟨kl, hq, .inr ⟨j, z, rfl, hj, t⟩⟩
      obtain ⟨v, c1, c2⟩ := hk.run s1
      have hkn := hk.len
      have c3 := c2.len
      have o3' := o3
      obtain rfl : pp = some P := by cases pp with | none => rw [← hpp] at hlt; simp at hlt | some k => exact congrArg some hpp
      simp only [slP] at o3'
      have hfl := flat_len intC_len P
      obtain ⟨r1, h3⟩ := flat_at intC_len hPi
      refine W_rseq (fun f' s' => f' = f.set 12 (.sc (.bool true)) ∧ s1 = s') ?_ ?_
      · simp -implicitDefEqProofs only [pops_u, pops_nil, runK_some, actP, opP, Option.map_some, pval_tmp, bin_lss, o4, o8, h5]
        exact ⟨_, _, rfl, rfl, rfl⟩
      rintro _ _ ⟨rfl, rfl⟩
      refine W_cseq (v := true) (by simp -implicitDefEqProofs only [pval_tmp, set_at, ↓reduceIte, asBool_b]) ?_
      refine W_skip ?_
      refine W_bseq2 (fun f' s' => ∃ z, KidR ext D M z r ∧ KdI s.n (slP 3 intC (some P)) P.length z f' s' ∧ f' 11 = .sc (.int .i64 (i : Int))) ?_ ?_
      · refine W_rseq (fun f' s' => s1 = s' ∧ f' 2 = .ptr s.n 0 9 ∧ f' 4 = .ptr (s.n + 1) 0 9 ∧ f' 9 = slP 3 intC (some P) ∧ f' 10 = .sc (.int .i64 (P.length : Int)) ∧ f' 11 = .sc (.int .i64 (i : Int)) ∧ f' 7 = .sc (.int .i64 a)) ?_ ?_
        · simp -implicitDefEqProofs only [pops_u, pops_nil, runK_some, actP, opP, Option.map_some, Option.bind_some, pval_tmp, set_at, Nat.reduceEqDiff, ↓reduceIte, ofCells, List.length_cons, Nat.reduceLeDiff, and_self, List.take_succ_cons, List.take_zero, List.nil_append, List.cons_append, Bool.false_eq_true, natP_cast, o3', o8, hlt, hfl, h3, ld_litp, intC]
          exact ⟨_, _, rfl, rfl, o1, o2, o3, o4, o8, rfl⟩
        rintro f _ ⟨rfl, o1, o2, o3, o4, o8, o9⟩
        refine W_rseq (fun f' s' => s1 = s' ∧ f' 2 = .ptr s.n 0 9 ∧ f' 4 = .ptr (s.n + 1) 0 9 ∧ f' 9 = slP 3 intC (some P) ∧ f' 10 = .sc (.int .i64 (P.length : Int)) ∧ f' 11 = .sc (.int .i64 (i : Int)) ∧ f' 7 = .sc (.int .i64 a) ∧ f' 8 = v) ?_ ?_
        · simp only [NodeD.cells] at o5 c1
          simp -implicitDefEqProofs only [pops_u, pops_nil, runK_some, actP, opP, Nat.zero_add, Nat.reduceAdd, Option.map_some, Option.bind_some, pval_tmp, pval_func, set_at, ↓reduceIte, ld_ptr, ofCells, List.length_cons, List.length_nil, and_self, List.drop_zero, List.take_succ_cons, List.take_zero, Nat.le_refl, callP, List.map_cons, List.map_nil, List.nil_append, List.append_nil, o1, o5, o5', c1]
          exact ⟨_, _, rfl, rfl, o1, o2, o3, o4, o8, o9, rfl⟩
        rintro f _ ⟨rfl, o1, o2, o3, o4, o8, o9, o10⟩
        refine W_assoc ?_
        rcases hor with ⟨rfl, hbad⟩ | ⟨j, z, rfl, hj, t⟩
        · refine W_rseq (fun f' s' => s1 = s' ∧ f' 4 = .ptr (s.n + 1) 0 9 ∧ f' 24 = .sc (.bool true)) ?_ ?_
          · by_cases ha : a < 0
            · have g1 : decide (a < 0) = true := by simp; exact ha
              simp -implicitDefEqProofs only [pops_u, pops_g, pops_nil, runK_some, runG_false, actP, opP, guardP, Option.map_some, pval_tmp, pval_const, set_at, Nat.reduceEqDiff, ↓reduceIte, pvOf, asBool_b, bin_lss, Bool.not_true, b_ff, o9, g1]
              exact ⟨_, _, rfl, rfl, o2, rfl⟩
            · have g1 : decide (a < 0) = false := by simp; omega
              have g2 : decide (a ≥ (kl.length : Int)) = true := by simp; omega
              simp -implicitDefEqProofs only [pops_u, pops_g, pops_nil, runK_some, runG_true, actP, opP, guardP, Option.map_some, pval_tmp, pval_const, set_at, Nat.reduceEqDiff, ↓reduceIte, pvOf, asBool_b, bin_lss, bin_geq, beq_self_eq_true, o9, o10, c3, g1, g2]
              exact ⟨_, _, rfl, rfl, o2, rfl⟩
          rintro f _ ⟨rfl, o2, o24⟩
          refine W_cseq (v := true) (by simp -implicitDefEqProofs only [pval_tmp, asBool_b, o24]) ?_
          have hst : stP s1 (.ptr (s.n + 1) 0 9) zeroN = some (s1.put (s.n + 1) ⟨zeroN, 9, 28⟩) := by
            rw [st_ptr, o6]; rfl
          simp -implicitDefEqProofs only [W_some, rnd_r, pcode_seq, pcode_r, pcode_ret, seq_n, seq_r, regE_some, pops_u, pops_nil, runK_some, runK_none, actP, opP, pval_tmp, pval_const, pvOf, set_at, Nat.reduceEqDiff, ↓reduceIte, o2, Option.map_some, cellsP, fillP, List.map_cons, List.map_nil, List.length_cons, List.length_nil, Nat.reduceAdd, hst]
          exact finR _ _ 9 o2 rfl (by rw [put_h, if_pos rfl]; rfl) (Nat.le_refl _) (by rw [put_w]; omega)
        · have hjl := (List.getElem?_eq_some_iff.1 hj).1
          refine W_rseq (fun f' s' => s1 = s' ∧ f' 2 = .ptr s.n 0 9 ∧ f' 4 = .ptr (s.n + 1) 0 9 ∧ f' 9 = slP 3 intC (some P) ∧ f' 10 = .sc (.int .i64 (P.length : Int)) ∧ f' 11 = .sc (.int .i64 (i : Int)) ∧ f' 7 = .sc (.int .i64 (j : Int)) ∧ f' 8 = v ∧ f' 24 = .sc (.bool false)) ?_ ?_
          · have g1 : decide ((j : Int) < 0) = false := by simp
            have g2 : decide ((j : Int) ≥ (kl.length : Int)) = false := by simp; omega
            simp -implicitDefEqProofs only [pops_u, pops_g, pops_nil, runK_some, runG_true, actP, opP, guardP, Option.map_some, pval_tmp, pval_const, set_at, Nat.reduceEqDiff, ↓reduceIte, pvOf, asBool_b, bin_lss, bin_geq, beq_self_eq_true, o9, o10, c3, g1, g2]
            exact ⟨_, _, rfl, rfl, o1, o2, o3, o4, o8, o9, o10, rfl⟩
          rintro f _ ⟨rfl, o1, o2, o3, o4, o8, o9, o10, o24⟩
          refine W_cseq (v := false) (by simp -implicitDefEqProofs only [pval_tmp, asBool_b, o24]) ?_
          refine W_skip ?_
          have hzo := hk.one z (List.mem_of_getElem? hj)
          have hzl : z.cells.length = 9 := z.len
          have hk3 := ld_sl NodeD.len hj
          have hia : opP Tryz.prog ((f.set 26 v).set 27 (.sc (.int .i64 (j : Int)))) s1 (.iaddr 9 (.tmp 26) (.tmp 27)) = some (.litp ((kl.flatMap NodeD.cells).drop (j * 9)), s1) := c2.iaddr NodeD.len (by rw [pval_tmp, set_at]; rfl) (by rw [pval_tmp, set_at]; exact natP_cast _ _) hjl
          have hst : stP s1 (.ptr s.n 0 9) z.cells = some (s1.put s.n ⟨z.cells, 9, 28⟩) := by
            rw [st_ptr, o5, if_pos ⟨by omega, by rw [y.len], hzo⟩]
            simp only [List.take_zero, List.nil_append, hzl, Nat.zero_add]
            rw [List.drop_of_length_le (by rw [y.len]; exact Nat.le_refl _), List.append_nil]
          refine W_reg ?_
          rw [pops_u]
          simp only [actP, opP, pval_tmp, o10, runK_some]
          rw [pops_u]
          simp only [actP, opP, pval_tmp, set_at, Nat.reduceEqDiff, if_false, o9, runK_some]
          rw [pops_u]
          simp only [actP]
          rw [hia]
          simp -implicitDefEqProofs only [pops_u, pops_nil, runK_some, runK_none, actP, opP, pval_tmp, set_at, Nat.reduceEqDiff, ↓reduceIte, o1, hk3, ofCells, Option.bind_some, Option.map_some, cellsP, hzl, hst]
          refine ⟨_, _, rfl, z, t, ⟨o1, o2, o3, o4, ⟨9, by rw [put_h, if_pos rfl], Nat.le_refl _⟩, ?_, ?_⟩, o8⟩
          · rw [put_h, if_neg (by omega)]; exact o6
          · rw [put_w]; omega
      · rintro f' s' ⟨z, t, g, g8⟩
        refine W_reg ?_
        simp -implicitDefEqProofs only [pops_u, pops_nil, runK_some, actP, opP, Option.map_some, pval_tmp, pval_const, set_at, ↓reduceIte, pvOf, bin_add, rnd_n, g8, h7]
        obtain ⟨w1, w2, w3, w4, w5, w6, w7⟩ := g
        exact ⟨_, _, rfl, hN _ _ hlt ⟨z, by rw [hdr]; exact t, ⟨w1, w2, w3, w4, w5, w6, w7⟩, rfl⟩⟩
    · obtain rfl : i = P.length := by omega
      have h5 : (decide ((P.length : Int) < (P.length : Int))) = false := by simp
      simp -implicitDefEqProofs only [pcode_seq, pcode_r, pcode_skip, pcode_exit, pcode_cond, pops_u, pops_nil, runK_some, actP, opP, Option.map_some, pval_tmp, set_at, ↓reduceIte, seq_n, seq_e, cond_f, asBool_b, regE_some, true_and, bin_lss, W_some, rnd_e, o4, o8, h5]
      rw [List.drop_length] at hy
      exact hK _ _ ⟨y, hy, o1, o2, o3, o4, ⟨low, o5, o5'⟩, o6, o7⟩
  · rintro f s1 ⟨y, hy, o1, o2, o3, o4, ⟨low, o5, o5'⟩, o6, o7⟩
    obtain rfl : r = some y := by cases hy; rfl
    obtain ⟨hc1, hc2, hc3⟩ := hc y rfl
    have hcl : c.cells.length = 9 := c.len
    have hyl : y.cells.length = 9 := y.len
    have hld : ldP s1 (.ptr s.n 0 9) 9 = some y.cells := by
      rw [ld_ptr, o5]
      simp only [Nat.zero_add, Nat.le_refl, hyl, o5', and_self, if_true, List.drop_zero]
      rw [List.take_of_length_le (by omega)]
    have hst : stP s1 (.ptr (s.n + 1) 0 9) c.cells = some (s1.put (s.n + 1) ⟨c.cells, 9, 28⟩) := by
      rw [st_ptr, o6, if_pos ⟨by omega, rfl, hc2⟩]
      simp only [List.take_zero, List.nil_append, hcl, Nat.zero_add]
      congr 3
    refine W_rret ?_
    simp -implicitDefEqProofs only [pops_u, pops_nil, runK_some, runK_none, actP, opP, pval_tmp, pval_const, pval_func, pvOf, set_at, Nat.reduceEqDiff, ↓reduceIte, o1, o2, hld, ofCells, Option.bind_some, Option.map_some, cellsP, callP, List.map_cons, List.map_nil, List.nil_append, List.append_nil, hc1, hcl, hst]
    exact ⟨_, _, rfl, finR _ _ 9 o2 rfl (by rw [put_h, if_pos rfl]; rfl) (Nat.le_refl _) (by rw [put_w]; omega)⟩
end Go.Proofs.YtdkcfccepjimbaaGreatDoor

namespace Go.Proofs.YtdkcfccepjimbaaGreatDoor
open Go Go.EvL Go.PE
def zeroD : NodeD := ⟨0, 0, ⟨#[]⟩, false, .sc (.slice none 0 0), .sc (.slice none 0 0), .sc (.slice none 0 0), .sc (.slice none 0 0), .sc (.slice none 0 0)⟩
theorem zeroD_cells : zeroD.cells = zeroN := rfl
theorem row_nil {α : Type} (e : Nat) (c : α → List PV) (Q : α → Prop) : RowAt e c Q (.sc (.slice none 0 0)) := ⟨none, rfl, by simp, fun x hx => by simp at hx⟩
theorem leqv_nil {α : Type} (e : Nat) (c : α → List PV) (Q : α → α → Prop) : LEqv e c Q (.sc (.slice none 0 0)) (.sc (.slice none 0 0)) := ⟨none, none, rfl, rfl, rfl, by simp, fun i x y hx => by simp at hx⟩
theorem zero_at (D : Nat) : NodeAt D 1 zeroD := ⟨row_nil _ _ _, row_nil _ _ _, row_nil _ _ _, row_nil _ _ _, row_nil _ _ _⟩
theorem zero_eqv (D : Nat) : NEqv D 1 zeroD zeroD := ⟨⟨rfl, rfl, rfl, rfl⟩, leqv_nil _ _ _, leqv_nil _ _ _, leqv_nil _ _ _, leqv_nil _ _ _, leqv_nil _ _ _⟩
theorem zero_bulk : bulks zeroD.cells ≤ 16777216 := by simp [zeroD, NodeD.cells, bulks, PV.bulk]
theorem al_st (s : PS) {cs : List PV} (hl : cs.length = 9) (ho : cs.all oneP = true) : stP (s.new ⟨zeroN, 0, 28⟩) (.ptr s.n 0 9) cs = some ((s.new ⟨zeroN, 0, 28⟩).put s.n ⟨cs, 9, 28⟩) := by
  rw [st_ptr, new_h, if_pos rfl, if_pos ⟨by omega, rfl, ho⟩]
  simp only [List.take_zero, List.nil_append, hl, Nat.zero_add]
  congr 3
  exact List.append_nil _
theorem ld9 {s : PS} {k low : Nat} {cs : List PV} (h : s.h k = ⟨cs, low, 28⟩) (hl : low ≤ 9) (hc : cs.length = 9) : ldP s (.ptr k 0 9) 9 = some cs := by
  rw [ld_ptr, h]
  simp only [Nat.zero_add, Nat.le_refl, hc, hl, and_self, if_true, List.drop_zero]
  rw [List.take_of_length_le (by omega)]
theorem pu28 : puOf Γ 28 = true := (rfl)
/-! jobshelllaw11.SyntaxPaths -/
theorem paths_law {D d : Nat} {a : NodeD} (ha : NodeAt D d a) (na : bulks a.cells ≤ 16777216) (p : Int) (pp : Option (List Int)) (hP : (pp.getD []).length ≤ 16777216) (s : PS) :
    pcall Tryz.prog Γ (extA 12) 9 [.agg a.cells, .sc (.int .i64 p), slP 3 intC pp] s = some (.sc (.bool true), s) := by
  obtain ⟨wa, hwa⟩ := Classical.axiomOfChoice (weight_ok (ext := extA 12) d a ha na)
  obtain ⟨L, hL, hLl⟩ := atR_ok (ext := extA 12) p d a ha na
  have h30 := at_run hL (by omega)
  have h32 := at_ref hL (by omega)
  have h31 := path_same (ext := extA 12) (L.map Int.ofNat) (by rw [List.length_map]; omega)
  obtain ⟨y0, hy0⟩ := atR_kid hL
  obtain ⟨⟨d0, hd0⟩, hb0⟩ := hy0.ok y0 rfl
  obtain ⟨c0, hc0, he0⟩ := copy_node (ext := extA 12) d0 y0 hd0 hb0
  have h28a := kid_run hy0 (optL (L.map Int.ofNat)) (optL_get _) (by rw [List.length_map]; omega) c0 (fun y hy => by
    injection hy with hy
    subst hy
    exact ⟨hc0, neqv_ones _ _ he0⟩)
  have ho0 := (neqv_ones _ _ he0).1
  obtain ⟨r, hr⟩ := kidR_ok (ext := extA 12) (pp.getD []) d a ha na
  have h29 := kid_ref hr pp rfl hP
  obtain ⟨c, hc, h27⟩ : ∃ c : NodeD, (∀ y, r = some y → (∀ s, pcall Tryz.prog Γ (extA 12) 59 [.agg y.cells] s = some (.agg c.cells, s)) ∧ c.cells.all oneP = true ∧ c.cells.all clean1 = true) ∧ ∀ s, pcall Tryz.prog Γ (extA 12) 27 [.agg (kidC (r.map fun _ => c)), .agg (kidC r)] s = some (.sc (.bool true), s) := by
    cases r with
    | none => exact ⟨zeroD, fun y hy => (by cases hy), exact_node (zero_at D) (zero_eqv D) zero_bulk⟩
    | some y =>
      obtain ⟨⟨d1, hd1⟩, hb1⟩ := hr.ok y rfl
      obtain ⟨c, hc, he⟩ := copy_node (ext := extA 12) d1 y hd1 hb1
      exact ⟨c, fun y' hy => (by injection hy with hy; subst hy; exact ⟨hc, neqv_ones _ _ he⟩), exact_node hd1 he hb1⟩
  have h28b := kid_run hr pp rfl hP c hc
  have kl1 := kidC_len (r.map fun _ => c)
  have kl2 := kidC_len r
  have ko1 : (kidC (r.map fun _ => c)).all oneP = true := by
    cases r with
    | none => rfl
    | some y => exact (hc y rfl).2.1
  have ko2 := (kidC_clean hr).2
  have hsome : (r.map fun _ => c).isSome = r.isSome := by cases r <;> rfl
  have PL := slP_len (e := 3) (c := intC) pp
  have h12 := h12
  have hal : a.cells.length = 9 := a.len
  simp only [kidV, hsome] at h28a h28b h29
  suffices h : ∃ q, pcall Tryz.prog Γ (extA 12) 9 [.agg a.cells, .sc (.int .i64 p), slP 3 intC pp] s = some q ∧ q = (.sc (.bool true), s) by
    obtain ⟨q, e, rfl⟩ := h
    exact e
  refine W_call (fn := p9) (by rfl) (by simp [p9]) ?_
  generalize hQ : EndQ p9 s _ = Q
  have fin : ∀ (f : PFr) (s1 : PS), f 6 = .sc (.bool true) → s.n ≤ s1.w → Q .ret f s1 := fun f s1 h4 hw => by
    subst hQ
    exact endQ_r (leave_p (vs := [f 6]) rfl rfl hw (by rw [h4]; rfl)) rfl
  clear hQ
  unfold p9
  refine W_rseq (fun f s' => (f 1 = .sc (.int .i64 p) ∧ f 2 = slP 3 intC pp ∧ f 3 = .ptr s.n 0 9) ∧ s'.h s.n = ⟨a.cells, 0, 28⟩ ∧ s'.w = s.n ∧ s'.n = s.n + 1) ?_ ?_
  · simp -implicitDefEqProofs only [pops_u, pops_nil, runK_some, actP, opP, initP, Nat.zero_add, Nat.reduceAdd, pval_tmp, pval_const, set_at, cellsP, ↓reduceIte, pvOf]
    exact ⟨_, _, rfl, ⟨rfl, rfl, rfl⟩, by simp -implicitDefEqProofs only [↓reduceIte, new_h], rfl, rfl⟩
  rintro f s1 ⟨⟨p1, p2, p3⟩, q1, pw, pn⟩
  have hw : s.n ≤ s1.w := by omega
  have hld := ld9 q1 (by omega) hal
  refine W_assoc ?_
  refine W_rseq (fun f s' => s1 = s' ∧ (f 1 = .sc (.int .i64 p) ∧ f 2 = slP 3 intC pp ∧ f 3 = .ptr s.n 0 9) ∧ ∃ g, f 21 = .sc (.bool g)) ?_ ?_
  · simp only [NodeD.cells] at hwa q1
    cases g1 : decide (wa s1 > 3000) with
    | true =>
      simp -implicitDefEqProofs only [pops_u, pops_g, pops_nil, runK_some, runG_false, actP, opP, Nat.zero_add, Nat.reduceAdd, guardP, Option.map_some, Option.bind_some, pval_tmp, pval_const, pval_func, set_at, Nat.reduceEqDiff, ↓reduceIte, pvOf, asBool_b, ld_ptr, ofCells, List.length_cons, List.length_nil, Nat.zero_le, and_self, List.drop_zero, List.take_succ_cons, List.take_zero, Nat.le_refl, bin_gtr, Bool.not_true, callP, b_ff, List.map_cons, List.map_nil, List.nil_append, List.append_nil, p3, q1, hwa, g1]
      exact ⟨_, _, rfl, rfl, ⟨p1, p2, p3⟩, _, rfl⟩
    | false =>
      simp -implicitDefEqProofs only [pops_u, pops_g, pops_nil, runK_some, runG_true, actP, opP, Nat.zero_add, Nat.reduceAdd, guardP, Option.map_some, Option.bind_some, pval_tmp, pval_const, pval_func, set_at, Nat.reduceEqDiff, ↓reduceIte, pvOf, asBool_b, ld_ptr, ofCells, List.length_cons, List.length_nil, Nat.zero_le, and_self, List.drop_zero, List.take_succ_cons, List.take_zero, Nat.le_refl, bin_gtr, beq_self_eq_true, callP, List.map_cons, List.map_nil, List.nil_append, List.append_nil, p2, p3, q1, hwa, PL, g1]
      exact ⟨_, _, rfl, rfl, ⟨p1, p2, p3⟩, _, rfl⟩
  rintro f _ ⟨rfl, ⟨p1, p2, p3⟩, g, hg⟩
  refine W_cseq (v := g) (by simp -implicitDefEqProofs only [pval_tmp, asBool_b, hg]) ?_
  cases g with
  | true =>
    simp -implicitDefEqProofs only [pcode_seq, pcode_r, pcode_ret, pops_u, pops_nil, runK_some, actP, opP, pval_tmp, pval_func, set_at, ↓reduceIte, seq_n, seq_r, regE_some, callP, List.map_nil, List.append_nil, W_some, h12]
    exact fin _ _ rfl hw
  | false =>
    refine W_skip ?_
    refine W_rseq (fun f s' => s1 = s' ∧ (f 1 = .sc (.int .i64 p) ∧ f 2 = slP 3 intC pp ∧ f 3 = .ptr s.n 0 9) ∧ f 7 = ints (L.map Int.ofNat)) ?_ ?_
    · simp -implicitDefEqProofs only [pops_u, pops_nil, runK_some, actP, opP, pval_tmp, pval_func, set_at, Nat.reduceEqDiff, ↓reduceIte, ofCells, Option.bind_some, Option.map_some, callP, List.map_cons, List.map_nil, List.nil_append, List.append_nil, p1, p3, hld, h30]
      exact ⟨_, _, rfl, rfl, ⟨p1, p2, p3⟩, rfl⟩
    rintro f _ ⟨rfl, ⟨p1, p2, p3⟩, p7⟩
    refine W_assoc ?_
    refine W_rseq (fun f s' => s1 = s' ∧ (f 1 = .sc (.int .i64 p) ∧ f 2 = slP 3 intC pp ∧ f 3 = .ptr s.n 0 9) ∧ f 7 = ints (L.map Int.ofNat) ∧ f 31 = .sc (.bool false)) ?_ ?_
    · simp -implicitDefEqProofs only [pops_u, pops_nil, runK_some, actP, opP, pval_tmp, pval_func, set_at, Nat.reduceEqDiff, ↓reduceIte, ofCells, Option.bind_some, Option.map_some, callP, List.map_cons, List.map_nil, List.nil_append, List.append_nil, p1, p3, p7, hld, h32, h31, un_not, Bool.not_true]
      exact ⟨_, _, rfl, rfl, ⟨p1, p2, p3⟩, p7, rfl⟩
    rintro f _ ⟨rfl, ⟨p1, p2, p3⟩, p7, p31⟩
    refine W_cseq (v := false) (by simp -implicitDefEqProofs only [pval_tmp, asBool_b, p31]) ?_
    refine W_skip ?_
    refine W_rseq (fun f s' => (f 2 = slP 3 intC pp ∧ f 3 = .ptr s.n 0 9 ∧ f 9 = .sc (.bool true)) ∧ s'.h s.n = ⟨a.cells, 0, 28⟩ ∧ s.n ≤ s'.w ∧ s.n < s'.n) ?_ ?_
    · have hst := al_st s1 (kidC_len (some c0)) ho0
      simp -implicitDefEqProofs only [pops_u, pops_nil, runK_some, runK_none, actP, opP, pval_tmp, pval_func, pvOf, set_at, Nat.reduceEqDiff, ↓reduceIte, ofCells, Option.bind_some, Option.map_some, cellsP, callP, List.map_cons, List.map_nil, List.nil_append, List.append_nil, p3, p7, hld, h28a, List.map_cons, List.map_nil, List.length_cons, List.length_nil, Nat.reduceAdd, List.getElem?_cons_zero, List.getElem?_cons_succ, kidC_len, hst]
      refine ⟨_, _, rfl, ⟨p2, p3, rfl⟩, ?_, ?_, ?_⟩
      · rw [put_h, if_neg (by omega), new_h, if_neg (by omega)]; exact q1
      · rw [put_w, new_w]; omega
      · rw [put_n, new_n]; omega
    rintro f s2 ⟨⟨p2, p3, p9⟩, q1, hw, hn⟩
    have hld := ld9 q1 (by omega) hal
    refine W_rseq (fun f s' => (f 2 = slP 3 intC pp ∧ f 3 = .ptr s.n 0 9 ∧ f 9 = .sc (.bool true) ∧ f 10 = .ptr s2.n 0 9 ∧ f 11 = .sc (.bool r.isSome)) ∧ s'.h s.n = ⟨a.cells, 0, 28⟩ ∧ s'.h s2.n = ⟨kidC (r.map fun _ => c), 9, 28⟩ ∧ s.n ≤ s'.w ∧ s2.n < s'.n) ?_ ?_
    · have hst := al_st s2 kl1 ko1
      simp -implicitDefEqProofs only [pops_u, pops_nil, runK_some, runK_none, actP, opP, pval_tmp, pval_func, pvOf, set_at, Nat.reduceEqDiff, ↓reduceIte, ofCells, Option.bind_some, Option.map_some, cellsP, callP, List.map_cons, List.map_nil, List.nil_append, List.append_nil, p2, p3, hld, h28b, List.map_cons, List.map_nil, List.length_cons, List.length_nil, Nat.reduceAdd, List.getElem?_cons_zero, List.getElem?_cons_succ, kl1, hst]
      refine ⟨_, _, rfl, ⟨p2, p3, p9, rfl, rfl⟩, ?_, ?_, ?_, ?_⟩
      · rw [put_h, if_neg (by omega), new_h, if_neg (by omega)]; exact q1
      · rw [put_h, if_pos rfl]
      · rw [put_w, new_w]; omega
      · rw [put_n, new_n]; omega
    rintro f s3 ⟨⟨p2, p3, p9, p10, p11⟩, q1, q2, hw, hn3⟩
    have hld := ld9 q1 (by omega) hal
    refine W_rseq (fun f s' => (f 9 = .sc (.bool true) ∧ f 10 = .ptr s2.n 0 9 ∧ f 11 = .sc (.bool r.isSome) ∧ f 12 = .ptr s3.n 0 9 ∧ f 13 = .sc (.bool r.isSome)) ∧ s'.h s2.n = ⟨kidC (r.map fun _ => c), 9, 28⟩ ∧ s'.h s3.n = ⟨kidC r, 9, 28⟩ ∧ s.n ≤ s'.w) ?_ ?_
    · have hst := al_st s3 kl2 ko2
      simp -implicitDefEqProofs only [pops_u, pops_nil, runK_some, runK_none, actP, opP, pval_tmp, pval_func, pvOf, set_at, Nat.reduceEqDiff, ↓reduceIte, ofCells, Option.bind_some, Option.map_some, cellsP, callP, List.map_cons, List.map_nil, List.nil_append, List.append_nil, p2, p3, hld, h29, List.map_cons, List.map_nil, List.length_cons, List.length_nil, Nat.reduceAdd, List.getElem?_cons_zero, List.getElem?_cons_succ, kl2, hst]
      refine ⟨_, _, rfl, ⟨p9, p10, p11, rfl, rfl⟩, ?_, ?_, ?_⟩
      · rw [put_h, if_neg (by omega), new_h, if_neg (by omega)]; exact q2
      · rw [put_h, if_pos rfl]
      · rw [put_w, new_w]; omega
    rintro f s4 ⟨⟨p9, p10, p11, p12, p13⟩, q2, q3, hw⟩
    have hl1 := ld9 q2 (Nat.le_refl _) kl1
    have hl2 := ld9 q3 (Nat.le_refl _) kl2
    have hbb : (r.isSome == r.isSome) = true := by simp
    refine W_rret ?_
    simp -implicitDefEqProofs only [pops_u, pops_nil, runK_some, actP, opP, pval_tmp, pval_func, set_at, Nat.reduceEqDiff, ↓reduceIte, ofCells, Option.bind_some, Option.map_some, callP, List.map_cons, List.map_nil, List.nil_append, List.append_nil, pops_g, runG_true, guardP, asBool_b, b_tt, p9, p10, p11, p12, p13, hl1, hl2, h27, h12, bin_beql Tryz.underlying4, hbb]
    exact ⟨_, _, rfl, fin _ _ rfl hw⟩
end Go.Proofs.YtdkcfccepjimbaaGreatDoor
