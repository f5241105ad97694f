/- The law SyntaxSames on values; arguments are trees. No statement is proved here. -/
import Derived.Test.YtdkcfccepjimbaaGreatDoorWeight
import Derived.Test.YtdkcfccepjimbaaGreatDoorPeD
set_option linter.unusedSimpArgs false
set_option linter.unusedVariables false
namespace Go.Proofs.YtdkcfccepjimbaaGreatDoor
open Go Go.EvL Go.PE
/-- awake, as the run has it from outside -/
theorem h12 (s : PS) : pcall Tryz.prog Γ (extA 12) 12 [] s = some (.sc (.bool true), s) := by
  rw [pcall_ext (by rfl)]
  rfl
theorem pu20 : puOf Γ 20 = true := (rfl)
theorem pu12 : puOf Γ 12 = true := (rfl)
/-! jobshelllaw11.SyntaxSames -/
theorem sames_ok {D d : Nat} {a b : NodeD} (ha : NodeAt D d a) (hb : NodeAt D d b) (na : bulks a.cells ≤ 16777216) (nb : bulks b.cells ≤ 16777216) (s : PS) :
    pcall Tryz.prog Γ (extA 12) 5 [.agg a.cells, .agg b.cells] s = some (.sc (.bool true), s) := by
  obtain ⟨wa, hwa⟩ := Classical.axiomOfChoice (weight_ok (ext := extA 12) d a ha na)
  obtain ⟨wb, hwb⟩ := Classical.axiomOfChoice (weight_ok (ext := extA 12) d b hb nb)
  obtain ⟨r, h20, h21⟩ := node_same (ext := extA 12) d a b ha hb
  have hrf := node_refl (ext := extA 12) d a ha
  have h12 := h12
  suffices h : ∃ q, pcall Tryz.prog Γ (extA 12) 5 [.agg a.cells, .agg b.cells] s = some q ∧ q = (.sc (.bool true), s) by
    obtain ⟨q, e, rfl⟩ := h
    exact e
  refine W_call (fn := p5) (by rfl) (by simp [p5]) ?_
  generalize hQ : EndQ p5 s _ = Q
  have fin : ∀ (f : PFr) (s1 : PS), f 4 = .sc (.bool true) → s.n ≤ s1.w → Q .ret f s1 := fun f s1 h4 hw => by
    subst hQ
    exact endQ_r (leave_p (vs := [f 4]) rfl rfl hw (by rw [h4]; rfl)) rfl
  clear hQ
  unfold p5
  refine W_rseq (fun f s' => f 2 = .ptr s.n 0 9 ∧ f 3 = .ptr (s.n + 1) 0 9 ∧ s'.h s.n = ⟨a.cells, 0, 28⟩ ∧ s'.h (s.n + 1) = ⟨b.cells, 0, 28⟩ ∧ s'.w = s.n) ?_ ?_
  · simp -implicitDefEqProofs only [pops_u, pops_nil, runK_some, actP, opP, initP, Nat.zero_add, pval_tmp, pval_const, set_at, Nat.reduceEqDiff, cellsP, ↓reduceIte, pvOf, new_n, Nat.one_ne_zero]
    exact ⟨_, _, rfl, rfl, rfl, by simp -implicitDefEqProofs only [↓reduceIte, new_h, new_n, Nat.left_eq_add, Nat.one_ne_zero], by simp -implicitDefEqProofs only [↓reduceIte, new_h, new_n], rfl⟩
  rintro f s1 ⟨p1, p2, q1, q2, p4⟩
  simp only [NodeD.cells] at hwa hwb h20 h21 hrf q1 q2
  have hw : s.n ≤ s1.w := by omega
  refine W_assoc ?_
  refine W_rseq (fun f s' => s1 = s' ∧ f 2 = .ptr s.n 0 9 ∧ f 3 = .ptr (s.n + 1) 0 9 ∧ ∃ g, f 12 = .sc (.bool g)) ?_ ?_
  · cases g1 : decide (wa s1 > 3000) with
    | true =>
      simp -implicitDefEqProofs only [pops_u, pops_g, pops_nil, runK_some, runG_false, actP, opP, Nat.zero_add, Nat.reduceAdd, guardP, Option.map_some, Option.bind_some, pval_tmp, pval_const, pval_func, set_at, Nat.reduceEqDiff, ↓reduceIte, pvOf, asBool_b, ld_ptr, ofCells, List.length_cons, List.length_nil, Nat.zero_le, and_self, List.drop_zero, List.take_succ_cons, List.take_zero, Nat.le_refl, bin_gtr, Bool.not_true, callP, b_ff, List.map_cons, List.map_nil, List.nil_append, List.append_nil, p1, q1, hwa, g1]
      exact ⟨_, _, rfl, rfl, p1, p2, _, rfl⟩
    | false =>
      simp -implicitDefEqProofs only [pops_u, pops_g, pops_nil, runK_some, runG_true, actP, opP, Nat.zero_add, Nat.reduceAdd, guardP, Option.map_some, Option.bind_some, pval_tmp, pval_const, pval_func, set_at, Nat.reduceEqDiff, ↓reduceIte, pvOf, asBool_b, ld_ptr, ofCells, List.length_cons, List.length_nil, Nat.zero_le, and_self, List.drop_zero, List.take_succ_cons, List.take_zero, Nat.le_refl, bin_gtr, beq_self_eq_true, callP, List.map_cons, List.map_nil, List.nil_append, List.append_nil, p1, p2, q1, q2, hwa, hwb, g1]
      exact ⟨_, _, rfl, rfl, p1, p2, _, rfl⟩
  rintro f _ ⟨rfl, p1, p2, g, hg⟩
  refine W_cseq (v := g) (by simp -implicitDefEqProofs only [pval_tmp, asBool_b, hg]) ?_
  cases g with
  | true =>
    simp -implicitDefEqProofs only [pcode_seq, pcode_r, pcode_ret, pops_u, pops_nil, runK_some, actP, opP, pval_tmp, pval_func, set_at, ↓reduceIte, seq_n, seq_r, regE_some, callP, List.map_nil, List.append_nil, W_some, h12]
    exact fin _ _ rfl hw
  | false =>
    refine W_skip ?_
    simp -implicitDefEqProofs only [pcode_seq, pcode_ret, actP, opP, Nat.zero_add, Nat.reduceAdd, guardP, Option.map_some, Option.bind_some, pval_tmp, pval_func, set_at, Nat.reduceEqDiff, ↓reduceIte, seq_n, asBool_b, regE_some, ld_ptr, ofCells, List.length_cons, List.length_nil, Nat.one_ne_zero, Nat.zero_le, and_self, List.drop_zero, List.take_succ_cons, List.take_zero, Nat.le_refl, beq_self_eq_true, callP, List.map_cons, List.map_nil, List.nil_append, List.append_nil, reduceCtorEq, W_some, pcode_d, pdraw_nil, pdraw_u, pdraw_g, drK_some, drG_true, only_at, effO, effA, pureI, okAll_nil, okAll_cons, okPair_e, List.mem_cons, List.not_mem_nil, or_false, or_true, or_self, implies_true, false_implies, p1, p2, q1, q2, h20, h21, hrf, pu20, pu21, pu12, okPair_rd, h12, bin_beql Tryz.underlying4]
    exact fin _ _ rfl hw
end Go.Proofs.YtdkcfccepjimbaaGreatDoor

namespace Go.Proofs.YtdkcfccepjimbaaGreatDoor
open Go Go.EvL Go.PE
theorem PartsAt.succ : ∀ {d : Nat} {p : PV}, PartsAt d p → PartsAt (d + 1) p := by
  intro d
  induction d with
  | zero => intro p h; cases h
  | succ d ih =>
    rintro p ⟨l, h1, h2, h3⟩
    exact ⟨l, h1, h2, fun x hx => ih (h3 x hx)⟩
theorem PartsAt.mono {d d' : Nat} {p : PV} (h : PartsAt d p) (hd : d ≤ d') : PartsAt d' p := by
  obtain ⟨k, rfl⟩ : ∃ k, d' = d + k := ⟨d' - d, by omega⟩
  induction k with
  | zero => exact h
  | succ k ih => exact (ih (by omega)).succ
theorem RowAt.mono {α : Type} {e : Nat} {c : α → List PV} {Q Q' : α → Prop} {p : PV} (h : RowAt e c Q p) (hq : ∀ x, Q x → Q' x) : RowAt e c Q' p := by
  obtain ⟨l, h1, h2, h3⟩ := h
  exact ⟨l, h1, h2, fun x hx => hq x (h3 x hx)⟩
theorem NodeAt.succ {D : Nat} : ∀ {d : Nat} {x : NodeD}, NodeAt D d x → NodeAt D (d + 1) x := by
  intro d
  induction d with
  | zero => intro x h; cases h
  | succ d ih =>
    rintro x ⟨h1, h2, h3, h4, h5⟩
    exact ⟨h1, h2, h3, h4.mono fun x => ih, h5.mono fun x h => ⟨h.1, h.2.mono fun x => ih⟩⟩
theorem NodeAt.mono {D d d' : Nat} {x : NodeD} (h : NodeAt D d x) (hd : d ≤ d') : NodeAt D d' x := by
  obtain ⟨k, rfl⟩ : ∃ k, d' = d + k := ⟨d' - d, by omega⟩
  induction k with
  | zero => exact h
  | succ k ih => exact (ih (by omega)).succ
/-! the arguments, read as trees -/
theorem parts_of {N : Nat} (hN : N < 4611686018427387904) : ∀ (n : Nat) (ps : List PV), OfT Tryz.prog n 54 ps → bulks ps ≤ N → ∃ p, ps = [p] ∧ PartsAt n p := by
  intro n
  induction n using Nat.strongRecOn with
  | ind n ih =>
    intro ps h hb
    obtain ⟨j, hj⟩ := of_pos h
    obtain ⟨p, l, h1, h2, h3, h4⟩ := of_sl (c := PartD.cells) (Q := fun x => PartsAt j x.parts) Tryz.underlying54 h (fun d => by rw [PartD.len]; omega) hb hN (fun m x hm hx hbx => by
      obtain rfl : j = m := by omega
      obtain ⟨k, ls, hk, rfl, hf⟩ := of_struct Tryz.underlying63 hx
      obtain ⟨a, b, c, d, e, rfl, f1, f2, f3, f4, f5⟩ := flds5 hf
      obtain ⟨z1, rfl, _⟩ := of_int Tryz.underlying3 f1
      obtain ⟨z2, rfl, _⟩ := of_string Tryz.underlying9 f2
      obtain ⟨z3, rfl, _⟩ := of_int Tryz.underlying3 f3
      obtain ⟨z4, rfl⟩ := of_bool Tryz.underlying4 f4
      obtain ⟨q, rfl, hq⟩ := ih k (by omega) e f5 (Nat.le_trans (bulks_flatten (by simp)) hbx)
      exact ⟨⟨z1, z2, z3, z4, q⟩, rfl, hq.mono (by omega)⟩)
    refine ⟨p, h1, ?_⟩
    rw [hj]
    exact ⟨l, h2, h3, h4⟩
theorem word_of {N : Nat} (hN : N < 4611686018427387904) {n : Nat} {ps : List PV} (h : OfT Tryz.prog n 56 ps) (hb : bulks ps ≤ N) : ∃ x : WordD, ps = x.cells ∧ PartsAt n x.parts := by
  obtain ⟨k, ls, rfl, rfl, hf⟩ := of_struct Tryz.underlying56 h
  obtain ⟨a, b, rfl, f1, f2⟩ := flds2 hf
  obtain ⟨z1, rfl, _⟩ := of_int Tryz.underlying3 f1
  obtain ⟨q, rfl, hq⟩ := parts_of hN k b f2 (Nat.le_trans (bulks_flatten (by simp)) hb)
  exact ⟨⟨z1, q⟩, rfl, hq.succ⟩
theorem words_of {N : Nat} (hN : N < 4611686018427387904) {n D : Nat} (hD : n ≤ D) {ps : List PV} (h : OfT Tryz.prog n 23 ps) (hb : bulks ps ≤ N) : ∃ p, ps = [p] ∧ WordsAt D p := by
  obtain ⟨p, l, h1, h2, h3, h4⟩ := of_sl (c := WordD.cells) (Q := fun x => PartsAt D x.parts) Tryz.underlying23 h (fun d => by rw [WordD.len]; omega) hb hN (fun m x hm hx hbx => by
    obtain ⟨y, h1, h2⟩ := word_of hN hx hbx
    exact ⟨y, h1, h2.mono (by omega)⟩)
  exact ⟨p, h1, l, h2, h3, h4⟩
theorem assigns_of {N : Nat} (hN : N < 4611686018427387904) {n D : Nat} (hD : n ≤ D) {ps : List PV} (h : OfT Tryz.prog n 22 ps) (hb : bulks ps ≤ N) : ∃ p, ps = [p] ∧ AssignsAt D p := by
  obtain ⟨p, l, h1, h2, h3, h4⟩ := of_sl (c := AssignD.cells) (Q := fun x => PartsAt D x.parts) Tryz.underlying22 h (fun d => by rw [AssignD.len]; omega) hb hN (fun m x hm hx hbx => by
    obtain ⟨k, ls, rfl, rfl, hf⟩ := of_struct Tryz.underlying58 hx
    obtain ⟨a, b, c, rfl, f1, f2, f3⟩ := flds3 hf
    obtain ⟨z1, rfl, _⟩ := of_int Tryz.underlying3 f1
    obtain ⟨z2, rfl, _⟩ := of_string Tryz.underlying9 f2
    obtain ⟨y, rfl, hy⟩ := word_of hN f3 (Nat.le_trans (bulks_flatten (by simp)) hbx)
    exact ⟨⟨z1, z2, y.pos, y.parts⟩, rfl, hy.mono (by omega)⟩)
  exact ⟨p, h1, l, h2, h3, h4⟩
theorem redirs_of {N : Nat} (hN : N < 4611686018427387904) {n D : Nat} (hD : n ≤ D) {ps : List PV} (h : OfT Tryz.prog n 24 ps) (hb : bulks ps ≤ N) : ∃ p, ps = [p] ∧ RedirsAt D p := by
  obtain ⟨p, l, h1, h2, h3, h4⟩ := of_sl (c := RedirD.cells) (Q := fun x => PartsAt D x.parts) Tryz.underlying24 h (fun d => by rw [RedirD.len]; omega) hb hN (fun m x hm hx hbx => by
    obtain ⟨k, ls, rfl, rfl, hf⟩ := of_struct Tryz.underlying70 hx
    obtain ⟨a, b, c, d, rfl, f1, f2, f3, f4⟩ := flds4 hf
    obtain ⟨z1, rfl, _⟩ := of_int Tryz.underlying3 f1
    obtain ⟨z2, rfl, _⟩ := of_int Tryz.underlying3 f2
    obtain ⟨z3, rfl, _⟩ := of_int Tryz.underlying3 f3
    obtain ⟨y, rfl, hy⟩ := word_of hN f4 (Nat.le_trans (bulks_flatten (by simp)) hbx)
    exact ⟨⟨z1, z2, z3, y.pos, y.parts⟩, rfl, hy.mono (by omega)⟩)
  exact ⟨p, h1, l, h2, h3, h4⟩
theorem node_of {N : Nat} (hN : N < 4611686018427387904) {D : Nat} : ∀ (n : Nat), n ≤ D → ∀ (ps : List PV), OfT Tryz.prog n 28 ps → bulks ps ≤ N → ∃ x : NodeD, ps = x.cells ∧ NodeAt D n x := by
  intro n
  induction n using Nat.strongRecOn with
  | ind n ih =>
    intro hn ps h hb
    have kids : ∀ (m : Nat), m < n → ∀ (ps : List PV), OfT Tryz.prog m 25 ps → bulks ps ≤ N → ∃ p, ps = [p] ∧ RowAt 28 NodeD.cells (NodeAt D m) p := by
      intro m hm ps h hb
      obtain ⟨p, l, h1, h2, h3, h4⟩ := of_sl (c := NodeD.cells) (Q := NodeAt D m) Tryz.underlying25 h (fun d => by rw [NodeD.len]; omega) hb hN (fun k x hk hx hbx => by
        obtain ⟨y, e1, e2⟩ := ih k (by omega) (by omega) x hx hbx
        exact ⟨y, e1, e2.mono (by omega)⟩)
      exact ⟨p, h1, l, h2, h3, h4⟩
    obtain ⟨k, ls, hk, rfl, hf⟩ := of_struct Tryz.underlying28 h
    clear h
    obtain ⟨a1, a2, a3, a4, a5, a6, a7, a8, a9, rfl, f1, f2, f3, f4, f5, f6, f7, f8, f9⟩ := flds9 hf
    obtain ⟨z1, rfl, _⟩ := of_int Tryz.underlying3 f1
    obtain ⟨z2, rfl, _⟩ := of_int Tryz.underlying3 f2
    obtain ⟨z3, rfl, _⟩ := of_string Tryz.underlying9 f3
    obtain ⟨z4, rfl⟩ := of_bool Tryz.underlying4 f4
    obtain ⟨p5, rfl, h5⟩ := assigns_of hN (D := D) (by omega) f5 (Nat.le_trans (bulks_flatten (by simp)) hb)
    obtain ⟨p6, rfl, h6⟩ := words_of hN (D := D) (by omega) f6 (Nat.le_trans (bulks_flatten (by simp)) hb)
    obtain ⟨p7, rfl, h7⟩ := redirs_of hN (D := D) (by omega) f7 (Nat.le_trans (bulks_flatten (by simp)) hb)
    obtain ⟨p8, rfl, h8⟩ := kids k (by omega) a8 f8 (Nat.le_trans (bulks_flatten (by simp)) hb)
    obtain ⟨p, l, h1, h2, h3, h4⟩ := of_sl (c := ItemD.cells) (Q := fun it => WordsAt D it.pats ∧ RowAt 28 NodeD.cells (NodeAt D k) it.body) Tryz.underlying26 f9 (fun d => by rw [ItemD.len]; omega) (Nat.le_trans (bulks_flatten (by simp)) hb) hN (fun m x hm hx hbx => by
      obtain ⟨k', ls, rfl, rfl, hf⟩ := of_struct Tryz.underlying75 hx
      obtain ⟨a, b, rfl, f1, f2⟩ := flds2 hf
      obtain ⟨q1, rfl, g1⟩ := words_of hN (D := D) (by omega) f1 (Nat.le_trans (bulks_flatten (by simp)) hbx)
      obtain ⟨q2, rfl, g2⟩ := kids k' (by omega) b f2 (Nat.le_trans (bulks_flatten (by simp)) hbx)
      exact ⟨⟨q1, q2⟩, rfl, g1, g2.mono fun x h => h.mono (by omega)⟩)
    subst h1
    refine ⟨⟨z1, z2, z3, z4, p5, p6, p7, p8, p⟩, rfl, ?_⟩
    rw [hk]
    exact ⟨h5, h6, h7, h8, ⟨l, h2, h3, h4⟩⟩
end Go.Proofs.YtdkcfccepjimbaaGreatDoor
