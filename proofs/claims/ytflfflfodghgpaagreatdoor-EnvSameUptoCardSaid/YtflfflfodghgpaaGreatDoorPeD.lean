/- A run on values, and its soundness. No statement is proved here. -/
import Derived.Test.YtflfflfodghgpaaGreatDoorPeC
import Derived.Test.YtflfflfodghgpaaGreatDoorTxB
import Derived.Laws.StructEq
set_option linter.unusedSimpArgs false
set_option linter.unusedVariables false
namespace Go.PE
open Go Go.EvL
section
variable {P : Program} {Γ : Nat → Option PFn} {ext : PCallF}
noncomputable def LP (P : Program) (Γ : Nat → Option PFn) (ext : PCallF) (id : Nat) (body rest : PCode) (f : PFr) (s : PS) : PEx := seqP (blockP id (pcode P Γ ext (.loop body) f s)) (pcode P Γ ext rest)
noncomputable def LPk (P : Program) (Γ : Nat → Option PFn) (ext : PCallF) (id : Nat) (body rest : PCode) (r : PEx) : PEx := seqP (blockP id (seqP r (pcode P Γ ext (.loop body)))) (pcode P Γ ext rest)
theorem LP_fold (id : Nat) (body rest : PCode) (f : PFr) (s : PS) : seqP (blockP id (pcode P Γ ext (.loop body) f s)) (pcode P Γ ext rest) = LP P Γ ext id body rest f s := (rfl)
theorem LP_step (id : Nat) (body rest : PCode) (f : PFr) (s : PS) : LP P Γ ext id body rest f s = LPk P Γ ext id body rest (pcode P Γ ext body f s) := by
  unfold LP LPk; rw [pcode_loop]
theorem bin_ceql (t : Nat) (x y : Operand) (a b : Int) : binP P .eql t x y (.sc (.int .u8 a)) (.sc (.int .u8 b)) = some (.sc (.bool (a == b))) := (rfl)
theorem bin_cneq (t : Nat) (x y : Operand) (a b : Int) : binP P .neq t x y (.sc (.int .u8 a)) (.sc (.int .u8 b)) = some (.sc (.bool (a != b))) := (rfl)
theorem bin_clss (t : Nat) (x y : Operand) (a b : Int) : binP P .lss t x y (.sc (.int .u8 a)) (.sc (.int .u8 b)) = some (.sc (.bool (decide (a < b)))) := (rfl)
theorem bin_cleq (t : Nat) (x y : Operand) (a b : Int) : binP P .leq t x y (.sc (.int .u8 a)) (.sc (.int .u8 b)) = some (.sc (.bool (decide (a ≤ b)))) := (rfl)
theorem bin_cgtr (t : Nat) (x y : Operand) (a b : Int) : binP P .gtr t x y (.sc (.int .u8 a)) (.sc (.int .u8 b)) = some (.sc (.bool (decide (a > b)))) := (rfl)
theorem bin_cgeq (t : Nat) (x y : Operand) (a b : Int) : binP P .geq t x y (.sc (.int .u8 a)) (.sc (.int .u8 b)) = some (.sc (.bool (decide (a ≥ b)))) := (rfl)
theorem beqL (c k : Nat) : ((c : Int) == (no_index (@OfNat.ofNat Int k instOfNat))) = (c == @OfNat.ofNat Nat k (instOfNatNat k)) := by
  rw [Bool.eq_iff_iff]; simp only [beq_iff_eq]; show (c : Int) = (k : Int) ↔ c = k; omega
theorem bneL (c k : Nat) : ((c : Int) != (no_index (@OfNat.ofNat Int k instOfNat))) = !(c == @OfNat.ofNat Nat k (instOfNatNat k)) := by
  show (!((c : Int) == (@OfNat.ofNat Int k instOfNat))) = _; rw [beqL]
theorem ltL (c k : Nat) : decide ((c : Int) < (no_index (@OfNat.ofNat Int k instOfNat))) = decide (c < @OfNat.ofNat Nat k (instOfNatNat k)) := by
  rw [Bool.eq_iff_iff]; simp only [decide_eq_true_iff]; show (c : Int) < (k : Int) ↔ c < k; omega
theorem leL (c k : Nat) : decide ((c : Int) ≤ (no_index (@OfNat.ofNat Int k instOfNat))) = decide (c ≤ @OfNat.ofNat Nat k (instOfNatNat k)) := by
  rw [Bool.eq_iff_iff]; simp only [decide_eq_true_iff]; show (c : Int) ≤ (k : Int) ↔ c ≤ k; omega
theorem gtL (c k : Nat) : decide ((c : Int) > (no_index (@OfNat.ofNat Int k instOfNat))) = decide (@OfNat.ofNat Nat k (instOfNatNat k) < c) := by
  rw [Bool.eq_iff_iff]; simp only [decide_eq_true_iff]; show (c : Int) > (k : Int) ↔ k < c; omega
theorem geL (c k : Nat) : decide ((c : Int) ≥ (no_index (@OfNat.ofNat Int k instOfNat))) = decide (@OfNat.ofNat Nat k (instOfNatNat k) ≤ c) := by
  rw [Bool.eq_iff_iff]; simp only [decide_eq_true_iff]; show (c : Int) ≥ (k : Int) ↔ k ≤ c; omega
theorem beqN (a b : Nat) : ((a : Int) == (b : Int)) = (a == b) := by
  rw [Bool.eq_iff_iff]; simp only [beq_iff_eq]; omega
theorem bneN (a b : Nat) : ((a : Int) != (b : Int)) = !(a == b) := by
  show (!((a : Int) == (b : Int))) = _; rw [beqN]
theorem ltN (a b : Nat) : decide ((a : Int) < (b : Int)) = decide (a < b) := by
  rw [Bool.eq_iff_iff]; simp only [decide_eq_true_iff]; omega
theorem leN (a b : Nat) : decide ((a : Int) ≤ (b : Int)) = decide (a ≤ b) := by
  rw [Bool.eq_iff_iff]; simp only [decide_eq_true_iff]; omega
theorem gtN (a b : Nat) : decide ((a : Int) > (b : Int)) = decide (b < a) := by
  rw [Bool.eq_iff_iff]; simp only [decide_eq_true_iff]; omega
theorem geN (a b : Nat) : decide ((a : Int) ≥ (b : Int)) = decide (b ≤ a) := by
  rw [Bool.eq_iff_iff]; simp only [decide_eq_true_iff]; omega
theorem wrapI {z : Int} (h0 : 0 ≤ z) (h : z < 9223372036854775808) : IntKind.i64.wrap z = z := by
  obtain ⟨n, rfl⟩ := Int.eq_ofNat_of_zero_le h0
  exact wrap_nat (by omega)
theorem addL {i k : Nat} (h : i + @OfNat.ofNat Nat k (instOfNatNat k) < 9223372036854775808) : IntKind.i64.wrap ((i : Int) + (no_index (@OfNat.ofNat Int k instOfNat))) = ((i + @OfNat.ofNat Nat k (instOfNatNat k) : Nat) : Int) := by
  have : ((i + @OfNat.ofNat Nat k (instOfNatNat k) : Nat) : Int) = (i : Int) + (@OfNat.ofNat Int k instOfNat) := Int.natCast_add i k
  rw [this]
  exact wrapI (by show 0 ≤ (i : Int) + (k : Int); omega) (by change i + k < _ at h; show (i : Int) + (k : Int) < _; omega)
theorem addN {i k : Nat} (h : i + k < 9223372036854775808) : IntKind.i64.wrap ((i : Int) + (k : Int)) = ((i + k : Nat) : Int) := by
  rw [wrapI (by omega) (by omega)]; omega
theorem subL {i k : Nat} (h : @OfNat.ofNat Nat k (instOfNatNat k) ≤ i ∧ i < 9223372036854775808) : IntKind.i64.wrap ((i : Int) - (no_index (@OfNat.ofNat Int k instOfNat))) = ((i - @OfNat.ofNat Nat k (instOfNatNat k) : Nat) : Int) := by
  have : ((i - @OfNat.ofNat Nat k (instOfNatNat k) : Nat) : Int) = (i : Int) - (@OfNat.ofNat Int k instOfNat) := Int.ofNat_sub h.1
  rw [this]
  exact wrapI (by have h1 : k ≤ i := h.1; show 0 ≤ (i : Int) - (k : Int); omega) (by show (i : Int) - (k : Int) < _; omega)
theorem subN {i k : Nat} (h : k ≤ i ∧ i < 9223372036854775808) : IntKind.i64.wrap ((i : Int) - (k : Int)) = ((i - k : Nat) : Int) := by
  rw [wrapI (by omega) (by omega)]; omega
theorem pops_mt (d t : Nat) (l : List PI) (f : PFr) (s : PS) : pops P Γ ext (mt d t :: l) f s = pops P Γ ext l (f.set d (f t)) s := (rfl)
theorem pops_mk (d : Nat) (v : Value) (l : List PI) (f : PFr) (s : PS) : pops P Γ ext (mk d v :: l) f s = pops P Γ ext l (f.set d (pvOf v)) s := (rfl)
theorem pcode_iff (l : List PI) (t : Nat) (a b : PCode) (f : PFr) (s : PS) : pcode P Γ ext (iff l t a b) f s = seqP (regE (pops P Γ ext l f s)) (pcode P Γ ext (.cond (.tmp t) a b)) := by
  unfold iff; rw [pcode_seq, pcode_r]
theorem pcode_sr (l : List PI) (c : PCode) (f : PFr) (s : PS) : pcode P Γ ext (sr l c) f s = seqP (regE (pops P Γ ext l f s)) (pcode P Γ ext c) := by
  unfold sr; rw [pcode_seq, pcode_r]
theorem pcode_lt (id : Nat) (b r : PCode) (f : PFr) (s : PS) : pcode P Γ ext (lt id b r) f s = LP P Γ ext id b r f s := by
  unfold lt LP; rw [pcode_seq, pcode_block]
def Er (V : PFr → PS → Prop) (r : PEx) : Prop := ∃ f s, r = some (.ret, f, s) ∧ V f s
theorem er_some (V : PFr → PS → Prop) (f : PFr) (s : PS) : Er V (some (.ret, f, s)) ↔ V f s :=
  ⟨fun ⟨_, _, h, q⟩ => by injection h with h; injection h with _ h; injection h with h1 h2; subst h1; subst h2; exact q, fun q => ⟨_, _, rfl, q⟩⟩
theorem Er.mono {V V' : PFr → PS → Prop} {r : PEx} (h : Er V r) (k : ∀ f s, V f s → V' f s) : Er V' r :=
  let ⟨f, s, e, q⟩ := h; ⟨f, s, e, k f s q⟩
noncomputable def LPq (P : Program) (Γ : Nat → Option PFn) (ext : PCallF) (L : PFr → PS → PEx) (id : Nat) (rest : PCode) (r : PEx) : PEx := r.bind fun q => match q.1 with
  | .normal => L q.2.1 q.2.2
  | .exit j => if j = id then pcode P Γ ext rest q.2.1 q.2.2 else some q
  | .ret => some q
theorem LPq_n (L : PFr → PS → PEx) (id : Nat) (rest : PCode) (f : PFr) (s : PS) : LPq P Γ ext L id rest (some (.normal, f, s)) = L f s := (rfl)
theorem LPq_e (L : PFr → PS → PEx) (id j : Nat) (rest : PCode) (f : PFr) (s : PS) : LPq P Γ ext L id rest (some (.exit j, f, s)) = if j = id then pcode P Γ ext rest f s else some (.exit j, f, s) := (rfl)
theorem LPq_r (L : PFr → PS → PEx) (id : Nat) (rest : PCode) (f : PFr) (s : PS) : LPq P Γ ext L id rest (some (.ret, f, s)) = some (.ret, f, s) := (rfl)
theorem LP_case {id : Nat} {body rest : PCode} {f : PFr} {s : PS} {R : PEx → Prop} (h : ∀ L, L = LP P Γ ext id body rest → R (LPq P Γ ext L id rest (pcode P Γ ext body f s))) : R (LP P Γ ext id body rest f s) := by
  have e : LP P Γ ext id body rest f s = LPq P Γ ext (LP P Γ ext id body rest) id rest (pcode P Γ ext body f s) := by
    rw [LP_step]
    unfold LPk LPq
    cases pcode P Γ ext body f s with
    | none => rfl
    | some q =>
      obtain ⟨x, f1, s1⟩ := q
      cases x with
      | normal => rfl
      | exit j =>
        rw [seq_e, blk_e]
        simp only [Option.bind_some]
        split
        · rw [seq_n]
        · rw [seq_e]
      | ret => rfl
  rw [e]
  exact h _ rfl
theorem er_call {V : PFr → PS → Prop} {g : Nat} {fn : PFn} {args : List PV} {s : PS} {q : PV × PS} (hg : Γ g = some fn) (hl : args.length ≤ fn.nt) (h : Er V (pcode P Γ ext fn.body (initP args 0) ⟨s.h, s.n, s.n⟩)) (hk : ∀ f s', V f s' → leaveP fn s f s' = some q) : pcall P Γ ext g args s = some q := by
  obtain ⟨f, s', e, hv⟩ := h
  rw [pcall_u hg _ _ hl, e]
  exact hk f s' hv
theorem er_call1 {g r : Nat} {fn : PFn} {args : List PV} {s : PS} {u : Value} (hg : Γ g = some fn) (hl : args.length ≤ fn.nt) (hr : fn.res = [.tmp r]) (hk : fn.keep = false) (h : Er (fun f' s' => s' = ⟨s.h, s.n, s.n⟩ ∧ f' r = .sc u) (pcode P Γ ext fn.body (initP args 0) ⟨s.h, s.n, s.n⟩)) : pcall P Γ ext g args s = some (.sc u, s) := by
  refine er_call hg hl h ?_
  rintro f s' ⟨rfl, h⟩
  exact leave_p (vs := [.sc u]) hk (by rw [hr]; simp only [resP, Option.map_some, h]) (Nat.le_refl _) rfl
theorem getD_toNat (l : List UInt8) (i : Nat) : (l.getD i 0).toNat = Go.Mir.bt l i := (rfl)
end
end Go.PE


namespace Go.PE
open Go Go.EvL
section
variable {P : Program} {Γ : Nat → Option PFn} {ext : PCallF}
theorem gt_e (j : Nat) (w : Bool) (d t : Nat) : gt j w d t = ⟨some d, .mv (.tmp t), some (j, w)⟩ := rfl
theorem ob_e (d : Nat) (p : POp) : ob d p = ⟨some d, p, none⟩ := rfl
theorem og_e (j : Nat) (w : Bool) (d : Nat) (p : POp) : og j w d p = ⟨some d, p, some (j, w)⟩ := rfl
theorem o0_e (p : POp) : o0 p = ⟨none, p, none⟩ := rfl
theorem g0_e (j : Nat) (w : Bool) (p : POp) : g0 j w p = ⟨none, p, some (j, w)⟩ := rfl
theorem bn_e (o : BinOp) (t x y : Nat) : bn o t x y = .bin o t (.tmp x) (.tmp y) := rfl
theorem bi_e (o : BinOp) (x : Nat) (n : Int) : bi o x n = .bin o 3 (.tmp x) (.const (.int .i64 n)) := rfl
theorem bc_e (o : BinOp) (x : Nat) (n : Int) : bc o x n = .bin o 5 (.tmp x) (.const (.int .u8 n)) := rfl
theorem pk_e (a b : Nat) : pk a b = .pick (.tmp a) (.tmp b) (.const (.bool false)) := rfl
theorem po_e (a b : Nat) : po a b = .pick (.tmp a) (.const (.bool true)) (.tmp b) := rfl
theorem cl_e (g : Nat) (l : List Operand) : cl g l = .call (.func g) l := rfl
theorem gdP_n (f : PFr) : guardP f none = some true := rfl
theorem gdP_s (f : PFr) (d : Nat) (w : Bool) : guardP f (some (d, w)) = match f d with
  | .sc (.bool b) => some (b == w)
  | .sc (.tuple _) => some false
  | _ => none := rfl
theorem ce_agg (cs : List PV) : cellsP (.agg cs) = cs := rfl
theorem ce_sc (v : Value) : cellsP (.sc v) = [.sc v] := rfl
theorem ce_own (k off n fin : Nat) : cellsP (.own k off n fin) = [.own k off n fin] := rfl
theorem ce_ptr (k off fin : Nat) : cellsP (.ptr k off fin) = [.ptr k off fin] := rfl
theorem ce_fn (g : Nat) (a c : List PV) : cellsP (.fn g a c) = [.fn g a c] := rfl
theorem ce_lit (e n : Nat) (c : List PV) : cellsP (.lit e n c) = [.lit e n c] := rfl
theorem und_e : undef = .tuple #[] := rfl
theorem init_0 (i : Nat) : initP [] i = fun _ => .sc undef := rfl
theorem init_1 (v : PV) (l : List PV) (i : Nat) : initP (v :: l) i = PFr.set (initP l (i + 1)) i v := rfl
theorem pdraw_mt (d t : Nat) (ls un : List Nat) (l : List (PI × List Nat × List Nat)) (j : Nat) (acc : List (Nat × Eff × Nat × Nat)) (f : PFr) (s : PS) : pdraw P Γ ext ((mt d t, ls, un) :: l) j acc f s = drK P Γ ext (actP P (pcall P Γ ext) (onlyP ls f) s (.mv (.tmp t))) (some d) (effO (onlyP ls f) (.mv (.tmp t))) (pureI (puOf Γ) (onlyP ls f) ⟨some d, .mv (.tmp t), none⟩) un l j acc f s := pdraw_u _ _ _ _ _ _ _ _ _
theorem pdraw_mk (d : Nat) (v : Value) (ls un : List Nat) (l : List (PI × List Nat × List Nat)) (j : Nat) (acc : List (Nat × Eff × Nat × Nat)) (f : PFr) (s : PS) : pdraw P Γ ext ((mk d v, ls, un) :: l) j acc f s = drK P Γ ext (actP P (pcall P Γ ext) (onlyP ls f) s (.mv (.const v))) (some d) (effO (onlyP ls f) (.mv (.const v))) (pureI (puOf Γ) (onlyP ls f) ⟨some d, .mv (.const v), none⟩) un l j acc f s := pdraw_u _ _ _ _ _ _ _ _ _
theorem ZA : type_of% (And.intro (@pcode_seq) <| And.intro (@pcode_r) <| And.intro (@pcode_ret) <| And.intro (@pcode_skip) <| And.intro (@pcode_exit) <| And.intro (@pcode_cond) <| And.intro (@pcode_block) <| And.intro (@pops_u) <| And.intro (@pops_g) <| And.intro (@pops_nil) <| And.intro (@runK_some) <| And.intro (@runK_none) <| And.intro (@runG_true) <| And.intro (@runG_false) <| And.intro (@runG_false') <| And.intro (@Nat.zero_add) <| And.intro (@Nat.add_zero) <| And.intro (@Option.map_some.{0,0}) <| And.intro (@Option.bind_some.{0,0}) <| And.intro (@pval_tmp) <| And.intro (@pval_const) <| And.intro (@pval_func) <| And.intro (@set_at) <| And.intro (@seq_n) <| And.intro (@seq_r) <| And.intro (@seq_e) <| And.intro (@blk_n) <| And.intro (@blk_r) <| And.intro (@blk_e) <| And.intro (@cond_t) <| And.intro (@cond_f) <| And.intro (@asBool_b) <| And.intro (@regE_some) <| And.intro (@new_h) <| And.intro (@new_n) <| And.intro (@new_w) <| And.intro (@put_h) <| And.intro (@put_n) <| And.intro (@put_w) <| And.intro (@ld_ptr) <| And.intro (@List.length_cons.{0}) <| And.intro (@List.length_nil.{0}) <| And.intro (@Nat.left_eq_add) <| And.intro (@Nat.add_eq_left) <| And.intro (@Nat.add_left_cancel_iff) <| And.intro (@Nat.one_ne_zero) <| And.intro (@Nat.zero_le) <| And.intro (@and_self) <| And.intro (@true_and) <| And.intro (@and_true) <| And.intro (@List.drop_succ_cons.{0}) <| And.intro (@List.drop_zero.{0}) <| And.intro (@List.take_succ_cons.{0}) <| And.intro (@List.take_zero.{0}) <| And.intro (@Nat.le_refl) <| And.intro (@bin_add) <| And.intro (@bin_sub) <| And.intro (@bin_lss) <| And.intro (@bin_leq) <| And.intro (@bin_gtr) <| And.intro (@bin_geq) <| And.intro (@bin_eql) <| And.intro (@bin_neq) <| And.intro (@bin_seql) <| And.intro (@bin_sneq) <| And.intro (@un_not) <| And.intro (@beq_self_eq_true.{0}) <| And.intro (@Bool.not_true) <| And.intro (@Bool.not_false) <| And.intro (@b_tt) <| And.intro (@b_ff) <| And.intro (@Nat.min_eq_left) <| And.intro (@Nat.le_add_right) <| And.intro (@Nat.min_self) <| And.intro (@List.map_cons.{0,0}) <| And.intro (@List.map_nil.{0,0}) <| And.intro (@List.nil_append.{0}) <| And.intro (@List.append_nil.{0}) <| And.intro (@List.cons_append.{0}) <| And.intro (@endK_r) <| And.intro (@endK_n) <| And.intro (@Bool.true_eq_false) <| And.intro (@Bool.false_eq_true) <| And.intro (@ne_eq.{1}) <| And.intro (@not_true_eq_false) <| And.intro (@not_false_eq_true) <| And.intro (@bne_self_eq_false.{0}) <| And.intro (@st_all) <| And.intro (@natP_cast) <| And.intro (@natP_zero) <| And.intro (@decide_true) <| And.intro (@decide_false) <| And.intro (@W_some) <| And.intro (@rnd_n) <| And.intro (@rnd_e) <| And.intro (@rnd_r) <| And.intro (@len_str) <| And.intro (@List.getElem?_cons_zero.{0}) <| And.intro (@List.getElem?_cons_succ.{0}) <| And.intro (@pcode_iff) <| And.intro (@pcode_sr) <| And.intro (@pcode_lt) <| And.intro (@LPq_n) <| And.intro (@LPq_e) <| And.intro (@LPq_r) <| And.intro (@er_some) <| And.intro (@LP_fold) <| And.intro (@bin_ceql) <| And.intro (@bin_cneq) <| And.intro (@bin_clss) <| And.intro (@bin_cleq) <| And.intro (@bin_cgtr) <| And.intro (@bin_cgeq) <| And.intro (@beqL) <| And.intro (@bneL) <| And.intro (@ltL) <| And.intro (@leL) <| And.intro (@gtL) <| And.intro (@geL) <| And.intro (@beqN) <| And.intro (@bneN) <| And.intro (@ltN) <| And.intro (@leN) <| And.intro (@gtN) <| And.intro (@geN) <| And.intro (@addL) <| And.intro (@addN) <| And.intro (@subL) <| And.intro (@subN) <| And.intro (@getD_toNat) <| And.intro (@gt_e) <| And.intro (@ob_e) <| And.intro (@og_e) <| And.intro (@o0_e) <| And.intro (@g0_e) <| And.intro (@bn_e) <| And.intro (@bi_e) <| And.intro (@bc_e) <| And.intro (@pk_e) <| And.intro (@po_e) <| And.intro (@cl_e) <| And.intro (@gdP_n) <| And.intro (@gdP_s) <| And.intro (@und_e) <| And.intro (@init_0) <| And.intro (@init_1) <| And.intro (@pops_mt) <| And.intro (@pops_mk) <| And.intro (@ce_agg) <| And.intro (@ce_sc) <| And.intro (@ce_own) <| And.intro (@ce_ptr) <| And.intro (@ce_fn) <| @ce_lit) := And.intro (@pcode_seq) <| And.intro (@pcode_r) <| And.intro (@pcode_ret) <| And.intro (@pcode_skip) <| And.intro (@pcode_exit) <| And.intro (@pcode_cond) <| And.intro (@pcode_block) <| And.intro (@pops_u) <| And.intro (@pops_g) <| And.intro (@pops_nil) <| And.intro (@runK_some) <| And.intro (@runK_none) <| And.intro (@runG_true) <| And.intro (@runG_false) <| And.intro (@runG_false') <| And.intro (@Nat.zero_add) <| And.intro (@Nat.add_zero) <| And.intro (@Option.map_some.{0,0}) <| And.intro (@Option.bind_some.{0,0}) <| And.intro (@pval_tmp) <| And.intro (@pval_const) <| And.intro (@pval_func) <| And.intro (@set_at) <| And.intro (@seq_n) <| And.intro (@seq_r) <| And.intro (@seq_e) <| And.intro (@blk_n) <| And.intro (@blk_r) <| And.intro (@blk_e) <| And.intro (@cond_t) <| And.intro (@cond_f) <| And.intro (@asBool_b) <| And.intro (@regE_some) <| And.intro (@new_h) <| And.intro (@new_n) <| And.intro (@new_w) <| And.intro (@put_h) <| And.intro (@put_n) <| And.intro (@put_w) <| And.intro (@ld_ptr) <| And.intro (@List.length_cons.{0}) <| And.intro (@List.length_nil.{0}) <| And.intro (@Nat.left_eq_add) <| And.intro (@Nat.add_eq_left) <| And.intro (@Nat.add_left_cancel_iff) <| And.intro (@Nat.one_ne_zero) <| And.intro (@Nat.zero_le) <| And.intro (@and_self) <| And.intro (@true_and) <| And.intro (@and_true) <| And.intro (@List.drop_succ_cons.{0}) <| And.intro (@List.drop_zero.{0}) <| And.intro (@List.take_succ_cons.{0}) <| And.intro (@List.take_zero.{0}) <| And.intro (@Nat.le_refl) <| And.intro (@bin_add) <| And.intro (@bin_sub) <| And.intro (@bin_lss) <| And.intro (@bin_leq) <| And.intro (@bin_gtr) <| And.intro (@bin_geq) <| And.intro (@bin_eql) <| And.intro (@bin_neq) <| And.intro (@bin_seql) <| And.intro (@bin_sneq) <| And.intro (@un_not) <| And.intro (@beq_self_eq_true.{0}) <| And.intro (@Bool.not_true) <| And.intro (@Bool.not_false) <| And.intro (@b_tt) <| And.intro (@b_ff) <| And.intro (@Nat.min_eq_left) <| And.intro (@Nat.le_add_right) <| And.intro (@Nat.min_self) <| And.intro (@List.map_cons.{0,0}) <| And.intro (@List.map_nil.{0,0}) <| And.intro (@List.nil_append.{0}) <| And.intro (@List.append_nil.{0}) <| And.intro (@List.cons_append.{0}) <| And.intro (@endK_r) <| And.intro (@endK_n) <| And.intro (@Bool.true_eq_false) <| And.intro (@Bool.false_eq_true) <| And.intro (@ne_eq.{1}) <| And.intro (@not_true_eq_false) <| And.intro (@not_false_eq_true) <| And.intro (@bne_self_eq_false.{0}) <| And.intro (@st_all) <| And.intro (@natP_cast) <| And.intro (@natP_zero) <| And.intro (@decide_true) <| And.intro (@decide_false) <| And.intro (@W_some) <| And.intro (@rnd_n) <| And.intro (@rnd_e) <| And.intro (@rnd_r) <| And.intro (@len_str) <| And.intro (@List.getElem?_cons_zero.{0}) <| And.intro (@List.getElem?_cons_succ.{0}) <| And.intro (@pcode_iff) <| And.intro (@pcode_sr) <| And.intro (@pcode_lt) <| And.intro (@LPq_n) <| And.intro (@LPq_e) <| And.intro (@LPq_r) <| And.intro (@er_some) <| And.intro (@LP_fold) <| And.intro (@bin_ceql) <| And.intro (@bin_cneq) <| And.intro (@bin_clss) <| And.intro (@bin_cleq) <| And.intro (@bin_cgtr) <| And.intro (@bin_cgeq) <| And.intro (@beqL) <| And.intro (@bneL) <| And.intro (@ltL) <| And.intro (@leL) <| And.intro (@gtL) <| And.intro (@geL) <| And.intro (@beqN) <| And.intro (@bneN) <| And.intro (@ltN) <| And.intro (@leN) <| And.intro (@gtN) <| And.intro (@geN) <| And.intro (@addL) <| And.intro (@addN) <| And.intro (@subL) <| And.intro (@subN) <| And.intro (@getD_toNat) <| And.intro (@gt_e) <| And.intro (@ob_e) <| And.intro (@og_e) <| And.intro (@o0_e) <| And.intro (@g0_e) <| And.intro (@bn_e) <| And.intro (@bi_e) <| And.intro (@bc_e) <| And.intro (@pk_e) <| And.intro (@po_e) <| And.intro (@cl_e) <| And.intro (@gdP_n) <| And.intro (@gdP_s) <| And.intro (@und_e) <| And.intro (@init_0) <| And.intro (@init_1) <| And.intro (@pops_mt) <| And.intro (@pops_mk) <| And.intro (@ce_agg) <| And.intro (@ce_sc) <| And.intro (@ce_own) <| And.intro (@ce_ptr) <| And.intro (@ce_fn) <| @ce_lit
theorem ZD : type_of% (And.intro (@pcode_d) <| And.intro (@pdraw_nil) <| And.intro (@pdraw_u) <| And.intro (@pdraw_g) <| And.intro (@drK_some) <| And.intro (@drK_none) <| And.intro (@drG_true) <| And.intro (@drG_false) <| And.intro (@only_at) <| And.intro (@okAll_nil) <| And.intro (@okAll_un) <| And.intro (@okAll_e) <| And.intro (@okAll_cons) <| And.intro (@okPair_e) <| And.intro (@okPair_st) <| And.intro (@okPair_li) <| And.intro (@List.mem_cons.{0}) <| And.intro (@List.not_mem_nil.{0}) <| And.intro (@or_false) <| And.intro (@false_or) <| And.intro (@or_true) <| And.intro (@true_or) <| And.intro (@or_self) <| And.intro (@implies_true.{0}) <| And.intro (@false_implies) <| And.intro (@forall_const.{1}) <| And.intro (@true_implies) <| And.intro (@pdraw_mt) <| @pdraw_mk) := And.intro (@pcode_d) <| And.intro (@pdraw_nil) <| And.intro (@pdraw_u) <| And.intro (@pdraw_g) <| And.intro (@drK_some) <| And.intro (@drK_none) <| And.intro (@drG_true) <| And.intro (@drG_false) <| And.intro (@only_at) <| And.intro (@okAll_nil) <| And.intro (@okAll_un) <| And.intro (@okAll_e) <| And.intro (@okAll_cons) <| And.intro (@okPair_e) <| And.intro (@okPair_st) <| And.intro (@okPair_li) <| And.intro (@List.mem_cons.{0}) <| And.intro (@List.not_mem_nil.{0}) <| And.intro (@or_false) <| And.intro (@false_or) <| And.intro (@or_true) <| And.intro (@true_or) <| And.intro (@or_self) <| And.intro (@implies_true.{0}) <| And.intro (@false_implies) <| And.intro (@forall_const.{1}) <| And.intro (@true_implies) <| And.intro (@pdraw_mt) <| @pdraw_mk
end
end Go.PE


namespace Go.PE
open Go Go.EvL
section
variable {P : Program}
theorem pr_pure {α : Type} (a : α) : pureRun P (pure a : Sem α) = some a := rfl
theorem pr_struct {d t : Nat} {xs ys : Array Value} {fs : Array Field} (ht : P.underlying t = some (.struct fs)) (hp : P.stoodInHeld t = false) : pureRun P (Op.equalIn (d + 1) t (.agg xs) (.agg ys)) = pureRun P (Op.eqFields d xs ys fs.toList) := by
  simp only [Op.equalIn, pureRun_bind, pureRun_under ht, Option.bind_some]
  rw [show pureRun P program = some P from rfl]
  simp only [Option.bind_some, hp, Bool.false_eq_true, if_false]
  rw [← Array.forIn_toList]
  generalize fs.toList = l
  clear ht
  induction l with
  | nil => simp [Op.eqFields, pureRun_bind, pr_pure]
  | cons f l ih =>
    simp only [List.forIn_cons, Op.eqFields]
    split
    · simp only [pureRun_bind]
      cases pureRun P (part f.type xs f.offset) with
      | none => rfl
      | some a =>
        cases pureRun P (part f.type ys f.offset) with
        | none => rfl
        | some b =>
          simp only [Option.bind_some]
          cases pureRun P (Op.equalIn d f.type a b) with
          | none => rfl
          | some r =>
            cases r
            · simp [pureRun_bind, pr_pure]
            · simp only [Option.bind_some, Bool.not_true, Bool.false_eq_true, if_false, pr_pure]
              rw [← ih, pureRun_bind]
    · simp only [pureRun_bind, pr_pure, Option.bind_some]
      rw [← ih, pureRun_bind]
theorem pr_part {t i : Nat} {xs : Array Value} {d : TypeDesc} {v : Value} (hu : P.underlying t = some d) (ha : isAggD (some d) = false) (hv : xs[i]? = some v) : pureRun P (part t xs i) = some v := by
  have h1 : pureRun P (isAgg t) = some false := by
    unfold isAgg
    rw [pureRun_bind, pureRun_under hu]
    cases d <;> first | rfl | cases ha
  unfold part
  rw [pureRun_bind, h1]
  simp only [Option.bind_some, Bool.false_eq_true, if_false, hv]
  rfl
theorem pr_fld {d : Nat} {f : Field} {fs : List Field} {xs ys : Array Value} {a b : Value} {r : Bool} {dd : TypeDesc} (hn : f.name ≠ "_") (hu : P.underlying f.type = some dd) (ha : isAggD (some dd) = false) (h1 : xs[f.offset]? = some a) (h2 : ys[f.offset]? = some b) (he : pureRun P (Op.equalIn d f.type a b) = some r) :
    pureRun P (Op.eqFields d xs ys (f :: fs)) = if r then pureRun P (Op.eqFields d xs ys fs) else some false := by
  simp only [Op.eqFields]
  rw [if_pos hn]
  simp only [pureRun_bind, pr_part hu ha h1, pr_part hu ha h2, he, Option.bind_some]
  cases r <;> rfl
inductive FOK (P : Program) (d : Nat) (xs ys : Array Value) : List Field → List Bool → Prop
  | nil : FOK P d xs ys [] []
  | cons (f : Field) (fs : List Field) (r : Bool) (rs : List Bool) (h : f.name ≠ "_" ∧ ∃ dd a b, P.underlying f.type = some dd ∧ isAggD (some dd) = false ∧ xs[f.offset]? = some a ∧ ys[f.offset]? = some b ∧ pureRun P (Op.equalIn d f.type a b) = some r) (t : FOK P d xs ys fs rs) : FOK P d xs ys (f :: fs) (r :: rs)
def allT : List Bool → Bool
  | [] => true
  | [r] => r
  | r :: rs => r && allT rs
theorem allT_cons (r : Bool) (rs : List Bool) : allT (r :: rs) = (r && allT rs) := by
  cases rs with
  | nil => simp [allT]
  | cons => rfl
theorem pr_fields {d : Nat} {xs ys : Array Value} {fs : List Field} {rs : List Bool} (h : FOK P d xs ys fs rs) : pureRun P (Op.eqFields d xs ys fs) = some (allT rs) := by
  induction h with
  | nil => rfl
  | cons f fs r rs h _ ih =>
    obtain ⟨hn, dd, a, b, hu, ha, h1, h2, he⟩ := h
    rw [pr_fld hn hu ha h1 h2 he, ih, allT_cons]
    cases r <;> rfl
theorem pr_string {d t : Nat} (hu : P.underlying t = some .string) (a b : ByteArray) : pureRun P (Op.equalIn (d + 1) t (.string a) (.string b)) = some (a.toList == b.toList) := by
  simp only [Op.equalIn, pureRun_bind, pureRun_under hu, Option.bind_some]
  rw [← beq_toListBytes]
  rfl
theorem pr_int {d t : Nat} {k k' : IntKind} (hu : P.underlying t = some (.int k')) (a b : Int) : pureRun P (Op.equalIn (d + 1) t (.int k a) (.int k b)) = some (a == b) := by
  simp only [Op.equalIn, pureRun_bind, pureRun_under hu, Option.bind_some, if_true]
  rfl
theorem pr_bool {d t : Nat} (hu : P.underlying t = some .bool) (a b : Bool) : pureRun P (Op.equalIn (d + 1) t (.bool a) (.bool b)) = some (a == b) := by
  simp only [Op.equalIn, pureRun_bind, pureRun_under hu, Option.bind_some]
  rfl
theorem binV_agg {t : Nat} {x y : Operand} {xs ys : Array Value} {r : Bool} (hg : P.eqGuardType P.depth t = false) (he : pureRun P (Op.equalIn 10000 t (.agg xs) (.agg ys)) = some r) : binV P .neq t x y (.agg xs) (.agg ys) = some (.bool (!r)) ∧ binV P .eql t x y (.agg xs) (.agg ys) = some (.bool r) := by
  have g1 : pureRun P (eqGuard .neq t x y (.agg xs) (.agg ys)) = some () := by
    unfold eqGuard
    simp only [Bool.not_true, Bool.false_eq_true, if_false, pureRun_bind]
    rw [show pureRun P program = some P from rfl]
    simp only [Option.bind_some, hg, Bool.not_false, if_true]
    rfl
  have g2 : pureRun P (eqGuard .eql t x y (.agg xs) (.agg ys)) = some () := by
    unfold eqGuard
    simp only [Bool.not_true, Bool.false_eq_true, if_false, pureRun_bind]
    rw [show pureRun P program = some P from rfl]
    simp only [Option.bind_some, hg, Bool.not_false, if_true]
    rfl
  unfold binV
  rw [pureRun_bind, pureRun_bind, g1, g2]
  simp only [Option.bind_some, binOp]
  have h2 : pureRun P (Op.equal t (.agg xs) (.agg ys)) = some r := he
  simp only [pureRun_bind, h2, Option.bind_some]
  exact ⟨rfl, rfl⟩
end
end Go.PE
