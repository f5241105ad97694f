/- A run on values, and its soundness. No statement is proved here. -/
import Derived.Test.YtflfflfodghgpaaGreatDoorPeB
set_option linter.unusedSimpArgs false
set_option linter.unusedVariables false
namespace Go.PE
open Go Go.EvL
section
variable {P : Program} {Γ : Nat → Option PFn} {ext : PCallF}
theorem pops_nil (f : PFr) (s : PS) : pops P Γ ext [] f s = some (f, s) := (rfl)
theorem pops_cons (i : PI) (l : List PI) (f : PFr) (s : PS) : pops P Γ ext (i :: l) f s = (pstep P Γ ext i f s).bind fun q => pops P Γ ext l q.1 q.2 := (rfl)
noncomputable def runK (P : Program) (Γ : Nat → Option PFn) (ext : PCallF) (r : Option (PV × PS)) (d : Option Nat) (f : PFr) (l : List PI) : Option (PFr × PS) := r.bind fun q => pops P Γ ext l (setD f d q.1) q.2
noncomputable def runG (P : Program) (Γ : Nat → Option PFn) (ext : PCallF) (b : Option Bool) (d : Option Nat) (o : POp) (f : PFr) (s : PS) (l : List PI) : Option (PFr × PS) := match b with
  | some true => runK P Γ ext (actP P (pcall P Γ ext) f s o) d f l
  | some false => pops P Γ ext l (setD f d (.sc undef)) s
  | none => none
theorem runK_some (v : PV) (s : PS) (d : Nat) (f : PFr) (l : List PI) : runK P Γ ext (some (v, s)) (some d) f l = pops P Γ ext l (f.set d v) s := (rfl)
theorem runK_none (v : PV) (s : PS) (f : PFr) (l : List PI) : runK P Γ ext (some (v, s)) none f l = pops P Γ ext l f s := (rfl)
theorem runG_true (d : Option Nat) (o : POp) (f : PFr) (s : PS) (l : List PI) : runG P Γ ext (some true) d o f s l = runK P Γ ext (actP P (pcall P Γ ext) f s o) d f l := (rfl)
theorem runG_false (d : Nat) (o : POp) (f : PFr) (s : PS) (l : List PI) : runG P Γ ext (some false) (some d) o f s l = pops P Γ ext l (f.set d (.sc undef)) s := (rfl)
theorem runG_false' (o : POp) (f : PFr) (s : PS) (l : List PI) : runG P Γ ext (some false) none o f s l = pops P Γ ext l f s := (rfl)
theorem pops_u (d : Option Nat) (o : POp) (l : List PI) (f : PFr) (s : PS) : pops P Γ ext (⟨d, o, none⟩ :: l) f s = runK P Γ ext (actP P (pcall P Γ ext) f s o) d f l := by
  rw [pops_cons]
  unfold runK pstep stepP
  simp only [guardP]
  cases actP P (pcall P Γ ext) f s o <;> rfl
theorem pops_g (d : Option Nat) (o : POp) (j : Nat) (w : Bool) (l : List PI) (f : PFr) (s : PS) : pops P Γ ext (⟨d, o, some (j, w)⟩ :: l) f s = runG P Γ ext (guardP f (some (j, w))) d o f s l := by
  rw [pops_cons]
  unfold runG runK pstep stepP
  simp only
  cases guardP f (some (j, w)) with
  | none => rfl
  | some b => cases b with
    | false => rfl
    | true => simp only; cases actP P (pcall P Γ ext) f s o <;> rfl
def regE (r : Option (PFr × PS)) : PEx := r.map fun q => (.normal, q.1, q.2)
theorem regE_some (f : PFr) (s : PS) : regE (some (f, s)) = some (.normal, f, s) := (rfl)
theorem pcode_r (l : List PI) (f : PFr) (s : PS) : pcode P Γ ext (.reg l) f s = regE (pops P Γ ext l f s) := pcode_reg l f s
theorem seq_n (f : PFr) (s : PS) (k : PFr → PS → PEx) : seqP (some (.normal, f, s)) k = k f s := (rfl)
theorem seq_r (f : PFr) (s : PS) (k : PFr → PS → PEx) : seqP (some (.ret, f, s)) k = some (.ret, f, s) := (rfl)
theorem seq_e (id : Nat) (f : PFr) (s : PS) (k : PFr → PS → PEx) : seqP (some (.exit id, f, s)) k = some (.exit id, f, s) := (rfl)
theorem blk_n (id : Nat) (f : PFr) (s : PS) : blockP id (some (.normal, f, s)) = some (.normal, f, s) := (rfl)
theorem blk_r (id : Nat) (f : PFr) (s : PS) : blockP id (some (.ret, f, s)) = some (.ret, f, s) := (rfl)
theorem blk_e (id i : Nat) (f : PFr) (s : PS) : blockP id (some (.exit i, f, s)) = if i = id then some (.normal, f, s) else some (.exit i, f, s) := by
  show some (if i = id then _ else _) = _
  split <;> rfl
theorem cond_t (x y : PEx) : condP (some true) x y = x := (rfl)
theorem cond_f (x y : PEx) : condP (some false) x y = y := (rfl)
theorem asBool_b (b : Bool) : asBool (.sc (.bool b)) = some b := (rfl)
noncomputable def endK (fn : PFn) (s : PS) (r : PEx) : Option (PV × PS) := r.bind fun q => endP q (leaveP fn s)
theorem endK_r (fn : PFn) (s : PS) (f : PFr) (s' : PS) : endK fn s (some (.ret, f, s')) = leaveP fn s f s' := (rfl)
theorem endK_n (fn : PFn) (s : PS) (f : PFr) (s' : PS) : endK fn s (some (.normal, f, s')) = leaveP fn s f s' := (rfl)
theorem pcall_u {g : Nat} {fn : PFn} (h : Γ g = some fn) (args : List PV) (s : PS) (hl : args.length ≤ fn.nt) : pcall P Γ ext g args s = endK fn s (pcode P Γ ext fn.body (initP args 0) ⟨s.h, s.n, s.n⟩) := by
  rw [pcall_eq h, if_pos hl]; rfl
theorem leave_p {fn : PFn} {s : PS} {f : PFr} {s' : PS} {vs : List PV} {v : PV} (hk : fn.keep = false) (hr : resP f s' fn.res = some vs) (hw : s.n ≤ s'.w) (hv : frz s.n s' (oneRes vs) = some v) : leaveP fn s f s' = some (v, s) := by
  unfold leaveP
  rw [hr]
  simp only [Option.bind_some, hk, Bool.false_eq_true, if_false, if_pos hw, hv, Option.map_some]
theorem pdraw_nil (j : Nat) (acc : List (Nat × Eff × Nat × Nat)) (f : PFr) (s : PS) : pdraw P Γ ext [] j acc f s = some (f, s) := (rfl)
noncomputable def drK (P : Program) (Γ : Nat → Option PFn) (ext : PCallF) (r : Option (PV × PS)) (d : Option Nat) (E : Eff) (pu : Bool) (un : List Nat) (l : List (PI × List Nat × List Nat)) (j : Nat) (acc : List (Nat × Eff × Nat × Nat)) (f : PFr) (s : PS) : Option (PFr × PS) :=
  r.bind fun q => if pu = true ∧ OkAll un E acc then pdraw P Γ ext l (j + 1) ((j, E, s.n, q.2.n) :: acc) (setD f d q.1) q.2 else none
noncomputable def drG (P : Program) (Γ : Nat → Option PFn) (ext : PCallF) (b : Option Bool) (d : Option Nat) (o : POp) (ls un : List Nat) (l : List (PI × List Nat × List Nat)) (j : Nat) (acc : List (Nat × Eff × Nat × Nat)) (f : PFr) (s : PS) : Option (PFr × PS) := match b with
  | some true => drK P Γ ext (actP P (pcall P Γ ext) (onlyP ls f) s o) d (effO (onlyP ls f) o) (pureI (puOf Γ) (onlyP ls f) ⟨d, o, none⟩) un l j acc f s
  | some false => drK P Γ ext (some (.sc undef, s)) d ⟨[], [], false, false⟩ (pureI (puOf Γ) (onlyP ls f) ⟨d, o, none⟩) un l j acc f s
  | none => none
theorem drK_some (v : PV) (s' : PS) (d : Nat) (E : Eff) (un : List Nat) (l : List (PI × List Nat × List Nat)) (j : Nat) (acc : List (Nat × Eff × Nat × Nat)) (f : PFr) (s : PS) (h : OkAll un E acc) : drK P Γ ext (some (v, s')) (some d) E true un l j acc f s = pdraw P Γ ext l (j + 1) ((j, E, s.n, s'.n) :: acc) (f.set d v) s' := by
  unfold drK
  simp only [Option.bind_some, h, and_self, if_true]
  rfl
theorem drK_none (v : PV) (s' : PS) (E : Eff) (un : List Nat) (l : List (PI × List Nat × List Nat)) (j : Nat) (acc : List (Nat × Eff × Nat × Nat)) (f : PFr) (s : PS) (h : OkAll un E acc) : drK P Γ ext (some (v, s')) none E true un l j acc f s = pdraw P Γ ext l (j + 1) ((j, E, s.n, s'.n) :: acc) f s' := by
  unfold drK
  simp only [Option.bind_some, h, and_self, if_true]
  rfl
theorem set_same (f : PFr) (d : Nat) (v : PV) : PFr.set f d v d = v := if_pos rfl
theorem setG_setD (f h : PFr) (d : Option Nat) (v : PV) : setG f d (setD h d v) = setD f d v := by
  cases d with
  | none => rfl
  | some d => show PFr.set f d (PFr.set h d v d) = _; rw [set_same]; rfl
theorem pdraw_u (d : Option Nat) (o : POp) (ls un : List Nat) (l : List (PI × List Nat × List Nat)) (j : Nat) (acc : List (Nat × Eff × Nat × Nat)) (f : PFr) (s : PS) : pdraw P Γ ext ((⟨d, o, none⟩, ls, un) :: l) j acc f s =
    drK P Γ ext (actP P (pcall P Γ ext) (onlyP ls f) s o) d (effO (onlyP ls f) o) (pureI (puOf Γ) (onlyP ls f) ⟨d, o, none⟩) un l j acc f s := by
  unfold drK
  show (stepP P (pcall P Γ ext) ⟨d, o, none⟩ (onlyP ls f) s).bind _ = _
  unfold stepP
  simp only [guardP]
  cases actP P (pcall P Γ ext) (onlyP ls f) s o with
  | none => rfl
  | some q =>
    simp only [Option.map_some, Option.bind_some, setG_setD]
    rfl
theorem pdraw_g (d : Option Nat) (o : POp) (x : Nat) (w : Bool) (ls un : List Nat) (l : List (PI × List Nat × List Nat)) (j : Nat) (acc : List (Nat × Eff × Nat × Nat)) (f : PFr) (s : PS) : pdraw P Γ ext ((⟨d, o, some (x, w)⟩, ls, un) :: l) j acc f s =
    drG P Γ ext (guardP (onlyP ls f) (some (x, w))) d o ls un l j acc f s := by
  unfold drG
  show (stepP P (pcall P Γ ext) ⟨d, o, some (x, w)⟩ (onlyP ls f) s).bind _ = _
  unfold stepP
  simp only
  cases hg : guardP (onlyP ls f) (some (x, w)) with
  | none => rfl
  | some b =>
    cases b with
    | true =>
      unfold drK
      have he : effI (onlyP ls f) ⟨d, o, some (x, w)⟩ = effO (onlyP ls f) o := by simp only [effI, hg]
      have hpu : pureI (puOf Γ) (onlyP ls f) ⟨d, o, some (x, w)⟩ = pureI (puOf Γ) (onlyP ls f) ⟨d, o, none⟩ := rfl
      cases actP P (pcall P Γ ext) (onlyP ls f) s o with
      | none => rfl
      | some q =>
        simp only [Option.map_some, Option.bind_some, setG_setD, he, hpu]
        rfl
    | false =>
      unfold drK
      have he : effI (onlyP ls f) ⟨d, o, some (x, w)⟩ = ⟨[], [], false, false⟩ := by simp only [effI, hg]
      have hpu : pureI (puOf Γ) (onlyP ls f) ⟨d, o, some (x, w)⟩ = pureI (puOf Γ) (onlyP ls f) ⟨d, o, none⟩ := rfl
      simp only [Option.bind_some, setG_setD, he, hpu]
      rfl
theorem pcode_d (l : List (PI × List Nat × List Nat)) (f : PFr) (s : PS) : pcode P Γ ext (.draw l) f s = regE (pdraw P Γ ext l 0 [] f s) := pcode_draw l f s
theorem only_at (ls : List Nat) (f : PFr) (t : Nat) : onlyP ls f t = if t ∈ ls then f t else .sc undef := (rfl)
theorem okAll_nil (un : List Nat) (F : Eff) : OkAll un F [] := fun e he => by cases he
theorem okAll_un (F : Eff) (acc : List (Nat × Eff × Nat × Nat)) : OkAll [] F acc := fun e _ he => by cases he
theorem okAll_e (un : List Nat) (acc : List (Nat × Eff × Nat × Nat)) : OkAll un ⟨[], [], false, false⟩ acc := fun e _ _ => by
  refine ⟨fun k _ => ⟨?_, ?_⟩, ?_, ?_, ?_, ?_, ?_, ?_⟩ <;> simp
theorem okAll_cons (un : List Nat) (F : Eff) (e : Nat × Eff × Nat × Nat) (acc : List (Nat × Eff × Nat × Nat)) : OkAll un F (e :: acc) ↔ (e.1 ∈ un → OkPair e.2.1 e.2.2.1 e.2.2.2 F) ∧ OkAll un F acc := by
  unfold OkAll; simp
theorem okPair_e (E : Eff) (a b : Nat) : OkPair E a b ⟨[], [], false, false⟩ := by
  refine ⟨fun k _ => ⟨?_, ?_⟩, ?_, ?_, ?_, ?_, ?_, ?_⟩ <;> simp
theorem okPair_st (li : Bool) (a b k : Nat) (h : b ≤ k) : OkPair ⟨[], [], li, false⟩ a b ⟨[k], [k], false, false⟩ := by
  unfold OkPair; simp; omega
theorem drG_true (d : Option Nat) (o : POp) (ls un : List Nat) (l : List (PI × List Nat × List Nat)) (j : Nat) (acc : List (Nat × Eff × Nat × Nat)) (f : PFr) (s : PS) : drG P Γ ext (some true) d o ls un l j acc f s = drK P Γ ext (actP P (pcall P Γ ext) (onlyP ls f) s o) d (effO (onlyP ls f) o) (pureI (puOf Γ) (onlyP ls f) ⟨d, o, none⟩) un l j acc f s := (rfl)
theorem drG_false (d : Option Nat) (o : POp) (ls un : List Nat) (l : List (PI × List Nat × List Nat)) (j : Nat) (acc : List (Nat × Eff × Nat × Nat)) (f : PFr) (s : PS) : drG P Γ ext (some false) d o ls un l j acc f s = drK P Γ ext (some (.sc undef, s)) d ⟨[], [], false, false⟩ (pureI (puOf Γ) (onlyP ls f) ⟨d, o, none⟩) un l j acc f s := (rfl)
theorem okPair_li (E : Eff) (a b : Nat) : OkPair E a b ⟨[], [], true, false⟩ ↔ E.ca = false := by
  unfold OkPair; simp
theorem b_tt (b : Bool) : (b == true) = b := by cases b <;> rfl
theorem b_ff (b : Bool) : (b == false) = !b := by cases b <;> rfl
theorem pval_tmp (f : PFr) (t : Nat) : pval f (.tmp t) = f t := (rfl)
theorem pval_const (f : PFr) (v : Value) : pval f (.const v) = pvOf v := (rfl)
theorem pval_func (f : PFr) (g : Nat) : pval f (.func g) = .fn g [] [] := (rfl)
theorem set_at (f : PFr) (d : Nat) (v : PV) (j : Nat) : PFr.set f d v j = if j = d then v else f j := (rfl)
theorem new_h (s : PS) (b : Blk) (j : Nat) : (s.new b).h j = if j = s.n then b else s.h j := (rfl)
theorem new_n (s : PS) (b : Blk) : (s.new b).n = s.n + 1 := (rfl)
theorem new_w (s : PS) (b : Blk) : (s.new b).w = s.w := (rfl)
theorem put_h (s : PS) (k : Nat) (b : Blk) (j : Nat) : (s.put k b).h j = if j = k then b else s.h j := (rfl)
theorem put_n (s : PS) (k : Nat) (b : Blk) : (s.put k b).n = s.n := (rfl)
theorem put_w (s : PS) (k : Nat) (b : Blk) : (s.put k b).w = min s.w k := (rfl)
theorem bin_add (t : Nat) (x y : Operand) (a b : Int) : binP P .add t x y (.sc (.int .i64 a)) (.sc (.int .i64 b)) = some (.sc (.int .i64 (IntKind.i64.wrap (a + b)))) := (rfl)
theorem bin_sub (t : Nat) (x y : Operand) (a b : Int) : binP P .sub t x y (.sc (.int .i64 a)) (.sc (.int .i64 b)) = some (.sc (.int .i64 (IntKind.i64.wrap (a - b)))) := (rfl)
theorem bin_lss (t : Nat) (x y : Operand) (a b : Int) : binP P .lss t x y (.sc (.int .i64 a)) (.sc (.int .i64 b)) = some (.sc (.bool (decide (a < b)))) := (rfl)
theorem bin_leq (t : Nat) (x y : Operand) (a b : Int) : binP P .leq t x y (.sc (.int .i64 a)) (.sc (.int .i64 b)) = some (.sc (.bool (decide (a ≤ b)))) := (rfl)
theorem bin_gtr (t : Nat) (x y : Operand) (a b : Int) : binP P .gtr t x y (.sc (.int .i64 a)) (.sc (.int .i64 b)) = some (.sc (.bool (decide (a > b)))) := (rfl)
theorem bin_geq (t : Nat) (x y : Operand) (a b : Int) : binP P .geq t x y (.sc (.int .i64 a)) (.sc (.int .i64 b)) = some (.sc (.bool (decide (a ≥ b)))) := (rfl)
theorem bin_eql (t : Nat) (x y : Operand) (a b : Int) : binP P .eql t x y (.sc (.int .i64 a)) (.sc (.int .i64 b)) = some (.sc (.bool (a == b))) := (rfl)
theorem bin_neq (t : Nat) (x y : Operand) (a b : Int) : binP P .neq t x y (.sc (.int .i64 a)) (.sc (.int .i64 b)) = some (.sc (.bool (a != b))) := (rfl)
theorem bin_seql (t : Nat) (x y : Operand) (a b : ByteArray) : binP P .eql t x y (.sc (.string a)) (.sc (.string b)) = some (.sc (.bool (a.toList == b.toList))) := (rfl)
theorem bin_sneq (t : Nat) (x y : Operand) (a b : ByteArray) : binP P .neq t x y (.sc (.string a)) (.sc (.string b)) = some (.sc (.bool (!(a.toList == b.toList)))) := (rfl)
theorem pureRun_bind {α β : Type} (P : Program) (s : Sem α) (k : α → Sem β) : pureRun P (s >>= k) = (pureRun P s).bind fun a => pureRun P (k a) := by
  induction s with
  | pure a => rfl
  | program k' ih => exact ih P
  | _ => first | rfl | (rename_i ih; exact ih)
theorem pureRun_under {P : Program} {t : Nat} {d : TypeDesc} (h : P.underlying t = some d) : pureRun P (underlying t) = some d := by
  show pureRun P ((match P.underlying t with | some d => pure d | none => _ : Sem TypeDesc)) = _
  rw [h]; rfl
theorem binV_beql {P : Program} {t : Nat} (hu : P.underlying t = some .bool) (x y : Operand) (a b : Bool) : binV P .eql t x y (.bool a) (.bool b) = some (.bool (a == b)) := by
  have e : binV P .eql t x y (.bool a) (.bool b) = pureRun P (Op.equalIn Op.maxDepth t (.bool a) (.bool b) >>= fun r => pure (.bool r)) := (rfl)
  rw [e, pureRun_bind]
  have : pureRun P (Op.equalIn Op.maxDepth t (.bool a) (.bool b)) = some (a == b) := by
    show pureRun P (underlying t >>= _) = _
    rw [pureRun_bind, pureRun_under hu]
    rfl
  rw [this]; rfl
theorem bin_beql {P : Program} {t : Nat} (hu : P.underlying t = some .bool) (x y : Operand) (a b : Bool) : binP P .eql t x y (.sc (.bool a)) (.sc (.bool b)) = some (.sc (.bool (a == b))) := by
  simp only [binP, scalar, binV_beql hu]; rfl
theorem bin_bneq {P : Program} {t : Nat} (hu : P.underlying t = some .bool) (x y : Operand) (a b : Bool) : binP P .neq t x y (.sc (.bool a)) (.sc (.bool b)) = some (.sc (.bool (!(a == b)))) := by
  have e : binV P .neq t x y (.bool a) (.bool b) = pureRun P (Op.equalIn Op.maxDepth t (.bool a) (.bool b) >>= fun r => pure (.bool (!r))) := (rfl)
  have h : pureRun P (Op.equalIn Op.maxDepth t (.bool a) (.bool b)) = some (a == b) := by
    show pureRun P (underlying t >>= _) = _
    rw [pureRun_bind, pureRun_under hu]
    rfl
  rw [pureRun_bind, h] at e
  have e' : binV P .neq t x y (.bool a) (.bool b) = some (.bool (!(a == b))) := e
  simp only [binP, scalar, e']; rfl
theorem un_not (b : Bool) : unP P .not (.sc (.bool b)) = some (.sc (.bool (!b))) := (rfl)
end
end Go.PE


namespace Go.PE
open Go Go.EvL
theorem natP_cast (k : IntKind) (i : Nat) : natP (.sc (.int k (i : Int))) = some i := by
  simp only [natP]; rw [if_pos (by omega), Int.toNat_natCast]
theorem natP_zero (k : IntKind) : natP (.sc (.int k 0)) = some 0 := (rfl)
theorem flat_len {α : Type} {c : α → List PV} {es : Nat} (hc : ∀ x, (c x).length = es) (l : List α) : (l.flatMap c).length = l.length * es := by
  induction l with
  | nil => simp
  | cons x l ih => rw [List.flatMap_cons, List.length_append, hc, ih, List.length_cons, Nat.succ_mul]; omega
theorem flat_drop {α : Type} {c : α → List PV} {es : Nat} (hc : ∀ x, (c x).length = es) : ∀ (l : List α) (i : Nat), (l.flatMap c).drop (i * es) = (l.drop i).flatMap c := by
  intro l
  induction l with
  | nil => intro i; simp
  | cons x l ih =>
    intro i
    cases i with
    | zero => simp
    | succ i => rw [List.flatMap_cons, Nat.succ_mul, Nat.add_comm, ← List.drop_drop, List.drop_left' (hc x), ih, List.drop_succ_cons]
theorem flat_at {α : Type} {c : α → List PV} {es : Nat} (hc : ∀ x, (c x).length = es) {l : List α} {i : Nat} {x : α} (h : l[i]? = some x) : ∃ r, (l.flatMap c).drop (i * es) = c x ++ r := by
  rw [flat_drop hc]
  have hi : i < l.length := (List.getElem?_eq_some_iff.1 h).1
  refine ⟨(l.drop (i + 1)).flatMap c, ?_⟩
  rw [List.drop_eq_getElem_cons hi, List.flatMap_cons]
  congr 1
  rw [List.getElem?_eq_getElem hi] at h
  injection h with h; rw [h]
/-- a slice that came in: nil, or a row -/
def slP {α : Type} (e : Nat) (c : α → List PV) (x : Option (List α)) : PV := match x with
  | none => .sc (.slice none 0 0)
  | some l => .lit e l.length (l.flatMap c)
theorem slP_len {α : Type} {e : Nat} {c : α → List PV} (x : Option (List α)) : lenP false (slP e c x) = some (.sc (.int .i64 ((x.getD []).length : Int))) := by
  cases x <;> rfl
theorem ld_sl {α : Type} {es : Nat} {c : α → List PV} (hc : ∀ x, (c x).length = es) {l : List α} {j : Nat} {x : α} (h : l[j]? = some x) (s : PS) : ldP s (.litp ((l.flatMap c).drop (j * es))) es = some (c x) := by
  obtain ⟨r, hr⟩ := flat_at hc h
  simp only [ldP, hr]
  rw [if_pos (by rw [List.length_append, hc]; omega), List.take_left' (hc x)]
theorem st_all {s : PS} {k fin : Nat} {ys : List PV} (h1 : ys.length = fin) (h2 : (s.h k).cells.length = fin) (h3 : ys.all oneP = true) : stP s (.ptr k 0 fin) ys = some (s.put k ⟨ys, fin, (s.h k).e⟩) := by
  simp only [stP]
  rw [if_pos ⟨by omega, h2.symm, h3⟩, List.take_zero, List.nil_append, List.drop_of_length_le (by omega), List.append_nil]
theorem ld_ptr (s : PS) (k off fin sz : Nat) : ldP s (.ptr k off fin) sz = if off + sz ≤ fin ∧ (s.h k).low ≤ fin ∧ fin ≤ (s.h k).cells.length then some (((s.h k).cells.drop off).take sz) else none := (rfl)
theorem wrap_nat {n : Nat} (h : n < 9223372036854775808) : IntKind.i64.wrap (n : Int) = (n : Int) := by
  unfold IntKind.wrap
  simp [IntKind.bits, IntKind.signed]
  omega
theorem wrap_succ {i : Nat} (h : i < 4611686018427387904) : IntKind.i64.wrap ((i : Int) + 1) = ((i + 1 : Nat) : Int) := by
  rw [← wrap_nat (n := i + 1) (by omega)]; rfl
def eqF (t es : Nat) (z : Array Value) (sl : Nat) : PFn := ⟨32,
  (.seq (.reg [⟨some 6, .mv (.const (.bool false)), none⟩])
  (.seq (.seq (.reg [⟨some 10, .mv (.tmp 0), none⟩,
      ⟨some 11, .len false (.tmp 10), none⟩,
      ⟨some 12, .mv (.tmp 1), none⟩,
      ⟨some 13, .len false (.tmp 12), none⟩,
      ⟨some 14, .bin .neq sl (.tmp 11) (.tmp 13), none⟩])
   (.cond (.tmp 14)
     (.seq (.reg [⟨some 6, .mv (.const (.bool false)), none⟩])
     .ret)
     (.skip)))
  (.seq (.seq (.reg [⟨some 15, .mv (.tmp 0), none⟩,
      ⟨some 16, .len false (.tmp 15), none⟩,
      ⟨some 17, .mv (.const (.int .i64 0)), none⟩])
   (.block 0
     (.loop
       (.seq (.reg [⟨some 18, .bin .lss sl (.tmp 17) (.tmp 16), none⟩])
       (.seq (.cond (.tmp 18)
          (.skip)
          (.exit 0))
       (.seq (.block 1
          (.seq (.reg [⟨some 19, .mv (.tmp 17), none⟩,
             ⟨some 20, .iaddr es (.tmp 15) (.tmp 17), none⟩,
             ⟨some 21, .load t true es (.tmp 20), none⟩,
             ⟨some 8, .alloc t (.agg z), none⟩,
             ⟨some 7, .mv (.tmp 19), none⟩,
             ⟨none, .store t es (.tmp 8) (.tmp 21), none⟩])
          (.seq (.reg [⟨some 22, .mv (.tmp 1), none⟩,
             ⟨some 23, .mv (.tmp 7), none⟩,
             ⟨some 24, .iaddr es (.tmp 22) (.tmp 23), none⟩,
             ⟨some 25, .load t true es (.tmp 24), none⟩,
             ⟨some 9, .alloc t (.agg z), none⟩,
             ⟨none, .store t es (.tmp 9) (.tmp 25), none⟩])
          (.seq (.reg [⟨some 26, .mv (.tmp 2), none⟩,
             ⟨some 27, .load t true es (.tmp 8), none⟩,
             ⟨some 28, .load t true es (.tmp 9), none⟩,
             ⟨some 29, .call (.tmp 26) [(.tmp 27), (.tmp 28)], none⟩,
             ⟨some 30, .un .not (.tmp 29), none⟩])
          (.cond (.tmp 30)
            (.seq (.reg [⟨some 6, .mv (.const (.bool false)), none⟩])
            .ret)
            (.skip))))))
       (.reg [⟨some 31, .bin .add sl (.tmp 17) (.const (.int .i64 1)), none⟩,
         ⟨some 17, .mv (.tmp 31), none⟩])))))))
  (.seq (.reg [⟨some 6, .mv (.const (.bool true)), none⟩])
  .ret)))),
  [.tmp 6], false⟩
section
variable {P : Program} {Γ : Nat → Option PFn} {ext : PCallF}
def eqBody (t es : Nat) (z : Array Value) (sl : Nat) : PCode := (.seq (.reg [⟨some 18, .bin .lss sl (.tmp 17) (.tmp 16), none⟩])
       (.seq (.cond (.tmp 18)
          (.skip)
          (.exit 0))
       (.seq (.block 1
          (.seq (.reg [⟨some 19, .mv (.tmp 17), none⟩,
             ⟨some 20, .iaddr es (.tmp 15) (.tmp 17), none⟩,
             ⟨some 21, .load t true es (.tmp 20), none⟩,
             ⟨some 8, .alloc t (.agg z), none⟩,
             ⟨some 7, .mv (.tmp 19), none⟩,
             ⟨none, .store t es (.tmp 8) (.tmp 21), none⟩])
          (.seq (.reg [⟨some 22, .mv (.tmp 1), none⟩,
             ⟨some 23, .mv (.tmp 7), none⟩,
             ⟨some 24, .iaddr es (.tmp 22) (.tmp 23), none⟩,
             ⟨some 25, .load t true es (.tmp 24), none⟩,
             ⟨some 9, .alloc t (.agg z), none⟩,
             ⟨none, .store t es (.tmp 9) (.tmp 25), none⟩])
          (.seq (.reg [⟨some 26, .mv (.tmp 2), none⟩,
             ⟨some 27, .load t true es (.tmp 8), none⟩,
             ⟨some 28, .load t true es (.tmp 9), none⟩,
             ⟨some 29, .call (.tmp 26) [(.tmp 27), (.tmp 28)], none⟩,
             ⟨some 30, .un .not (.tmp 29), none⟩])
          (.cond (.tmp 30)
            (.seq (.reg [⟨some 6, .mv (.const (.bool false)), none⟩])
            .ret)
            (.skip))))))
       (.reg [⟨some 31, .bin .add sl (.tmp 17) (.const (.int .i64 1)), none⟩,
         ⟨some 17, .mv (.tmp 31), none⟩]))))
/-- what the loop finds in its slots -/
structure EqIn {α : Type} (e : Nat) (c : α → List PV) (l m : Option (List α)) (g : Nat) (i : Nat) (f : PFr) : Prop where
  a : f 15 = slP e c l
  b : f 1 = slP e c m
  n : f 16 = .sc (.int .i64 ((l.getD []).length : Int))
  i : f 17 = .sc (.int .i64 (i : Int))
  g : f 2 = .fn g [] []
theorem eq_round {α : Type} {e t es sl : Nat} {z : Array Value} {c : α → List PV} (hc : ∀ x, (c x).length = es) (hz : (z.toList.map PV.sc).length = es) {l m : Option (List α)} {g i : Nat} {x y : α} (hox : (c x).all oneP = true) (hoy : (c y).all oneP = true) (hl : (l.getD [])[i]? = some x) (hm : (m.getD [])[i]? = some y) (hbig : (l.getD []).length < 4611686018427387904) {r : Bool}
    (hr : ∀ s, pcall P Γ ext g [.agg (c x), .agg (c y)] s = some (.sc (.bool r), s)) {f : PFr} {s : PS} (h : EqIn e c l m g i f) :
    ∃ f' s', pcode P Γ ext (eqBody t es z sl) f s = some (if r then (.normal, f', s') else (.ret, f', s')) ∧ (r = true → EqIn e c l m g (i + 1) f') ∧ (r = false → f' 6 = .sc (.bool false)) ∧ (∀ n0, n0 ≤ s.n → n0 ≤ s.w → n0 ≤ s'.n ∧ n0 ≤ s'.w) := by
  obtain ⟨l, rfl⟩ : ∃ k, l = some k := by cases l with | none => simp at hl | some k => exact ⟨k, rfl⟩
  obtain ⟨m, rfl⟩ : ∃ k, m = some k := by cases m with | none => simp at hm | some k => exact ⟨k, rfl⟩
  simp only [Option.getD_some] at hl hm hbig
  have hi : i < l.length := (List.getElem?_eq_some_iff.1 hl).1
  have hj : i < m.length := (List.getElem?_eq_some_iff.1 hm).1
  have h1 := flat_len hc l
  have h2 := flat_len hc m
  have h3 := ld_sl hc hl
  have h4 := ld_sl hc hm
  have h5 : (decide ((i : Int) < (l.length : Int))) = true := by simp; exact hi
  have h6 := wrap_succ (i := i) (by omega)
  have ht : ∀ x, (c x).take es = c x := fun x => List.take_of_length_le (by rw [hc]; omega)
  obtain ⟨ha, hb, hn, hii, hg⟩ := h
  simp only [slP, Option.getD_some] at ha hb hn
  cases r with
  | true =>
    simp -implicitDefEqProofs only [eqBody, pcode_seq, pcode_r, pcode_ret, pcode_skip, pcode_exit, pcode_cond, pcode_block, pops_u, pops_nil, runK_some, runK_none, actP, opP, Nat.zero_add, Option.map_some, Option.bind_some, pval_tmp, pval_const, set_at, Nat.reduceEqDiff, cellsP, ↓reduceIte, pvOf, seq_n, blk_n, cond_t, cond_f, asBool_b, regE_some, new_h, new_n, put_h, put_n, ld_ptr, ofCells, Nat.left_eq_add, Nat.one_ne_zero, and_self, List.drop_zero, Nat.le_refl, bin_add, bin_lss, un_not, Bool.not_true, callP, List.map_cons, List.map_nil, List.nil_append, List.append_nil, Bool.true_eq_false, st_all, natP_cast, ha, hb, hn, hii, hg, hi, hj, h1, h2, h3, h4, h5, h6, hc, hox, hoy, hz, ht, hr]
    refine ⟨_, _, rfl, fun _ => ?_, fun hh => (by cases hh), ?_⟩
    · constructor <;> simp -implicitDefEqProofs only [set_at, Nat.reduceEqDiff, ↓reduceIte, ha, hb, hn, hg, slP, Option.getD_some]
    · intro n0 w1 w2
      simp only [put_n, put_w, new_n, new_w]
      omega
  | false =>
    simp -implicitDefEqProofs only [eqBody, pcode_seq, pcode_r, pcode_ret, pcode_skip, pcode_exit, pcode_cond, pcode_block, pops_u, pops_nil, runK_some, runK_none, actP, opP, Nat.zero_add, Option.map_some, Option.bind_some, pval_tmp, pval_const, set_at, Nat.reduceEqDiff, cellsP, ↓reduceIte, pvOf, seq_n, seq_r, blk_r, cond_t, asBool_b, regE_some, new_h, new_n, put_h, put_n, ld_ptr, ofCells, Nat.left_eq_add, Nat.one_ne_zero, and_self, List.drop_zero, Nat.le_refl, bin_lss, un_not, Bool.not_false, callP, List.map_cons, List.map_nil, List.nil_append, List.append_nil, Bool.false_eq_true, st_all, natP_cast, ha, hb, hn, hii, hg, hi, hj, h1, h2, h3, h4, h5, hc, hox, hoy, hz, ht, hr]
    refine ⟨_, _, rfl, fun hh => (by cases hh), fun _ => ?_, ?_⟩
    · simp -implicitDefEqProofs only [set_at, ↓reduceIte]
    · intro n0 w1 w2
      simp only [put_n, put_w, new_n, new_w]
      omega
/-- are all pairs alike -/
def allB (r : Nat → Bool) : Nat → Nat → Bool
  | _, 0 => true
  | i, k + 1 => r i && allB r (i + 1) k
theorem eq_loop {α : Type} {e t es sl : Nat} {z : Array Value} {c : α → List PV} (hc : ∀ x, (c x).length = es) (hz : (z.toList.map PV.sc).length = es) {l m : Option (List α)} (ho : ∀ x, x ∈ l.getD [] ∨ x ∈ m.getD [] → (c x).all oneP = true) {g : Nat} (hlm : (l.getD []).length = (m.getD []).length) (hbig : (l.getD []).length < 4611686018427387904) {r : Nat → Bool}
    (hr : ∀ i x y, (l.getD [])[i]? = some x → (m.getD [])[i]? = some y → ∀ s, pcall P Γ ext g [.agg (c x), .agg (c y)] s = some (.sc (.bool (r i)), s)) : ∀ (k i : Nat) {f : PFr} {s : PS}, i + k = (l.getD []).length → EqIn e c l m g i f →
    ∃ f' s', pcode P Γ ext (.loop (eqBody t es z sl)) f s = some (if allB r i k then (.exit 0, f', s') else (.ret, f', s')) ∧ (allB r i k = false → f' 6 = .sc (.bool false)) ∧ (∀ n0, n0 ≤ s.n → n0 ≤ s.w → n0 ≤ s'.n ∧ n0 ≤ s'.w) := by
  intro k
  induction k with
  | zero =>
    intro i f s hik h
    have h5 : (decide ((i : Int) < ((l.getD []).length : Int))) = false := by simp only [decide_eq_false_iff_not]; omega
    rw [pcode_loop]
    obtain ⟨ha, hb, hn, hii, hg⟩ := h
    simp -implicitDefEqProofs only [eqBody, pcode_seq, pcode_r, pcode_skip, pcode_exit, pcode_cond, pops_u, pops_nil, runK_some, actP, opP, Option.map_some, pval_tmp, set_at, ↓reduceIte, seq_n, seq_e, cond_f, asBool_b, regE_some, bin_lss, Bool.true_eq_false, hn, hii, h5, allB]
    exact ⟨_, _, rfl, fun hh => (by cases hh), fun n0 w1 w2 => ⟨w1, w2⟩⟩
  | succ k ih =>
    intro i f s hik h
    have hi : i < (l.getD []).length := by omega
    have hl : (l.getD [])[i]? = some (l.getD [])[i] := List.getElem?_eq_getElem hi
    have hm : (m.getD [])[i]? = some ((m.getD [])[i]'(by omega)) := List.getElem?_eq_getElem (by omega)
    obtain ⟨f1, s1, e1, e2, e3, e4⟩ := eq_round (t := t) (sl := sl) hc hz (ho _ (.inl (List.mem_of_getElem? hl))) (ho _ (.inr (List.mem_of_getElem? hm))) hl hm hbig (hr i _ _ hl hm) (s := s) h
    rw [pcode_loop, e1]
    cases hri : r i with
    | true =>
      rw [hri] at e2
      simp only [hri, if_true, seq_n, allB, Bool.true_and]
      obtain ⟨f', s', q1, q2, q3⟩ := ih (i + 1) (f := f1) (s := s1) (by omega) (e2 rfl)
      exact ⟨f', s', q1, q2, fun n0 w1 w2 => q3 n0 (e4 n0 w1 w2).1 (e4 n0 w1 w2).2⟩
    | false =>
      rw [hri] at e3
      simp only [hri, allB, Bool.false_and, Bool.false_eq_true, if_false, seq_r]
      exact ⟨f1, s1, rfl, fun _ => e3 rfl, e4⟩
/-- slices.EqualFunc -/
theorem eq_func {α : Type} {e t es sl : Nat} {z : Array Value} {c : α → List PV} (hc : ∀ x, (c x).length = es) (hz : (z.toList.map PV.sc).length = es) {G : Nat} (hG : Γ G = some (eqF t es z sl)) {l m : Option (List α)} (ho : ∀ x, x ∈ l.getD [] ∨ x ∈ m.getD [] → (c x).all oneP = true) {g : Nat} (hbig : (l.getD []).length < 4611686018427387904) {r : Nat → Bool}
    (hr : ∀ i x y, (l.getD [])[i]? = some x → (m.getD [])[i]? = some y → ∀ s, pcall P Γ ext g [.agg (c x), .agg (c y)] s = some (.sc (.bool (r i)), s)) (s : PS) :
    pcall P Γ ext G [slP e c l, slP e c m, .fn g [] []] s = some (.sc (.bool ((l.getD []).length == (m.getD []).length && allB r 0 (l.getD []).length)), s) := by
  rw [pcall_u hG _ _ (by simp [eqF])]
  have L1 := slP_len (e := e) (c := c) l
  have L2 := slP_len (e := e) (c := c) m
  by_cases hlm : (l.getD []).length = (m.getD []).length
  · have hne : ((((l.getD []).length : Int)) != ((m.getD []).length : Int)) = false := by simp [hlm]
    have heq : ((l.getD []).length == (m.getD []).length) = true := by simp [hlm]
    have hin : EqIn e c l m g 0 (PFr.set (PFr.set (PFr.set (PFr.set (PFr.set (PFr.set (PFr.set (PFr.set (PFr.set (initP [slP e c l, slP e c m, .fn g [] []] 0) 6 (.sc (.bool false))) 10 (slP e c l)) 11 (.sc (.int .i64 ((l.getD []).length : Int)))) 12 (slP e c m)) 13 (.sc (.int .i64 ((m.getD []).length : Int)))) 14 (.sc (.bool false))) 15 (slP e c l)) 16 (.sc (.int .i64 ((l.getD []).length : Int)))) 17 (.sc (.int .i64 0))) := by
      constructor <;> simp -implicitDefEqProofs only [initP, Nat.zero_add, Nat.reduceAdd, set_at, Nat.reduceEqDiff, ↓reduceIte, Nat.one_ne_zero, reduceCtorEq] <;> rfl
    obtain ⟨f', s', q1, q2, q3⟩ := eq_loop (P := P) (ext := ext) (t := t) (sl := sl) hc hz ho hlm hbig hr (l.getD []).length 0 (s := ⟨s.h, s.n, s.n⟩) (by omega) hin
    obtain ⟨w1, w2⟩ := q3 s.n (Nat.le_refl _) (Nat.le_refl _)
    rw [heq, Bool.true_and]
    have e1 : (eqF t es z sl).body = .seq (.reg [⟨some 6, .mv (.const (.bool false)), none⟩]) (.seq (.seq (.reg [⟨some 10, .mv (.tmp 0), none⟩, ⟨some 11, .len false (.tmp 10), none⟩, ⟨some 12, .mv (.tmp 1), none⟩, ⟨some 13, .len false (.tmp 12), none⟩, ⟨some 14, .bin .neq sl (.tmp 11) (.tmp 13), none⟩]) (.cond (.tmp 14) (.seq (.reg [⟨some 6, .mv (.const (.bool false)), none⟩]) .ret) .skip))
      (.seq (.seq (.reg [⟨some 15, .mv (.tmp 0), none⟩, ⟨some 16, .len false (.tmp 15), none⟩, ⟨some 17, .mv (.const (.int .i64 0)), none⟩]) (.block 0 (.loop (eqBody t es z sl)))) (.seq (.reg [⟨some 6, .mv (.const (.bool true)), none⟩]) .ret))) := rfl
    rw [e1]
    simp only [initP] at q1
    cases hb : allB r 0 (l.getD []).length with
    | true =>
      rw [hb] at q1
      simp -implicitDefEqProofs only [pcode_seq, pcode_r, pcode_ret, pcode_skip, pcode_cond, pcode_block, pops_u, pops_nil, runK_some, actP, opP, initP, Nat.zero_add, Nat.reduceAdd, Option.map_some, pval_tmp, pval_const, set_at, Nat.reduceEqDiff, ↓reduceIte, pvOf, seq_n, blk_e, cond_f, asBool_b, regE_some, Nat.one_ne_zero, bin_neq, leaveP, oneRes, frz, frz2, frz1, endK_r, reduceCtorEq, L1, L2, hne, q1]
      simp -implicitDefEqProofs only [eqF, Option.map_some, Option.bind_some, set_at, ↓reduceIte, resP, Bool.false_eq_true, w2]
    | false =>
      rw [hb] at q1 q2
      have q2' := q2 rfl
      simp -implicitDefEqProofs only [pcode_seq, pcode_r, pcode_ret, pcode_skip, pcode_cond, pcode_block, pops_u, pops_nil, runK_some, actP, opP, initP, Nat.zero_add, Nat.reduceAdd, Option.map_some, pval_tmp, pval_const, set_at, Nat.reduceEqDiff, ↓reduceIte, pvOf, seq_n, seq_r, blk_r, cond_f, asBool_b, regE_some, Nat.one_ne_zero, bin_neq, leaveP, oneRes, frz, frz2, frz1, endK_r, Bool.false_eq_true, reduceCtorEq, L1, L2, hne, q1]
      simp -implicitDefEqProofs only [eqF, Option.map_some, Option.bind_some, ↓reduceIte, resP, Bool.false_eq_true, w2, q2']
  · have hne : ((((l.getD []).length : Int)) != ((m.getD []).length : Int)) = true := by simp; omega
    have heq : ((l.getD []).length == (m.getD []).length) = false := by simp [hlm]
    simp -implicitDefEqProofs only [eqF, pcode_seq, pcode_r, pcode_ret, pcode_skip, pcode_cond, pops_u, pops_nil, runK_some, actP, opP, initP, Nat.zero_add, Nat.reduceAdd, Option.map_some, Option.bind_some, pval_tmp, pval_const, set_at, Nat.reduceEqDiff, ↓reduceIte, pvOf, seq_n, seq_r, cond_t, asBool_b, regE_some, Nat.one_ne_zero, Nat.le_refl, bin_neq, leaveP, resP, oneRes, frz, frz2, frz1, endK_r, Bool.false_eq_true, reduceCtorEq, L1, L2, hne, heq, Bool.false_and]
end
end Go.PE


namespace Go.PE
open Go Go.EvL
section
variable {P : Program} {Γ : Nat → Option PFn} {ext : PCallF}
structure RefIn {α : Type} (e : Nat) (c : α → List PV) (l m : Option (List α)) (i : Nat) (f : PFr) : Prop where
  a : f 0 = slP e c l
  b : f 1 = slP e c m
  i : f 5 = .sc (.int .i64 (i : Int))
def refS6 (inner : PCode) : PCode := (.seq (.seq (.reg [⟨some 11, .mv (.tmp 5), none⟩, ⟨some 12, .mv (.tmp 0), none⟩, ⟨some 13, .len false (.tmp 12), none⟩, ⟨some 14, .bin .lss 3 (.tmp 11) (.tmp 13), none⟩]) (.cond (.tmp 14) (.skip) (.exit 0)))
       (.seq (.block 1 inner) (.reg [⟨some 15, .mv (.tmp 5), none⟩, ⟨some 16, .bin .add 3 (.tmp 15) (.const (.int .i64 1)), none⟩, ⟨some 5, .mv (.tmp 16), none⟩])))
def refF6 (nt : Nat) (inner : PCode) : PFn := ⟨nt,
  (.seq (.reg [⟨some 4, .mv (.const (.bool false)), none⟩])
  (.seq (.seq (.reg [⟨some 6, .mv (.tmp 0), none⟩, ⟨some 7, .len false (.tmp 6), none⟩, ⟨some 8, .mv (.tmp 1), none⟩, ⟨some 9, .len false (.tmp 8), none⟩, ⟨some 10, .bin .neq 3 (.tmp 7) (.tmp 9), none⟩])
   (.cond (.tmp 10) (.seq (.reg [⟨some 4, .mv (.const (.bool false)), none⟩]) .ret) (.skip)))
  (.seq (.seq (.reg [⟨some 5, .mv (.const (.int .i64 0)), none⟩]) (.block 0 (.loop (refS6 inner))))
  (.seq (.reg [⟨some 4, .mv (.const (.bool true)), none⟩]) .ret)))), [.tmp 4], false⟩
theorem ref_loop6 {α : Type} {e : Nat} {c : α → List PV} {l m : Option (List α)} (hlm : (l.getD []).length = (m.getD []).length) (hbig : (l.getD []).length < 4611686018427387904) {r : Nat → Bool} {inner : PCode}
    (hr : ∀ i x y, (l.getD [])[i]? = some x → (m.getD [])[i]? = some y → ∀ f s, RefIn e c l m i f → ∃ f' s', pcode P Γ ext (.block 1 inner) f s = some (if r i then (.normal, f', s') else (.ret, f', s')) ∧ (r i = true → f' 0 = f 0 ∧ f' 1 = f 1 ∧ f' 5 = f 5) ∧ (r i = false → f' 4 = .sc (.bool false)) ∧ (∀ n0, n0 ≤ s.n → n0 ≤ s.w → n0 ≤ s'.n ∧ n0 ≤ s'.w)) :
    ∀ (k i : Nat) {f : PFr} {s : PS}, i + k = (l.getD []).length → RefIn e c l m i f →
    ∃ f' s', pcode P Γ ext (.loop (refS6 inner)) f s = some (if allB r i k then (.exit 0, f', s') else (.ret, f', s')) ∧ (allB r i k = false → f' 4 = .sc (.bool false)) ∧ (∀ n0, n0 ≤ s.n → n0 ≤ s.w → n0 ≤ s'.n ∧ n0 ≤ s'.w) := by
  intro k
  induction k with
  | zero =>
    intro i f s hik h
    have h5 : (decide ((i : Int) < ((l.getD []).length : Int))) = false := by simp only [decide_eq_false_iff_not]; omega
    have L1 := slP_len (e := e) (c := c) l
    rw [pcode_loop]
    obtain ⟨ha, hb, hii⟩ := h
    simp -implicitDefEqProofs only [refS6, pcode_seq, pcode_r, pcode_skip, pcode_exit, pcode_cond, pops_u, pops_nil, runK_some, actP, opP, Option.map_some, pval_tmp, set_at, Nat.reduceEqDiff, ↓reduceIte, seq_n, seq_e, cond_f, asBool_b, regE_some, bin_lss, Bool.true_eq_false, reduceCtorEq, ha, hii, L1, h5, allB]
    exact ⟨_, _, rfl, fun hh => (by cases hh), fun n0 w1 w2 => ⟨w1, w2⟩⟩
  | succ k ih =>
    intro i f s hik h
    have hi : i < (l.getD []).length := by omega
    have hl : (l.getD [])[i]? = some (l.getD [])[i] := List.getElem?_eq_getElem hi
    have hm : (m.getD [])[i]? = some ((m.getD [])[i]'(by omega)) := List.getElem?_eq_getElem (by omega)
    have h5 : (decide ((i : Int) < ((l.getD []).length : Int))) = true := by simp only [decide_eq_true_iff]; omega
    have h6 := wrap_succ (i := i) (by omega)
    have L1 := slP_len (e := e) (c := c) l
    obtain ⟨ha, hb, hii⟩ := h
    obtain ⟨f1, s1, e1, e2, e3, e4⟩ := hr i _ _ hl hm ((((f.set 11 (.sc (.int .i64 (i : Int)))).set 12 (slP e c l)).set 13 (.sc (.int .i64 ((l.getD []).length : Int)))).set 14 (.sc (.bool true))) s ⟨by simp -implicitDefEqProofs only [set_at, ↓reduceIte, reduceCtorEq, ha], by simp -implicitDefEqProofs only [set_at, Nat.reduceEqDiff, ↓reduceIte, hb], by simp -implicitDefEqProofs only [set_at, Nat.reduceEqDiff, ↓reduceIte, hii]⟩
    have hstep : pcode P Γ ext (refS6 inner) f s = seqP (pcode P Γ ext (.block 1 inner) ((((f.set 11 (.sc (.int .i64 (i : Int)))).set 12 (slP e c l)).set 13 (.sc (.int .i64 ((l.getD []).length : Int)))).set 14 (.sc (.bool true))) s) (pcode P Γ ext (.reg [⟨some 15, .mv (.tmp 5), none⟩, ⟨some 16, .bin .add 3 (.tmp 15) (.const (.int .i64 1)), none⟩, ⟨some 5, .mv (.tmp 16), none⟩])) := by
      unfold refS6
      rw [pcode_seq, pcode_seq]
      have : pcode P Γ ext (.seq (.block 1 inner) (.reg [⟨some 15, .mv (.tmp 5), none⟩, ⟨some 16, .bin .add 3 (.tmp 15) (.const (.int .i64 1)), none⟩, ⟨some 5, .mv (.tmp 16), none⟩])) = fun f s => seqP (pcode P Γ ext (.block 1 inner) f s) (pcode P Γ ext (.reg [⟨some 15, .mv (.tmp 5), none⟩, ⟨some 16, .bin .add 3 (.tmp 15) (.const (.int .i64 1)), none⟩, ⟨some 5, .mv (.tmp 16), none⟩])) := by
        funext f s; exact pcode_seq _ _ f s
      rw [this]
      simp -implicitDefEqProofs only [pcode_r, pcode_cond, pcode_skip, pcode_exit, pops_u, pops_nil, runK_some, actP, opP, pval_tmp, set_at, Nat.reduceEqDiff, ↓reduceIte, Option.map_some, regE_some, seq_n, cond_t, asBool_b, bin_lss, ha, hii, L1, h5]
    rw [pcode_loop, hstep, e1]
    cases hri : r i with
    | true =>
      rw [hri] at e2
      obtain ⟨q0, q1, q5⟩ := e2 rfl
      simp -implicitDefEqProofs only [set_at, Nat.reduceEqDiff, ↓reduceIte, reduceCtorEq, ha, hb, hii] at q0 q1 q5
      simp -implicitDefEqProofs only [hri, seq_n, allB, Bool.true_and, pcode_r, pops_u, pops_nil, runK_some, actP, opP, Option.map_some, pval_tmp, pval_const, set_at, ↓reduceIte, pvOf, seq_n, regE_some, bin_add, q5, h6]
      obtain ⟨f', s', z1, z2, z3⟩ := ih (i + 1) (f := ((f1.set 15 (.sc (.int .i64 (i : Int)))).set 16 (.sc (.int .i64 ((i + 1 : Nat) : Int)))).set 5 (.sc (.int .i64 ((i + 1 : Nat) : Int)))) (s := s1) (by omega) ⟨by simp -implicitDefEqProofs only [set_at, ↓reduceIte, reduceCtorEq, q0], by simp -implicitDefEqProofs only [set_at, Nat.reduceEqDiff, ↓reduceIte, q1], by simp -implicitDefEqProofs only [set_at, ↓reduceIte]⟩
      exact ⟨f', s', z1, z2, fun n0 w1 w2 => z3 n0 (e4 n0 w1 w2).1 (e4 n0 w1 w2).2⟩
    | false =>
      rw [hri] at e3
      simp only [hri, allB, Bool.false_and, Bool.false_eq_true, if_false, seq_r]
      exact ⟨f1, s1, rfl, fun _ => e3 rfl, e4⟩
theorem ref_func6 {α : Type} {e : Nat} {c : α → List PV} {l m : Option (List α)} (hbig : (l.getD []).length < 4611686018427387904) {r : Nat → Bool} {inner : PCode} {G nt : Nat} (hG : Γ G = some (refF6 nt inner)) (hnt : 2 ≤ nt)
    (hr : ∀ i x y, (l.getD [])[i]? = some x → (m.getD [])[i]? = some y → ∀ f s, RefIn e c l m i f → ∃ f' s', pcode P Γ ext (.block 1 inner) f s = some (if r i then (.normal, f', s') else (.ret, f', s')) ∧ (r i = true → f' 0 = f 0 ∧ f' 1 = f 1 ∧ f' 5 = f 5) ∧ (r i = false → f' 4 = .sc (.bool false)) ∧ (∀ n0, n0 ≤ s.n → n0 ≤ s.w → n0 ≤ s'.n ∧ n0 ≤ s'.w)) (s : PS) :
    pcall P Γ ext G [slP e c l, slP e c m] s = some (.sc (.bool ((l.getD []).length == (m.getD []).length && allB r 0 (l.getD []).length)), s) := by
  rw [pcall_u hG _ _ (by simpa [refF6] using hnt)]
  have L1 := slP_len (e := e) (c := c) l
  have L2 := slP_len (e := e) (c := c) m
  by_cases hlm : (l.getD []).length = (m.getD []).length
  · have hne : ((((l.getD []).length : Int)) != ((m.getD []).length : Int)) = false := by simp [hlm]
    have heq : ((l.getD []).length == (m.getD []).length) = true := by simp [hlm]
    have hin : RefIn e c l m 0 (PFr.set (PFr.set (PFr.set (PFr.set (PFr.set (PFr.set (PFr.set (initP [slP e c l, slP e c m] 0) 4 (.sc (.bool false))) 6 (slP e c l)) 7 (.sc (.int .i64 ((l.getD []).length : Int)))) 8 (slP e c m)) 9 (.sc (.int .i64 ((m.getD []).length : Int)))) 10 (.sc (.bool false))) 5 (.sc (.int .i64 0))) := by
      constructor <;> simp -implicitDefEqProofs only [initP, Nat.zero_add, set_at, Nat.reduceEqDiff, ↓reduceIte, Nat.one_ne_zero, reduceCtorEq] <;> rfl
    obtain ⟨f', s', q1, q2, q3⟩ := ref_loop6 (P := P) (ext := ext) hlm hbig hr (l.getD []).length 0 (s := ⟨s.h, s.n, s.n⟩) (by omega) hin
    obtain ⟨w1, w2⟩ := q3 s.n (Nat.le_refl _) (Nat.le_refl _)
    rw [heq, Bool.true_and]
    simp only [initP] at q1
    cases hb : allB r 0 (l.getD []).length with
    | true =>
      rw [hb] at q1
      simp -implicitDefEqProofs only [refF6, pcode_seq, pcode_r, pcode_ret, pcode_skip, pcode_cond, pcode_block, pops_u, pops_nil, runK_some, actP, opP, initP, Nat.zero_add, Option.map_some, Option.bind_some, pval_tmp, pval_const, set_at, Nat.reduceEqDiff, ↓reduceIte, pvOf, seq_n, blk_e, cond_f, asBool_b, regE_some, Nat.one_ne_zero, bin_neq, leaveP, resP, oneRes, frz, frz2, frz1, endK_r, Bool.false_eq_true, reduceCtorEq, L1, L2, hne, q1]
      simp -implicitDefEqProofs only [↓reduceIte, w2]
    | false =>
      rw [hb] at q1 q2
      have q2' := q2 rfl
      simp -implicitDefEqProofs only [refF6, pcode_seq, pcode_r, pcode_ret, pcode_skip, pcode_cond, pcode_block, pops_u, pops_nil, runK_some, actP, opP, initP, Nat.zero_add, Option.map_some, Option.bind_some, pval_tmp, pval_const, set_at, Nat.reduceEqDiff, ↓reduceIte, pvOf, seq_n, seq_r, blk_r, cond_f, asBool_b, regE_some, Nat.one_ne_zero, bin_neq, leaveP, resP, oneRes, frz, frz2, frz1, endK_r, Bool.false_eq_true, reduceCtorEq, L1, L2, hne, q1]
      simp -implicitDefEqProofs only [Option.map_some, ↓reduceIte, w2, q2']
  · have hne : ((((l.getD []).length : Int)) != ((m.getD []).length : Int)) = true := by simp; omega
    have heq : ((l.getD []).length == (m.getD []).length) = false := by simp [hlm]
    simp -implicitDefEqProofs only [refF6, pcode_seq, pcode_r, pcode_ret, pcode_skip, pcode_cond, pops_u, pops_nil, runK_some, actP, opP, initP, Nat.zero_add, Option.map_some, Option.bind_some, pval_tmp, pval_const, set_at, Nat.reduceEqDiff, ↓reduceIte, pvOf, seq_n, seq_r, cond_t, asBool_b, regE_some, Nat.one_ne_zero, Nat.le_refl, bin_neq, leaveP, resP, oneRes, frz, frz2, frz1, endK_r, Bool.false_eq_true, reduceCtorEq, L1, L2, hne, heq, Bool.false_and]
def refS8 (inner : PCode) : PCode := (.seq (.seq (.reg [⟨some 13, .mv (.tmp 5), none⟩, ⟨some 14, .mv (.tmp 0), none⟩, ⟨some 15, .len false (.tmp 14), none⟩, ⟨some 16, .bin .lss 3 (.tmp 13) (.tmp 15), none⟩]) (.cond (.tmp 16) (.skip) (.exit 0)))
       (.seq (.block 1 inner) (.reg [⟨some 17, .mv (.tmp 5), none⟩, ⟨some 18, .bin .add 3 (.tmp 17) (.const (.int .i64 1)), none⟩, ⟨some 5, .mv (.tmp 18), none⟩])))
def refF8 (nt : Nat) (inner : PCode) : PFn := ⟨nt,
  (.seq (.reg [⟨some 4, .mv (.const (.bool false)), none⟩])
  (.seq (.seq (.reg [⟨some 8, .mv (.tmp 0), none⟩, ⟨some 9, .len false (.tmp 8), none⟩, ⟨some 10, .mv (.tmp 1), none⟩, ⟨some 11, .len false (.tmp 10), none⟩, ⟨some 12, .bin .neq 3 (.tmp 9) (.tmp 11), none⟩])
   (.cond (.tmp 12) (.seq (.reg [⟨some 4, .mv (.const (.bool false)), none⟩]) .ret) (.skip)))
  (.seq (.seq (.reg [⟨some 5, .mv (.const (.int .i64 0)), none⟩]) (.block 0 (.loop (refS8 inner))))
  (.seq (.reg [⟨some 4, .mv (.const (.bool true)), none⟩]) .ret)))), [.tmp 4], false⟩
theorem ref_loop8 {α : Type} {e : Nat} {c : α → List PV} {l m : Option (List α)} (hlm : (l.getD []).length = (m.getD []).length) (hbig : (l.getD []).length < 4611686018427387904) {r : Nat → Bool} {inner : PCode}
    (hr : ∀ i x y, (l.getD [])[i]? = some x → (m.getD [])[i]? = some y → ∀ f s, RefIn e c l m i f → ∃ f' s', pcode P Γ ext (.block 1 inner) f s = some (if r i then (.normal, f', s') else (.ret, f', s')) ∧ (r i = true → f' 0 = f 0 ∧ f' 1 = f 1 ∧ f' 5 = f 5) ∧ (r i = false → f' 4 = .sc (.bool false)) ∧ (∀ n0, n0 ≤ s.n → n0 ≤ s.w → n0 ≤ s'.n ∧ n0 ≤ s'.w)) :
    ∀ (k i : Nat) {f : PFr} {s : PS}, i + k = (l.getD []).length → RefIn e c l m i f →
    ∃ f' s', pcode P Γ ext (.loop (refS8 inner)) f s = some (if allB r i k then (.exit 0, f', s') else (.ret, f', s')) ∧ (allB r i k = false → f' 4 = .sc (.bool false)) ∧ (∀ n0, n0 ≤ s.n → n0 ≤ s.w → n0 ≤ s'.n ∧ n0 ≤ s'.w) := by
  intro k
  induction k with
  | zero =>
    intro i f s hik h
    have h5 : (decide ((i : Int) < ((l.getD []).length : Int))) = false := by simp only [decide_eq_false_iff_not]; omega
    have L1 := slP_len (e := e) (c := c) l
    rw [pcode_loop]
    obtain ⟨ha, hb, hii⟩ := h
    simp -implicitDefEqProofs only [refS8, pcode_seq, pcode_r, pcode_skip, pcode_exit, pcode_cond, pops_u, pops_nil, runK_some, actP, opP, Option.map_some, pval_tmp, set_at, Nat.reduceEqDiff, ↓reduceIte, seq_n, seq_e, cond_f, asBool_b, regE_some, bin_lss, Bool.true_eq_false, reduceCtorEq, ha, hii, L1, h5, allB]
    exact ⟨_, _, rfl, fun hh => (by cases hh), fun n0 w1 w2 => ⟨w1, w2⟩⟩
  | succ k ih =>
    intro i f s hik h
    have hi : i < (l.getD []).length := by omega
    have hl : (l.getD [])[i]? = some (l.getD [])[i] := List.getElem?_eq_getElem hi
    have hm : (m.getD [])[i]? = some ((m.getD [])[i]'(by omega)) := List.getElem?_eq_getElem (by omega)
    have h5 : (decide ((i : Int) < ((l.getD []).length : Int))) = true := by simp only [decide_eq_true_iff]; omega
    have h6 := wrap_succ (i := i) (by omega)
    have L1 := slP_len (e := e) (c := c) l
    obtain ⟨ha, hb, hii⟩ := h
    obtain ⟨f1, s1, e1, e2, e3, e4⟩ := hr i _ _ hl hm ((((f.set 13 (.sc (.int .i64 (i : Int)))).set 14 (slP e c l)).set 15 (.sc (.int .i64 ((l.getD []).length : Int)))).set 16 (.sc (.bool true))) s ⟨by simp -implicitDefEqProofs only [set_at, ↓reduceIte, reduceCtorEq, ha], by simp -implicitDefEqProofs only [set_at, Nat.reduceEqDiff, ↓reduceIte, hb], by simp -implicitDefEqProofs only [set_at, Nat.reduceEqDiff, ↓reduceIte, hii]⟩
    have hstep : pcode P Γ ext (refS8 inner) f s = seqP (pcode P Γ ext (.block 1 inner) ((((f.set 13 (.sc (.int .i64 (i : Int)))).set 14 (slP e c l)).set 15 (.sc (.int .i64 ((l.getD []).length : Int)))).set 16 (.sc (.bool true))) s) (pcode P Γ ext (.reg [⟨some 17, .mv (.tmp 5), none⟩, ⟨some 18, .bin .add 3 (.tmp 17) (.const (.int .i64 1)), none⟩, ⟨some 5, .mv (.tmp 18), none⟩])) := by
      unfold refS8
      rw [pcode_seq, pcode_seq]
      have : pcode P Γ ext (.seq (.block 1 inner) (.reg [⟨some 17, .mv (.tmp 5), none⟩, ⟨some 18, .bin .add 3 (.tmp 17) (.const (.int .i64 1)), none⟩, ⟨some 5, .mv (.tmp 18), none⟩])) = fun f s => seqP (pcode P Γ ext (.block 1 inner) f s) (pcode P Γ ext (.reg [⟨some 17, .mv (.tmp 5), none⟩, ⟨some 18, .bin .add 3 (.tmp 17) (.const (.int .i64 1)), none⟩, ⟨some 5, .mv (.tmp 18), none⟩])) := by
        funext f s; exact pcode_seq _ _ f s
      rw [this]
      simp -implicitDefEqProofs only [pcode_r, pcode_cond, pcode_skip, pcode_exit, pops_u, pops_nil, runK_some, actP, opP, pval_tmp, set_at, Nat.reduceEqDiff, ↓reduceIte, Option.map_some, regE_some, seq_n, cond_t, asBool_b, bin_lss, ha, hii, L1, h5]
    rw [pcode_loop, hstep, e1]
    cases hri : r i with
    | true =>
      rw [hri] at e2
      obtain ⟨q0, q1, q5⟩ := e2 rfl
      simp -implicitDefEqProofs only [set_at, Nat.reduceEqDiff, ↓reduceIte, reduceCtorEq, ha, hb, hii] at q0 q1 q5
      simp -implicitDefEqProofs only [hri, seq_n, allB, Bool.true_and, pcode_r, pops_u, pops_nil, runK_some, actP, opP, Option.map_some, pval_tmp, pval_const, set_at, ↓reduceIte, pvOf, seq_n, regE_some, bin_add, q5, h6]
      obtain ⟨f', s', z1, z2, z3⟩ := ih (i + 1) (f := ((f1.set 17 (.sc (.int .i64 (i : Int)))).set 18 (.sc (.int .i64 ((i + 1 : Nat) : Int)))).set 5 (.sc (.int .i64 ((i + 1 : Nat) : Int)))) (s := s1) (by omega) ⟨by simp -implicitDefEqProofs only [set_at, ↓reduceIte, reduceCtorEq, q0], by simp -implicitDefEqProofs only [set_at, Nat.reduceEqDiff, ↓reduceIte, q1], by simp -implicitDefEqProofs only [set_at, ↓reduceIte]⟩
      exact ⟨f', s', z1, z2, fun n0 w1 w2 => z3 n0 (e4 n0 w1 w2).1 (e4 n0 w1 w2).2⟩
    | false =>
      rw [hri] at e3
      simp only [hri, allB, Bool.false_and, Bool.false_eq_true, if_false, seq_r]
      exact ⟨f1, s1, rfl, fun _ => e3 rfl, e4⟩
theorem ref_func8 {α : Type} {e : Nat} {c : α → List PV} {l m : Option (List α)} (hbig : (l.getD []).length < 4611686018427387904) {r : Nat → Bool} {inner : PCode} {G nt : Nat} (hG : Γ G = some (refF8 nt inner)) (hnt : 2 ≤ nt)
    (hr : ∀ i x y, (l.getD [])[i]? = some x → (m.getD [])[i]? = some y → ∀ f s, RefIn e c l m i f → ∃ f' s', pcode P Γ ext (.block 1 inner) f s = some (if r i then (.normal, f', s') else (.ret, f', s')) ∧ (r i = true → f' 0 = f 0 ∧ f' 1 = f 1 ∧ f' 5 = f 5) ∧ (r i = false → f' 4 = .sc (.bool false)) ∧ (∀ n0, n0 ≤ s.n → n0 ≤ s.w → n0 ≤ s'.n ∧ n0 ≤ s'.w)) (s : PS) :
    pcall P Γ ext G [slP e c l, slP e c m] s = some (.sc (.bool ((l.getD []).length == (m.getD []).length && allB r 0 (l.getD []).length)), s) := by
  rw [pcall_u hG _ _ (by simpa [refF8] using hnt)]
  have L1 := slP_len (e := e) (c := c) l
  have L2 := slP_len (e := e) (c := c) m
  by_cases hlm : (l.getD []).length = (m.getD []).length
  · have hne : ((((l.getD []).length : Int)) != ((m.getD []).length : Int)) = false := by simp [hlm]
    have heq : ((l.getD []).length == (m.getD []).length) = true := by simp [hlm]
    have hin : RefIn e c l m 0 (PFr.set (PFr.set (PFr.set (PFr.set (PFr.set (PFr.set (PFr.set (initP [slP e c l, slP e c m] 0) 4 (.sc (.bool false))) 8 (slP e c l)) 9 (.sc (.int .i64 ((l.getD []).length : Int)))) 10 (slP e c m)) 11 (.sc (.int .i64 ((m.getD []).length : Int)))) 12 (.sc (.bool false))) 5 (.sc (.int .i64 0))) := by
      constructor <;> simp -implicitDefEqProofs only [initP, Nat.zero_add, set_at, Nat.reduceEqDiff, ↓reduceIte, Nat.one_ne_zero, reduceCtorEq] <;> rfl
    obtain ⟨f', s', q1, q2, q3⟩ := ref_loop8 (P := P) (ext := ext) hlm hbig hr (l.getD []).length 0 (s := ⟨s.h, s.n, s.n⟩) (by omega) hin
    obtain ⟨w1, w2⟩ := q3 s.n (Nat.le_refl _) (Nat.le_refl _)
    rw [heq, Bool.true_and]
    simp only [initP] at q1
    cases hb : allB r 0 (l.getD []).length with
    | true =>
      rw [hb] at q1
      simp -implicitDefEqProofs only [refF8, pcode_seq, pcode_r, pcode_ret, pcode_skip, pcode_cond, pcode_block, pops_u, pops_nil, runK_some, actP, opP, initP, Nat.zero_add, Option.map_some, Option.bind_some, pval_tmp, pval_const, set_at, Nat.reduceEqDiff, ↓reduceIte, pvOf, seq_n, blk_e, cond_f, asBool_b, regE_some, Nat.one_ne_zero, bin_neq, leaveP, resP, oneRes, frz, frz2, frz1, endK_r, Bool.false_eq_true, reduceCtorEq, L1, L2, hne, q1]
      simp -implicitDefEqProofs only [↓reduceIte, w2]
    | false =>
      rw [hb] at q1 q2
      have q2' := q2 rfl
      simp -implicitDefEqProofs only [refF8, pcode_seq, pcode_r, pcode_ret, pcode_skip, pcode_cond, pcode_block, pops_u, pops_nil, runK_some, actP, opP, initP, Nat.zero_add, Option.map_some, Option.bind_some, pval_tmp, pval_const, set_at, Nat.reduceEqDiff, ↓reduceIte, pvOf, seq_n, seq_r, blk_r, cond_f, asBool_b, regE_some, Nat.one_ne_zero, bin_neq, leaveP, resP, oneRes, frz, frz2, frz1, endK_r, Bool.false_eq_true, reduceCtorEq, L1, L2, hne, q1]
      simp -implicitDefEqProofs only [Option.map_some, ↓reduceIte, w2, q2']
  · have hne : ((((l.getD []).length : Int)) != ((m.getD []).length : Int)) = true := by simp; omega
    have heq : ((l.getD []).length == (m.getD []).length) = false := by simp [hlm]
    simp -implicitDefEqProofs only [refF8, pcode_seq, pcode_r, pcode_ret, pcode_skip, pcode_cond, pops_u, pops_nil, runK_some, actP, opP, initP, Nat.zero_add, Option.map_some, Option.bind_some, pval_tmp, pval_const, set_at, Nat.reduceEqDiff, ↓reduceIte, pvOf, seq_n, seq_r, cond_t, asBool_b, regE_some, Nat.one_ne_zero, Nat.le_refl, bin_neq, leaveP, resP, oneRes, frz, frz2, frz1, endK_r, Bool.false_eq_true, reduceCtorEq, L1, L2, hne, heq, Bool.false_and]
end
end Go.PE


namespace Go.PE
open Go Go.EvL
section
variable {P : Program} {Γ : Nat → Option PFn} {ext : PCallF}
theorem ld_litp (s : PS) (cs : List PV) (sz : Nat) : ldP s (.litp cs) sz = if sz ≤ cs.length then some (cs.take sz) else none := (rfl)
/-- one round of a reference's loop -/
def InnerOK (P : Program) (Γ : Nat → Option PFn) (ext : PCallF) {α : Type} (e : Nat) (c : α → List PV) (inner : PCode) (x y : α) (r : Bool) : Prop :=
  ∀ (l m : Option (List α)) (i : Nat), (l.getD [])[i]? = some x → (m.getD [])[i]? = some y → ∀ f s, RefIn e c l m i f → ∃ f' s', pcode P Γ ext (.block 1 inner) f s = some (if r then (.normal, f', s') else (.ret, f', s')) ∧ (r = true → f' 0 = f 0 ∧ f' 1 = f 1 ∧ f' 5 = f 5) ∧ (r = false → f' 4 = .sc (.bool false)) ∧ (∀ n0, n0 ≤ s.n → n0 ≤ s.w → n0 ≤ s'.n ∧ n0 ≤ s'.w)
/-- slices.EqualFunc and a reference's loop agree where they agree on the elements -/
theorem two_same {α : Type} {e t es sl : Nat} {z : Array Value} {c : α → List PV} (hc : ∀ x, (c x).length = es) (hz : (z.toList.map PV.sc).length = es) {G H nt g : Nat} (hG : Γ G = some (eqF t es z sl)) {inner : PCode} (hH : Γ H = some (refF6 nt inner)) (hnt : 2 ≤ nt) {l m : Option (List α)} (ho : ∀ x, x ∈ l.getD [] ∨ x ∈ m.getD [] → (c x).all oneP = true) (hbig : (l.getD []).length < 4611686018427387904)
    (hel : ∀ x ∈ l.getD [], ∀ y ∈ m.getD [], ∃ r, (∀ s, pcall P Γ ext g [.agg (c x), .agg (c y)] s = some (.sc (.bool r), s)) ∧ InnerOK P Γ ext e c inner x y r) :
    ∃ r, (∀ s, pcall P Γ ext G [slP e c l, slP e c m, .fn g [] []] s = some (.sc (.bool r), s)) ∧ ∀ s, pcall P Γ ext H [slP e c l, slP e c m] s = some (.sc (.bool r), s) := by
  have key : ∀ i : Nat, ∃ r : Bool, ∀ x y : α, (l.getD [])[i]? = some x → (m.getD [])[i]? = some y → (∀ s, pcall P Γ ext g [.agg (c x), .agg (c y)] s = some (.sc (.bool r), s)) ∧ InnerOK P Γ ext e c inner x y r := by
    intro i
    cases hx : (l.getD [])[i]? with
    | none => exact ⟨true, fun x y h => by cases h⟩
    | some x =>
      cases hy : (m.getD [])[i]? with
      | none => exact ⟨true, fun x y _ h => by cases h⟩
      | some y =>
        obtain ⟨r, hr⟩ := hel x (List.mem_of_getElem? hx) y (List.mem_of_getElem? hy)
        exact ⟨r, fun x' y' h1 h2 => by injection h1 with h1; injection h2 with h2; subst h1; subst h2; exact hr⟩
  obtain ⟨r, hr⟩ := Classical.axiomOfChoice key
  refine ⟨(l.getD []).length == (m.getD []).length && allB r 0 (l.getD []).length, fun s => ?_, fun s => ?_⟩
  · exact eq_func hc hz hG ho hbig (fun i x y h1 h2 => (hr i x y h1 h2).1) s
  · exact ref_func6 hbig hH hnt (fun i x y h1 h2 f s hin => (hr i x y h1 h2).2 l m i h1 h2 f s hin) s
end
end Go.PE


namespace Go.PE
open Go Go.EvL
section
variable {P : Program} {Γ : Nat → Option PFn} {ext : PCallF}
/-- a run that ends so -/
def W (r : PEx) (Q : PXt → PFr → PS → Prop) : Prop := ∃ x f s, r = some (x, f, s) ∧ Q x f s
theorem W_some (x : PXt) (f : PFr) (s : PS) (Q : PXt → PFr → PS → Prop) : W (some (x, f, s)) Q ↔ Q x f s :=
  ⟨fun ⟨_, _, _, h, q⟩ => by injection h with h; injection h with h1 h; injection h with h2 h3; subst h1; subst h2; subst h3; exact q, fun q => ⟨_, _, _, rfl, q⟩⟩
theorem W.mono {r : PEx} {Q Q' : PXt → PFr → PS → Prop} (h : W r Q) (k : ∀ x f s, Q x f s → Q' x f s) : W r Q' :=
  let ⟨x, f, s, e, q⟩ := h; ⟨x, f, s, e, k x f s q⟩
/-- what a round leaves: it goes on, it leaves the loop, it returns -/
def RndQ (id : Nat) (N : PFr → PS → Prop) (J : PFr → PS → Prop) (R : PFr → PS → Prop) (x : PXt) (f : PFr) (s : PS) : Prop := match x with
  | .normal => N f s
  | .exit j => j = id ∧ J f s
  | .ret => R f s
theorem loop_inv {body : PCode} {id n : Nat} {I : Nat → PFr → PS → Prop} {J R : PFr → PS → Prop}
    (hr : ∀ i f s, i ≤ n → I i f s → W (pcode P Γ ext body f s) (RndQ id (fun f' s' => i < n ∧ I (i + 1) f' s') J R)) : ∀ (m i : Nat) (f : PFr) (s : PS), i + m = n → I i f s → W (pcode P Γ ext (.loop body) f s) (RndQ id (fun _ _ => False) J R) := by
  intro m
  induction m with
  | zero =>
    intro i f s him h
    obtain ⟨x, f', s', e, q⟩ := hr i f s (by omega) h
    rw [pcode_loop, e]
    cases x with
    | normal => exact absurd q.1 (by omega)
    | exit j => exact ⟨_, _, _, rfl, q⟩
    | ret => exact ⟨_, _, _, rfl, q⟩
  | succ m ih =>
    intro i f s him h
    obtain ⟨x, f', s', e, q⟩ := hr i f s (by omega) h
    rw [pcode_loop, e]
    cases x with
    | normal => exact ih (i + 1) f' s' (by omega) q.2
    | exit j => exact ⟨_, _, _, rfl, q⟩
    | ret => exact ⟨_, _, _, rfl, q⟩
theorem W_loop {body : PCode} {id : Nat} (n : Nat) (I : Nat → PFr → PS → Prop) (J : PFr → PS → Prop) {k : PFr → PS → PEx} {Q : PXt → PFr → PS → Prop} {f : PFr} {s : PS} (h0 : I 0 f s)
    (hr : ∀ i f s, i ≤ n → I i f s → W (pcode P Γ ext body f s) (RndQ id (fun f' s' => i < n ∧ I (i + 1) f' s') J (Q .ret))) (hk : ∀ f s, J f s → W (k f s) Q) : W (seqP (blockP id (pcode P Γ ext (.loop body) f s)) k) Q := by
  obtain ⟨x, f', s', e, q⟩ := loop_inv hr n 0 f s (by omega) h0
  rw [e]
  cases x with
  | normal => exact q.elim
  | exit j =>
    obtain ⟨rfl, q⟩ := q
    rw [blk_e, if_pos rfl, seq_n]
    exact hk _ _ q
  | ret => exact ⟨_, _, _, rfl, q⟩
theorem W_end {fn : PFn} {s : PS} {r : PEx} {R : PV × PS → Prop} (h : W r fun x f' s' => match x with | .exit _ => False | _ => ∃ q, leaveP fn s f' s' = some q ∧ R q) : ∃ q, endK fn s r = some q ∧ R q := by
  obtain ⟨x, f, s', rfl, q⟩ := h
  cases x with
  | normal => exact q
  | exit id => exact q.elim
  | ret => exact q
theorem rnd_n (id : Nat) (N J R : PFr → PS → Prop) (f : PFr) (s : PS) : RndQ id N J R .normal f s ↔ N f s := Iff.rfl
theorem rnd_e (id j : Nat) (N J R : PFr → PS → Prop) (f : PFr) (s : PS) : RndQ id N J R (.exit j) f s ↔ (j = id ∧ J f s) := Iff.rfl
theorem rnd_r (id : Nat) (N J R : PFr → PS → Prop) (f : PFr) (s : PS) : RndQ id N J R .ret f s ↔ R f s := Iff.rfl
/-- how a call ends -/
def EndQ (fn : PFn) (s : PS) (R : PV × PS → Prop) (x : PXt) (f' : PFr) (s' : PS) : Prop := match x with
  | .exit _ => False
  | _ => ∃ q, leaveP fn s f' s' = some q ∧ R q
theorem endQ_r {fn : PFn} {s : PS} {R : PV × PS → Prop} {f' : PFr} {s' : PS} {q : PV × PS} (h : leaveP fn s f' s' = some q) (hR : R q) : EndQ fn s R .ret f' s' := ⟨q, h, hR⟩
theorem W_call {g : Nat} {fn : PFn} (hg : Γ g = some fn) {args : List PV} {s : PS} (hl : args.length ≤ fn.nt) {R : PV × PS → Prop} (h : W (pcode P Γ ext fn.body (initP args 0) ⟨s.h, s.n, s.n⟩) (EndQ fn s R)) : ∃ q, pcall P Γ ext g args s = some q ∧ R q := by
  rw [pcall_u hg _ _ hl]
  exact W_end h
theorem W_assoc {a b c : PCode} {f : PFr} {s : PS} {Q : PXt → PFr → PS → Prop} (h : W (pcode P Γ ext (.seq a (.seq b c)) f s) Q) : W (pcode P Γ ext (.seq (.seq a b) c) f s) Q := by
  obtain ⟨x, f', s', e, q⟩ := h
  refine ⟨x, f', s', ?_, q⟩
  rw [pcode_seq] at e ⊢
  rw [pcode_seq]
  cases h1 : pcode P Γ ext a f s with
  | none => rw [h1] at e; cases e
  | some r =>
    obtain ⟨y, f1, s1⟩ := r
    rw [h1] at e
    cases y with
    | normal => rw [seq_n] at e ⊢; rw [pcode_seq] at e; exact e
    | exit id => rw [seq_e] at e; rw [seq_e, seq_e]; exact e
    | ret => rw [seq_r] at e; rw [seq_r, seq_r]; exact e
theorem W_rseq {l : List PI} {b : PCode} {f : PFr} {s : PS} {Q : PXt → PFr → PS → Prop} (N : PFr → PS → Prop) (h : ∃ f' s', pops P Γ ext l f s = some (f', s') ∧ N f' s') (hk : ∀ f s, N f s → W (pcode P Γ ext b f s) Q) : W (pcode P Γ ext (.seq (.reg l) b) f s) Q := by
  obtain ⟨f', s', e, q⟩ := h
  rw [pcode_seq, pcode_r, e, regE_some, seq_n]
  exact hk _ _ q
theorem W_lseq {body b : PCode} {id : Nat} (n : Nat) (I : Nat → PFr → PS → Prop) (J : PFr → PS → Prop) {Q : PXt → PFr → PS → Prop} {f : PFr} {s : PS} (h0 : I 0 f s)
    (hr : ∀ i f s, i ≤ n → I i f s → W (pcode P Γ ext body f s) (RndQ id (fun f' s' => i < n ∧ I (i + 1) f' s') J (Q .ret))) (hk : ∀ f s, J f s → W (pcode P Γ ext b f s) Q) : W (pcode P Γ ext (.seq (.block id (.loop body)) b) f s) Q := by
  rw [pcode_seq, pcode_block]
  exact W_loop n I J h0 hr hk
theorem W_rret {l : List PI} {f : PFr} {s : PS} {Q : PXt → PFr → PS → Prop} (h : ∃ f' s', pops P Γ ext l f s = some (f', s') ∧ Q .ret f' s') : W (pcode P Γ ext (.seq (.reg l) .ret) f s) Q := by
  obtain ⟨f', s', e, q⟩ := h
  rw [pcode_seq, pcode_r, e, regE_some, seq_n, pcode_ret]
  exact ⟨_, _, _, rfl, q⟩
theorem okPair_rd (r : List Nat) (li ca : Bool) (a k : Nat) : OkPair ⟨r, [], li, ca⟩ a a ⟨[k], [], false, false⟩ := by
  unfold OkPair; simp; omega
theorem len_str (s : ByteArray) : lenP true (.sc (.string s)) = some (.sc (.int .i64 (s.data.toList.length : Int))) := (rfl)
/-- slices.EqualFunc of a thing and itself -/
theorem eq_refl {α : Type} {e t es sl : Nat} {z : Array Value} {c : α → List PV} (hc : ∀ x, (c x).length = es) (hz : (z.toList.map PV.sc).length = es) {G : Nat} (hG : Γ G = some (eqF t es z sl)) {l : Option (List α)} (ho : ∀ x ∈ l.getD [], (c x).all oneP = true) {g : Nat} (hbig : (l.getD []).length < 4611686018427387904)
    (hr : ∀ x ∈ l.getD [], ∀ s, pcall P Γ ext g [.agg (c x), .agg (c x)] s = some (.sc (.bool true), s)) (s : PS) :
    pcall P Γ ext G [slP e c l, slP e c l, .fn g [] []] s = some (.sc (.bool true), s) := by
  have h := eq_func (e := e) hc hz hG (l := l) (m := l) (fun x hx => ho x (hx.elim id id)) (g := g) hbig (r := fun _ => true) (fun i x y h1 h2 s => by
    rw [h1] at h2; injection h2 with h2; subst h2; exact hr x (List.mem_of_getElem? h1) s) s
  have ha : ∀ k i, allB (fun _ => true) i k = true := by
    intro k
    induction k with
    | zero => intro i; rfl
    | succ k ih => intro i; simp [allB, ih]
  rw [h, ha, beq_self_eq_true, Bool.and_true]
end
def optL {α : Type} (l : List α) : Option (List α) := match l with
  | [] => none
  | l => some l
theorem optL_get {α : Type} (l : List α) : (optL l).getD [] = l := by cases l <;> rfl
def Acc {α : Type} (e es : Nat) (c : α → List PV) (b : Nat) (l : List α) (v : PV) (s : PS) : Prop :=
  (l = [] ∧ v = .sc (.slice none 0 0)) ∨ (l ≠ [] ∧ ∃ k, b ≤ k ∧ k < s.n ∧ v = .own k 0 l.length (l.length * es) ∧ s.h k = ⟨l.flatMap c, 0, e⟩)
theorem Acc.nil {α : Type} (e es : Nat) (c : α → List PV) (b : Nat) (s : PS) : Acc e es c b [] (.sc (.slice none 0 0)) s := .inl ⟨rfl, rfl⟩
theorem flat_ones {α : Type} {c : α → List PV} {m : List α} (ho : ∀ x ∈ m, (c x).all oneP = true) : (m.flatMap c).all oneP = true := by
  rw [List.all_flatMap]
  exact List.all_eq_true.2 ho
theorem Acc.app {α : Type} {e es bytes b : Nat} {c : α → List PV} {l : List α} {v : PV} {s : PS} (hc : ∀ x, (c x).length = es) (h : Acc e es c b l v s) (m : List α) (hes : es ≠ 0) (hb : (l.length + m.length) * bytes ≤ 140737488355328) (hn : l.length + m.length ≤ 1073741824) (ho : ∀ x ∈ m, (c x).all oneP = true) (hbn : b ≤ s.n) :
    ∃ v' s', appP s e es bytes v (m.flatMap c) m.length = some (v', s') ∧ Acc e es c b (l ++ m) v' s' ∧ (∀ j, j < b → s'.h j = s.h j) ∧ s.n ≤ s'.n ∧ (∀ n0, n0 ≤ b → n0 ≤ s.w → n0 ≤ s'.w) := by
  by_cases hm : m = []
  · subst hm
    refine ⟨v, s, ?_, by rw [List.append_nil]; exact h, fun _ _ => rfl, Nat.le_refl _, fun _ _ h => h⟩
    unfold appP
    rw [if_pos (by rfl)]
    rw [if_pos]
    rcases h with ⟨_, rfl⟩ | ⟨_, k, _, _, rfl, _⟩ <;> rfl
  · have hm0 : m.length ≠ 0 := by simpa using hm
    have hfl := flat_len hc m
    have hone := flat_ones ho
    rcases h with ⟨rfl, rfl⟩ | ⟨hl, k, k1, k2, rfl, k3⟩
    · refine ⟨.own s.n 0 m.length (m.flatMap c).length, s.new ⟨m.flatMap c, 0, e⟩, ?_, .inr ⟨hm, s.n, hbn, by rw [new_n]; omega, ?_, ?_⟩, fun j hj => ?_, by rw [new_n]; omega, fun n0 _ hw => by rw [new_w]; exact hw⟩
      · unfold appP
        rw [if_neg hm0]
        simp only
        rw [if_pos ⟨hes, hfl, by simpa using hb, by simpa using hn, hone⟩]
      · rw [List.nil_append, hfl]
      · rw [new_h, if_pos rfl, List.nil_append]
      · rw [new_h, if_neg (by omega)]
    · have hfl' := flat_len hc l
      refine ⟨.own k 0 (l.length + m.length) (l.length * es + (m.flatMap c).length), s.put k ⟨l.flatMap c ++ m.flatMap c, 0, e⟩, ?_, .inr ⟨by simp [hm], k, k1, by rw [put_n]; exact k2, ?_, ?_⟩, fun j hj => ?_, by rw [put_n]; exact Nat.le_refl _, fun n0 h1 h2 => by rw [put_w]; omega⟩
      · unfold appP
        rw [if_neg hm0]
        simp only [k3]
        rw [if_pos ⟨⟨hes, hfl, hb, hn, hone⟩, by omega, hfl'.symm, Nat.zero_le _, trivial, trivial⟩]
      · rw [List.length_append, hfl, Nat.add_mul]
      · rw [put_h, if_pos rfl, List.flatMap_append]
      · rw [put_h, if_neg (by omega)]
/-- a list that grew, as the caller gets it -/
theorem Acc.frz {α : Type} {e es b n0 : Nat} {c : α → List PV} {l : List α} {v : PV} {s : PS} (hc : ∀ x, (c x).length = es) (h : Acc e es c b l v s) (hn : n0 ≤ b) (hcl : ∀ x ∈ l, (c x).all clean1 = true) : frz1 n0 s v = some (slP e c (optL l)) := by
  rcases h with ⟨rfl, rfl⟩ | ⟨hl, k, k1, k2, rfl, k3⟩
  · rfl
  · have hfl := flat_len hc l
    have hall : (l.flatMap c).all clean1 = true := by rw [List.all_flatMap]; exact List.all_eq_true.2 hcl
    unfold frz1
    simp only [k3, List.drop_zero, Nat.sub_zero]
    rw [if_neg (by omega)]
    rw [List.take_of_length_le (by omega), if_pos ⟨Nat.zero_le _, by omega, Nat.zero_le _, hall⟩]
    cases l with
    | nil => exact absurd rfl hl
    | cons a l => rfl
theorem frz_of {n : Nat} {s : PS} {v p : PV} (h : frz1 n s v = some p) : frz n s v = some p := by
  cases v with
  | tup vs => cases h
  | agg cs => cases h
  | _ => exact h
theorem Acc.new {α : Type} {e es b : Nat} {c : α → List PV} {l : List α} {v : PV} {s : PS} (h : Acc e es c b l v s) (k : Blk) : Acc e es c b l v (s.new k) := by
  rcases h with h | ⟨hl, k, k1, k2, rfl, k3⟩
  · exact .inl h
  · exact .inr ⟨hl, k, k1, by rw [new_n]; omega, rfl, by rw [new_h, if_neg (by omega)]; exact k3⟩
theorem Acc.frame {α : Type} {e es b : Nat} {c : α → List PV} {l : List α} {v : PV} {s s' : PS} (h : Acc e es c b l v s) (hn : s.n ≤ s'.n) (hh : ∀ j, j < s.n → s'.h j = s.h j) : Acc e es c b l v s' := by
  rcases h with h | ⟨hl, k, k1, k2, rfl, k3⟩
  · exact .inl h
  · exact .inr ⟨hl, k, k1, by omega, rfl, by rw [hh k k2]; exact k3⟩
theorem elems_sl {α : Type} {e es : Nat} {c : α → List PV} (hc : ∀ x, (c x).length = es) (l : Option (List α)) (s : PS) : elemsP s es (slP e c l) = some ((l.getD []).flatMap c, (l.getD []).length) := by
  cases l with
  | none => rfl
  | some l =>
    show (if (l.flatMap c).length = l.length * es then some (l.flatMap c, l.length) else none) = _
    rw [if_pos (flat_len hc l)]; rfl
def scB (v : Value) : Nat := match v with
  | .string b => b.data.toList.length + 1
  | _ => 1
theorem scB_pos (v : Value) : 1 ≤ scB v := by cases v <;> simp [scB]
mutual
def PV.bulk : PV → Nat
  | .sc v => scB v
  | .agg cs => bulks cs + 1
  | .tup vs => bulks vs + 1
  | .lit _ _ cs => bulks cs + 1
  | .litp cs => bulks cs + 1
  | .litx _ _ cs => bulks cs + 1
  | .own .. => 1
  | .ptr .. => 1
  | .fn .. => 1
def bulks : List PV → Nat
  | [] => 0
  | p :: l => p.bulk + bulks l
end
theorem bulk_pos (p : PV) : 1 ≤ p.bulk := by cases p <;> simp [PV.bulk, scB_pos]
theorem bulks_cons (p : PV) (l : List PV) : bulks (p :: l) = p.bulk + bulks l := by simp [bulks]
theorem bulks_nil : bulks [] = 0 := by simp [bulks]
theorem bulks_app (l m : List PV) : bulks (l ++ m) = bulks l + bulks m := by
  induction l with
  | nil => simp [bulks_nil]
  | cons p l ih => simp only [List.cons_append, bulks_cons, ih]; omega
theorem bulks_len (l : List PV) : l.length ≤ bulks l := by
  induction l with
  | nil => simp
  | cons p l ih => have := bulk_pos p; rw [bulks_cons, List.length_cons]; omega
theorem bulks_flat {α : Type} {c : α → List PV} {x : α} {l : List α} (h : x ∈ l) : bulks (c x) ≤ bulks (l.flatMap c) := by
  induction l with
  | nil => cases h
  | cons y l ih =>
    rw [List.flatMap_cons, bulks_app]
    rcases List.mem_cons.1 h with rfl | h
    · omega
    · have := ih h; omega
theorem bulks_slP {α : Type} (e : Nat) (c : α → List PV) (l : Option (List α)) : bulks ((l.getD []).flatMap c) + 1 = (slP e c l).bulk := by
  cases l with
  | none => simp [slP, PV.bulk, bulks_nil, scB]
  | some l => simp [slP, PV.bulk]
theorem len_slP {α : Type} {e : Nat} {c : α → List PV} (hc : ∀ x, 1 ≤ (c x).length) (l : Option (List α)) : (l.getD []).length + 1 ≤ (slP e c l).bulk := by
  rw [← bulks_slP]
  have h := bulks_len ((l.getD []).flatMap c)
  have : ∀ m : List α, m.length ≤ (m.flatMap c).length := by
    intro m
    induction m with
    | nil => simp
    | cons a m ih => have := hc a; simp only [List.flatMap_cons, List.length_append, List.length_cons]; omega
  have := this (l.getD [])
  omega
/-- the lists of a list's elements together -/
theorem len_flat {α β : Type} {c : α → List PV} {g : α → List β} : ∀ (l : List α), (∀ x ∈ l, (g x).length ≤ bulks (c x)) → (l.flatMap g).length ≤ bulks (l.flatMap c) := by
  intro l
  induction l with
  | nil => intro _; simp
  | cons a l ih =>
    intro h
    have h1 := h a List.mem_cons_self
    have h2 := ih fun x hx => h x (List.mem_cons_of_mem _ hx)
    rw [List.flatMap_cons, List.flatMap_cons, bulks_app, List.length_append]; omega
end Go.PE


namespace Go.PE
open Go Go.EvL
def mt (d t : Nat) : PI := ⟨some d, .mv (.tmp t), none⟩
def mk (d : Nat) (v : Value) : PI := ⟨some d, .mv (.const v), none⟩
def gt (j : Nat) (w : Bool) (d t : Nat) : PI := ⟨some d, .mv (.tmp t), some (j, w)⟩
def ob (d : Nat) (p : POp) : PI := ⟨some d, p, none⟩
def og (j : Nat) (w : Bool) (d : Nat) (p : POp) : PI := ⟨some d, p, some (j, w)⟩
def o0 (p : POp) : PI := ⟨none, p, none⟩
def g0 (j : Nat) (w : Bool) (p : POp) : PI := ⟨none, p, some (j, w)⟩
abbrev tp (n : Nat) : Operand := .tmp n
def bn (o : BinOp) (t x y : Nat) : POp := .bin o t (.tmp x) (.tmp y)
def bi (o : BinOp) (x : Nat) (n : Int) : POp := .bin o 3 (.tmp x) (.const (.int .i64 n))
def bc (o : BinOp) (x : Nat) (n : Int) : POp := .bin o 5 (.tmp x) (.const (.int .u8 n))
def pk (a b : Nat) : POp := .pick (.tmp a) (.tmp b) (.const (.bool false))
def po (a b : Nat) : POp := .pick (.tmp a) (.const (.bool true)) (.tmp b)
def cl (g : Nat) (l : List Operand) : POp := .call (.func g) l
def iff (l : List PI) (t : Nat) (a b : PCode) : PCode := .seq (.reg l) (.cond (.tmp t) a b)
def sr (l : List PI) (c : PCode) : PCode := .seq (.reg l) c
def lt (id : Nat) (b r : PCode) : PCode := .seq (.block id (.loop b)) r
end Go.PE
