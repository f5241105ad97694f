/- Copies of nodes are like their nodes. No statement is proved here. -/
import Derived.Test.YtdkcfccepjimbaaGreatDoorLaw
import Derived.Test.YtdkcfccepjimbaaGreatDoorPeE
set_option linter.unusedSimpArgs false
set_option linter.unusedVariables false
namespace Go.Proofs.YtdkcfccepjimbaaGreatDoor
open Go Go.EvL Go.PE
variable {ext : PCallF}
theorem st_ptr (s : PS) (k off fin : Nat) (ys : List PV) : stP s (.ptr k off fin) ys = if off + ys.length ≤ fin ∧ fin = (s.h k).cells.length ∧ ys.all oneP = true then some (s.put k ⟨(s.h k).cells.take off ++ (ys ++ (s.h k).cells.drop (off + ys.length)), fin, (s.h k).e⟩) else none := (rfl)
theorem cellsP_agg (cs : List PV) : cellsP (.agg cs) = cs := (rfl)
theorem cellsP_sc (v : Value) : cellsP (.sc v) = [.sc v] := (rfl)
theorem cellsP_sl {α : Type} (e : Nat) (c : α → List PV) (m : Option (List α)) : cellsP (slP e c m) = [slP e c m] := by cases m <;> rfl
theorem frz1_sl {α : Type} (n : Nat) (s : PS) (e : Nat) (c : α → List PV) (m : Option (List α)) : frz1 n s (slP e c m) = some (slP e c m) := by cases m <;> rfl
theorem frz1_sc (n : Nat) (s : PS) (v : Value) : frz1 n s (.sc v) = some (.sc v) := (rfl)
theorem oneP_int (k : IntKind) (z : Int) : oneP (.sc (.int k z)) = true := (rfl)
theorem oneP_str (b : ByteArray) : oneP (.sc (.string b)) = true := (rfl)
theorem oneP_bool (b : Bool) : oneP (.sc (.bool b)) = true := (rfl)
/-! lists that are equal but for nil -/
def LEqv {α : Type} (e : Nat) (c : α → List PV) (Q : α → α → Prop) (a b : PV) : Prop := ∃ l m : Option (List α), a = slP e c l ∧ b = slP e c m ∧ (l.getD []).length = (m.getD []).length ∧ (l.getD []).length < 4611686018427387904 ∧ ∀ (i : Nat) x y, (l.getD [])[i]? = some x → (m.getD [])[i]? = some y → Q x y
theorem LEqv.one {α : Type} {e : Nat} {c : α → List PV} {Q : α → α → Prop} {a b : PV} (h : LEqv e c Q a b) : oneP a = true ∧ oneP b = true ∧ clean1 a = true := by
  obtain ⟨l, m, rfl, rfl, _⟩ := h
  exact ⟨oneP_sl _ _ _, oneP_sl _ _ _, clean_sl _ _ _⟩
def PEqv : Nat → PV → PV → Prop
  | 0, _, _ => False
  | d + 1, a, b => LEqv 63 PartD.cells (fun x y => (x.kind = y.kind ∧ x.text = y.text ∧ x.op = y.op ∧ x.colon = y.colon) ∧ PEqv d x.parts y.parts) a b
theorem PEqv.one {d : Nat} {a b : PV} (h : PEqv d a b) : oneP a = true ∧ oneP b = true ∧ clean1 a = true := by
  cases d with
  | zero => cases h
  | succ d => exact LEqv.one h
/-- the copies, as a function -/
theorem copy_fn {α : Type} {c : α → List PV} {R : α → α → Prop} {g : Nat} {l : List α} (h : ∀ x ∈ l, ∃ y, (∀ s, pcall Tryz.prog Γ ext g [.agg (c x)] s = some (.agg (c y), s)) ∧ R y x) :
    ∃ cp : α → α, ∀ x ∈ l, (∀ s, pcall Tryz.prog Γ ext g [.agg (c x)] s = some (.agg (c (cp x)), s)) ∧ R (cp x) x := by
  have h' : ∀ x, ∃ y, x ∈ l → (∀ s, pcall Tryz.prog Γ ext g [.agg (c x)] s = some (.agg (c y), s)) ∧ R y x := fun x => by
    by_cases hx : x ∈ l
    · obtain ⟨y, hy⟩ := h x hx
      exact ⟨y, fun _ => hy⟩
    · exact ⟨x, fun hh => absurd hh hx⟩
  exact Classical.axiomOfChoice h'
theorem copies_ok {α : Type} {t es bytes sl : Nat} {z : Array Value} {c : α → List PV} (hc : ∀ x, (c x).length = es) (hz : (z.toList.map PV.sc).length = es) (hes : es ≠ 0) (hby : bytes ≤ 1024) {G g : Nat} (hG : Γ G = some (cpF t es bytes z sl)) {R : α → α → Prop} {a : PV} {l : Option (List α)} (ha : a = slP t c l) (hbig : (l.getD []).length ≤ 16777216)
    (ho : ∀ x ∈ l.getD [], (c x).all oneP = true) (hR : ∀ x y, R y x → (c y).all oneP = true ∧ (c y).all clean1 = true)
    (h : ∀ x ∈ l.getD [], ∃ y, (∀ s, pcall Tryz.prog Γ ext g [.agg (c x)] s = some (.agg (c y), s)) ∧ R y x) : ∃ b, (∀ s, pcall Tryz.prog Γ ext G [a, .fn g [] []] s = some (b, s)) ∧ LEqv t c R b a := by
  subst ha
  obtain ⟨cp, hcp⟩ := copy_fn h
  refine ⟨slP t c (optL ((l.getD []).map cp)), fun s => cp_func hc hz hes hby hG (cp := cp) (fun x hx => ⟨ho x hx, (hR _ _ (hcp x hx).2).1, (hR _ _ (hcp x hx).2).2⟩) hbig (fun x hx => (hcp x hx).1) s, _, l, rfl, rfl, ?_, ?_, fun i x y hx hy => ?_⟩
  · rw [optL_get, List.length_map]
  · rw [optL_get, List.length_map]; omega
  · rw [optL_get, List.getElem?_map, hy] at hx
    have hx' : cp y = x := by simpa using hx
    rw [← hx']
    exact (hcp y (List.mem_of_getElem? hy)).2
theorem g134 : Γ 134 = some (cpF 63 5 64 #[(.int .i64 0), (.string ⟨#[]⟩), (.int .i64 0), (.bool false), (.slice none 0 0)] 3) := (rfl)
theorem f135 (x : PartD) (m : Option (List PartD)) (h : ∀ s, pcall Tryz.prog Γ ext 134 [x.parts, .fn 135 [] []] s = some (slP 63 PartD.cells m, s)) (s : PS) :
    pcall Tryz.prog Γ ext 135 [.agg x.cells] s = some (.agg (PartD.cells ⟨x.kind, x.text, x.op, x.colon, slP 63 PartD.cells m⟩), s) := by
  rw [pcall_u (fn := p135) (by rfl) _ _ (by simp [p135])]
  cases m with
  | none =>
    simp only [slP] at h ⊢
    simp -implicitDefEqProofs only [p135, pcode_seq, pcode_r, pcode_ret, pops_u, pops_nil, runK_some, runK_none, actP, opP, initP, Nat.zero_add, Nat.reduceAdd, Option.map_some, Option.bind_some, pval_tmp, pval_func, set_at, Nat.reduceEqDiff, cellsP, ↓reduceIte, pvOf, seq_n, regE_some, new_h, new_n, new_w, put_h, put_w, ld_ptr, ofCells, List.length_cons, List.length_nil, Nat.left_eq_add, Nat.add_eq_left, Nat.one_ne_zero, Nat.zero_le, and_self, List.drop_succ_cons, List.drop_zero, List.take_succ_cons, List.take_zero, Nat.le_refl, callP, leaveP, resP, oneRes, frz, frz2, frz1, Nat.min_eq_left, Nat.le_add_right, List.map_cons, List.map_nil, List.nil_append, List.append_nil, List.cons_append, endK_r, Bool.false_eq_true, PartD.cells, h, st_ptr, oneP, oneC, List.all_cons, List.all_nil, Bool.and_self, frzL]
  | some m =>
    simp only [slP] at h ⊢
    simp -implicitDefEqProofs only [p135, pcode_seq, pcode_r, pcode_ret, pops_u, pops_nil, runK_some, runK_none, actP, opP, initP, Nat.zero_add, Nat.reduceAdd, Option.map_some, Option.bind_some, pval_tmp, pval_func, set_at, Nat.reduceEqDiff, cellsP, ↓reduceIte, pvOf, seq_n, regE_some, new_h, new_n, new_w, put_h, put_w, ld_ptr, ofCells, List.length_cons, List.length_nil, Nat.left_eq_add, Nat.add_eq_left, Nat.one_ne_zero, Nat.zero_le, and_self, List.drop_succ_cons, List.drop_zero, List.take_succ_cons, List.take_zero, Nat.le_refl, callP, leaveP, resP, oneRes, frz, frz2, frz1, Nat.min_eq_left, Nat.le_add_right, List.map_cons, List.map_nil, List.nil_append, List.append_nil, List.cons_append, endK_r, Bool.false_eq_true, PartD.cells, h, st_ptr, oneP, oneC, List.all_cons, List.all_nil, Bool.and_self, frzL]
theorem part_ones {d : Nat} {x y : PartD} (h : PEqv d y.parts x.parts) : y.cells.all oneP = true ∧ y.cells.all clean1 = true := by
  obtain ⟨h1, _, h3⟩ := h.one
  simp only [PartD.cells, List.all_cons, List.all_nil, h1, h3, Bool.and_true]
  exact ⟨rfl, rfl⟩
theorem copy_parts : ∀ (d : Nat) (a : PV), PartsAt d a → a.bulk ≤ 16777216 → ∃ b, (∀ s, pcall Tryz.prog Γ ext 134 [a, .fn 135 [] []] s = some (b, s)) ∧ PEqv d b a := by
  intro d
  induction d with
  | zero => intro a h; cases h
  | succ d ih =>
    rintro a ⟨l, ha, hl, hl'⟩ hb
    have hn := len_slP (e := 63) (c := PartD.cells) (fun y => by rw [PartD.len]; omega) l
    have hbl := bulks_slP 63 PartD.cells l
    rw [← ha] at hn hbl
    refine copies_ok (R := fun y x => (y.kind = x.kind ∧ y.text = x.text ∧ y.op = x.op ∧ y.colon = x.colon) ∧ PEqv d y.parts x.parts) PartD.len (by rfl) (by omega) (by omega) g134 ha (by omega) (fun x hx => PartD.ones (hl' x hx)) (fun x y h => part_ones h.2) (fun x hx => ?_)
    have hbx : x.parts.bulk ≤ 16777216 := by
      have h1 := bulks_flat (c := PartD.cells) hx
      have h2 := bulks_mem (p := x.parts) (l := x.cells) (by simp [PartD.cells])
      omega
    obtain ⟨q, q1, q2⟩ := ih x.parts (hl' x hx) hbx
    obtain ⟨m, hm⟩ : ∃ m, q = slP 63 PartD.cells m := by
      cases d with
      | zero => cases q2
      | succ d => obtain ⟨m, _, h, _⟩ := q2; exact ⟨m, h⟩
    subst hm
    exact ⟨⟨x.kind, x.text, x.op, x.colon, slP 63 PartD.cells m⟩, f135 x m q1, ⟨rfl, rfl, rfl, rfl⟩, q2⟩
theorem PEqv.sl {d : Nat} {a b : PV} (h : PEqv d a b) : ∃ m, a = slP 63 PartD.cells m := by
  cases d with
  | zero => cases h
  | succ d => obtain ⟨m, _, h, _⟩ := h; exact ⟨m, h⟩
/-! copyWord, and the functions that copy an assignment, a redirection, a branch, a node -/
def WEqv (d : Nat) (y x : WordD) : Prop := y.pos = x.pos ∧ PEqv d y.parts x.parts
def AEqv (d : Nat) (y x : AssignD) : Prop := (y.pos = x.pos ∧ y.name = x.name ∧ y.vpos = x.vpos) ∧ PEqv d y.parts x.parts
def REqv (d : Nat) (y x : RedirD) : Prop := (y.pos = x.pos ∧ y.fd = x.fd ∧ y.op = x.op ∧ y.tpos = x.tpos) ∧ PEqv d y.parts x.parts
theorem f90 (x : WordD) (m : Option (List PartD)) (h : ∀ s, pcall Tryz.prog Γ ext 134 [x.parts, .fn 135 [] []] s = some (slP 63 PartD.cells m, s)) (s : PS) :
    pcall Tryz.prog Γ ext 90 [.agg x.cells] s = some (.agg (WordD.cells ⟨x.pos, slP 63 PartD.cells m⟩), s) := by
  rw [pcall_u (fn := p90) (by rfl) _ _ (by simp [p90])]
  simp -implicitDefEqProofs only [p90, pcode_seq, pcode_r, pcode_ret, pops_u, pops_nil, runK_some, runK_none, actP, opP, initP, Nat.zero_add, Nat.reduceAdd, Option.map_some, Option.bind_some, pval_tmp, pval_func, set_at, Nat.reduceEqDiff, ↓reduceIte, pvOf, seq_n, regE_some, new_h, new_n, new_w, put_h, put_w, ld_ptr, ofCells, List.length_cons, List.length_nil, Nat.left_eq_add, Nat.add_eq_left, Nat.one_ne_zero, Nat.zero_le, and_self, List.drop_succ_cons, List.drop_zero, List.take_succ_cons, List.take_zero, Nat.le_refl, callP, leaveP, resP, oneRes, frz, frz2, Nat.min_eq_left, Nat.le_add_right, List.map_cons, List.map_nil, List.nil_append, List.append_nil, List.cons_append, endK_r, Bool.false_eq_true, cellsP_agg, cellsP_sl, frz1_sl, frz1_sc, frzL, st_ptr, oneP_int, oneP_sl, List.all_cons, List.all_nil, Bool.and_self, WordD.cells, h]
theorem f89 (x : AssignD) (m : Option (List PartD)) (h : ∀ s, pcall Tryz.prog Γ ext 90 [.agg (WordD.cells ⟨x.vpos, x.parts⟩)] s = some (.agg (WordD.cells ⟨x.vpos, slP 63 PartD.cells m⟩), s)) (s : PS) :
    pcall Tryz.prog Γ ext 89 [.agg x.cells] s = some (.agg (AssignD.cells ⟨x.pos, x.name, x.vpos, slP 63 PartD.cells m⟩), s) := by
  rw [pcall_u (fn := p89) (by rfl) _ _ (by simp [p89])]
  simp only [WordD.cells] at h
  simp -implicitDefEqProofs only [p89, pcode_seq, pcode_r, pcode_ret, pops_u, pops_nil, runK_some, runK_none, actP, opP, initP, Nat.zero_add, Nat.reduceAdd, Option.map_some, Option.bind_some, pval_tmp, pval_func, set_at, Nat.reduceEqDiff, ↓reduceIte, pvOf, seq_n, regE_some, new_h, new_n, new_w, put_h, put_w, ld_ptr, ofCells, List.length_cons, List.length_nil, Nat.left_eq_add, Nat.add_eq_left, Nat.one_ne_zero, Nat.zero_le, and_self, List.drop_succ_cons, List.drop_zero, List.take_succ_cons, List.take_zero, Nat.le_refl, callP, leaveP, resP, oneRes, frz, frz2, Nat.min_eq_left, Nat.le_add_right, List.map_cons, List.map_nil, List.nil_append, List.append_nil, List.cons_append, endK_r, Bool.false_eq_true, cellsP_agg, frz1_sl, frz1_sc, frzL, st_ptr, oneP_int, oneP_str, oneP_sl, List.all_cons, List.all_nil, Bool.and_self, AssignD.cells, h]
theorem f93 (x : RedirD) (m : Option (List PartD)) (h : ∀ s, pcall Tryz.prog Γ ext 90 [.agg (WordD.cells ⟨x.tpos, x.parts⟩)] s = some (.agg (WordD.cells ⟨x.tpos, slP 63 PartD.cells m⟩), s)) (s : PS) :
    pcall Tryz.prog Γ ext 93 [.agg x.cells] s = some (.agg (RedirD.cells ⟨x.pos, x.fd, x.op, x.tpos, slP 63 PartD.cells m⟩), s) := by
  rw [pcall_u (fn := p93) (by rfl) _ _ (by simp [p93])]
  simp only [WordD.cells] at h
  simp -implicitDefEqProofs only [p93, pcode_seq, pcode_r, pcode_ret, pops_u, pops_nil, runK_some, runK_none, actP, opP, initP, Nat.zero_add, Nat.reduceAdd, Option.map_some, Option.bind_some, pval_tmp, pval_func, set_at, Nat.reduceEqDiff, ↓reduceIte, pvOf, seq_n, regE_some, new_h, new_n, new_w, put_h, put_w, ld_ptr, ofCells, List.length_cons, List.length_nil, Nat.left_eq_add, Nat.add_eq_left, Nat.one_ne_zero, Nat.zero_le, and_self, List.drop_succ_cons, List.drop_zero, List.take_succ_cons, List.take_zero, Nat.le_refl, callP, leaveP, resP, oneRes, frz, frz2, Nat.min_eq_left, Nat.le_add_right, List.map_cons, List.map_nil, List.nil_append, List.append_nil, List.cons_append, endK_r, Bool.false_eq_true, cellsP_agg, frz1_sl, frz1_sc, frzL, st_ptr, oneP_int, oneP_sl, List.all_cons, List.all_nil, Bool.and_self, RedirD.cells, h]
theorem pu91 : puOf Γ 91 = true := (rfl)
theorem pu94 : puOf Γ 94 = true := (rfl)
theorem f96 (x : ItemD) (m : Option (List WordD)) (k : Option (List NodeD)) (h : ∀ s, pcall Tryz.prog Γ ext 91 [x.pats, .fn 90 [] []] s = some (slP 56 WordD.cells m, s)) (h' : ∀ s, pcall Tryz.prog Γ ext 94 [x.body, .fn 59 [] []] s = some (slP 28 NodeD.cells k, s)) (s : PS) :
    pcall Tryz.prog Γ ext 96 [.agg x.cells] s = some (.agg (ItemD.cells ⟨slP 56 WordD.cells m, slP 28 NodeD.cells k⟩), s) := by
  rw [pcall_u (fn := p96) (by rfl) _ _ (by simp [p96])]
  simp -implicitDefEqProofs only [p96, pcode_seq, pcode_r, pcode_ret, pops_u, pops_nil, runK_some, actP, opP, initP, Nat.zero_add, Nat.add_zero, Nat.reduceAdd, Option.map_some, Option.bind_some, pval_tmp, pval_func, set_at, Nat.reduceEqDiff, ↓reduceIte, pvOf, seq_n, regE_some, new_h, new_n, new_w, put_h, put_n, put_w, ld_ptr, ofCells, List.length_cons, List.length_nil, Nat.left_eq_add, Nat.one_ne_zero, Nat.reduceLeDiff, Nat.zero_le, and_self, List.drop_succ_cons, List.drop_zero, List.take_succ_cons, List.take_zero, Nat.le_refl, callP, leaveP, resP, oneRes, frz, frz2, Nat.min_eq_left, Nat.le_add_right, List.map_cons, List.map_nil, List.nil_append, List.append_nil, List.cons_append, endK_r, Bool.false_eq_true, reduceCtorEq, cellsP_agg, cellsP_sl, frz1_sl, frzL, st_ptr, oneP_sl, List.all_cons, List.all_nil, Bool.and_self, pcode_d, pdraw_nil, pdraw_u, drK_some, drK_none, only_at, effO, effA, pureI, okAll_nil, okAll_cons, okPair_e, List.mem_cons, List.not_mem_nil, or_false, or_true, or_self, implies_true, false_implies, Nat.le_add_right, ItemD.cells, h, h', fillP, pu91, pu94, okPair_rd]
theorem f59 (x : NodeD) (ma : Option (List AssignD)) (mw : Option (List WordD)) (mr : Option (List RedirD)) (mk : Option (List NodeD)) (mi : Option (List ItemD))
    (h1 : ∀ s, pcall Tryz.prog Γ ext 88 [x.assigns, .fn 89 [] []] s = some (slP 58 AssignD.cells ma, s)) (h2 : ∀ s, pcall Tryz.prog Γ ext 91 [x.words, .fn 90 [] []] s = some (slP 56 WordD.cells mw, s)) (h3 : ∀ s, pcall Tryz.prog Γ ext 92 [x.redirs, .fn 93 [] []] s = some (slP 70 RedirD.cells mr, s))
    (h4 : ∀ s, pcall Tryz.prog Γ ext 94 [x.kids, .fn 59 [] []] s = some (slP 28 NodeD.cells mk, s)) (h5 : ∀ s, pcall Tryz.prog Γ ext 95 [x.items, .fn 96 [] []] s = some (slP 75 ItemD.cells mi, s)) (s : PS) :
    pcall Tryz.prog Γ ext 59 [.agg x.cells] s = some (.agg (NodeD.cells ⟨x.kind, x.pos, x.name, x.all, slP 58 AssignD.cells ma, slP 56 WordD.cells mw, slP 70 RedirD.cells mr, slP 28 NodeD.cells mk, slP 75 ItemD.cells mi⟩), s) := by
  rw [pcall_u (fn := p59) (by rfl) _ _ (by simp [p59])]
  simp -implicitDefEqProofs only [p59, pcode_seq, pcode_r, pcode_ret, pops_u, pops_nil, runK_some, runK_none, actP, opP, initP, Nat.zero_add, Nat.reduceAdd, Option.map_some, Option.bind_some, pval_tmp, pval_func, set_at, Nat.reduceEqDiff, ↓reduceIte, pvOf, seq_n, regE_some, new_h, new_n, new_w, put_h, put_w, ld_ptr, ofCells, List.length_cons, List.length_nil, Nat.left_eq_add, Nat.add_eq_left, Nat.one_ne_zero, Nat.reduceLeDiff, Nat.zero_le, and_self, List.drop_succ_cons, List.drop_zero, List.take_succ_cons, List.take_zero, Nat.le_refl, callP, leaveP, resP, oneRes, frz, frz2, Nat.min_eq_left, Nat.le_add_right, List.map_cons, List.map_nil, List.nil_append, List.append_nil, List.cons_append, endK_r, Bool.false_eq_true, cellsP_agg, cellsP_sl, frz1_sl, frz1_sc, frzL, st_ptr, oneP_int, oneP_str, oneP_bool, oneP_sl, List.all_cons, List.all_nil, Bool.and_self, NodeD.cells, h1, h2, h3, h4, h5]
end Go.Proofs.YtdkcfccepjimbaaGreatDoor

namespace Go.Proofs.YtdkcfccepjimbaaGreatDoor
open Go Go.EvL Go.PE
variable {ext : PCallF}
def NEqv (D : Nat) : Nat → NodeD → NodeD → Prop
  | 0, _, _ => False
  | d + 1, y, x => (y.kind = x.kind ∧ y.pos = x.pos ∧ y.name = x.name ∧ y.all = x.all) ∧ LEqv 58 AssignD.cells (AEqv D) y.assigns x.assigns ∧ LEqv 56 WordD.cells (WEqv D) y.words x.words ∧ LEqv 70 RedirD.cells (REqv D) y.redirs x.redirs ∧ LEqv 28 NodeD.cells (NEqv D d) y.kids x.kids ∧
    LEqv 75 ItemD.cells (fun j i => LEqv 56 WordD.cells (WEqv D) j.pats i.pats ∧ LEqv 28 NodeD.cells (NEqv D d) j.body i.body) y.items x.items
theorem g88 : Γ 88 = some (cpF 58 4 56 #[(.int .i64 0), (.string ⟨#[]⟩), (.int .i64 0), (.slice none 0 0)] 3) := (rfl)
theorem g91 : Γ 91 = some (cpF 56 2 32 #[(.int .i64 0), (.slice none 0 0)] 3) := (rfl)
theorem g92 : Γ 92 = some (cpF 70 5 56 #[(.int .i64 0), (.int .i64 0), (.int .i64 0), (.int .i64 0), (.slice none 0 0)] 3) := (rfl)
theorem g94 : Γ 94 = some (cpF 28 9 160 #[(.int .i64 0), (.int .i64 0), (.string ⟨#[]⟩), (.bool false), (.slice none 0 0), (.slice none 0 0), (.slice none 0 0), (.slice none 0 0), (.slice none 0 0)] 3) := (rfl)
theorem g95 : Γ 95 = some (cpF 75 2 48 #[(.slice none 0 0), (.slice none 0 0)] 3) := (rfl)
theorem bulk_in {α : Type} {e : Nat} {c : α → List PV} {a p : PV} {l : Option (List α)} (ha : a = slP e c l) {x : α} (hx : x ∈ l.getD []) (hp : p ∈ c x) {N : Nat} (hb : a.bulk ≤ N) : p.bulk ≤ N ∧ bulks (c x) ≤ N := by
  have h0 := bulks_slP e c l
  rw [← ha] at h0
  have h1 := bulks_flat (c := c) hx
  have h2 := bulks_mem hp
  omega
theorem len_in {α : Type} {e : Nat} {c : α → List PV} {a : PV} {l : Option (List α)} (ha : a = slP e c l) (hc : ∀ x, 1 ≤ (c x).length) {N : Nat} (hb : a.bulk ≤ N) : (l.getD []).length ≤ N := by
  have h0 := len_slP (e := e) hc l
  rw [← ha] at h0
  omega
theorem copy_word {D : Nat} {x : WordD} (h : PartsAt D x.parts) (hb : x.parts.bulk ≤ 16777216) : ∃ y, (∀ s, pcall Tryz.prog Γ ext 90 [.agg x.cells] s = some (.agg (WordD.cells y), s)) ∧ WEqv D y x := by
  obtain ⟨q, q1, q2⟩ := copy_parts (ext := ext) D x.parts h hb
  obtain ⟨m, rfl⟩ := q2.sl
  exact ⟨⟨x.pos, slP 63 PartD.cells m⟩, f90 x m q1, rfl, q2⟩
theorem weqv_ones {D : Nat} (x y : WordD) (h : WEqv D y x) : y.cells.all oneP = true ∧ y.cells.all clean1 = true :=
  ⟨WordD.one h.2.one.1, WordD.clean h.2.one.2.2⟩
theorem copy_words {D : Nat} {a : PV} (h : WordsAt D a) (hb : a.bulk ≤ 16777216) : ∃ b, (∀ s, pcall Tryz.prog Γ ext 91 [a, .fn 90 [] []] s = some (b, s)) ∧ LEqv 56 WordD.cells (WEqv D) b a := by
  obtain ⟨l, ha, hl, hl'⟩ := h
  refine copies_ok WordD.len (by rfl) (by omega) (by omega) g91 ha (len_in ha (fun x => by rw [WordD.len]; omega) hb) (fun x hx => WordD.one (hl' x hx).one) weqv_ones (fun x hx => ?_)
  exact copy_word (hl' x hx) (bulk_in ha hx (p := x.parts) (by simp [WordD.cells]) hb).1
theorem copy_assigns {D : Nat} {a : PV} (h : AssignsAt D a) (hb : a.bulk ≤ 16777216) : ∃ b, (∀ s, pcall Tryz.prog Γ ext 88 [a, .fn 89 [] []] s = some (b, s)) ∧ LEqv 58 AssignD.cells (AEqv D) b a := by
  obtain ⟨l, ha, hl, hl'⟩ := h
  refine copies_ok AssignD.len (by rfl) (by omega) (by omega) g88 ha (len_in ha (fun x => by rw [AssignD.len]; omega) hb) (fun x hx => ?_) (fun x y h => ?_) (fun x hx => ?_)
  · simp only [AssignD.cells, List.all_cons, List.all_nil, (hl' x hx).one, Bool.and_true]; rfl
  · obtain ⟨h1, _, h3⟩ := h.2.one
    simp only [AssignD.cells, List.all_cons, List.all_nil, h1, h3, Bool.and_true]; exact ⟨rfl, rfl⟩
  · obtain ⟨q, q1, q2⟩ := copy_parts (ext := ext) D x.parts (hl' x hx) (bulk_in ha hx (p := x.parts) (by simp [AssignD.cells]) hb).1
    obtain ⟨m, rfl⟩ := q2.sl
    exact ⟨⟨x.pos, x.name, x.vpos, slP 63 PartD.cells m⟩, f89 x m (f90 ⟨x.vpos, x.parts⟩ m q1), ⟨rfl, rfl, rfl⟩, q2⟩
theorem copy_redirs {D : Nat} {a : PV} (h : RedirsAt D a) (hb : a.bulk ≤ 16777216) : ∃ b, (∀ s, pcall Tryz.prog Γ ext 92 [a, .fn 93 [] []] s = some (b, s)) ∧ LEqv 70 RedirD.cells (REqv D) b a := by
  obtain ⟨l, ha, hl, hl'⟩ := h
  refine copies_ok RedirD.len (by rfl) (by omega) (by omega) g92 ha (len_in ha (fun x => by rw [RedirD.len]; omega) hb) (fun x hx => ?_) (fun x y h => ?_) (fun x hx => ?_)
  · simp only [RedirD.cells, List.all_cons, List.all_nil, (hl' x hx).one, Bool.and_true]; rfl
  · obtain ⟨h1, _, h3⟩ := h.2.one
    simp only [RedirD.cells, List.all_cons, List.all_nil, h1, h3, Bool.and_true]; exact ⟨rfl, rfl⟩
  · obtain ⟨q, q1, q2⟩ := copy_parts (ext := ext) D x.parts (hl' x hx) (bulk_in ha hx (p := x.parts) (by simp [RedirD.cells]) hb).1
    obtain ⟨m, rfl⟩ := q2.sl
    exact ⟨⟨x.pos, x.fd, x.op, x.tpos, slP 63 PartD.cells m⟩, f93 x m (f90 ⟨x.tpos, x.parts⟩ m q1), ⟨rfl, rfl, rfl, rfl⟩, q2⟩
theorem LEqv.sl {α : Type} {e : Nat} {c : α → List PV} {Q : α → α → Prop} {a b : PV} (h : LEqv e c Q a b) : ∃ m, a = slP e c m := by
  obtain ⟨m, _, h, _⟩ := h; exact ⟨m, h⟩
theorem neqv_ones {D d : Nat} (x y : NodeD) (h : NEqv D d y x) : y.cells.all oneP = true ∧ y.cells.all clean1 = true := by
  cases d with
  | zero => cases h
  | succ d =>
    obtain ⟨_, h1, h2, h3, h4, h5⟩ := h
    obtain ⟨a1, _, b1⟩ := h1.one
    obtain ⟨a2, _, b2⟩ := h2.one
    obtain ⟨a3, _, b3⟩ := h3.one
    obtain ⟨a4, _, b4⟩ := h4.one
    obtain ⟨a5, _, b5⟩ := h5.one
    simp only [NodeD.cells, List.all_cons, List.all_nil, a1, a2, a3, a4, a5, b1, b2, b3, b4, b5, Bool.and_true]
    exact ⟨rfl, rfl⟩
theorem copy_kids {D d : Nat} (ih : ∀ x, NodeAt D d x → bulks x.cells ≤ 16777216 → ∃ y, (∀ s, pcall Tryz.prog Γ ext 59 [.agg x.cells] s = some (.agg (NodeD.cells y), s)) ∧ NEqv D d y x) {a : PV} (h : RowAt 28 NodeD.cells (NodeAt D d) a) (hb : a.bulk ≤ 16777216) :
    ∃ b, (∀ s, pcall Tryz.prog Γ ext 94 [a, .fn 59 [] []] s = some (b, s)) ∧ LEqv 28 NodeD.cells (NEqv D d) b a := by
  obtain ⟨l, ha, hl, hl'⟩ := h
  refine copies_ok NodeD.len (by rfl) (by omega) (by omega) g94 ha (len_in ha (fun x => by rw [NodeD.len]; omega) hb) (fun x hx => (hl' x hx).ones) neqv_ones (fun x hx => ?_)
  exact ih x (hl' x hx) (bulk_in ha hx (p := x.kids) (by simp [NodeD.cells]) hb).2
theorem copy_node {D : Nat} : ∀ (d : Nat) (x : NodeD), NodeAt D d x → bulks x.cells ≤ 16777216 → ∃ y, (∀ s, pcall Tryz.prog Γ ext 59 [.agg x.cells] s = some (.agg (NodeD.cells y), s)) ∧ NEqv D d y x := by
  intro d
  induction d with
  | zero => intro x h; cases h
  | succ d ih =>
    rintro x ⟨h1, h2, h3, h4, h5⟩ hb
    have hbm : ∀ p ∈ x.cells, p.bulk ≤ 16777216 := fun p hp => Nat.le_trans (bulks_mem hp) hb
    obtain ⟨qa, a1, a2⟩ := copy_assigns (ext := ext) h1 (hbm _ (by simp [NodeD.cells]))
    obtain ⟨qw, w1, w2⟩ := copy_words (ext := ext) h2 (hbm _ (by simp [NodeD.cells]))
    obtain ⟨qr, r1, r2⟩ := copy_redirs (ext := ext) h3 (hbm _ (by simp [NodeD.cells]))
    obtain ⟨qk, k1, k2⟩ := copy_kids ih h4 (hbm _ (by simp [NodeD.cells]))
    obtain ⟨qi, i1, i2⟩ : ∃ b, (∀ s, pcall Tryz.prog Γ ext 95 [x.items, .fn 96 [] []] s = some (b, s)) ∧ LEqv 75 ItemD.cells (fun j i => LEqv 56 WordD.cells (WEqv D) j.pats i.pats ∧ LEqv 28 NodeD.cells (NEqv D d) j.body i.body) b x.items := by
      have hbi : x.items.bulk ≤ 16777216 := hbm _ (by simp [NodeD.cells])
      obtain ⟨l, ha, hl, hl'⟩ := h5
      refine copies_ok ItemD.len (by rfl) (by omega) (by omega) g95 ha (len_in ha (fun x => by rw [ItemD.len]; omega) hbi) (fun z hz => ?_) (fun z y h => ?_) (fun z hz => ?_)
      · have h := hl' z hz
        have w1 : oneP z.pats = true := RowAt.one h.1
        simp only [ItemD.cells, List.all_cons, List.all_nil, w1, h.2.one, Bool.and_true]
      · obtain ⟨u1, _, u3⟩ := h.1.one
        obtain ⟨v1, _, v3⟩ := h.2.one
        simp only [ItemD.cells, List.all_cons, List.all_nil, u1, u3, v1, v3, Bool.and_true, and_self]
      · obtain ⟨p1, e1, e2⟩ := copy_words (ext := ext) (hl' z hz).1 (bulk_in ha hz (p := z.pats) (by simp [ItemD.cells]) hbi).1
        obtain ⟨p2, e3, e4⟩ := copy_kids ih (hl' z hz).2 (bulk_in ha hz (p := z.body) (by simp [ItemD.cells]) hbi).1
        obtain ⟨m1, rfl⟩ := e2.sl
        obtain ⟨m2, rfl⟩ := e4.sl
        exact ⟨⟨slP 56 WordD.cells m1, slP 28 NodeD.cells m2⟩, f96 z m1 m2 e1 e3, e2, e4⟩
    obtain ⟨ma, rfl⟩ := a2.sl
    obtain ⟨mw, rfl⟩ := w2.sl
    obtain ⟨mr, rfl⟩ := r2.sl
    obtain ⟨mk, rfl⟩ := k2.sl
    obtain ⟨mi, rfl⟩ := i2.sl
    exact ⟨_, f59 x ma mw mr mk mi a1 w1 r1 k1 i1, ⟨rfl, rfl, rfl, rfl⟩, a2, w2, r2, k2, i2⟩
end Go.Proofs.YtdkcfccepjimbaaGreatDoor

namespace Go.Proofs.YtdkcfccepjimbaaGreatDoor
open Go Go.EvL Go.PE
variable {ext : PCallF}
/-! the reference's Same answers true at copies -/
theorem allB_true (k i : Nat) : allB (fun _ => true) i k = true := by
  induction k generalizing i with
  | zero => rfl
  | succ k ih => simp [allB, ih]
theorem same_parts : ∀ (d : Nat) (a b : PV), PEqv d a b → ∀ s, pcall Tryz.prog Γ ext 87 [a, b] s = some (.sc (.bool true), s) := by
  intro d
  induction d with
  | zero => intro a b h; cases h
  | succ d ih =>
    rintro a b ⟨l, m, rfl, rfl, hlm, hbig, hq⟩ s
    have h := ref_func8 (P := Tryz.prog) (Γ := Γ) (ext := ext) (e := 63) (c := PartD.cells) hbig (r := fun _ => true) (l := l) (m := m) (G := 87) (nt := 61) (inner := inner87) (by rw [← is87]; rfl) (by omega) (fun i x y h1 h2 f s hin => by
      obtain ⟨⟨e1, e2, e3, e4⟩, e5⟩ := hq i x y h1 h2
      have h := in87 (ext := ext) x y e5.one.1 e5.one.2.1 true (ih _ _ e5) h1 h2 f s hin
      have he : x.eqB y = true := by simp [PartD.eqB, e1, e2, e3, e4]
      rw [he] at h
      exact h) s
    rw [h, hlm, beq_self_eq_true, allB_true]
    rfl
theorem ref_true {α : Type} {e : Nat} {c : α → List PV} {Q : α → α → Prop} {inner : PCode} {H nt : Nat} (hH : Γ H = some (refF6 nt inner)) (hnt : 2 ≤ nt) {a b : PV} (h : LEqv e c Q a b) (hin : ∀ x y, Q x y → InnerOK Tryz.prog Γ ext e c inner x y true) (s : PS) : pcall Tryz.prog Γ ext H [a, b] s = some (.sc (.bool true), s) := by
  obtain ⟨l, m, rfl, rfl, hlm, hbig, hq⟩ := h
  have h := ref_func6 (P := Tryz.prog) (Γ := Γ) (ext := ext) (e := e) (c := c) hbig (r := fun _ => true) (l := l) (m := m) hH hnt (fun i x y h1 h2 f s hi => hin x y (hq i x y h1 h2) l m i h1 h2 f s hi) s
  rw [h, hlm, beq_self_eq_true, allB_true]
  rfl
theorem same_words {D : Nat} {a b : PV} (h : LEqv 56 WordD.cells (WEqv D) a b) (s : PS) : pcall Tryz.prog Γ ext 55 [a, b] s = some (.sc (.bool true), s) :=
  ref_true g55 (by omega) h (fun x y hq => in55 x y true (same_parts D _ _ hq.2)) s
theorem same_assigns {D : Nat} {a b : PV} (h : LEqv 58 AssignD.cells (AEqv D) a b) (s : PS) : pcall Tryz.prog Γ ext 54 [a, b] s = some (.sc (.bool true), s) :=
  ref_true g54 (by omega) h (fun x y hq => by
    have h := in54 (ext := ext) x y true (same_parts D _ _ hq.2)
    rw [hq.1.2.1, beq_self_eq_true] at h
    exact h) s
theorem same_redirs {D : Nat} {a b : PV} (h : LEqv 70 RedirD.cells (REqv D) a b) (s : PS) : pcall Tryz.prog Γ ext 56 [a, b] s = some (.sc (.bool true), s) :=
  ref_true g56 (by omega) h (fun x y hq => by
    have h := in56 (ext := ext) x y true (same_parts D _ _ hq.2)
    have he : x.eqB y true = true := by simp [RedirD.eqB, hq.1.2.1, hq.1.2.2.1]
    rw [he] at h
    exact h) s
theorem same_node {D : Nat} : ∀ (d : Nat) (y x : NodeD), NEqv D d y x → ∀ s, pcall Tryz.prog Γ ext 21 [.agg y.cells, .agg x.cells] s = some (.sc (.bool true), s) := by
  intro d
  induction d with
  | zero => intro y x h; cases h
  | succ d ih =>
    rintro y x ⟨⟨e1, e2, e3, e4⟩, h1, h2, h3, h4, h5⟩ s
    have kids : ∀ {a b : PV}, LEqv 28 NodeD.cells (NEqv D d) a b → ∀ s, pcall Tryz.prog Γ ext 57 [a, b] s = some (.sc (.bool true), s) := fun h s =>
      ref_true g57 (by omega) h (fun x y hq => in57 x y true (ih _ _ hq)) s
    have items : ∀ s, pcall Tryz.prog Γ ext 58 [y.items, x.items] s = some (.sc (.bool true), s) := fun s =>
      ref_true g58 (by omega) h5 (fun x y hq => in58 x y true true (same_words hq.1) (kids hq.2)) s
    rw [f21 y x true true true true true (same_assigns h1) (same_words h2) (same_redirs h3) (kids h4) items s]
    simp [eqN, e1, e3, e4]
end Go.Proofs.YtdkcfccepjimbaaGreatDoor
