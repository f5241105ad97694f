/- The plain law: lists of variables. No statement is proved here. -/
import Derived.Test.YtdifffdfiimlpaaGreatDoorEnFD
import Derived.Maps.Views
set_option linter.all false
/-! the plain law of New: no program -/
namespace Go.Proofs.YtdifffdfiimlpaaGreatDoor
open Go Go.Maps Go.Mir
/-- a variable: name, value, export -/
abbrev NV := List UInt8 × List UInt8 × Bool
def encV (x : NV) : List Value := [.string ⟨x.1.toArray⟩, .string ⟨x.2.1.toArray⟩, .bool true, .bool x.2.2, .bool false]
def flatV (l : List NV) : List Value := l.flatMap encV
theorem flatV_length (l : List NV) : (flatV l).length = l.length * 5 := by
  induction l with
  | nil => rfl
  | cons x l ih => simp only [flatV, List.flatMap_cons, List.length_append, List.length_cons] at ih ⊢; rw [ih]; simp [encV]; omega
/-- what is still to be appended by put: v, whether it was laid already, what of the list is left -/
def putR (v : NV) : Bool → List NV → List NV
  | true, [] => []
  | false, [] => [v]
  | d, x :: l => (if d = false ∧ v.1 ≤ x.1 then [v] else []) ++ ((if x.1 = v.1 then [] else [x]) ++ putR v (d || decide (v.1 ≤ x.1)) l)
def SortedV (l : List NV) : Prop := l.Pairwise fun x y => x.1 < y.1
theorem putR_true (v : NV) : ∀ l : List NV, (∀ x ∈ l, v.1 < x.1) → putR v true l = l
  | [], _ => rfl
  | x :: l, h => by
    have h1 : x.1 ≠ v.1 := fun e => List.lt_irrefl _ (e ▸ h x (List.mem_cons_self ..))
    unfold putR
    simp only [Bool.true_eq_false, false_and, if_false, if_neg h1, List.nil_append, Bool.true_or]
    rw [putR_true v l (fun y hy => h y (List.mem_cons_of_mem _ hy))]
    rfl
theorem putR_mem (v x : NV) : ∀ (d : Bool) (l : List NV), x ∈ putR v d l → x = v ∨ x ∈ l
  | true, [], h => absurd h (by simp [putR])
  | false, [], h => .inl (by simpa [putR] using h)
  | d, y :: l, h => by
    rw [putR] at h
    rw [List.mem_append, List.mem_append] at h
    rcases h with h | h | h
    · split at h
      · exact .inl (by simpa using h)
      · cases h
    · split at h
      · cases h
      · exact .inr (by simp at h; simp [h])
    · exact (putR_mem v x _ l h).imp_right (List.mem_cons_of_mem _)
theorem putR_true_len (v : NV) : ∀ l : List NV, (putR v true l).length ≤ l.length
  | [] => by simp [putR]
  | x :: l => by
    rw [putR, if_neg (fun h => absurd h.1 (by simp)), Bool.true_or]
    have := putR_true_len v l
    split <;> simp <;> omega
theorem putR_len (v : NV) : ∀ (d : Bool) (l : List NV), (putR v d l).length ≤ l.length + 1
  | true, [] => by simp [putR]
  | false, [] => by simp [putR]
  | true, x :: l => by
    rw [putR, if_neg (fun h => absurd h.1 (by simp)), Bool.true_or]
    have := putR_len v true l
    split <;> simp <;> omega
  | false, x :: l => by
    rw [putR, Bool.false_or]
    by_cases h : v.1 ≤ x.1
    · have := putR_true_len v l
      rw [if_pos ⟨rfl, h⟩, decide_eq_true h]
      split <;> simp <;> omega
    · have := putR_len v false l
      rw [if_neg (fun hh => h hh.2), decide_eq_false h]
      split <;> simp <;> omega
theorem lt_of_nle {a b : List UInt8} (h : ¬ b ≤ a) : a < b := List.not_le.1 h
theorem put_sorted (v : NV) : ∀ l : List NV, SortedV l → SortedV (putR v false l)
  | [], _ => List.pairwise_singleton _ _
  | x :: l, h => by
    obtain ⟨h1, h2⟩ := List.pairwise_cons.1 h
    unfold putR
    by_cases e : x.1 = v.1
    · have hv : v.1 ≤ x.1 := by rw [e]; exact List.le_refl _
      simp only [hv, and_self, if_true, if_pos e, decide_true, Bool.or_true, List.nil_append, List.singleton_append]
      rw [putR_true v l (fun y hy => e ▸ h1 y hy)]
      exact List.pairwise_cons.2 ⟨fun y hy => e ▸ h1 y hy, h2⟩
    · by_cases hv : v.1 ≤ x.1
      · have hlt : v.1 < x.1 := by
          rcases List.le_iff_lt_or_eq.1 hv with h | h
          · exact h
          · exact absurd h.symm e
        simp only [hv, and_self, if_true, if_neg e, decide_true, Bool.or_true, List.singleton_append]
        rw [putR_true v l (fun y hy => List.lt_trans hlt (h1 y hy))]
        refine List.pairwise_cons.2 ⟨fun y hy => ?_, h⟩
        rcases List.mem_cons.1 hy with rfl | hy
        · exact hlt
        · exact List.lt_trans hlt (h1 y hy)
      · simp only [hv, and_false, if_false, if_neg e, decide_false, Bool.or_false, List.nil_append, List.singleton_append]
        refine List.pairwise_cons.2 ⟨fun y hy => ?_, put_sorted v l h2⟩
        rcases putR_mem v y _ l hy with rfl | hy
        · exact lt_of_nle hv
        · exact h1 y hy
theorem filter_self_of {α : Type} {p : α → Bool} : ∀ {l : List α}, (∀ x ∈ l, p x = true) → l.filter p = l := fun h => List.filter_eq_self.2 h
theorem put_perm (v : NV) : ∀ l : List NV, SortedV l → (putR v false l).Perm (v :: l.filter fun x => !(x.1 == v.1))
  | [], _ => List.Perm.refl _
  | x :: l, h => by
    obtain ⟨h1, h2⟩ := List.pairwise_cons.1 h
    unfold putR
    by_cases e : x.1 = v.1
    · have hv : v.1 ≤ x.1 := by rw [e]; exact List.le_refl _
      have hf : (l.filter fun x => !(x.1 == v.1)) = l := filter_self_of fun y hy => by
        have : y.1 ≠ v.1 := fun e2 => List.lt_irrefl _ (e2 ▸ e ▸ h1 y hy)
        simpa using this
      simp only [hv, and_self, if_true, if_pos e, decide_true, Bool.or_true, List.nil_append, List.singleton_append]
      rw [putR_true v l (fun y hy => e ▸ h1 y hy), List.filter_cons_of_neg (by simpa using e), hf]
    · by_cases hv : v.1 ≤ x.1
      · have hlt : v.1 < x.1 := by
          rcases List.le_iff_lt_or_eq.1 hv with h | h
          · exact h
          · exact absurd h.symm e
        have hf : (l.filter fun x => !(x.1 == v.1)) = l := filter_self_of fun y hy => by
          have : y.1 ≠ v.1 := fun e2 => List.lt_irrefl _ (e2 ▸ List.lt_trans hlt (h1 y hy))
          simpa using this
        simp only [hv, and_self, if_true, if_neg e, decide_true, Bool.or_true, List.singleton_append]
        rw [putR_true v l (fun y hy => List.lt_trans hlt (h1 y hy)), List.filter_cons_of_pos (by simpa using e), hf]
      · simp only [hv, and_false, if_false, if_neg e, decide_false, Bool.or_false, List.nil_append, List.singleton_append]
        rw [List.filter_cons_of_pos (by simpa using e)]
        exact ((put_perm v l h2).cons x).trans (List.Perm.swap _ _ _)
/-! the map -/
noncomputable def ent (x : NV) : Lit × DataW Unit := (.string x.1, .lit (.string x.2.1))
theorem before_lt : ∀ a b : List UInt8, bytesBefore a b = decide (a < b)
  | [], [] => rfl
  | [], _ :: _ => rfl
  | _ :: _, [] => rfl
  | x :: a, y :: b => by
    unfold bytesBefore
    rw [before_lt a b]
    by_cases h1 : x < y
    · have : (x :: a) < (y :: b) := List.cons_lt_cons_iff.2 (.inl h1)
      simp [h1, this]
    · by_cases h2 : x = y
      · subst h2
        have : ((x :: a) < (x :: b)) ↔ a < b := by rw [List.cons_lt_cons_iff]; simp
        simp [this]
      · have : ¬ (x :: a) < (y :: b) := fun h => by
          rcases List.cons_lt_cons_iff.1 h with h | h
          · exact h1 h
          · exact h2 h.1
        simp [h1, h2, this]
theorem sameK (a b : List UInt8) : (Lit.string a).sameKey (.string b) = (a == b) := rfl
theorem insert_put (v : NV) : ∀ l : List NV, SortedV l → DataW.insert (ent v) ((l.map ent).filter fun p => !p.1.sameKey (.string v.1)) = (putR v false l).map ent
  | [], _ => rfl
  | x :: l, h => by
    obtain ⟨h1, h2⟩ := List.pairwise_cons.1 h
    have keep : ∀ l : List NV, (∀ y ∈ l, v.1 < y.1) → ((l.map ent).filter fun p => !p.1.sameKey (.string v.1)) = l.map ent := fun l hl => filter_self_of fun p hp => by
      obtain ⟨y, hy, rfl⟩ := List.mem_map.1 hp
      have : y.1 ≠ v.1 := fun e2 => List.lt_irrefl _ (e2 ▸ hl y hy)
      simpa [ent, sameK] using this
    have front : ∀ l : List NV, (∀ y ∈ l, v.1 < y.1) → DataW.insert (ent v) (l.map ent) = ent v :: l.map ent := fun l hl => by
      cases l with
      | nil => rfl
      | cons y l =>
        have hb : (ent v).1.before (ent y).1 = true := by
          show bytesBefore v.1 y.1 = true
          rw [before_lt]; exact decide_eq_true (hl y (List.mem_cons_self ..))
        simp only [List.map_cons, DataW.insert, hb, if_true]
    unfold putR
    by_cases e : x.1 = v.1
    · have hv : v.1 ≤ x.1 := by rw [e]; exact List.le_refl _
      have hl : ∀ y ∈ l, v.1 < y.1 := fun y hy => e ▸ h1 y hy
      simp only [hv, and_self, if_true, if_pos e, decide_true, Bool.or_true, List.nil_append, List.singleton_append, List.map_cons]
      rw [putR_true v l hl, List.filter_cons_of_neg (by simpa [ent, sameK] using e), keep l hl, front l hl]
    · by_cases hv : v.1 ≤ x.1
      · have hlt : v.1 < x.1 := by
          rcases List.le_iff_lt_or_eq.1 hv with h | h
          · exact h
          · exact absurd h.symm e
        have hl : ∀ y ∈ x :: l, v.1 < y.1 := fun y hy => by
          rcases List.mem_cons.1 hy with rfl | hy
          · exact hlt
          · exact List.lt_trans hlt (h1 y hy)
        rw [keep _ hl, front _ hl]
        simp only [hv, and_self, if_true, if_neg e, decide_true, Bool.or_true, List.singleton_append, List.map_cons]
        rw [putR_true v l (fun y hy => hl y (List.mem_cons_of_mem _ hy))]
      · have hb : (ent v).1.before (ent x).1 = false := by
          show bytesBefore v.1 x.1 = false
          rw [before_lt]; exact decide_eq_false fun hh => hv (List.le_of_lt hh)
        simp only [hv, and_false, if_false, if_neg e, decide_false, Bool.or_false, List.nil_append, List.singleton_append, List.map_cons]
        rw [List.filter_cons_of_pos (by simpa [ent, sameK] using e)]
        simp only [DataW.insert, hb, Bool.false_eq_true, if_false]
        rw [insert_put v l h2]
/-- the variables of an environment, as the reference reads them -/
def refF : List (List UInt8) → List NV → Except Int (List NV)
  | [], l => .ok l
  | t :: ls, l => if (cutN t).2.2 = true ∧ nameB (cutN t).1 = true then (if 4096 < (cutN t).2.1.length then .error 3 else refF ls (putR ((cutN t).1, (cutN t).2.1, true) false l)) else refF ls l
structure GoodV (l : List NV) : Prop where
  s : SortedV l
  n : ∀ x ∈ l, nameB x.1 = true ∧ x.2.1.length ≤ 4096
structure GoodT (l : List NV) : Prop extends GoodV l where
  t : ∀ x ∈ l, x.2.2 = true
theorem GoodV.put {l : List NV} (h : GoodV l) (v : NV) (hn : nameB v.1 = true) (hv : v.2.1.length ≤ 4096) : GoodV (putR v false l) :=
  ⟨put_sorted v l h.s, fun x hx => (putR_mem v x _ l hx).elim (fun e => e ▸ ⟨hn, hv⟩) (h.n x)⟩
theorem refF_good : ∀ (ls : List (List UInt8)) (l r : List NV), GoodT l → refF ls l = .ok r → GoodT r
  | [], l, r, h, e => by injection e with e; exact e ▸ h
  | t :: ls, l, r, h, e => by
    unfold refF at e
    split at e
    · rename_i hc
      split at e
      · cases e
      · rename_i h4
        exact refF_good ls _ r ⟨h.toGoodV.put ((cutN t).1, (cutN t).2.1, true) hc.2 (by simp only; omega), fun x hx => (putR_mem _ x _ l hx).elim (fun e => e ▸ rfl) (h.t x)⟩ e
    · exact refF_good ls l r h e
/-! what New lays beside -/
def sIFS : List UInt8 := [73, 70, 83]
def sOPT : List UInt8 := [79, 80, 84, 73, 78, 68]
def sPWD : List UInt8 := [80, 87, 68]
def own3 : List NV := [(sIFS, [32, 9, 10], false), (sOPT, [49], false), (sPWD, [47], true)]
def keepV (l : List NV) : List NV := l.filter fun x => !(x.1 == sIFS) && !(x.1 == sOPT) && !(x.1 == sPWD)
def put3 (l : List NV) : List NV := putR (sPWD, [47], true) false (putR (sOPT, [49], false) false (putR (sIFS, [32, 9, 10], false) false l))
theorem put3_good {l : List NV} (h : GoodV l) : GoodV (put3 l) :=
  ((h.put _ (by decide +kernel) (by decide)).put _ (by decide +kernel) (by decide)).put _ (by decide +kernel) (by decide)
theorem put3_perm {l : List NV} (h : GoodV l) : (put3 l).Perm (own3 ++ keepV l) := by
  have g1 := h.put (sIFS, [32, 9, 10], false) (by decide +kernel) (by decide)
  have g2 := g1.put (sOPT, [49], false) (by decide +kernel) (by decide)
  have p1 := put_perm (sIFS, [32, 9, 10], false) l h.s
  have p2 := (put_perm (sOPT, [49], false) _ g1.s).trans ((p1.filter _).cons _)
  have p3 := (put_perm (sPWD, [47], true) _ g2.s).trans ((p2.filter _).cons _)
  refine p3.trans ?_
  have e1 : (sOPT == sPWD) = false := by decide
  have e2 : (sIFS == sPWD) = false := by decide
  have e3 : (sIFS == sOPT) = false := by decide
  simp only [List.filter_cons, e1, e2, e3, Bool.not_false, if_true, List.filter_filter]
  have hk : (l.filter fun a => !(a.1 == sPWD) && (!(a.1 == sOPT) && !(a.1 == sIFS))) = keepV l := by
    unfold keepV
    congr 1
    funext a
    cases (a.1 == sIFS) <;> cases (a.1 == sOPT) <;> cases (a.1 == sPWD) <;> rfl
  rw [hk]
  show List.Perm _ ([(sIFS, [32, 9, 10], false), (sOPT, [49], false), (sPWD, [47], true)] ++ keepV l)
  exact (List.Perm.swap _ _ _).trans (((List.Perm.swap _ _ _).cons _).trans ((List.Perm.refl _).trans (List.Perm.swap _ _ _ |>.trans (List.Perm.refl _))))
theorem name_inj : ∀ {a : List NV}, SortedV a → ∀ x ∈ a, ∀ y ∈ a, x.1 = y.1 → x = y
  | [], _, x, hx, _, _, _ => by cases hx
  | z :: a, h, x, hx, y, hy, e => by
    obtain ⟨h1, h2⟩ := List.pairwise_cons.1 h
    rcases List.mem_cons.1 hx with e1 | hx'
    · rcases List.mem_cons.1 hy with e2 | hy'
      · rw [e1, e2]
      · have := h1 y hy'
        rw [← e1, e] at this
        exact absurd this (List.lt_irrefl _)
    · rcases List.mem_cons.1 hy with e2 | hy'
      · have := h1 x hx'
        rw [← e2, e] at this
        exact absurd this (List.lt_irrefl _)
      · exact name_inj h2 x hx' y hy' e
/-- any list that is sorted by name and holds the same is the same -/
theorem sorted_unique {a b : List NV} (ha : SortedV a) (hb : b.Pairwise fun x y => x.1 ≤ y.1) (hp : b.Perm a) : b = a := by
  refine List.Perm.eq_of_pairwise (le := fun x y : NV => x.1 ≤ y.1) (fun x y hx hy h1 h2 => ?_) hb (ha.imp fun h => List.le_of_lt h) hp
  exact name_inj ha x (hp.subset hx) y hy (List.le_antisymm h1 h2)
end Go.Proofs.YtdifffdfiimlpaaGreatDoor
