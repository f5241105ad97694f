/- A run on values, and its soundness. No statement is proved here. -/
import Derived.Test.YtflfflfodghgpaaGreatDoorPeC
import Derived.Test.YtflfflfodghgpaaGreatDoorEvC
set_option linter.unusedSimpArgs false
set_option linter.unusedVariables false
namespace Go.PE
open Go Go.EvL
/-- a tree out of a function -/
noncomputable def trOf {α : Type} (f : Nat → Option α) : Nat → Tr α
  | 0 => .nil
  | n + 1 => match f n with
    | some a => Tr.set a 40 (trOf f n) n
    | none => trOf f n
theorem trOf_get {α : Type} (f : Nat → Option α) (n b : Nat) : (trOf f n).get b = if b < n then f b else none := by
  induction n with
  | zero => simp [trOf, Tr.get_nil]
  | succ n ih =>
    unfold trOf
    cases h : f n with
    | none =>
      simp only
      rw [ih]
      by_cases hb : b = n
      · subst hb; simp [h]
      · by_cases hlt : b < n
        · rw [if_pos hlt, if_pos (by omega)]
        · rw [if_neg hlt, if_neg (by omega)]
    | some a =>
      simp only
      rw [Tr.get_set _ _ _ _ trivial, ih]
      by_cases hb : b = n
      · subst hb; rw [if_pos rfl, if_pos (by omega), h]
      · rw [if_neg hb]
        by_cases hlt : b < n
        · rw [if_pos hlt, if_pos (by omega)]
        · rw [if_neg hlt, if_neg (by omega)]
/-- a part of a block of the world, as the run sees it -/
structure View where
  cells : List Value
  e : Nat
  blk : Nat
  sh : Nat
section
variable (P : Program) (w : World) (H : Nat)
def clsV (b : Nat) : Nat := if b < P.globals.size then b else P.globals.size
theorem clsV_le (b : Nat) : clsV P b ≤ P.globals.size := by unfold clsV; split <;> omega
def objV (V : List View) (b : Nat) : Option AObj :=
  if b ≤ P.globals.size then some (.row [] 0 b 0 false) else (V[b - P.globals.size - 1]?).map fun v => .row v.cells v.e (clsV P v.blk) v.sh true
def inCls (V : List View) (c j : Nat) : Bool := match V[j]? with
  | some v => clsV P v.blk == c
  | none => false
def memV (V : List View) (c : Nat) : List Nat := ((List.range V.length).filter (inCls P V c)).map (· + (P.globals.size + 1))
noncomputable def stV (V : List View) : AS :=
  ⟨trOf (objV P V) (P.globals.size + 1 + V.length), P.globals.size + 1 + V.length, trOf (fun c => some (memV P V c)) (P.globals.size + 1), trOf (fun _ => some H) (P.globals.size + 1), 0, 0⟩
def phiV (V : List View) : Emb := fun b =>
  if b < P.globals.size then some ⟨b, 0, szAt w b, esAt P w b, b, 0⟩ else if b = P.globals.size then none
  else (V[b - P.globals.size - 1]?).map fun v => ⟨v.blk, v.sh, szAt w v.blk - v.sh, P.cellsOf v.e, clsV P v.blk, v.sh⟩
structure VOK (V : List View) (v : View) : Prop where
  row : ∃ C e fz, w.heap[v.blk]? = some (.cells C e fz) ∧ fz.2 ≤ H ∧ v.sh + v.cells.length ≤ C.size ∧ VRels (phiV P w V) v.cells ((C.toList.drop v.sh).take v.cells.length)
variable {P w H}
theorem stV_get {V : List View} {b : Nat} {o : AObj} (h : (stV P H V).heap.get b = some o) :
    (b ≤ P.globals.size ∧ o = .row [] 0 b 0 false) ∨ (P.globals.size < b ∧ ∃ v, V[b - P.globals.size - 1]? = some v ∧ o = .row v.cells v.e (clsV P v.blk) v.sh true) := by
  have h' : (trOf (objV P V) (P.globals.size + 1 + V.length)).get b = some o := h
  rw [trOf_get] at h'
  split at h'
  · unfold objV at h'
    split at h'
    · rename_i hb; injection h' with h'; exact .inl ⟨hb, h'.symm⟩
    · rename_i hb
      rw [Option.map_eq_some_iff] at h'
      obtain ⟨v, h1, h2⟩ := h'
      exact .inr ⟨by omega, v, h1, h2.symm⟩
  · cases h'
theorem stV_view {V : List View} {j : Nat} {v : View} (h : V[j]? = some v) : (stV P H V).heap.get (P.globals.size + 1 + j) = some (.row v.cells v.e (clsV P v.blk) v.sh true) := by
  have hj := (List.getElem?_eq_some_iff.1 h).1
  show (trOf (objV P V) (P.globals.size + 1 + V.length)).get _ = _
  rw [trOf_get, if_pos (by omega)]
  unfold objV
  rw [if_neg (by omega), show P.globals.size + 1 + j - P.globals.size - 1 = j by omega, h]
  rfl
theorem phiV_view {V : List View} {j : Nat} {v : View} (h : V[j]? = some v) : phiV P w V (P.globals.size + 1 + j) = some ⟨v.blk, v.sh, szAt w v.blk - v.sh, P.cellsOf v.e, clsV P v.blk, v.sh⟩ := by
  unfold phiV
  rw [if_neg (by omega), if_neg (by omega), show P.globals.size + 1 + j - P.globals.size - 1 = j by omega, h]
  rfl
theorem phiV_get {V : List View} {b : Nat} {i : Inf} (h : phiV P w V b = some i) :
    (b < P.globals.size ∧ i = ⟨b, 0, szAt w b, esAt P w b, b, 0⟩) ∨ (P.globals.size < b ∧ ∃ v, V[b - P.globals.size - 1]? = some v ∧ i = ⟨v.blk, v.sh, szAt w v.blk - v.sh, P.cellsOf v.e, clsV P v.blk, v.sh⟩) := by
  unfold phiV at h
  split at h
  · rename_i hb; injection h with h; exact .inl ⟨hb, h.symm⟩
  · split at h
    · cases h
    · rename_i h1 h2
      rw [Option.map_eq_some_iff] at h
      obtain ⟨v, h3, h4⟩ := h
      exact .inr ⟨by omega, v, h3, h4.symm⟩
theorem stV_inv (V : List View) : Inv (stV P H V) := by
  refine ⟨fun b o hb => ?_, fun b cells e c st hb => ?_, fun c l x cells e c' st ok hm hx hg => ?_, fun b cells e c st ok hb => ?_, fun c l x hm hx => ?_, fun c l hm => ?_, fun c k hk => ?_⟩
  · show b < P.globals.size + 1 + V.length ∧ clsOf b o < P.globals.size + 1 + V.length
    rcases stV_get hb with ⟨h1, rfl⟩ | ⟨h1, v, h2, rfl⟩
    · exact ⟨by omega, by show b < _; omega⟩
    · have := (List.getElem?_eq_some_iff.1 h2).1
      have := clsV_le P v.blk
      exact ⟨by omega, by show clsV P v.blk < _; omega⟩
  · rcases stV_get hb with ⟨_, h2⟩ | ⟨h1, v, h2, h3⟩
    · cases h2
    · injection h3 with _ _ h3
      subst h3
      have hc := clsV_le P v.blk
      have hj := (List.getElem?_eq_some_iff.1 h2).1
      show b ∈ ((trOf (fun c => some (memV P V c)) (P.globals.size + 1)).get (clsV P v.blk)).getD [clsV P v.blk]
      rw [trOf_get, if_pos (by omega)]
      show b ∈ memV P V (clsV P v.blk)
      unfold memV
      rw [List.mem_map]
      refine ⟨b - P.globals.size - 1, List.mem_filter.2 ⟨List.mem_range.2 hj, ?_⟩, by omega⟩
      unfold inCls
      rw [h2]
      simp
  · have hm' : (trOf (fun c => some (memV P V c)) (P.globals.size + 1)).get c = some l := hm
    rw [trOf_get] at hm'
    split at hm'
    · injection hm' with hm'
      subst hm'
      unfold memV at hx
      rw [List.mem_map] at hx
      obtain ⟨j, hj, rfl⟩ := hx
      have hj2 := (List.mem_filter.1 hj).2
      unfold inCls at hj2
      split at hj2
      · rename_i v hv
        rw [show j + (P.globals.size + 1) = P.globals.size + 1 + j by omega, stV_view hv] at hg
        injection hg with hg
        injection hg with _ _ hg
        rw [← hg]
        simpa using hj2
      · cases hj2
    · cases hm'
  · have hc : c ≤ P.globals.size := by
      rcases stV_get hb with ⟨h1, h2⟩ | ⟨h1, v, h2, h3⟩
      · injection h2 with _ _ h2; omega
      · injection h3 with _ _ h3; rw [h3]; exact clsV_le P v.blk
    refine ⟨[], 0, 0, false, ?_⟩
    show (trOf (objV P V) (P.globals.size + 1 + V.length)).get c = _
    rw [trOf_get, if_pos (by omega)]
    unfold objV
    rw [if_pos hc]
  · have hm' : (trOf (fun c => some (memV P V c)) (P.globals.size + 1)).get c = some l := hm
    rw [trOf_get] at hm'
    split at hm'
    · injection hm' with hm'
      subst hm'
      unfold memV at hx
      rw [List.mem_map] at hx
      obtain ⟨j, hj, rfl⟩ := hx
      have := List.mem_range.1 (List.mem_filter.1 hj).1
      show _ < P.globals.size + 1 + V.length
      omega
    · cases hm'
  · have hm' : (trOf (fun c => some (memV P V c)) (P.globals.size + 1)).get c = some l := hm
    rw [trOf_get] at hm'
    show c < P.globals.size + 1 + V.length
    split at hm'
    · omega
    · cases hm'
  · have hm' : (trOf (fun _ => some H) (P.globals.size + 1)).get c = some k := hk
    rw [trOf_get] at hm'
    show c < P.globals.size + 1 + V.length
    split at hm'
    · omega
    · cases hm'
theorem szAt_of {b : Nat} {C : Array Value} {e : Nat} {fz : Nat × Nat} (h : w.heap[b]? = some (.cells C e fz)) : szAt w b = C.size := by unfold szAt; rw [h]
theorem lt_of_heap {b : Nat} {o : Obj} (h : w.heap[b]? = some o) : b < w.heap.size := (Array.getElem?_eq_some_iff.1 h).1
theorem stV_rel {V : List View} (hG : P.globals.size ≤ w.heap.size) (hH : 1180591620717411303424 ≤ H) (hV : ∀ v ∈ V, VOK P w H V v) (T : Nat → Prop) : Rel P (phiV P w V) T (stV P H V) w := by
  have hfz : ∀ c, c ≤ P.globals.size → (stV P H V).fz.get c = some H := fun c hc => by
    show (trOf (fun _ => some H) (P.globals.size + 1)).get c = _
    rw [trOf_get, if_pos (by omega)]
  refine ⟨fun b i hb => ?_, fun b₁ b₂ i₁ i₂ h₁ h₂ he => ?_, fun b o hb hl hT => ?_, fun _ _ _ => trivial, fun g hg => ?_, fun b i hb hc => ?_⟩
  · rcases phiV_get hb with ⟨h1, rfl⟩ | ⟨h1, v, h2, rfl⟩
    · show b < _; omega
    · obtain ⟨C, e, fz, h3, _⟩ := (hV v (List.mem_of_getElem? h2)).row
      exact lt_of_heap h3
  · have key : ∀ b i, phiV P w V b = some i → i.cls = clsV P i.blk ∧ i.sh = i.st := fun b i hb => by
      rcases phiV_get hb with ⟨h1, rfl⟩ | ⟨h1, v, h2, rfl⟩
      · exact ⟨by show b = clsV P b; unfold clsV; rw [if_pos h1], rfl⟩
      · exact ⟨rfl, rfl⟩
    obtain ⟨k1, k2⟩ := key _ _ h₁
    obtain ⟨k3, k4⟩ := key _ _ h₂
    exact ⟨by rw [k1, k3, he], by omega⟩
  · rcases stV_get hb with ⟨_, rfl⟩ | ⟨h1, v, h2, rfl⟩
    · cases hl
    · obtain ⟨C, e', fz, h3, h4, h5, h6⟩ := (hV v (List.mem_of_getElem? h2)).row
      have hb' : b = P.globals.size + 1 + (b - P.globals.size - 1) := by omega
      refine ⟨⟨v.blk, v.sh, szAt w v.blk - v.sh, P.cellsOf v.e, clsV P v.blk, v.sh⟩, _, ?_, h3, ?_⟩
      · rw [hb']
        exact phiV_view h2
      · have hf := hfz _ (clsV_le P v.blk)
        refine .row _ _ _ _ _ _ rfl rfl rfl ?_ h5 h6 (.inr ⟨H, hf, by show fz.2 + v.sh ≤ H + v.sh; omega⟩) e' (.inr ⟨H, hf, hH⟩)
        show v.sh + (szAt w v.blk - v.sh) = C.size
        rw [szAt_of h3]
        omega
  · exact ⟨_, by unfold phiV; rw [if_pos hg], rfl, rfl⟩
  · rcases phiV_get hb with ⟨h1, rfl⟩ | ⟨h1, v, h2, rfl⟩
    · rfl
    · have hc' : clsV P v.blk = b := hc
      have := clsV_le P v.blk
      omega
theorem phiV_ext (V M : List View) : Ext (phiV P w V) (phiV P w (V ++ M)) := by
  intro b i hb
  rcases phiV_get hb with ⟨h1, rfl⟩ | ⟨h1, v, h2, rfl⟩
  · unfold phiV; rw [if_pos h1]
  · have hj := (List.getElem?_eq_some_iff.1 h2).1
    have h3 : (V ++ M)[b - P.globals.size - 1]? = some v := by rw [List.getElem?_append_left hj]; exact h2
    have hb' : b = P.globals.size + 1 + (b - P.globals.size - 1) := by omega
    rw [hb']
    exact phiV_view h3
theorem stV_fw (V M : List View) (β : Nat → Nat) : Fw (stV P H V) (stV P H (V ++ M)) β β 0 0 0 where
  le := Nat.le_refl _
  next := by show P.globals.size + 1 + V.length ≤ P.globals.size + 1 + (V ++ M).length; rw [List.length_append]; omega
  eq := fun k hk => by omega
  new := fun k h1 h2 => by omega
  prot := fun b cells e c st hb _ => by
    rcases stV_get hb with ⟨_, h2⟩ | ⟨h1, v, h2, h3⟩
    · cases h2
    · have hj := (List.getElem?_eq_some_iff.1 h2).1
      have h4 : (V ++ M)[b - P.globals.size - 1]? = some v := by rw [List.getElem?_append_left hj]; exact h2
      have hb' : b = P.globals.size + 1 + (b - P.globals.size - 1) := by omega
      rw [hb', stV_view h4, h3]
  keep := fun b cells e st ok k hk => by omega
  w := fun c hc hw => by
    have : (0 : Nat).testBit c = true := hw
    rw [Nat.zero_testBit] at this
    cases this
theorem VOK.mono {V : List View} (M : List View) {v : View} (h : VOK P w H V v) : VOK P w H (V ++ M) v := by
  obtain ⟨C, e, fz, h1, h2, h3, h4⟩ := h.row
  exact ⟨C, e, fz, h1, h2, h3, h4.mono (phiV_ext V M)⟩
/-- what has been opened -/
structure Opn (P : Program) (w : World) (H : Nat) (V : List View) (vs cs : List Value) (ps : List PV) : Prop where
  ok : ∀ v ∈ V, VOK P w H V v
  vr : VRels (phiV P w V) vs cs
  rc : Cs (stV P H V) (fun _ => 0) 0 vs ps
theorem Cs.append {A : AS} {β : Nat → Nat} {n : Nat} : ∀ {l l' : List Value} {r r' : List PV}, Cs A β n l r → Cs A β n l' r' → Cs A β n (l ++ l') (r ++ r') := by
  intro l
  induction l with
  | nil => intro l' r r' h h'; cases h; exact h'
  | cons v l ih => intro l' r r' h h'; cases h with | cons _ p _ r h hs => exact .cons _ _ _ _ h (ih hs h')
theorem Opn.nil {V : List View} (h : ∀ v ∈ V, VOK P w H V v) : Opn P w H V [] [] [] := ⟨h, .nil, .nil⟩
end
def tilesB (P : Program) : List Field → Nat → Nat → Bool
  | [], k, m => Nat.beq k m
  | f :: l, k, m => Nat.beq f.offset k && (Nat.ble (k + P.cellsOf f.type) m && tilesB P l (k + P.cellsOf f.type) m)
def tyB (P : Program) (S : List TypeId) (t : TypeId) : Bool := match P.underlying t with
  | some .bool => true
  | some (.int _) => true
  | some .string => true
  | some (.slice e) => S.contains e && Nat.ble 1 (P.cellsOf e)
  | some (.struct fs) => fs.toList.all (fun f => S.contains f.type) && tilesB P fs.toList 0 (P.cellsOf t)
  | _ => false
/-- a value of a type, nested less than n deep -/
def OfT (P : Program) : Nat → TypeId → List PV → Prop
  | 0, _, _ => False
  | n + 1, t, ps => match P.underlying t with
    | some .bool => ∃ b, ps = [.sc (.bool b)]
    | some (.int k) => ∃ z, ps = [.sc (.int k z)] ∧ (Lit.int k z).wf = true
    | some .string => ∃ s : ByteArray, ps = [.sc (.string s)] ∧ s.size ≤ maxLen
    | some (.slice e) => ps = [.sc (.slice none 0 0)] ∨ ∃ ls : List (List PV), ps = [.lit e ls.length ls.flatten] ∧ ls.length ≤ maxLen ∧ ∀ x ∈ ls, OfT P n e x
    | some (.struct fs) => ∃ ls : List (List PV), ps = ls.flatten ∧ ls.length = fs.toList.length ∧ ∀ (j : Nat) f x, fs.toList[j]? = some f → ls[j]? = some x → OfT P n f.type x
    | _ => False
/-- a measure of what is read -/
structure BulkFn (H : Type) where
  b : DataW H → Nat
  bs : List (DataW H) → Nat
  nil : bs [] = 0
  cons : ∀ d l, bs (d :: l) = b d + bs l
  slice : ∀ l r, b (.slice l r) = bs l + bs r + 1
  agg : ∀ l, b (.agg l) = bs l + 1
  pos : ∀ d, 1 ≤ b d
  str : ∀ l, b (.lit (.string l)) = l.length + 1
end Go.PE


namespace Go.PE
open Go Go.EvL
section
variable {P : Program} {w : World} {H : Nat} {D : Type} {enc : TypeId × Value → D}
theorem mapM_some {α β : Type} (f : α → Option β) : ∀ (l : List α) (r : List β), l.mapM f = some r → r.length = l.length ∧ ∀ (j : Nat) (a : α) (b : β), l[j]? = some a → r[j]? = some b → f a = some b := by
  intro l
  induction l with
  | nil => intro r h; simp at h; subst h; exact ⟨rfl, fun j a b h => by simp at h⟩
  | cons a l ih =>
    intro r h
    rw [List.mapM_cons] at h
    cases h1 : f a with
    | none => rw [h1] at h; cases h
    | some b =>
      rw [h1] at h
      cases h2 : l.mapM f with
      | none => rw [h2] at h; cases h
      | some r' =>
        rw [h2] at h
        have h' : some (b :: r') = some r := h
        injection h' with h'; subst h'
        obtain ⟨e1, e2⟩ := ih r' h2
        refine ⟨by simp [e1], fun j x y hx hy => ?_⟩
        cases j with
        | zero => simp at hx hy; subst hx; subst hy; exact h1
        | succ j => exact e2 j x y (by simpa using hx) (by simpa using hy)
theorem cells_row {a : Addr} {n : Nat} {r : List Value} (h : w.cells? 0 a n = some r) (hn : 0 < n) :
    ∃ C e fz, a.spot = none ∧ w.heap[a.block]? = some (.cells C e fz) ∧ a.off + n ≤ C.size ∧ r = (C.toList.drop a.off).take n := by
  unfold World.cells? at h
  rw [if_pos (Nat.zero_le _)] at h
  obtain ⟨h1, h2⟩ := mapM_some _ _ _ h
  rw [List.length_range] at h1
  have hc : ∀ i, i < n → ∃ v, r[i]? = some v ∧ w.cell? (a.add i) = some v := fun i hi =>
    ⟨r[i]'(by omega), List.getElem?_eq_getElem (by omega), h2 i i _ (by simp [hi]) (List.getElem?_eq_getElem (by omega))⟩
  obtain ⟨v0, _, hv0⟩ := hc 0 hn
  have e0 : a.add 0 = a := by simp [Addr.add]
  rw [e0] at hv0
  unfold World.cell? at hv0
  split at hv0
  · rename_i C e fz hh
    split at hv0
    · cases hv0
    · rename_i hs
      obtain ⟨g, o, sp⟩ := a
      have hsp : sp = none := by simpa using hs
      subst hsp
      have hcell : ∀ i, i < n → r[i]? = C[o + i]? ∧ o + i < C.size := fun i hi => by
        obtain ⟨v, k1, k2⟩ := hc i hi
        rw [add_addr] at k2
        unfold World.cell? at k2
        rw [show w.heap[(⟨g, o + i, none⟩ : Addr).block]? = some (.cells C e fz) from hh] at k2
        have k3 : C[o + i]? = some v := k2
        exact ⟨by rw [k1, k3], (Array.getElem?_eq_some_iff.1 k3).1⟩
      refine ⟨C, e, fz, rfl, hh, by have := (hcell (n - 1) (by omega)).2; show o + n ≤ _; omega, ?_⟩
      apply List.ext_getElem?
      intro i
      rw [List.getElem?_take, List.getElem?_drop]
      split
      · rename_i hi
        rw [(hcell i hi).1, Array.getElem?_toList]
      · rw [List.getElem?_eq_none (by omega)]
  · cases hv0
/-- values that stand one behind another -/
theorem open_list (S : List TypeId) (B : BulkFn D) (fuel : Nat) (IH : ∀ t cs d ps, S.contains t = true → DataW.trod enc P w 0 (fun _ => true) true fuel t cs = some (d, ps) → ∀ V, (∀ v ∈ V, VOK P w H V v) → ∃ M vs pvs, Opn P w H (V ++ M) vs cs pvs ∧ OfT P fuel t pvs ∧ bulks pvs ≤ B.b d) :
    ∀ (L : List (TypeId × List Value × DataW D × List MemPlace)), (∀ y ∈ L, S.contains y.1 = true ∧ DataW.trod enc P w 0 (fun _ => true) true fuel y.1 y.2.1 = some y.2.2) → ∀ V, (∀ v ∈ V, VOK P w H V v) →
      ∃ (M : List View) (vs : List Value) (ls : List (List PV)), Opn P w H (V ++ M) vs (L.flatMap (·.2.1)) ls.flatten ∧ ls.length = L.length ∧ (∀ (j : Nat) y x, L[j]? = some y → ls[j]? = some x → OfT P fuel y.1 x) ∧ bulks ls.flatten ≤ B.bs (L.map (·.2.2.1)) := by
  intro L
  induction L with
  | nil => intro _ V hV; exact ⟨[], [], [], by rw [List.append_nil]; exact .nil hV, rfl, fun j y x h => by simp at h, by simp [bulks_nil]⟩
  | cons y L ih =>
    intro hL V hV
    obtain ⟨h1, h2⟩ := hL y List.mem_cons_self
    obtain ⟨M, vs, pvs, o1, t1, b1⟩ := IH y.1 y.2.1 y.2.2.1 y.2.2.2 h1 h2 V hV
    obtain ⟨M', vs', ls, o2, l2, t2, b2⟩ := ih (fun z hz => hL z (List.mem_cons_of_mem _ hz)) (V ++ M) o1.ok
    refine ⟨M ++ M', vs ++ vs', pvs :: ls, ?_, by simp [l2], fun j z x hz hx => ?_, ?_⟩
    · rw [← List.append_assoc, List.flatMap_cons, List.flatten_cons]
      exact ⟨o2.ok, VRels.append (VR.mono (phiV_ext _ _) o1.vr) o2.vr, Cs.append (o1.rc.mono (stV_fw _ _ _)) o2.rc⟩
    · cases j with
      | zero => simp at hz hx; subst hz; subst hx; exact t1
      | succ j => exact t2 j z x (by simpa using hz) (by simpa using hx)
    · rw [List.flatten_cons, bulks_app, List.map_cons, B.cons]; omega
theorem tiles_flat {cs : List Value} : ∀ (fs : List Field) (k m : Nat), tilesB P fs k m = true → cs.length = m → (fs.flatMap fun f => (cs.drop f.offset).take (P.cellsOf f.type)) = cs.drop k := by
  intro fs
  induction fs with
  | nil =>
    intro k m h hm
    have : k = m := Nat.eq_of_beq_eq_true h
    rw [List.flatMap_nil, List.drop_of_length_le (by omega)]
  | cons f l ih =>
    intro k m h hm
    simp only [tilesB, Bool.and_eq_true] at h
    obtain ⟨h1, h2, h3⟩ := h
    have h1 := Nat.eq_of_beq_eq_true h1
    have h2 := Nat.le_of_ble_eq_true h2
    rw [List.flatMap_cons, ih _ _ h3 hm, h1, ← List.drop_drop, List.take_append_drop]
theorem range_flat {C : List Value} {es : Nat} : ∀ (n o : Nat), ((List.range n).flatMap fun i => (C.drop (o + i * es)).take es) = (C.drop o).take (n * es) := by
  intro n
  induction n with
  | zero => intro o; simp
  | succ n ih =>
    intro o
    rw [List.range_succ, List.flatMap_append, ih, List.flatMap_cons, List.flatMap_nil, List.append_nil, Nat.succ_mul, List.take_add, List.drop_drop]
theorem inv_bool {fuel : Nat} {t : TypeId} {cs : List Value} {x : DataW D × List MemPlace} (hu : P.underlying t = some .bool) (h : DataW.trod enc P w 0 (fun _ => true) true (fuel + 1) t cs = some x) : ∃ b, cs = [.bool b] := by
  unfold DataW.trod at h
  rw [hu] at h
  split at h <;> simp_all
theorem inv_int {fuel : Nat} {t : TypeId} {cs : List Value} {k : IntKind} {x : DataW D × List MemPlace} (hu : P.underlying t = some (.int k)) (h : DataW.trod enc P w 0 (fun _ => true) true (fuel + 1) t cs = some x) : ∃ z, cs = [.int k z] ∧ (Lit.int k z).wf = true := by
  unfold DataW.trod at h
  rw [hu] at h
  split at h <;> simp_all
theorem inv_string {fuel : Nat} {t : TypeId} {cs : List Value} {x : DataW D × List MemPlace} (hu : P.underlying t = some .string) (h : DataW.trod enc P w 0 (fun _ => true) true (fuel + 1) t cs = some x) : ∃ s : ByteArray, cs = [.string s] ∧ s.size ≤ maxLen ∧ x.1 = .lit (.string s.data.toList) := by
  unfold DataW.trod at h
  rw [hu] at h
  split at h <;> simp_all
  rw [← h.2]
theorem inv_struct {fuel : Nat} {t : TypeId} {cs : List Value} {fs : Array Field} {x : DataW D × List MemPlace} (hu : P.underlying t = some (.struct fs)) (h : DataW.trod enc P w 0 (fun _ => true) true (fuel + 1) t cs = some x) :
    cs.length = P.cellsOf t ∧ ∃ xs, (fs.toList.mapM fun f => DataW.trod enc P w 0 (fun _ => true) true fuel f.type ((cs.drop f.offset).take (P.cellsOf f.type))) = some xs ∧ x.1 = .agg (xs.map (·.1)) := by
  unfold DataW.trod at h
  rw [hu] at h
  split at h <;> simp_all
  obtain ⟨_, xs, h1, h2⟩ := h
  exact ⟨xs, h1, by rw [← h2]⟩
theorem inv_slice {fuel : Nat} {t e : TypeId} {cs : List Value} {x : DataW D × List MemPlace} (hu : P.underlying t = some (.slice e)) (h : DataW.trod enc P w 0 (fun _ => true) true (fuel + 1) t cs = some x) :
    cs = [.slice none 0 0] ∨ ∃ a len cap elems rest, cs = [.slice (some a) len cap] ∧ len ≤ cap ∧ cap ≤ maxLen ∧ x.1 = .slice (elems.map (·.1)) (rest.map (·.1)) ∧
      ((List.range len).mapM fun i => (w.cells? 0 (a.add (i * P.cellsOf e)) (P.cellsOf e)).bind (DataW.trod enc P w 0 (fun _ => true) true fuel e)) = some elems ∧
      ((List.range (cap - len)).mapM fun j => (w.cells? 0 (a.add ((len + j) * P.cellsOf e)) (P.cellsOf e)).bind (DataW.trod enc P w 0 (fun _ => true) true fuel e)) = some rest := by
  unfold DataW.trod at h
  rw [hu] at h
  split at h <;> simp_all
  obtain ⟨⟨h1, h2⟩, h3⟩ := h
  rw [Option.bind_eq_some_iff] at h3
  obtain ⟨elems, e1, e2⟩ := h3
  rw [Option.map_eq_some_iff] at e2
  obtain ⟨rest, e3, e4⟩ := e2
  exact ⟨_, _, _, ⟨rfl, rfl, rfl⟩, h1, h2, elems, rest, by rw [← e4], e1, e3⟩
theorem last_view (V : List View) (v : View) : (V ++ [v])[V.length]? = some v := by simp
theorem open_val (S : List TypeId) (hS : ∀ t, S.contains t = true → tyB P S t = true) (B : BulkFn D) (hH : ∀ (b : Nat) (C : Array Value) (e : Nat) (fz : Nat × Nat), w.heap[b]? = some (.cells C e fz) → fz.2 ≤ H) (h0 : ∃ C e fz, w.heap[0]? = some (.cells C e fz)) :
    ∀ (fuel : Nat) (t : TypeId) (cs : List Value) (d : DataW D) (ps : List MemPlace), S.contains t = true → DataW.trod enc P w 0 (fun _ => true) true fuel t cs = some (d, ps) → ∀ V, (∀ v ∈ V, VOK P w H V v) → ∃ M vs pvs, Opn P w H (V ++ M) vs cs pvs ∧ OfT P fuel t pvs ∧ bulks pvs ≤ B.b d := by
  intro fuel
  induction fuel with
  | zero => intro t cs d ps _ h; cases h
  | succ fuel IH =>
    intro t cs d ps ht h V hV
    have hty := hS t ht
    unfold tyB at hty
    unfold OfT
    have one : ∀ (v : Value), VRel (phiV P w V) v v → sok v = true → Opn P w H (V ++ []) [v] [v] [.sc v] := fun v h1 h2 => by
      rw [List.append_nil]
      exact ⟨hV, .cons _ _ _ _ h1 .nil, .cons _ _ _ _ (.sc v h2) .nil⟩
    have b1 : ∀ v : Value, scB v = 1 → bulks [.sc v] ≤ B.b d := fun v hv => by
      have := B.pos d
      rw [bulks_cons, bulks_nil]
      show scB v + 0 ≤ _
      omega
    split at hty
    · rename_i hu
      obtain ⟨b, rfl⟩ := inv_bool hu h
      exact ⟨[], _, _, one (.bool b) (.bool b) rfl, ⟨b, rfl⟩, b1 _ rfl⟩
    · rename_i k hu
      obtain ⟨z, rfl, hz⟩ := inv_int hu h
      exact ⟨[], _, _, one (.int k z) (.int k z) rfl, ⟨z, rfl, hz⟩, b1 _ rfl⟩
    · rename_i hu
      obtain ⟨s, rfl, hs, hd⟩ := inv_string hu h
      refine ⟨[], _, _, one (.string s) (.string s) rfl, ⟨s, rfl, hs⟩, ?_⟩
      have hd : d = .lit (.string s.data.toList) := hd
      rw [bulks_cons, bulks_nil, hd, B.str]
      exact Nat.le_refl _
    · rename_i e hu
      rw [Bool.and_eq_true] at hty
      have hes : 1 ≤ P.cellsOf e := Nat.le_of_ble_eq_true hty.2
      rcases inv_slice hu h with rfl | ⟨a, len, cap, elems, rest, rfl, hlc, hcm, hd, he, hr⟩
      · exact ⟨[], _, _, one _ .nilSlice rfl, .inl rfl, b1 _ rfl⟩
      obtain ⟨l1, l2⟩ := mapM_some _ _ _ he
      obtain ⟨r1, r2⟩ := mapM_some _ _ _ hr
      rw [List.length_range] at l1 r1
      have hd' : d = .slice (elems.map (·.1)) (rest.map (·.1)) := hd
      by_cases hcap : cap = 0
      · subst hcap
        obtain rfl : len = 0 := by omega
        obtain ⟨C, e', fz, hC⟩ := h0
        have hg := stV_view (P := P) (H := H) (last_view V ⟨[], e, 0, 0⟩)
        have hφ := phiV_view (P := P) (w := w) (last_view V ⟨[], e, 0, 0⟩)
        refine ⟨[⟨[], e, 0, 0⟩], [.slice (some ⟨P.globals.size + 1 + V.length, 0, none⟩) 0 0], [.lit e 0 []], ⟨fun v hv => ?_, ?_, ?_⟩, .inr ⟨[], rfl, Nat.zero_le _, fun x hx => by cases hx⟩, ?_⟩
        · rw [List.mem_append, List.mem_singleton] at hv
          rcases hv with hv | rfl
          · exact (hV v hv).mono _
          · exact ⟨C, e', fz, hC, hH _ _ _ _ hC, Nat.zero_le _, .nil⟩
        · exact .cons _ _ _ _ (.slice _ 0 0 0 0 a _ hφ (Nat.le_refl _) (Nat.le_refl _) (.inl rfl) (by rw [Nat.zero_mul]; exact Nat.zero_le _)) .nil
        · exact .cons _ _ _ _ (.lit _ 0 0 0 e [] [] _ _ hg ⟨(stV_inv _).lt _ _ hg |>.2, fun k hk => by omega⟩ (Nat.zero_le _) (Nat.le_refl _) .nil) .nil
        · have := B.pos d
          rw [bulks_cons, bulks_nil]
          show bulks [] + 1 + 0 ≤ _
          rw [bulks_nil]
          omega
      · have hk : ∀ k, k < cap → ∃ row x, w.cells? 0 (a.add (k * P.cellsOf e)) (P.cellsOf e) = some row ∧ DataW.trod enc P w 0 (fun _ => true) true fuel e row = some x ∧ (k < len → elems[k]? = some x) := by
          intro k hk
          by_cases hkl : k < len
          · have hx : elems[k]? = some (elems[k]'(by omega)) := List.getElem?_eq_getElem (by omega)
            have := l2 k k _ (by simp [hkl]) hx
            rw [Option.bind_eq_some_iff] at this
            obtain ⟨row, g1, g2⟩ := this
            exact ⟨row, _, g1, g2, fun _ => hx⟩
          · have hx : rest[k - len]? = some (rest[k - len]'(by omega)) := List.getElem?_eq_getElem (by omega)
            have := r2 (k - len) (k - len) _ (List.getElem?_range (by omega)) hx
            rw [Option.bind_eq_some_iff] at this
            obtain ⟨row, g1, g2⟩ := this
            rw [show len + (k - len) = k by omega] at g1
            exact ⟨row, _, g1, g2, fun hh => absurd hh hkl⟩
        obtain ⟨row0, _, g1, _, _⟩ := hk 0 (by omega)
        rw [Nat.zero_mul, show a.add 0 = a by simp [Addr.add]] at g1
        obtain ⟨C, e', fz, hsp, hC, _, _⟩ := cells_row g1 hes
        obtain ⟨g, o, sp⟩ := a
        have hsp' : sp = none := hsp
        subst hsp'
        have hrow : ∀ k, k < cap → o + k * P.cellsOf e + P.cellsOf e ≤ C.size ∧ ∃ x, DataW.trod enc P w 0 (fun _ => true) true fuel e ((C.toList.drop (o + k * P.cellsOf e)).take (P.cellsOf e)) = some x ∧ (k < len → elems[k]? = some x) := by
          intro k hkc
          obtain ⟨row, x, g1, g2, g3⟩ := hk k hkc
          rw [add_addr] at g1
          obtain ⟨C', _, _, _, hC', h4, h5⟩ := cells_row g1 hes
          have : w.heap[g]? = _ := hC'
          rw [show w.heap[g]? = some (.cells C e' fz) from hC] at this
          injection this with this
          injection this with this
          subst this
          exact ⟨h4, x, by rw [← h5]; exact g2, g3⟩
        have hsz : o + cap * P.cellsOf e ≤ C.size := by
          have := (hrow (cap - 1) (by omega)).1
          have h2 : (cap - 1) * P.cellsOf e + P.cellsOf e = cap * P.cellsOf e := by
            rw [← Nat.succ_mul]; congr 1; omega
          omega
        have hle : len * P.cellsOf e ≤ cap * P.cellsOf e := Nat.mul_le_mul_right _ hlc
        obtain ⟨M, vs, ls, o1, o2, o3, o4⟩ := open_list S B fuel IH ((List.range len).map fun k => (e, (C.toList.drop (o + k * P.cellsOf e)).take (P.cellsOf e), elems.getD k (.nil, []))) (fun y hy => by
          rw [List.mem_map] at hy
          obtain ⟨k, hk', rfl⟩ := hy
          have hkl := List.mem_range.1 hk'
          obtain ⟨_, x, q1, q2⟩ := hrow k (by omega)
          refine ⟨hty.1, ?_⟩
          rw [q1]
          simp only [List.getD_eq_getElem?_getD, q2 hkl, Option.getD_some]) V hV
        rw [List.flatMap_map, range_flat] at o1
        have hlen : vs.length = len * P.cellsOf e := by
          have := VRels.length o1.vr
          rw [this, List.length_take, List.length_drop, Array.length_toList]
          omega
        have hll : ls.flatten.length = vs.length := (Cs.len o1.rc).symm
        have hl3 : ls.length = len := by rw [o2]; simp
        have hg := stV_view (P := P) (H := H) (last_view (V ++ M) ⟨vs, e, g, o⟩)
        have hφ := phiV_view (P := P) (w := w) (last_view (V ++ M) ⟨vs, e, g, o⟩)
        refine ⟨M ++ [⟨vs, e, g, o⟩], [.slice (some ⟨P.globals.size + 1 + (V ++ M).length, 0, none⟩) len len], [.lit e len ls.flatten], ?_, .inr ⟨ls, by rw [hl3], by omega, fun x hx => ?_⟩, ?_⟩
        · rw [← List.append_assoc]
          refine ⟨fun v hv => ?_, .cons _ _ _ _ (.slice _ 0 len len cap ⟨g, o, none⟩ _ hφ (Nat.le_refl _) hlc (.inr rfl) ?_) .nil, .cons _ _ _ _ (.lit _ 0 len len e ls.flatten vs _ _ hg ⟨(stV_inv _).lt _ _ hg |>.2, fun k hk => by omega⟩ (by omega) (Nat.le_refl _) ?_) .nil⟩
          · rw [List.mem_append, List.mem_singleton] at hv
            rcases hv with hv | rfl
            · exact (o1.ok v hv).mono _
            · refine ⟨C, e', fz, hC, hH _ _ _ _ hC, ?_, ?_⟩
              · show o + vs.length ≤ C.size
                omega
              · show VRels _ vs ((C.toList.drop o).take vs.length)
                rw [hlen]
                exact o1.vr.mono (phiV_ext _ _)
          · show 0 + cap * P.cellsOf e ≤ szAt w g - o
            rw [szAt_of hC]
            omega
          · rw [List.drop_zero, hll, List.take_length]
            exact o1.rc.mono (stV_fw _ _ _)
        · obtain ⟨j, hj, rfl⟩ := List.getElem_of_mem hx
          have := o3 j (e, (C.toList.drop (o + j * P.cellsOf e)).take (P.cellsOf e), elems.getD j (.nil, [])) ls[j] (by
            rw [List.getElem?_map, List.getElem?_range (by omega)]; rfl) (List.getElem?_eq_getElem hj)
          exact this
        · rw [bulks_cons, bulks_nil, hd', B.slice]
          show bulks ls.flatten + 1 + 0 ≤ _
          have : (((List.range len).map fun k => (e, (C.toList.drop (o + k * P.cellsOf e)).take (P.cellsOf e), elems.getD k (.nil, []))).map fun y => y.2.2.1) = elems.map (·.1) := by
            apply List.ext_getElem?
            intro j
            simp only [List.map_map, List.getElem?_map]
            by_cases hj : j < len
            · rw [List.getElem?_range hj]
              have hx : elems[j]? = some (elems[j]'(by omega)) := List.getElem?_eq_getElem (by omega)
              simp [hx, List.getD_eq_getElem?_getD]
            · rw [List.getElem?_eq_none (by simp; omega), List.getElem?_eq_none (by omega)]
              rfl
          rw [this] at o4
          omega
    · rename_i fs hu
      rw [Bool.and_eq_true] at hty
      obtain ⟨hlen, xs, hm, hd⟩ := inv_struct hu h
      have hd' : d = .agg (xs.map (·.1)) := hd
      obtain ⟨m1, m2⟩ := mapM_some _ _ _ hm
      have hfl := tiles_flat (P := P) (cs := cs) fs.toList 0 _ hty.2 hlen
      obtain ⟨M, vs, ls, o1, o2, o3, o4⟩ := open_list S B fuel IH ((List.range fs.toList.length).map fun k => ((fs.toList.getD k default).type, (cs.drop (fs.toList.getD k default).offset).take (P.cellsOf (fs.toList.getD k default).type), xs.getD k (.nil, []))) (fun y hy => by
        rw [List.mem_map] at hy
        obtain ⟨k, hk', rfl⟩ := hy
        have hkl := List.mem_range.1 hk'
        have hf : fs.toList[k]? = some (fs.toList[k]'hkl) := List.getElem?_eq_getElem hkl
        have hx : xs[k]? = some (xs[k]'(by omega)) := List.getElem?_eq_getElem (by omega)
        have hfd : fs.toList.getD k default = fs.toList[k]'hkl := by rw [List.getD_eq_getElem?_getD, hf]; rfl
        have hxd : xs.getD k (.nil, []) = xs[k]'(by omega) := by rw [List.getD_eq_getElem?_getD, hx]; rfl
        simp only [hfd, hxd]
        exact ⟨List.all_eq_true.1 hty.1 _ (List.getElem_mem hkl), m2 k _ _ hf hx⟩) V hV
      have hrows : (((List.range fs.toList.length).map fun k => ((fs.toList.getD k default).type, (cs.drop (fs.toList.getD k default).offset).take (P.cellsOf (fs.toList.getD k default).type), xs.getD k (.nil, []))).flatMap fun y => y.2.1) = cs := by
        rw [List.flatMap_map]
        have e1 : ((List.range fs.toList.length).flatMap fun k => (cs.drop (fs.toList.getD k default).offset).take (P.cellsOf (fs.toList.getD k default).type)) = fs.toList.flatMap fun f => (cs.drop f.offset).take (P.cellsOf f.type) := by
          have e2 : (List.range fs.toList.length).map (fun k => fs.toList.getD k default) = fs.toList := by
            apply List.ext_getElem?
            intro j
            rw [List.getElem?_map]
            by_cases hj : j < fs.toList.length
            · rw [List.getElem?_range hj, List.getElem?_eq_getElem hj]
              show some (fs.toList.getD j default) = some fs.toList[j]
              rw [List.getD_eq_getElem?_getD, List.getElem?_eq_getElem hj]
              rfl
            · rw [List.getElem?_eq_none (by simp; simpa using hj), List.getElem?_eq_none (by omega)]
              rfl
          conv => rhs; rw [← e2, List.flatMap_map]
        rw [e1, hfl, List.drop_zero]
      rw [hrows] at o1
      refine ⟨M, vs, ls.flatten, o1, ⟨ls, rfl, by rw [o2]; simp, fun j f x hf hx => ?_⟩, ?_⟩
      · have hj := (List.getElem?_eq_some_iff.1 hf).1
        have := o3 j ((fs.toList.getD j default).type, (cs.drop (fs.toList.getD j default).offset).take (P.cellsOf (fs.toList.getD j default).type), xs.getD j (.nil, [])) x (by
          rw [List.getElem?_map, List.getElem?_range hj]; rfl) hx
        rw [List.getD_eq_getElem?_getD, hf] at this
        exact this
      · have e3 : (((List.range fs.toList.length).map fun k => ((fs.toList.getD k default).type, (cs.drop (fs.toList.getD k default).offset).take (P.cellsOf (fs.toList.getD k default).type), xs.getD k (.nil, []))).map fun y => y.2.2.1) = xs.map (·.1) := by
          apply List.ext_getElem?
          intro j
          simp only [List.map_map, List.getElem?_map]
          by_cases hj : j < fs.toList.length
          · rw [List.getElem?_range hj]
            have hx : xs[j]? = some (xs[j]'(by omega)) := List.getElem?_eq_getElem (by omega)
            simp [hx, List.getD_eq_getElem?_getD]
          · rw [List.getElem?_eq_none (by simp; simpa using hj), List.getElem?_eq_none (by omega)]
            rfl
        rw [e3] at o4
        rw [hd', B.agg]
        omega
    · cases hty
end
end Go.PE


namespace Go.PE
open Go Go.EvL Go.RowKit
section
variable {P : Program} {Γ : Nat → Option PFn} {ext : PCallF}
/-- the state of the run when it begins -/
def ps0 : PS := ⟨fun _ => ⟨[], 0, 0⟩, 0, 0⟩
/-- a call that the run answers by true, from whatever world the arguments were opened in -/
theorem pe_calls (hE : Env P) (hO : OpsOK P) (hm : P.follows .mixedOrders = true) (hP : Parts P) (hΓ : TabOK P Γ) (hX : PCallOK P (puOf Γ) ext) {g : Nat} (hpu : puOf Γ g = true) {w : World} {H : Nat} {args : Array Value} {pvs : List PV} {V : List View} {vs : List Value}
    (hG : P.globals.size ≤ w.heap.size) (hH : 1180591620717411303424 ≤ H) (hV : ∀ v ∈ V, VOK P w H V v) (hvr : VRels (phiV P w V) vs args.toList) (hrs : Rs (stV P H V) (fun _ => 0) 0 vs pvs) {s' : PS} (h : pcall P Γ ext g pvs ps0 = some (.sc (.bool true), s')) :
    Calls P g args w fun e w' => e = .returned (.bool true) ∧ Below w.heap.size w w' := by
  obtain ⟨_, _, hh⟩ := pcall_ok hE hO hm hP hΓ hX g pvs ps0 _ _ h
  obtain ⟨u, A', β', cs, _, _, r1, hw⟩ := hh (stV P H V) (fun _ => 0) vs (stV_inv V) ⟨fun k hk => absurd hk (Nat.not_lt_zero _), fun j k hj => absurd hj (Nat.not_lt_zero _)⟩ hrs
  obtain ⟨rfl, _⟩ := r1.sc
  refine (cs.run (phiV P w V) (fun _ => True) w args hvr (stV_rel hG hH hV _) (fun _ _ _ => trivial) fun b hb _ => ?_).mono ?_
  · have hb' : P.globals.size + 1 + V.length ≤ b := hb
    unfold phiV
    rw [if_neg (by omega), if_neg (by omega), List.getElem?_eq_none (by omega)]
    rfl
  · rintro e w' ⟨φ', hp, he⟩
    refine ⟨?_, hp.os, hp.tape, hp.output, hp.size, fun k hk => hp.same k hk fun b i hb hi => ?_⟩
    · cases he with
      | ret _ v' hv => cases hv; rfl
    · have hc : i.cls < (stV P H V).next := by
        show i.cls < P.globals.size + 1 + V.length
        rcases phiV_get hb with ⟨h1, rfl⟩ | ⟨h1, v, h2, rfl⟩
        · show b < _; omega
        · have := clsV_le P v.blk
          show clsV P v.blk < _; omega
      cases hbit : A'.w.testBit i.cls with
      | false => rfl
      | true =>
        have := hw hpu _ hc hbit
        have h0 : (0 : Nat).testBit i.cls = true := this
        rw [Nat.zero_testBit] at h0
        cases h0
/-- a function without arguments that answers true wherever it is called -/
def extA (gA : Nat) : PCallF := fun g args s => if g = gA ∧ args.isEmpty = true then some (.sc (.bool true), s) else none
theorem extA_ok {gA : Nat} (hb : ∃ fn c, P.funcs[gA]? = some fn ∧ fn.body = some c) (hc : ∀ w : World, P.globals.size ≤ w.heap.size → Calls P gA #[] w fun e w' => e = .returned (.bool true) ∧ Below w.heap.size w w') (pu : Nat → Bool) : PCallOK P pu (extA gA) := by
  intro g args s q s' h
  unfold extA at h
  split at h
  · rename_i hg
    obtain ⟨rfl, ha⟩ := hg
    injection h with h
    injection h with h1 h2
    subst h1
    subst h2
    have ha' : args = [] := List.isEmpty_iff.1 ha
    subst ha'
    refine ⟨hb, .refl _, fun A β vs hi hs hr => ?_⟩
    have hvs : vs = [] := by cases hr; rfl
    subst hvs
    refine ⟨.bool true, A, β, ⟨.refl hi, fun φ T w args' hv hrel _ _ => ?_⟩, .refl _ _ _ _, hs, .cl _ _ (.sc _ rfl), fun _ c _ h => h⟩
    have ha2 : args' = #[] := by
      cases args' with
      | mk l => cases hv; rfl
    subst ha2
    refine (hc w (glob_size hrel)).mono ?_
    rintro e w' ⟨rfl, bel⟩
    exact ⟨φ, Post.below hrel rfl rfl rfl bel, .ret _ _ (.bool true)⟩
  · cases h
/-- how high the frozen parts of a world reach -/
theorem fz_bound (w : World) : ∃ H, 1180591620717411303424 ≤ H ∧ ∀ (b : Nat) (C : Array Value) (e : Nat) (fz : Nat × Nat), w.heap[b]? = some (.cells C e fz) → fz.2 ≤ H := by
  have key : ∀ l : List Obj, ∃ H, 1180591620717411303424 ≤ H ∧ ∀ C e (fz : Nat × Nat), Obj.cells C e fz ∈ l → fz.2 ≤ H := by
    intro l
    induction l with
    | nil => exact ⟨_, Nat.le_refl _, fun C e fz h => by cases h⟩
    | cons o l ih =>
      obtain ⟨H, h1, h2⟩ := ih
      cases o with
      | cells C e fz =>
        refine ⟨H + fz.2, by omega, fun C' e' fz' h => ?_⟩
        rcases List.mem_cons.1 h with h | h
        · injection h with _ _ h; subst h; omega
        · have := h2 _ _ _ h; omega
      | _ =>
        refine ⟨H, h1, fun C' e' fz' h => ?_⟩
        rcases List.mem_cons.1 h with h | h
        · cases h
        · exact h2 _ _ _ h
  obtain ⟨H, h1, h2⟩ := key w.heap.toList
  exact ⟨H, h1, fun b C e fz h => h2 C e fz (by
    have := Array.mem_of_getElem? h
    simpa using this)⟩
end
end Go.PE


namespace Go.PE
open Go Go.EvL
section
variable {P : Program}
def Flds (P : Program) (n : Nat) : List Field → List (List PV) → Prop
  | [], [] => True
  | f :: fs, x :: ls => OfT P n f.type x ∧ Flds P n fs ls
  | _, _ => False
theorem flds_of {n : Nat} : ∀ (fs : List Field) (ls : List (List PV)), ls.length = fs.length → (∀ (j : Nat) f x, fs[j]? = some f → ls[j]? = some x → OfT P n f.type x) → Flds P n fs ls := by
  intro fs
  induction fs with
  | nil => intro ls h _; cases ls with | nil => trivial | cons a l => cases h
  | cons f fs ih =>
    intro ls h hh
    cases ls with
    | nil => cases h
    | cons x ls => exact ⟨hh 0 f x rfl rfl, ih ls (by simpa using h) fun j f x h1 h2 => hh (j + 1) f x (by simpa using h1) (by simpa using h2)⟩
theorem of_struct {n t : Nat} {fs : Array Field} {ps : List PV} (hu : P.underlying t = some (.struct fs)) (h : OfT P n t ps) : ∃ m ls, n = m + 1 ∧ ps = ls.flatten ∧ Flds P m fs.toList ls := by
  cases n with
  | zero => cases h
  | succ n =>
    unfold OfT at h
    rw [hu] at h
    obtain ⟨ls, h1, h2, h3⟩ := h
    exact ⟨n, ls, rfl, h1, flds_of _ _ h2 h3⟩
theorem flds2 {n : Nat} {f1 f2 : Field} {ls : List (List PV)} (h : Flds P n [f1, f2] ls) : ∃ a1 a2, ls = [a1, a2] ∧ OfT P n f1.type a1 ∧ OfT P n f2.type a2 := by
  match ls, h with
  | [a1, a2], ⟨h1, h2, _⟩ => exact ⟨a1, a2, rfl, h1, h2⟩
theorem flds3 {n : Nat} {f1 f2 f3 : Field} {ls : List (List PV)} (h : Flds P n [f1, f2, f3] ls) : ∃ a1 a2 a3, ls = [a1, a2, a3] ∧ OfT P n f1.type a1 ∧ OfT P n f2.type a2 ∧ OfT P n f3.type a3 := by
  match ls, h with
  | [a1, a2, a3], ⟨h1, h2, h3, _⟩ => exact ⟨a1, a2, a3, rfl, h1, h2, h3⟩
theorem flds4 {n : Nat} {f1 f2 f3 f4 : Field} {ls : List (List PV)} (h : Flds P n [f1, f2, f3, f4] ls) : ∃ a1 a2 a3 a4, ls = [a1, a2, a3, a4] ∧ OfT P n f1.type a1 ∧ OfT P n f2.type a2 ∧ OfT P n f3.type a3 ∧ OfT P n f4.type a4 := by
  match ls, h with
  | [a1, a2, a3, a4], ⟨h1, h2, h3, h4, _⟩ => exact ⟨a1, a2, a3, a4, rfl, h1, h2, h3, h4⟩
theorem flds5 {n : Nat} {f1 f2 f3 f4 f5 : Field} {ls : List (List PV)} (h : Flds P n [f1, f2, f3, f4, f5] ls) : ∃ a1 a2 a3 a4 a5, ls = [a1, a2, a3, a4, a5] ∧ OfT P n f1.type a1 ∧ OfT P n f2.type a2 ∧ OfT P n f3.type a3 ∧ OfT P n f4.type a4 ∧ OfT P n f5.type a5 := by
  match ls, h with
  | [a1, a2, a3, a4, a5], ⟨h1, h2, h3, h4, h5, _⟩ => exact ⟨a1, a2, a3, a4, a5, rfl, h1, h2, h3, h4, h5⟩
theorem flds9 {n : Nat} {f1 f2 f3 f4 f5 f6 f7 f8 f9 : Field} {ls : List (List PV)} (h : Flds P n [f1, f2, f3, f4, f5, f6, f7, f8, f9] ls) : ∃ a1 a2 a3 a4 a5 a6 a7 a8 a9, ls = [a1, a2, a3, a4, a5, a6, a7, a8, a9] ∧ OfT P n f1.type a1 ∧ OfT P n f2.type a2 ∧ OfT P n f3.type a3 ∧ OfT P n f4.type a4 ∧ OfT P n f5.type a5 ∧ OfT P n f6.type a6 ∧ OfT P n f7.type a7 ∧ OfT P n f8.type a8 ∧ OfT P n f9.type a9 := by
  match ls, h with
  | [a1, a2, a3, a4, a5, a6, a7, a8, a9], ⟨h1, h2, h3, h4, h5, h6, h7, h8, h9, _⟩ => exact ⟨a1, a2, a3, a4, a5, a6, a7, a8, a9, rfl, h1, h2, h3, h4, h5, h6, h7, h8, h9⟩
theorem of_pos {n t : Nat} {ps : List PV} (h : OfT P n t ps) : ∃ k, n = k + 1 := by
  cases n with
  | zero => cases h
  | succ n => exact ⟨n, rfl⟩
theorem of_int {n t : Nat} {k : IntKind} {ps : List PV} (hu : P.underlying t = some (.int k)) (h : OfT P n t ps) : ∃ z, ps = [.sc (.int k z)] ∧ (Lit.int k z).wf = true := by
  cases n with
  | zero => cases h
  | succ n => unfold OfT at h; rw [hu] at h; exact h
theorem of_bool {n t : Nat} {ps : List PV} (hu : P.underlying t = some .bool) (h : OfT P n t ps) : ∃ z, ps = [.sc (.bool z)] := by
  cases n with
  | zero => cases h
  | succ n => unfold OfT at h; rw [hu] at h; exact h
theorem of_string {n t : Nat} {ps : List PV} (hu : P.underlying t = some .string) (h : OfT P n t ps) : ∃ s : ByteArray, ps = [.sc (.string s)] ∧ s.size ≤ maxLen := by
  cases n with
  | zero => cases h
  | succ n => unfold OfT at h; rw [hu] at h; exact h
theorem list_of {α : Type} {c : α → List PV} {Q : α → Prop} : ∀ (ls : List (List PV)), (∀ x ∈ ls, ∃ d, x = c d ∧ Q d) → ∃ l : List α, ls.flatten = l.flatMap c ∧ l.length = ls.length ∧ ∀ d ∈ l, Q d := by
  intro ls
  induction ls with
  | nil => intro _; exact ⟨[], rfl, rfl, fun d h => by cases h⟩
  | cons x ls ih =>
    intro h
    obtain ⟨d, rfl, hd⟩ := h x List.mem_cons_self
    obtain ⟨l, e1, e2, e3⟩ := ih fun y hy => h y (List.mem_cons_of_mem _ hy)
    exact ⟨d :: l, by rw [List.flatten_cons, List.flatMap_cons, e1], by simp [e2], fun y hy => by
      rcases List.mem_cons.1 hy with rfl | hy
      · exact hd
      · exact e3 y hy⟩
theorem bulks_flatten {x : List PV} {ls : List (List PV)} (h : x ∈ ls) : bulks x ≤ bulks ls.flatten := by
  have := bulks_flat (c := id) h
  simpa [List.flatMap_id] using this
/-- a slice whose elements are known -/
theorem of_sl {α : Type} {c : α → List PV} {Q : α → Prop} {n t e N : Nat} {ps : List PV} (hu : P.underlying t = some (.slice e)) (h : OfT P n t ps) (hc : ∀ d, 1 ≤ (c d).length) (hN : bulks ps ≤ N) (hN' : N < 4611686018427387904)
    (hel : ∀ m x, n = m + 1 → OfT P m e x → bulks x ≤ N → ∃ d, x = c d ∧ Q d) : ∃ (p : PV) (l : Option (List α)), ps = [p] ∧ p = slP e c l ∧ (l.getD []).length < 4611686018427387904 ∧ ∀ d ∈ l.getD [], Q d := by
  cases n with
  | zero => cases h
  | succ n =>
    unfold OfT at h
    rw [hu] at h
    rcases h with rfl | ⟨ls, rfl, h1, h2⟩
    · exact ⟨_, none, rfl, rfl, by simp, fun d hd => by cases hd⟩
    · rw [bulks_cons, bulks_nil] at hN
      have hN2 : bulks ls.flatten + 1 + 0 ≤ N := hN
      obtain ⟨l, e1, e2, e3⟩ := list_of (c := c) (Q := Q) ls fun x hx => hel n x rfl (h2 x hx) (by have := bulks_flatten hx; omega)
      refine ⟨_, some l, rfl, by rw [e1, ← e2]; rfl, ?_, e3⟩
      have h3 := len_slP (e := e) (c := c) hc (some l)
      have h4 := bulks_slP e c (some l)
      simp only [Option.getD_some] at h3 h4 ⊢
      rw [← e1] at h4
      omega
end
end Go.PE
