/- The evaluator: functions whose contracts are laid from outside. No statement is proved here. -/
import Derived.Test.YtdkcfccepjimbaaGreatDoorEvE
import Derived.Maps.Own
import Derived.Sort.KeysCollected
set_option linter.unusedSimpArgs false
set_option linter.unusedVariables false
namespace Go.EvL
open Go
open Go.RowKit
/-- what is asked of the functions that are laid from outside -/
structure OrcCon (P : Program) (orc : Orc) : Prop where
  keys : ∀ g it t, orc.keys g = some (it, t) → ∀ (mb : Option Nat) (W : World), Calls P g #[.map mb] W fun e w' => e = .returned (.func (.func it) #[] #[.pointer (some ⟨W.heap.size, 0, none⟩)]) ∧ w' = W.alloc (.cells #[.map mb] t)
  one : ∀ g t, orc.sorted g = some t → P.cellsOf t = 1
  none_ : ∀ g t, orc.sorted g = some t → ∀ it, orc.iter it = true → ∀ (p b clock : Nat) (W : World), W.cell? ⟨p, 0, none⟩ = some (.map (some b)) → W.heap[b]? = some (.map #[] clock) →
    Calls P g #[.func (.func it) #[] #[.pointer (some ⟨p, 0, none⟩)]] W fun e w' => e = .returned (.slice none 0 0) ∧ Below W.heap.size W w'
  some_ : ∀ g t, orc.sorted g = some t → ∀ it, orc.iter it = true → ∀ (p b clock : Nat) (W : World) (k : ByteArray) (v : Value) (born : Nat), W.cell? ⟨p, 0, none⟩ = some (.map (some b)) → W.heap[b]? = some (.map #[⟨.string k, v, born⟩] clock) → born < clock → k.size ≤ 1048576 →
    Calls P g #[.func (.func it) #[] #[.pointer (some ⟨p, 0, none⟩)]] W fun e w' => ∃ (gb cap : Nat) (C : Array Value), e = .returned (.slice (some ⟨gb, 0, none⟩) 1 cap) ∧ W.heap.size ≤ gb ∧ w'.heap[gb]? = some (.cells C t (0, 0)) ∧ 1 ≤ cap ∧ C.size = cap ∧ C.toList.take 1 = [.string k] ∧ Below W.heap.size W w'
  look : ∀ g off f, orc.look g = some (off, f) → ∀ n e v ok, f n e = some (v, ok) → ∀ (b o vb vo vc : Nat) (W : World), P.globals.size ≤ W.heap.size → W.cell? ⟨b, o + off, none⟩ = some (.slice (some ⟨vb, vo, none⟩) 1 vc) → W.cell? ⟨vb, vo, none⟩ = some (.string e) →
    Calls P g #[.pointer (some ⟨b, o, none⟩), .string n] W fun r w' => r = .returned (.tuple #[.string v, .bool ok]) ∧ Below W.heap.size W w'
  tab : ∀ g args v, orc.tab g args = some v → args.all (plain 50) = true ∧ plain 50 v = true ∧ ∀ (W : World), P.globals.size ≤ W.heap.size → Calls P g args.toArray W fun e w' => e = .returned v ∧ Below W.heap.size W w'
/-- a new row on both sides, whatever else the run has made -/
theorem Post.fresh {P : Program} {φ : Emb} {T : Nat → Prop} {A : AS} {w w' : World} {cells : List Value} {e gb : Nat} {C : Array Value} (hi : Inv A) (hn : A.next + 1 ≤ A.next + 1) (h : Rel P φ T A w) (hfr : φ A.next = none) (hb : Below w.heap.size w w') (hgb : w.heap.size ≤ gb)
    (hC : w'.heap[gb]? = some (.cells C e (0, 0))) (hl : cells.length ≤ C.size) (hv : VRels φ cells (C.toList.take cells.length)) :
    ∃ φ', φ' A.next = some ⟨gb, 0, C.size, P.cellsOf e, A.next, 0⟩ ∧ Post P φ T A (newRow A cells e) w w' φ' := by
  have hf : Fits A.next := fits (by omega)
  have hgl : gb < w'.heap.size := (Array.getElem?_eq_some_iff.1 hC).1
  have hext : Ext φ fun b => if b = A.next then some ⟨gb, 0, C.size, P.cellsOf e, A.next, 0⟩ else φ b := by
    intro b i hb
    show (if b = A.next then _ else _) = _
    rw [if_neg (by rintro rfl; rw [hfr] at hb; cases hb)]
    exact hb
  have hold : ∀ b i, φ b = some i → i.blk < w.heap.size := h.blk
  refine ⟨fun b => if b = A.next then some ⟨gb, 0, C.size, P.cellsOf e, A.next, 0⟩ else φ b, if_pos rfl, ?_⟩
  rw [newRow_eq, new_eq]
  refine ⟨hext, fun b hb' => ?_, ⟨fun b i hb' => ?_, fun b₁ b₂ i₁ i₂ h₁ h₂ he => ?_, fun b x hb' hlv hT => ?_, fun b i hb' => ?_, h.glob.mono hext, fun b i hb' hcl => ?_⟩, fun b i hb' hlt => ?_, hb.size, fun k hk _ => hb.block k hk, hb.os, hb.tape, hb.output⟩
  · have hb2 : b < A.next ∨ A.next + 1 ≤ b := hb'
    show (if b = A.next then _ else _) = _
    rw [if_neg (by omega)]
  · split at hb'
    · injection hb' with hb'; subst hb'; exact hgl
    · exact Nat.lt_of_lt_of_le (hold _ _ hb') hb.size
  · split at h₁ <;> split at h₂
    · injection h₁ with h₁; injection h₂ with h₂; subst h₁; subst h₂; exact ⟨rfl, rfl⟩
    · injection h₁ with h₁; subst h₁; have := hold _ _ h₂; simp only at he; omega
    · injection h₂ with h₂; subst h₂; have := hold _ _ h₁; simp only at he; omega
    · exact h.inj _ _ _ _ h₁ h₂ he
  · have hb2 : (Tr.set (AObj.row cells e A.next 0 true) 40 A.heap A.next).get b = some x := hb'
    rw [Tr.get_set _ _ _ _ hf] at hb2
    split at hb2
    · rename_i he; subst he
      injection hb2 with hb2; subst hb2
      refine ⟨_, _, if_pos rfl, hC, ?_⟩
      refine .row _ _ _ _ _ (0, 0) rfl rfl rfl (by simp) (by simpa using hl) ?_ (.inl rfl) _ (.inl ⟨rfl, Nat.dvd_zero _⟩)
      show VRels _ _ ((C.toList.drop 0).take _)
      rw [List.drop_zero]
      exact hv.mono hext
    · have hlt := (hi.lt _ _ hb2).2
      have hT' : T (clsOf b x) := by
        rcases hT with hT | ⟨h1, _⟩
        · exact hT
        · omega
      obtain ⟨i, y, e1, e2, e3⟩ := h.obj b x hb2 hlv hT'
      exact ⟨i, y, hext _ _ e1, by rw [hb.block _ (hold _ _ e1)]; exact e2, e3.mono hext fun h hh => ⟨h, hh, Nat.le_refl _⟩⟩
  · split at hb'
    · trivial
    · exact h.al _ _ hb'
  · split at hb'
    · injection hb' with hb'; subst hb'; rfl
    · exact h.root _ _ hb' hcl
  · split at hb'
    · injection hb' with hb'; subst hb'; simp only at hlt; omega
    · exact ⟨b, i, hb', rfl, rfl⟩
theorem Post.below {P : Program} {φ : Emb} {T : Nat → Prop} {A A' : AS} {w w' : World} (h : Rel P φ T A w) (h1 : A'.heap = A.heap) (h2 : A'.fz = A.fz) (h4 : A'.next = A.next) (hb : Below w.heap.size w w') : Post P φ T A A' w w' φ where
  ext := fun _ _ h => h
  out := fun _ _ => rfl
  rel := ⟨fun b i hb' => Nat.lt_of_lt_of_le (h.blk _ _ hb') hb.size, h.inj, fun b o hb' hl hT => by
    rw [h1] at hb'
    rw [h2]
    obtain ⟨i, o', e1, e2, e3⟩ := h.obj b o hb' hl (hT.elim id fun hc => by omega)
    exact ⟨i, o', e1, by rw [hb.block _ (h.blk _ _ e1)]; exact e2, e3⟩, h.al, h.glob, h.root⟩
  img := fun b i hb _ => ⟨b, i, hb, rfl, rfl⟩
  size := hb.size
  same := fun k hk _ => hb.block k hk
  os := hb.os
  tape := hb.tape
  output := hb.output
section
variable {P : Program} {orc : Orc}
theorem toList_one' {α : Type} {xs : Array α} {x : α} (h : xs.toList = [x]) : xs = #[x] := by cases xs; cases h; rfl
theorem orcKeys_ok {g it t : Nat} {args : Array Value} {A A' : AS} {r : AEnd} (hk : ∀ (mb : Option Nat) (W : World), Calls P g #[.map mb] W fun e w' => e = .returned (.func (.func it) #[] #[.pointer (some ⟨W.heap.size, 0, none⟩)]) ∧ w' = W.alloc (.cells #[.map mb] t))
    (h : orcKeys it t args.toList A = some (r, A')) : A.next ≤ A'.next ∧ (Inv A → A'.next ≤ A'.next → CallSound P g args A r A') := by
  unfold orcKeys at h
  split at h
  · rename_i b hargs
    have hargs := toList_one' hargs
    subst hargs
    injection h with h
    injection h with h1 h2
    subst h1
    subst h2
    rw [newRow_next]
    refine ⟨by omega, fun hi hn => ⟨newRow_fr hi hn _ _, fun φ T w args' hv hr _ hfr => ?_⟩⟩
    generalize hq : args'.toList = l at hv
    cases hv with
    | cons _ v' _ l' hv hs =>
      cases hs
      have hargs' := toList_one' hq
      subst hargs'
      cases hv with
      | map _ i hφ =>
        have hc : VRels φ [Value.map (some b)] [Value.map (some i.blk)] := .cons _ _ _ _ (.map b i hφ) .nil
        obtain ⟨φ', e1, e2⟩ := newRow_post hi (by rw [newRow_next]; exact hn) hr hfr hc
        refine (hk (some i.blk) w).mono ?_
        rintro e w' ⟨rfl, rfl⟩
        refine ⟨φ', e2, .ret _ _ (.func _ _ _ _ _ .nil (.cons _ _ _ _ (.ptr _ 0 _ e1) .nil))⟩
  · cases h
theorem sorted_ok (hC : OrcCon P orc) {g t : Nat} (hg : orc.sorted g = some t) {args : Array Value} {A A' : AS} {r : AEnd} (h : orcSorted orc t args.toList A = some (r, A')) : A.next ≤ A'.next ∧ (Inv A → A'.next ≤ A'.next → CallSound P g args A r A') := by
  unfold orcSorted at h
  split at h
  case h_2 => cases h
  rename_i it first cap hargs
  have hargs := toList_one' hargs
  subst hargs
  split at h
  case h_2 => cases h
  rename_i p hfirst hcap
  obtain ⟨hit, h⟩ := boolSome h
  unfold sortedAt at h
  split at h
  case h_2 => cases h
  rename_i b e c st hp
  obtain ⟨hcp, h0⟩ := boolSome h
  clear h
  have hcp := Nat.eq_of_beq_eq_true hcp
  subst hcp
  unfold sortedIn at h0
  split at h0
  case h_2 => cases h0
  rename_i es clock hb
  have hlog : ∀ (hi : Inv A), AFr A (logR (logR A c) b) := fun hi => by
    have h1 := logR_fr hi (hi.lt _ _ hp).2
    exact h1.trans (logR_fr h1.inv (by rw [logR_eq]; exact (hi.lt _ _ hb).1))
  have e1 : (logR (logR A c) b).heap = A.heap := by rw [logR_eq, logR_eq]
  have e2 : (logR (logR A c) b).fz = A.fz := by rw [logR_eq, logR_eq]
  have e3 : (logR (logR A c) b).next = A.next := by rw [logR_eq, logR_eq]
  -- what the run's world holds
  have look : ∀ (hi : Inv A) {A' : AS} (_ : AFr (logR (logR A c) b) A') {φ : Emb} {T : Nat → Prop} {w : World} {args' : Array Value}, VRels φ (#[Value.func (.func it) first cap] : Array Value).toList args'.toList → Rel P φ T A w → Foot A A' T →
      ∃ (i j : Inf) (es' : Array MapEntry), args' = #[.func (.func it) #[] #[.pointer (some ⟨i.blk, 0, none⟩)]] ∧ w.cell? ⟨i.blk, 0, none⟩ = some (.map (some j.blk)) ∧ w.heap[j.blk]? = some (.map es' clock) ∧ ERel φ es es'.toList := by
    intro hi A' fr φ T w args' hv hr hT
    have hTc : T c := hT c (hi.lt _ _ hp).2 (.inl (fr.r c (by rw [logR_eq, logR_eq, bit_or, bit_or]; simp)))
    have hTb : T b := hT b (hi.lt _ _ hb).1 (.inl (fr.r b (by rw [logR_eq, bit_or]; simp)))
    generalize hq : args'.toList = l at hv
    cases hv with
    | cons _ v' _ l' hv hs =>
      cases hs
      have hargs' := toList_one' hq
      subst hargs'
      cases hv with
      | func _ _ _ xs' ys' hx hy =>
        rw [hfirst] at hx
        rw [hcap] at hy
        generalize hxx : xs'.toList = X at hx
        generalize hyy : ys'.toList = Y at hy
        cases hx
        cases hy with
        | cons _ u _ _ hu hu2 =>
          cases hu2
          have hys := toList_one' hyy
          subst hys
          have hxs : xs' = #[] := by cases xs'; cases hxx; rfl
          subst hxs
          cases hu with
          | ptr _ _ i hφ =>
            obtain ⟨i', C, fz, _, k1, k2, k3, k4, k5, k6, k7, k8, k9, k10⟩ := hr.cells hp hTc
            obtain rfl : i = i' := by rw [hφ] at k1; injection k1
            have hsh : i.sh = 0 := hr.root _ _ hφ k3
            obtain ⟨j, o', m1, m2, m3⟩ := hr.obj b _ hb rfl hTb
            cases m3 with
            | map _ _ es' _ he =>
              refine ⟨i, j, es', by rw [hsh], ?_, m2, he⟩
              rw [hsh, List.drop_zero] at k8
              rw [Lib.cell_of_heap k2]
              generalize hD : C.toList.take 1 = D at k8
              cases k8 with
              | cons _ x _ _ hx hx2 =>
                cases hx2
                cases hx with
                | map _ j' hj' =>
                  rw [m1] at hj'
                  injection hj' with hj'
                  subst hj'
                  have : (C.toList.take 1)[0]? = some (.map (some j.blk)) := by rw [hD]; rfl
                  rw [List.getElem?_take] at this
                  simpa using this
  unfold sortedRow at h0
  split at h0
  · injection h0 with h0
    injection h0 with h1 h2
    subst h1
    subst h2
    refine ⟨by rw [e3]; exact Nat.le_refl _, fun hi hn => ⟨hlog hi, fun φ T w args' hv hr hT hfr => ?_⟩⟩
    obtain ⟨i, j, es', rfl, q1, q2, q3⟩ := look hi (.refl (hlog hi).inv) hv hr hT
    have hes : es' = #[] := by
      generalize hq : es'.toList = l at q3
      cases q3
      cases es'
      cases hq
      rfl
    subst hes
    refine (hC.none_ g t hg it hit i.blk j.blk clock w q1 q2).mono ?_
    rintro e w' ⟨rfl, hbw⟩
    exact ⟨φ, Post.below hr e1 e2 e3 hbw, .ret _ _ .nilSlice⟩
  · rename_i k v born
    obtain ⟨hc, h5⟩ := boolSome h0
    clear h0
    simp only [Bool.and_eq_true] at hc
    have c1 := Nat.le_of_ble_eq_true hc.1
    have c2 := Nat.le_of_ble_eq_true hc.2
    injection h5 with h5
    injection h5 with h1 h2
    subst h1
    subst h2
    rw [newRow_next, e3]
    refine ⟨by omega, fun hi hn => ?_⟩
    have fr2 := newRow_fr (hlog hi).inv (by rw [e3]; exact hn) [Value.string k] t
    refine ⟨(hlog hi).trans fr2, fun φ T w args' hv hr hT hfr => ?_⟩
    obtain ⟨i, j, es', rfl, q1, q2, q3⟩ := look hi fr2 hv hr hT
    have hes : ∃ v', es' = #[⟨.string k, v', born⟩] := by
      generalize hq : es'.toList = l at q3
      cases q3 with
      | cons _ _ v' _ _ l' hk hv hl =>
        cases hl
        exact ⟨v', by cases es'; cases hq; rfl⟩
    obtain ⟨v', rfl⟩ := hes
    refine (hC.some_ g t hg it hit i.blk j.blk clock w k v' born q1 q2 c1 c2).mono ?_
    rintro e w' ⟨gb, cap, C, rfl, g1, g2, g3, g4, g5, g6⟩
    have hr' : Rel P φ T (logR (logR A c) b) w := hr.heap e1 e2 rfl
    have hfr' : φ (logR (logR A c) b).next = none := by rw [e3]; exact hfr _ (Nat.le_refl _) (by rw [newRow_next, e3]; omega)
    obtain ⟨φ', m1, m2⟩ := Post.fresh (e := t) (cells := [Value.string k]) (hlog hi).inv (by rw [e3]; exact hn) hr' hfr' g6 g1 g2 (by rw [g4]; exact g3) (by
      show VRels φ [Value.string k] (C.toList.take 1)
      rw [g5]
      exact .cons _ _ _ _ (.string k) .nil)
    rw [e3] at m1
    refine ⟨φ', ?_, .ret _ _ ?_⟩
    · refine ⟨m2.ext, fun x hx => m2.out x (by rw [e3]; exact hx), m2.rel.sub fun x hx => ?_, m2.img, m2.size, m2.same, m2.os, m2.tape, m2.output⟩
      rw [e3]
      exact hx
    · have := VR.slice (φ := φ') A.next 0 1 1 cap ⟨gb, 0, none⟩ _ m1 (Nat.le_refl _) g3 (.inr rfl) (by show 0 + cap * P.cellsOf t ≤ C.size; rw [hC.one g t hg, g4]; omega)
      exact this
  · cases h0
theorem glob_size {φ : Emb} {T : Nat → Prop} {A : AS} {w : World} (hr : Rel P φ T A w) : P.globals.size ≤ w.heap.size := by
  rcases Nat.eq_zero_or_pos P.globals.size with h | h
  · omega
  · obtain ⟨i, e1, e2, _⟩ := hr.glob (P.globals.size - 1) (by omega)
    have := hr.blk _ _ e1
    omega
theorem look_ok (hC : OrcCon P orc) {g off : Nat} {f : ByteArray → ByteArray → Option (ByteArray × Bool)} (hg : orc.look g = some (off, f)) {args : Array Value} {A A' : AS} {r : AEnd} (h : orcLook off f args.toList A = some (r, A')) : A.next ≤ A'.next ∧ (Inv A → A'.next ≤ A'.next → CallSound P g args A r A') := by
  unfold orcLook at h
  split at h
  case h_2 => cases h
  rename_i b o n hargs
  have hargs : args = #[.pointer (some ⟨b, o, none⟩), .string n] := by cases args; cases hargs; rfl
  subst hargs
  unfold lookIn at h
  split at h
  case h_2 => cases h
  rename_i vb vo len cap s1 hl1
  obtain ⟨hlen, h2⟩ := boolSome h
  clear h
  have hlen := Nat.eq_of_beq_eq_true hlen
  subst hlen
  unfold lookEnd at h2
  split at h2
  case h_2 => cases h2
  rename_i e s2 hl2
  split at h2
  case h_2 => cases h2
  rename_i v ok hv
  injection h2 with h2
  injection h2 with h3 h4
  subst h3
  subst h4
  have e1 : s1.next = A.next ∧ s1.heap = A.heap ∧ s1.fz = A.fz := by obtain ⟨_, _, _, _, _, _, _, rfl⟩ := ld_spec hl1; rw [logR_eq]; exact ⟨rfl, rfl, rfl⟩
  have e2 : s2.next = s1.next ∧ s2.heap = s1.heap ∧ s2.fz = s1.fz := by obtain ⟨_, _, _, _, _, _, _, rfl⟩ := ld_spec hl2; rw [logR_eq]; exact ⟨rfl, rfl, rfl⟩
  refine ⟨by omega, fun hi hn => ?_⟩
  have fr1 := ld_fr hi hl1
  have fr2 := ld_fr fr1.inv hl2
  refine ⟨fr1.trans fr2, fun φ T w args' hva hr hT hfr => ?_⟩
  generalize hq : args'.toList = l at hva
  cases hva with
  | cons _ v' _ l' hva hs =>
    cases hs with
    | cons _ u' _ l'' hu hs =>
      cases hs
      cases hu
      cases hva with
      | ptr _ _ i hφ =>
        have hargs' : args' = #[.pointer (some ⟨i.blk, i.sh + o, none⟩), .string n] := by cases args'; cases hq; rfl
        subst hargs'
        have hT1 : Foot A s1 T := fun c hc h => hT c hc (h.elim (fun h => .inl (fr2.r c h)) fun h => .inr (fr2.w c h))
        obtain ⟨xs', g1, g2, _⟩ := ld_run hi hl1 hr hT1 hφ
        cases g1 with
        | cons _ u _ _ hu g1 =>
          cases g1
          cases hu with
          | slice _ _ _ _ cap' a' j hj c1 c2 c3 c4 =>
            have ha : a' = ⟨j.blk, j.sh + vo, none⟩ := by rcases c3 with c3 | c3; omega; exact c3
            subst ha
            have hr1 : Rel P φ T s1 w := hr.heap e1.2.1 e1.2.2 rfl
            have hT2 : Foot s1 s2 T := fun c hc h => by
              refine hT c (by rw [← e1.1]; exact hc) ?_
              rcases h with h | h
              · exact .inl h
              · exact .inr h
            obtain ⟨ys', k1, k2, _⟩ := ld_run fr1.inv hl2 hr1 hT2 hj
            cases k1 with
            | cons _ z _ _ hz k1 =>
              cases k1
              cases hz
              have q1 := g2 0 _ rfl
              have q2 := k2 0 _ rfl
              rw [add_addr] at q1 q2
              refine (hC.look g off f hg n e v ok hv i.blk (i.sh + o) j.blk (j.sh + vo) cap' w (glob_size hr) (by rw [Nat.add_assoc]; exact q1) q2).mono ?_
              rintro r w' ⟨rfl, hb⟩
              exact ⟨φ, Post.below hr (by rw [e2.2.1, e1.2.1]) (by rw [e2.2.2, e1.2.2]) (by rw [e2.1, e1.1]) hb, .ret _ _ (.tuple _ _ (.cons _ _ _ _ (.string v) (.cons _ _ _ _ (.bool ok) .nil)))⟩
theorem tab_ok (hC : OrcCon P orc) {g : Nat} {args : Array Value} {A : AS} {v : Value} (hg : orc.tab g args.toList = some v) : A.next ≤ A.next ∧ (Inv A → A.next ≤ A.next → CallSound P g args A (.ret v) A) := by
  obtain ⟨h1, h2, h3⟩ := hC.tab g _ v hg
  refine ⟨Nat.le_refl _, fun hi _ => ⟨.refl hi, fun φ T w args' hargs hr _ _ => ?_⟩⟩
  have : args'.toList = args.toList := rels_eq (plain_eq φ 50) _ _ h1 hargs
  have : args' = args.toList.toArray := by rw [← this]
  rw [this]
  refine (h3 w (glob_size hr)).mono ?_
  rintro e w' ⟨rfl, hb⟩
  exact ⟨φ, Post.below hr rfl rfl rfl hb, .ret _ _ (plain_self φ 50 _ h2)⟩
theorem valEq_eq {a b : Value} (h : valEq a b = true) : a = b := by
  unfold valEq at h
  split at h
  · rename_i x y
    rw [bytesEq_iff] at h
    have : x.data.toList = y.data.toList := by simpa using h
    obtain ⟨⟨x⟩⟩ := x
    obtain ⟨⟨y⟩⟩ := y
    simp only at this
    rw [this]
  · rw [Nat.eq_of_beq_eq_true h]
  · cases h
theorem argsEq_eq : ∀ {l r : List Value}, argsEq l r = true → l = r := by
  intro l
  induction l with
  | nil => intro r h; cases r with | nil => rfl | cons => cases h
  | cons a l ih =>
    intro r h
    cases r with
    | nil => cases h
    | cons b r =>
      have h' : (Bool.rec false (argsEq l r) (valEq a b) : Bool) = true := h
      cases hv : valEq a b with
      | false => rw [hv] at h'; cases h'
      | true => rw [hv] at h'; rw [valEq_eq hv, ih h']
theorem tabFind_in : ∀ {t : List (Nat × List Value × Value)} {g : Nat} {args : List Value} {v : Value}, tabFind t g args = some v → (g, args, v) ∈ t := by
  intro t
  induction t with
  | nil => intro g args v h; cases h
  | cons e t ih =>
    intro g args v h
    have h' : (Bool.rec (tabFind t g args) (Bool.rec (tabFind t g args) (some e.2.2) (argsEq e.2.1 args)) (Nat.beq e.1 g) : Option Value) = some v := h
    cases h1 : Nat.beq e.1 g with
    | false => rw [h1] at h'; exact List.mem_cons_of_mem _ (ih h')
    | true =>
      rw [h1] at h'
      cases h2 : argsEq e.2.1 args with
      | false => rw [h2] at h'; exact List.mem_cons_of_mem _ (ih h')
      | true =>
        rw [h2] at h'
        have e1 := Nat.eq_of_beq_eq_true h1
        have e2 := argsEq_eq h2
        have h3 : some e.2.2 = some v := h'
        injection h3 with h3
        rw [← e1, ← e2, ← h3]
        exact List.mem_cons_self
theorem orcOK (hC : OrcCon P orc) : OrcOK P orc := by
  intro g args A r A' h
  unfold orcCall at h
  split at h
  · rename_i v hv
    injection h with h
    injection h with h
    injection h with h1 h2
    subst h1; subst h2
    exact tab_ok hC hv
  split at h
  · rename_i it t hk
    injection h with h
    exact orcKeys_ok (hC.keys g it t hk) h
  · split at h
    · rename_i t hs
      injection h with h
      exact sorted_ok hC hs h
    · split at h
      · rename_i off f hl
        injection h with h
        exact look_ok hC hl h
      · cases h
end
end Go.EvL
