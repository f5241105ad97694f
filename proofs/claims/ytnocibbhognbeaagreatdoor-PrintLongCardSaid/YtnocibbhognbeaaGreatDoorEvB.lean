/- An evaluator for closed calls, and its soundness. No statement is proved here. -/
import Derived.Test.YtnocibbhognbeaaGreatDoorEvA
import Derived.IntWalk
import Derived.Laws.BytesString
import Derived.Deep.Upon
import Derived.LoopN
import Derived.Recover
set_option linter.unusedSimpArgs false
set_option linter.unusedVariables false
namespace Go.EvL
open Go
theorem Foot.wr {A A' : AS} {T : Nat → Prop} (h : Foot A A' T) {c : Nat} (hc : c < A.next) (hb : A'.w.testBit c = true) : T c := h c hc (.inr hb)
section
variable {P : Program} {f : Fr} {A A' : AS} {nx : ANext} {d : Option Tmp} {ty : TypeId} {pos : String} {af : Array Edge} {gd : Option (Nat × Bool)}
theorem store_sound (hi : Inv A) (hn : A'.next ≤ A'.next) (t : TypeId) (x y : Operand) (h : evalOp P f ⟨d, .store t x y, ty, pos, af, gd⟩ A = some (nx, A')) : Sound P f A ⟨d, .store t x y, ty, pos, af, gd⟩ nx A' := by
  have h' : storeA P t (f.eval x) (f.eval y) A = some (nx, A') := h
  unfold storeA at h'
  split at h'
  · rename_i b off hx
    split at h'
    · rename_i v hy
      split at h'
      · rename_i n hsz
        obtain ⟨hc, h1⟩ := boolSome h'
        unfold skipOf at h1
        split at h1
        · rename_i s1 hs1
          injection h1 with h1
          injection h1 with h2 h3
          subst h2
          subst h3
          have hn0 : A.next ≤ A.next := by
            by_cases hle : A.next ≤ A.next
            · exact hle
            · exfalso
              unfold stc at hs1
              split at hs1
              · rename_i cells e cls st hb
                unfold stIn at hs1
                obtain ⟨_, hs1⟩ := boolSome hs1
                rw [forceL_eq] at hs1
                injection hs1 with hs1
                rw [logW_eq, put_eq] at hs1
                have hnx : s1.next = (alone A b cls).next := by rw [← hs1]
                unfold alone at hnx
                have kn : ∀ (l : List Nat) (B : AS), (kill B l).next = B.next := by
                  intro l
                  induction l with
                  | nil => intro B; rfl
                  | cons q l ih =>
                    intro B
                    have : (kill B (q :: l)) = kill (kill1 B q) l := rfl
                    rw [this, ih]
                    unfold kill1
                    split
                    · rw [put_eq]
                    · rfl
                split at hnx
                · omega
                · rw [setMem_eq] at hnx
                  have := kn (List.filter (fun m => !(Nat.beq m b)) ‹_›) A
                  simp only at hnx
                  omega
              · cases hs1
          obtain ⟨cells, e, cls, st, K, sp⟩ := stc_spec hi hn0 hs1
          refine ⟨sp.wr.fr hi, fun φ T w a hf hr hT _ => ?_⟩
          have hp := hf.eval hx
          have hv := cells_rel (hf.eval hy)
          generalize hq : a.eval x = q at hp
          generalize hu : a.eval y = u at hv
          cases hp with
          | ptr _ _ i hφ =>
            have hTc : T cls := hT.wr (hi.lt _ _ sp.row).2 (by rw [sp.wr.w, bit_or]; simp)
            obtain ⟨C, fz, e', g1, g2, g3, g4⟩ := Post.store hi sp hr hTc hv hφ
            refine ⟨φ, _, g4, ?_⟩
            have hsize : u.cells.size = n := by
              have := hv.length
              have h5 := Nat.eq_of_beq_eq_true hc
              simp at this
              omega
            have e : (execOp a.eval ⟨d, .store t x y, ty, pos, af, gd⟩).run P w = .ok .skip (w.setRow i.blk (C.toList.take (i.sh + off) ++ u.cells.toList ++ C.toList.drop (i.sh + off + u.cells.toList.length)).toArray) := by
              refine run_u ?_
              rw [hq, hu]
              have hst := run_storeCells_atF P i.blk (i.sh + off) e' fz u.cells.toList 0 C w g1 (by omega) (by omega) (ones_rel hv sp.one)
              simp only [Instr.storeAt, Instr.sureAddr, storeVar, Sem.run_bind, Sem.run_pure, Result.andThen, run_size hsz, hsize]
              simp only [Nat.add_zero] at hst
              simp [hst]
            rw [e]
            exact .skip
        · cases h1
      · cases h'
    · cases h'
  · cases h'
theorem nilCheck_sound (hi : Inv A) (x : Operand) (h : evalOp P f ⟨d, .nilCheck x, ty, pos, af, gd⟩ A = some (nx, A')) : Sound P f A ⟨d, .nilCheck x, ty, pos, af, gd⟩ nx A' := by
  have h' : nilCheckA P f ⟨d, .nilCheck x, ty, pos, af, gd⟩ (f.eval x) A = some (nx, A') := h
  unfold nilCheckA at h'
  split at h'
  · rename_i p hx
    injection h' with h'
    injection h' with h1 h2
    subst h1
    subst h2
    refine sound_same hi fun φ w a hf => ?_
    have hp := hf.eval hx
    have e : (execOp a.eval ⟨d, .nilCheck x, ty, pos, af, gd⟩).run P w = .ok (.value (a.eval x)) w := by
      generalize hq : a.eval x = q at hp
      cases hp
      simp only [execOp, hq]
      rfl
    rw [e]
    exact .val _ _ hp
  · rename_i g y z hx
    injection h' with h'
    injection h' with h1 h2
    subst h1
    subst h2
    refine sound_same hi fun φ w a hf => ?_
    have hp := hf.eval hx
    have e : (execOp a.eval ⟨d, .nilCheck x, ty, pos, af, gd⟩).run P w = .ok (.value (a.eval x)) w := by
      generalize hq : a.eval x = q at hp
      cases hp
      simp only [execOp, hq]
      rfl
    rw [e]
    exact .val _ _ hp
  · exact pure_sound hi _ (by intro _ _ hh; cases hh) h'
theorem iface_sound (hi : Inv A) (t : TypeId) (x : Operand) (h : evalOp P f ⟨d, .makeInterface t x, ty, pos, af, gd⟩ A = some (nx, A')) : Sound P f A ⟨d, .makeInterface t x, ty, pos, af, gd⟩ nx A' := by
  have h' : ifaceA P t (f.eval x) A = some (nx, A') := h
  unfold ifaceA at h'
  split at h'
  · rename_i v hx
    split at h'
    · cases h'
    · rename_i dd hni hd
      injection h' with h'
      injection h' with h1 h2
      subst h1
      subst h2
      refine sound_same hi fun φ w a hf => ?_
      have e : (execOp a.eval ⟨d, .makeInterface t x, ty, pos, af, gd⟩).run P w = .ok (.value (.iface t (a.eval x))) w := by
        refine run_v ?_
        simp only [Instr.makeInterface, Sem.run_bind, run_underlying hd, Result.andThen]
        cases dd <;> first | rfl | exact absurd hd (by intro hh; exact hni _ hh)
      rw [e]
      exact .val _ _ (.iface t _ _ (hf.eval hx))
    · cases h'
  · cases h'
theorem evals_rel {φ : Emb} {a : Act} (hf : FRel φ f a) : ∀ (l : List Operand) {vs : List Value}, evals f l = some vs → VRels φ vs (l.map a.eval) := by
  intro l
  induction l with
  | nil => intro vs h; have h' : some ([] : List Value) = some vs := h; injection h' with h'; subst h'; exact .nil
  | cons x l ih =>
    intro vs h
    have h' : (match f.eval x with | some v => (match evals f l with | some vs => some (v :: vs) | none => none) | none => none) = some vs := h
    split at h'
    · rename_i v hx
      split at h'
      · rename_i us hu
        injection h' with h'
        subst h'
        exact .cons _ _ _ _ (hf.eval hx) (ih hu)
      · cases h'
    · cases h'
theorem func_sound (hi : Inv A) (fn : Fn) (x y : Array Operand) (h : evalOp P f ⟨d, .makeFunc fn x y, ty, pos, af, gd⟩ A = some (nx, A')) : Sound P f A ⟨d, .makeFunc fn x y, ty, pos, af, gd⟩ nx A' := by
  have h' : funcA f fn x y A = some (nx, A') := h
  unfold funcA at h'
  split at h'
  · split at h'
    · rename_i us hx
      split at h'
      · rename_i vs hy
        injection h' with h'
        injection h' with h1 h2
        subst h1
        subst h2
        refine sound_same hi fun φ w a hf => ?_
        refine .val _ (.func _ (x.map a.eval) (y.map a.eval)) (.func _ _ _ _ _ ?_ ?_)
        · rw [Array.toList_map]; exact evals_rel hf _ hx
        · rw [Array.toList_map]; exact evals_rel hf _ hy
      · cases h'
    · cases h'
  · cases h'
theorem fieldAddr_sound (hi : Inv A) (t : TypeId) (x : Operand) (i : Nat) (h : evalOp P f ⟨d, .fieldAddr t x i, ty, pos, af, gd⟩ A = some (nx, A')) : Sound P f A ⟨d, .fieldAddr t x i, ty, pos, af, gd⟩ nx A' := by
  have h' : fieldAddrA P t (evalG P f x) i A = some (nx, A') := h
  unfold fieldAddrA at h'
  split at h'
  · rename_i b off hx
    split at h'
    · rename_i fs hfs
      split at h'
      · rename_i fl hfl
        split at h'
        · rename_i m hsz
          injection h' with h'
          injection h' with h1 h2
          subst h1
          subst h2
          refine sound_sameR hi fun φ T w a hf hr => ?_
          have hp := hf.evalG hr hx
          generalize hq : a.eval x = q at hp
          cases hp with
          | ptr _ _ j hφ =>
            have hu : P.underlying t = some (.struct fs) := by
              unfold fieldsOf at hfs
              split at hfs
              · rename_i hu; injection hfs with hfs; subst hfs; exact hu
              · cases hfs
            have e : (execOp a.eval ⟨d, .fieldAddr t x i, ty, pos, af, gd⟩).run P w = .ok (.value (.pointer (some ⟨j.blk, j.sh + (off + fl.offset), none⟩))) w := by
              refine run_v ?_
              rw [hq]
              simp only [Instr.fieldAt, Instr.sureAddr, fieldPlace, Sem.run_bind, run_underlying hu, Result.andThen, hfl, Sem.run_pure, run_size hsz]
              simp [add_addr, Nat.add_assoc]
            rw [e]
            exact .val _ _ (.ptr _ _ j hφ)
        · cases h'
      · cases h'
    · cases h'
  · cases h'
end
end Go.EvL
namespace Go.EvL
open Go
section
variable {P : Program} {f : Fr} {A A' : AS} {nx : ANext} {d : Option Tmp} {ty : TypeId} {pos : String} {af : Array Edge} {gd : Option (Nat × Bool)}
theorem fields_under {t : TypeId} {fs : Array Field} (h : fieldsOf P t = some fs) : P.underlying t = some (.struct fs) := by
  unfold fieldsOf at h
  split at h
  · rename_i hu; injection h with h; subst h; exact hu
  · cases h
theorem part_rel {φ : Emb} {t : TypeId} {cs cs' : Array Value} {off : Nat} {v : Value} (h : partA P t cs.toList off = some v) (hv : VRels φ cs.toList cs'.toList) : ∃ v', VRel φ v v' ∧ ∀ w, (part t cs' off).run P w = .ok v' w := by
  unfold partA at h
  split at h
  · rename_i dd hd
    rcases boolRec h with ⟨ha, h1⟩ | ⟨ha, h1⟩
    · obtain ⟨v', g1, g2⟩ := VRels.get off hv h1
      refine ⟨v', g2, fun w => ?_⟩
      simp only [part, Sem.run_bind, run_agg hd, Result.andThen, ha]
      rw [show cs'[off]? = some v' by simpa using g1]
      rfl
    · cases hs : szOf P t with
      | none => rw [hs] at h1; cases h1
      | some n =>
        rw [hs] at h1
        injection h1 with h1
        subst h1
        refine ⟨.agg (cs'.extract off (off + n)), .agg _ _ ?_, fun w => ?_⟩
        · have := (hv.drop off).take n
          simpa [List.extract_eq_take_drop] using this
        · simp only [part, Sem.run_bind, run_agg hd, Result.andThen, ha]
          simp [run_size hs, Result.andThen]
  · cases h
theorem field_sound (hi : Inv A) (t : TypeId) (x : Operand) (i : Nat) (h : evalOp P f ⟨d, .field t x i, ty, pos, af, gd⟩ A = some (nx, A')) : Sound P f A ⟨d, .field t x i, ty, pos, af, gd⟩ nx A' := by
  have h' : fieldA P t (f.eval x) i A = some (nx, A') := h
  unfold fieldA at h'
  split at h'
  · rename_i cs hx
    split at h'
    · rename_i fs hfs
      split at h'
      · rename_i fl hfl
        obtain ⟨v, hv, rfl, rfl⟩ := valR_some h'
        refine sound_same hi fun φ w a hf => ?_
        have hp := hf.eval hx
        generalize hq : a.eval x = q at hp
        cases hp with
        | agg _ cs' hcs =>
          obtain ⟨v', g1, g2⟩ := part_rel hv hcs
          have hu := fields_under hfs
          have e : (execOp a.eval ⟨d, .field t x i, ty, pos, af, gd⟩).run P w = .ok (.value v') w := by
            refine run_v ?_
            rw [hq]
            simp only [Instr.field, Sem.run_bind, run_underlying hu, Result.andThen, hfl, asAgg, Sem.run_pure]
            exact g2 w
          rw [e]
          exact .val _ _ g1
      · cases h'
    · cases h'
  · cases h'
theorem natOf_int {v : Value} {n : Nat} (h : natOf? v = some n) : ∃ k, v = .int k n := by
  unfold natOf? at h
  split at h
  · rename_i k m; injection h with h; subst h; exact ⟨k, rfl⟩
  · cases h
theorem elem_ok {b off len i : Nat} {e : TypeId} (h : elemAt P b off len i e A = some (nx, A')) : ∃ n, szOf P e = some n ∧ i < len ∧ nx = .val (.pointer (some ⟨b, off + i * n, none⟩)) ∧ A' = A := by
  unfold elemAt at h
  split at h
  · rename_i n hn
    obtain ⟨h1, h2⟩ := boolSome h
    injection h2 with h2
    injection h2 with h3 h4
    exact ⟨n, hn, Nat.le_of_ble_eq_true h1, h3.symm, h4.symm⟩
  · cases h
theorem indexAddr_sound (hi : Inv A) (t : TypeId) (x y : Operand) (h : evalOp P f ⟨d, .indexAddr t x y, ty, pos, af, gd⟩ A = some (nx, A')) : Sound P f A ⟨d, .indexAddr t x y, ty, pos, af, gd⟩ nx A' := by
  have h' : indexAddrA P t (evalG P f x) (f.eval y) A = some (nx, A') := h
  unfold indexAddrA at h'
  split at h'
  · rename_i b off len cap e i hx hu hy
    obtain ⟨n, hn, hlt, rfl, rfl⟩ := elem_ok h'
    refine sound_sameR hi fun φ T w a hf hrel => ?_
    have hp := hf.evalG hrel hx
    cases hfy : f.eval y with
    | none => rw [hfy] at hy; cases hy
    | some vy =>
      rw [hfy] at hy
      obtain ⟨k, rfl⟩ := natOf_int hy
      have hpy := hf.eval hfy
      generalize hq : a.eval x = q at hp
      generalize hq2 : a.eval y = q2 at hpy
      cases hpy
      cases hp with
      | slice _ _ _ _ cap' a' j hφ hl hc ha hr =>
        have ha' : a' = ⟨j.blk, j.sh + off, none⟩ := ha.resolve_left (by omega)
        subst ha'
        have e : (execOp a.eval ⟨d, .indexAddr t x y, ty, pos, af, gd⟩).run P w = .ok (.value (.pointer (some ⟨j.blk, j.sh + (off + i * n), none⟩))) w := by
          refine run_v ?_
          rw [hq, hq2]
          have h1 : (0 : Int) ≤ (i : Int) ∧ (i : Int) < (len : Int) := by omega
          simp only [Instr.indexAt, asIntOf, Sem.run_bind, run_underlying hu, Result.andThen, Sem.run_pure, run_size hn, h1, and_self, if_true]
          simp [add_addr, Nat.add_assoc]
        rw [e]
        exact .val _ _ (.ptr _ _ j hφ)
  · rename_i b off len cap e i hx hu hy
    obtain ⟨n, hn, hlt, rfl, rfl⟩ := elem_ok h'
    refine sound_sameR hi fun φ T w a hf hrel => ?_
    have hp := hf.evalG hrel hx
    cases hfy : f.eval y with
    | none => rw [hfy] at hy; cases hy
    | some vy =>
      rw [hfy] at hy
      obtain ⟨k, rfl⟩ := natOf_int hy
      have hpy := hf.eval hfy
      generalize hq : a.eval x = q at hp
      generalize hq2 : a.eval y = q2 at hpy
      cases hpy
      cases hp with
      | sliceX _ _ _ a' j hφ ha =>
        have ha' : a' = ⟨j.blk, j.sh + off, none⟩ := ha.resolve_left (by omega)
        subst ha'
        have e : (execOp a.eval ⟨d, .indexAddr t x y, ty, pos, af, gd⟩).run P w = .ok (.value (.pointer (some ⟨j.blk, j.sh + (off + i * n), none⟩))) w := by
          refine run_v ?_
          rw [hq, hq2]
          have h1 : (0 : Int) ≤ (i : Int) ∧ (i : Int) < (len : Int) := by omega
          simp only [Instr.indexAt, asIntOf, Sem.run_bind, run_underlying hu, Result.andThen, Sem.run_pure, run_size hn, h1, and_self, if_true]
          simp [add_addr, Nat.add_assoc]
        rw [e]
        exact .val _ _ (.ptr _ _ j hφ)
  · rename_i b off len e i hx hu hy
    obtain ⟨n, hn, hlt, rfl, rfl⟩ := elem_ok h'
    refine sound_sameR hi fun φ T w a hf hrel => ?_
    have hp := hf.evalG hrel hx
    cases hfy : f.eval y with
    | none => rw [hfy] at hy; cases hy
    | some vy =>
      rw [hfy] at hy
      obtain ⟨k, rfl⟩ := natOf_int hy
      have hpy := hf.eval hfy
      generalize hq : a.eval x = q at hp
      generalize hq2 : a.eval y = q2 at hpy
      cases hpy
      cases hp with
      | ptr _ _ j hφ =>
        have e : (execOp a.eval ⟨d, .indexAddr t x y, ty, pos, af, gd⟩).run P w = .ok (.value (.pointer (some ⟨j.blk, j.sh + (off + i * n), none⟩))) w := by
          refine run_v ?_
          rw [hq, hq2]
          have h1 : (0 : Int) ≤ (i : Int) ∧ (i : Int) < (len : Int) := by omega
          simp only [Instr.indexAt, Instr.sureAddr, asIntOf, Sem.run_bind, run_underlying hu, Result.andThen, Sem.run_pure, run_size hn, h1, and_self, if_true]
          simp [add_addr, Nat.add_assoc]
        rw [e]
        exact .val _ _ (.ptr _ _ j hφ)
  · cases h'
theorem index_sound (hi : Inv A) (t : TypeId) (x y : Operand) (h : evalOp P f ⟨d, .index t x y, ty, pos, af, gd⟩ A = some (nx, A')) : Sound P f A ⟨d, .index t x y, ty, pos, af, gd⟩ nx A' := by
  have h' : indexA P f ⟨d, .index t x y, ty, pos, af, gd⟩ t (f.eval x) (f.eval y) A = some (nx, A') := h
  unfold indexA at h'
  split at h'
  · rename_i s hx
    split at h'
    · rename_i hu
      split at h'
      · rename_i i hy
        unfold byteA at h'
        split at h'
        · rename_i c hc
          rw [forceN_eq] at h'
          injection h' with h'
          injection h' with h1 h2
          subst h1
          subst h2
          refine sound_same hi fun φ w a hf => ?_
          have hp := hf.eval hx
          cases hfy : f.eval y with
          | none => rw [hfy] at hy; cases hy
          | some vy =>
            rw [hfy] at hy
            obtain ⟨k, rfl⟩ := natOf_int hy
            have hpy := hf.eval hfy
            generalize hq : a.eval x = q at hp
            generalize hq2 : a.eval y = q2 at hpy
            cases hpy
            cases hp
            have hc' : s[i]? = some c := by
              rw [Array.getElem?_toList] at hc
              exact hc
            have e : (execOp a.eval ⟨d, .index t x y, ty, pos, af, gd⟩).run P w = .ok (.value (.int .u8 c.toNat)) w := by
              refine run_v ?_
              rw [hq, hq2]
              simp only [Instr.index, asIntOf, Sem.run_bind, run_underlying hu, Result.andThen, Sem.run_pure]
              simp [hc']
            rw [e]
            exact .val _ _ (.int _ _)
        · cases h'
      · cases h'
    · cases h'
  · exact pure_sound hi _ (by intro _ _ hh; cases hh) h'
end
end Go.EvL
namespace Go.EvL
open Go
section
variable {P : Program} {f : Fr} {A A' : AS} {nx : ANext} {d : Option Tmp} {ty : TypeId} {pos : String} {af : Array Edge} {gd : Option (Nat × Bool)}
/-- a bound of a slice expression, on both sides -/
def OptV (x : Option Operand) (a : Act) (n : Nat) (dflt : Nat) : Prop := (x = none ∧ n = dflt) ∨ ∃ y k, x = some y ∧ a.eval y = .int k (n : Int)
theorem optNat_rel {φ : Emb} {a : Act} (hf : FRel φ f a) {x : Option Operand} {dflt n : Nat} (h : optNat f x dflt = some n) : OptV x a n dflt := by
  unfold optNat at h
  split at h
  · injection h with h; exact .inl ⟨rfl, h.symm⟩
  · rename_i y
    split at h
    · rename_i v hv
      obtain ⟨k, rfl⟩ := natOf_int h
      have := hf.eval hv
      generalize hq : a.eval y = q at this
      cases this
      exact .inr ⟨y, k, rfl, hq⟩
    · cases h
theorem bound_run {x : Value} {k : IntKind} {n y : Nat} (hx : x = .int k (n : Int)) (hle : n ≤ y) (c : BoundsCode) (w : World) : (Instr.sliceBound x y c).run P w = .ok n w := by
  subst hx
  have h1 : (0 : Int) ≤ (n : Int) ∧ (n : Int) ≤ (y : Int) := by omega
  simp only [Instr.sliceBound, asIntOf, Sem.run_bind, Sem.run_pure, Result.andThen, h1, and_self, if_true]
  simp
theorem bounds_run {lo hi mx : Option Operand} {a : Act} {l h m len cap' : Nat} (isS : Bool) (hl : OptV lo a l 0) (hh : OptV hi a h len) (hm : (mx = none ∧ m = cap') ∨ ∃ y k, mx = some y ∧ a.eval y = .int k (m : Int)) (hhi : mx = none ∨ hi ≠ none) (h1 : l ≤ h) (h2 : h ≤ m) (h3 : m ≤ cap') (w : World) :
    (Instr.sliceBounds isS len cap' (lo.map a.eval) (hi.map a.eval) (mx.map a.eval)).run P w = .ok (l, h, m) w := by
  rcases hm with ⟨rfl, rfl⟩ | ⟨y, k, rfl, hy⟩
  · rcases hh with ⟨rfl, rfl⟩ | ⟨y2, k2, rfl, hy2⟩
    · rcases hl with ⟨rfl, rfl⟩ | ⟨y3, k3, rfl, hy3⟩
      · rfl
      · simp [Instr.sliceBounds, Result.andThen, bound_run hy3 h1]
    · rcases hl with ⟨rfl, rfl⟩ | ⟨y3, k3, rfl, hy3⟩
      · simp [Instr.sliceBounds, Result.andThen, bound_run hy2 h2]
      · simp [Instr.sliceBounds, Sem.run_bind, Result.andThen, bound_run hy2 h2, bound_run hy3 h1]
  · rcases hh with ⟨rfl, rfl⟩ | ⟨y2, k2, rfl, hy2⟩
    · exact absurd rfl (hhi.resolve_left (by simp))
    · rcases hl with ⟨rfl, rfl⟩ | ⟨y3, k3, rfl, hy3⟩
      · simp [Instr.sliceBounds, Sem.run_bind, Result.andThen, bound_run hy h3, bound_run hy2 h2]
      · simp [Instr.sliceBounds, Sem.run_bind, Result.andThen, bound_run hy h3, bound_run hy2 h2, bound_run hy3 h1]
theorem es_ok {b n c : Nat} (h : esCls P A b n = some c) : (∃ cells e st, A.heap.get b = some (.row cells e c st true)) ∧ ∀ {φ : Emb} {T : Nat → Prop} {w : World}, Rel P φ T A w → T c → ∀ {i : Inf}, φ b = some i → i.es = n := by
  unfold esCls at h
  split at h
  · rename_i cells e c' st hb
    split at h
    · rename_i m hm
      obtain ⟨_, _, _, h3⟩ := sz_info hm
      obtain ⟨h1, h2⟩ := boolSome h
      injection h2 with h2
      subst h2
      refine ⟨⟨_, _, _, hb⟩, fun hr hT i hφ => ?_⟩
      obtain ⟨j, _, _, _, e1, _, _, _, e5, _⟩ := hr.cells hb hT
      obtain rfl : j = i := by rw [hφ] at e1; injection e1 with e1; exact e1.symm
      rw [e5, h3]
      exact Nat.eq_of_beq_eq_true h1
    · cases h
  · cases h
theorem slice_sound (hi : Inv A) (t : TypeId) (x : Operand) (lo hi' mx : Option Operand) (h : evalOp P f ⟨d, .slice t x lo hi' mx, ty, pos, af, gd⟩ A = some (nx, A')) : Sound P f A ⟨d, .slice t x lo hi' mx, ty, pos, af, gd⟩ nx A' := by
  have hg : sliceG mx hi' (sliceA P f ⟨d, .slice t x lo hi' mx, ty, pos, af, gd⟩ t (f.eval x) lo hi' mx A) = some (nx, A') := h
  have hmx : mx = none ∨ hi' ≠ none := by
    cases mx with
    | none => exact .inl rfl
    | some m =>
      cases hi' with
      | none => cases (show (none : Res) = some (nx, A') from hg)
      | some _ => exact .inr (fun hh => by cases hh)
  have h' : sliceA P f ⟨d, .slice t x lo hi' mx, ty, pos, af, gd⟩ t (f.eval x) lo hi' mx A = some (nx, A') := by cases mx <;> cases hi' <;> first | exact hg | cases hg
  unfold sliceA at h'
  split at h'
  · rename_i b off len cap hx
    split at h'
    · rename_i e hu
      split at h'
      · rename_i l hh m n el eh em hn
        have key : (∃ cc, esCls P A b n = some cc ∧ sliceIn b off l hh m cap n (logR A cc) = some (nx, A')) ∨ (∃ y, mx = some y ∧ ∃ cc, esCls P A b n = some cc ∧ sliceX b off l hh m cap n (logR A cc) = some (nx, A')) := by
          cases mx with
          | none =>
            have h2 : sliceAt P b off l hh m cap n A = some (nx, A') := h'
            unfold sliceAt at h2
            split at h2
            · rename_i cc hes; exact .inl ⟨cc, hes, h2⟩
            · cases h2
          | some y =>
            have h2 : sliceMax P b off l hh m cap n A = some (nx, A') := h'
            unfold sliceMax at h2
            split at h2
            · rename_i cc hes
              rcases boolRec h2 with ⟨_, h3⟩ | ⟨_, h3⟩
              · exact .inl ⟨cc, hes, h3⟩
              · exact .inr ⟨y, rfl, cc, hes, h3⟩
            · cases h2
        clear h'
        rcases key with ⟨cc, hes, h'⟩ | ⟨yy, hyy, cc, hes, h'⟩
        case inr =>
          obtain ⟨⟨_, _, _, hrow⟩, _⟩ := es_ok hes
          have hcn := (hi.lt _ _ hrow).2
          unfold sliceX at h'
          obtain ⟨hc, h1⟩ := boolSome h'
          simp only [Bool.and_eq_true] at hc
          have c1 := Nat.le_of_ble_eq_true hc.1
          have c2 := Nat.eq_of_beq_eq_true hc.2.1
          have c3 := Nat.le_of_ble_eq_true hc.2.2
          injection h1 with h1
          injection h1 with h2 h3
          subst h2
          subst h3
          refine ⟨logR_fr hi hcn, fun φ T w a hf hrel hT _ => ⟨φ, w, .refl hrel (by rw [logR_eq]) (by rw [logR_eq]) (by rw [logR_eq]) rfl rfl rfl rfl, ?_⟩⟩
          have hp := hf.eval hx
          have r1 := optNat_rel hf el
          have r2 := optNat_rel hf eh
          have r3 := optNat_rel hf em
          generalize hq : a.eval x = q at hp
          cases hp with
          | slice _ _ _ _ cap' a' j hφ hl hcp ha hr =>
            have hm1 : (mx = none ∧ m = cap') ∨ ∃ y k, mx = some y ∧ a.eval y = .int k (m : Int) := by
              rcases r3 with ⟨r3, _⟩ | ⟨y, k, e1, e2⟩
              · rw [hyy] at r3; cases r3
              · exact .inr ⟨y, k, e1, e2⟩
            have hb := bounds_run (P := P) true r1 r2 hm1 hmx c1 (by omega : hh ≤ m) (by omega : m ≤ cap') w
            have e : (execOp a.eval ⟨d, .slice t x lo hi' mx, ty, pos, af, gd⟩).run P w = .ok (.value (.slice (if m = l then some a' else some (a'.add (l * n))) (hh - l) (m - l))) w := by
              refine run_v ?_
              rw [hq]
              simp only [Instr.sliceAt, Instr.slice, Sem.run_bind, run_underlying hu, Result.andThen, hb, run_size hn]
              rfl
            rw [e]
            have hml' : m - l = hh - l := by omega
            rw [hml']
            by_cases hml : m = l
            · rw [if_pos hml]
              exact .val _ _ (.sliceX _ _ _ _ j hφ (.inl (by show hh - l = 0; omega)))
            · rw [if_neg hml]
              refine .val _ _ (.sliceX _ _ _ _ j hφ (.inr ?_))
              have ha' : a' = ⟨j.blk, j.sh + off, none⟩ := ha.resolve_left (by omega)
              rw [ha', add_addr, Nat.add_assoc]
              rfl
        obtain ⟨⟨_, _, _, hrow⟩, hes⟩ := es_ok hes
        have hcn := (hi.lt _ _ hrow).2
        unfold sliceIn at h'
        obtain ⟨hc, h1⟩ := boolSome h'
        simp only [Bool.and_eq_true] at hc
        have c1 := Nat.le_of_ble_eq_true hc.1
        have c2 := Nat.le_of_ble_eq_true hc.2.1
        have c3 := Nat.le_of_ble_eq_true hc.2.2
        injection h1 with h1
        injection h1 with h2 h3
        subst h2
        subst h3
        refine ⟨logR_fr hi hcn, fun φ T w a hf hrel hT _ => ⟨φ, w, .refl hrel (by rw [logR_eq]) (by rw [logR_eq]) (by rw [logR_eq]) rfl rfl rfl rfl, ?_⟩⟩
        have hTc : T cc := hT cc hcn (.inl (by rw [logR_eq, bit_or]; simp))
        have hp := hf.eval hx
        have r1 := optNat_rel hf el
        have r2 := optNat_rel hf eh
        have r3 := optNat_rel hf em
        generalize hq : a.eval x = q at hp
        cases hp with
        | slice _ _ _ _ cap' a' j hφ hl hcp ha hr =>
          -- the run's own third bound
          obtain ⟨m', hm1, hm2, hm3⟩ : ∃ m', ((mx = none ∧ m' = cap') ∨ ∃ y k, mx = some y ∧ a.eval y = .int k (m' : Int)) ∧ m ≤ m' ∧ m' ≤ cap' := by
            rcases r3 with ⟨rfl, rfl⟩ | ⟨y, k, rfl, hy⟩
            · exact ⟨cap', .inl ⟨rfl, rfl⟩, hcp, Nat.le_refl _⟩
            · exact ⟨m, .inr ⟨y, k, rfl, hy⟩, Nat.le_refl _, by omega⟩
          have hb := bounds_run (P := P) true r1 r2 hm1 hmx c1 (by omega : hh ≤ m') hm3 w
          have e : (execOp a.eval ⟨d, .slice t x lo hi' mx, ty, pos, af, gd⟩).run P w = .ok (.value (.slice (if m' = l then some a' else some (a'.add (l * n))) (hh - l) (m' - l))) w := by
            refine run_v ?_
            rw [hq]
            simp only [Instr.sliceAt, Instr.slice, Sem.run_bind, run_underlying hu, Result.andThen, hb, run_size hn]
            rfl
          rw [e]
          have hmul : off + l * n + (m' - l) * j.es ≤ j.sz := by
            have hjn := hes hrel hTc hφ
            rw [hjn] at hr ⊢
            rw [Nat.add_assoc, ← Nat.add_mul, Nat.add_sub_cancel' (by omega : l ≤ m')]
            exact Nat.le_trans (Nat.add_le_add_left (Nat.mul_le_mul_right _ hm3) _) hr
          by_cases hml : m' = l
          · rw [if_pos hml]
            exact .val _ _ (.slice _ _ _ _ _ _ j hφ (show hh - l ≤ m - l by omega) (show m - l ≤ m' - l by omega) (.inl (by omega)) hmul)
          · rw [if_neg hml]
            refine .val _ _ (.slice _ _ _ _ _ _ j hφ (show hh - l ≤ m - l by omega) (show m - l ≤ m' - l by omega) (.inr ?_) hmul)
            have ha' : a' = ⟨j.blk, j.sh + off, none⟩ := ha.resolve_left (by omega)
            rw [ha', add_addr, Nat.add_assoc]
            rfl
      · cases h'
    · cases h'
  · rename_i hx
    split at h'
    · rename_i e hu el eh em
      split at h'
      · rename_i n hn
        injection h' with h'
        injection h' with h2 h3
        subst h2
        subst h3
        refine sound_same hi fun φ w a hf => ?_
        have hp := hf.eval hx
        have r1 := optNat_rel hf el
        have r2 := optNat_rel hf eh
        have r3 := optNat_rel hf em
        generalize hq : a.eval x = q at hp
        cases hp
        have hb := bounds_run (P := P) true r1 r2 r3 hmx (Nat.le_refl _) (Nat.le_refl _) (Nat.le_refl _) w
        have e : (execOp a.eval ⟨d, .slice t x lo hi' mx, ty, pos, af, gd⟩).run P w = .ok (.value (.slice none 0 0)) w := by
          refine run_v ?_
          rw [hq]
          simp only [Instr.sliceAt, Instr.slice, Sem.run_bind, run_underlying hu, Result.andThen, hb, run_size hn]
          rfl
        rw [e]
        exact .val _ _ .nilSlice
      · cases h'
    · exact pure_sound hi _ (by intro _ _ hh; cases hh) h'
  · rename_i s hx
    split at h'
    · rename_i hu
      split at h'
      · rename_i l hh el eh
        unfold strSlice at h'
        obtain ⟨hc, h1⟩ := boolSome h'
        rw [forceL_eq] at h1
        simp only [Bool.and_eq_true] at hc
        have c1 := Nat.le_of_ble_eq_true hc.1
        have c2 := Nat.le_of_ble_eq_true hc.2
        injection h1 with h1
        injection h1 with h2 h3
        subst h2
        subst h3
        refine sound_same hi fun φ w a hf => ?_
        have hp := hf.eval hx
        have r1 := optNat_rel hf el
        have r2 := optNat_rel hf eh
        generalize hq : a.eval x = q at hp
        cases hp
        have hsz : s.size = s.data.toList.length := Array.length_toList.symm
        have hb := bounds_run (P := P) (mx := none) (cap' := s.size) (m := s.size) false r1 r2 (.inl ⟨rfl, rfl⟩) (.inl rfl) c1 (by omega) (Nat.le_refl _) w
        rw [← hsz] at hb
        have e : (execOp a.eval ⟨d, .slice t x lo hi' none, ty, pos, af, gd⟩).run P w = .ok (.value (.string (s.extract l hh))) w := by
          refine run_v ?_
          rw [hq]
          have hb' : (Instr.sliceBounds false s.size s.size (lo.map a.eval) (hi'.map a.eval) none).run P w = .ok (l, hh, s.size) w := hb
          simp only [Instr.sliceAt, Instr.slice, Sem.run_bind, run_underlying hu, Result.andThen]
          simp [hb', Result.andThen]
        rw [e]
        have he : s.extract l hh = ⟨⟨(s.data.toList.drop l).take (hh - l)⟩⟩ := by
          apply ByteArray.ext
          rw [ByteArray.data_extract]
          apply Array.ext'
          simp [List.extract_eq_take_drop]
        rw [he]
        exact .val _ _ (.string _)
      · cases h'
    · cases h'
  · exact pure_sound hi _ (by intro _ _ hh; cases hh) h'
end
end Go.EvL
namespace Go.EvL
open Go
theorem bytesEq_iff : ∀ (l r : List UInt8), bytesEq l r = (l == r) := by
  intro l
  induction l with
  | nil => intro r; cases r <;> rfl
  | cons a l ih =>
    intro r
    cases r with
    | nil => rfl
    | cons b r =>
      show (Bool.rec false (bytesEq l r) (Nat.beq a.toNat b.toNat) : Bool) = _
      rw [ih r]
      by_cases hab : a = b
      · subst hab
        rw [Nat.beq_refl]
        show (l == r) = (a :: l == a :: r)
        simp
      · have : Nat.beq a.toNat b.toNat = false := by
          cases hq : Nat.beq a.toNat b.toNat with
          | false => rfl
          | true => exact absurd (UInt8.toNat_inj.1 (Nat.eq_of_beq_eq_true hq)) hab
        rw [this]
        show false = (a :: l == b :: r)
        simp [hab]
theorem boolV_eq (b : Bool) : boolV b = some (.bool b) := by cases b <;> rfl
theorem beq_int (a b : Nat) : ((a : Int) == (b : Int)) = Nat.beq a b := by
  cases h : Nat.beq a b with
  | true => rw [Nat.eq_of_beq_eq_true h]; simp
  | false =>
    have : a ≠ b := fun e => by subst e; rw [Nat.beq_refl] at h; cases h
    simp; omega
theorem ble_int (a b : Nat) : decide ((a : Int) ≤ (b : Int)) = Nat.ble a b := by
  cases h : Nat.ble a b with
  | true => have := Nat.le_of_ble_eq_true h; simp; omega
  | false =>
    have : ¬ a ≤ b := fun e => by rw [Nat.ble_eq_true_of_le e] at h; cases h
    simp; omega
theorem blt_int (a b : Nat) : decide ((a : Int) < (b : Int)) = Nat.ble (Nat.succ a) b := by
  rw [← ble_int]; exact decide_eq_decide.2 (by omega)
theorem fastCmp_ok {op : BinOp} {a b : Nat} {v : Value} (h : fastCmp op a b = some v) : ∀ (P : Program) (w : World), (Op.intCmp op (a : Int) (b : Int)).run P w = .ok v w ∧ op ≠ .shl ∧ op ≠ .shr ∧ op ≠ .add ∧ op ≠ .sub ∧ op ≠ .mul ∧ op ≠ .quo ∧ op ≠ .rem ∧ op ≠ .and ∧ op ≠ .or ∧ op ≠ .xor ∧ op ≠ .andNot := by
  intro P w
  unfold fastCmp at h
  split at h
  all_goals first | (cases h; done) | skip
  all_goals
    rw [boolV_eq] at h
    injection h with h
    subst h
    refine ⟨?_, by decide⟩
    simp only [Op.intCmp, Sem.run_pure, gt_iff_lt, ge_iff_le, bne, beq_int, ble_int, blt_int]
theorem fastBin_ok {op : BinOp} {x y v : Value} (h : fastBin op x y = some v) (P : Program) (t : TypeId) (xo yo : Operand) (w : World) : (do eqGuard op t xo yo x y; binOp op t x y : Sem Value).run P w = .ok v w := by
  have hguard : ∀ (k k' : IntKind) (a b : Int), (eqGuard op t xo yo (.int k a) (.int k' b)).run P w = .ok () w := by
    intro k k' a b
    unfold eqGuard
    cases op <;> rfl
  have hguards : ∀ (a b : ByteArray), (eqGuard op t xo yo (.string a) (.string b)).run P w = .ok () w := by
    intro a b
    unfold eqGuard
    cases op <;> rfl
  have hcmp : ∀ (k : IntKind) (a b : Nat), fastCmp op a b = some v → (do eqGuard op t xo yo (.int k (a : Int)) (.int k (b : Int)); binOp op t (.int k (a : Int)) (.int k (b : Int)) : Sem Value).run P w = .ok v w := by
    intro k a b hc
    obtain ⟨h1, h2⟩ := fastCmp_ok hc P w
    rw [Sem.run_bind, hguard]
    simp only [Result.andThen]
    obtain ⟨n1, n2, n3, n4, n5, n6, n7, n8, n9, n10, n11⟩ := h2
    have : binOp op t (.int k (a : Int)) (.int k (b : Int)) = Op.intCmp op (a : Int) (b : Int) := by
      cases op <;> first | (simp [binOp]; done) | contradiction
    rw [this]
    exact h1
  unfold fastBin at h
  split at h
  · rename_i k a
    split at h
    · rename_i k' b
      unfold fastInts at h
      split at h
      · split at h
        · unfold fastInt at h
          split at h
          · unfold fastAdd at h
            rw [forceN_eq] at h
            obtain ⟨h1, h2⟩ := boolSome h
            injection h2 with h2
            subst h2
            have := Nat.le_of_ble_eq_true h1
            rw [Sem.run_bind, hguard]
            simp only [Result.andThen]
            show (binOp .add t (.int .i64 ((a : Nat) : Int)) (.int .i64 ((b : Nat) : Int))).run P w = .ok (.int .i64 ((Nat.add a b : Nat) : Int)) w
            have hw : IntKind.i64.wrap ((a : Int) + (b : Int)) = ((Nat.add a b : Nat) : Int) := by
              rw [IntWalk.i64_in _ (by have : Nat.add a b = a + b := rfl; omega)]; rfl
            simp [binOp, Op.intArith, hw]
          · unfold fastSub at h
            obtain ⟨h1, h2⟩ := boolSome h
            rw [forceN_eq] at h2
            obtain ⟨h3, h2⟩ := boolSome h2
            injection h2 with h2
            subst h2
            have h4 := Nat.le_of_ble_eq_true h1
            have h5 := Nat.le_of_ble_eq_true h3
            rw [Sem.run_bind, hguard]
            simp only [Result.andThen]
            show (binOp .sub t (.int .i64 ((a : Nat) : Int)) (.int .i64 ((b : Nat) : Int))).run P w = .ok (.int .i64 ((Nat.sub a b : Nat) : Int)) w
            have hs : Nat.sub a b = a - b := rfl
            have hw : IntKind.i64.wrap ((a : Int) - (b : Int)) = ((Nat.sub a b : Nat) : Int) := by
              rw [IntWalk.i64_in _ (by omega)]; omega
            simp [binOp, Op.intArith, hw]
          · exact hcmp _ _ _ h
        · cases h
      · split at h
        · exact hcmp _ _ _ h
        · cases h
      · split at h
        · exact hcmp _ _ _ h
        · cases h
      · cases h
    · cases h
  · rename_i a
    split at h
    · rename_i b
      unfold fastStr at h
      split at h
      · rw [boolV_eq, bytesEq_iff] at h
        injection h with h
        subst h
        rw [Sem.run_bind, hguards]
        simp [Result.andThen, binOp, Op.stringOp, ByteArray.toList_eq]
      · rw [boolV_eq, bytesEq_iff] at h
        injection h with h
        subst h
        rw [Sem.run_bind, hguards]
        simp [Result.andThen, binOp, Op.stringOp, ByteArray.toList_eq]
      · cases h
    · cases h
  · cases h
end Go.EvL
namespace Go.EvL
open Go
theorem notShare {op : BinOp} {x y : Value} {t : TypeId} {xo yo : Operand} {P : Program} {w : World} {b : Bool} (hg : (eqGuard op t xo yo x y).run P w = .ok () w) (he : (Op.equal t x y).run P w = .ok b w)
    (hx : ∀ k n, x ≠ .int k n) (hf : ∀ k n, x ≠ .float k n) (hc : ∀ k a b, x ≠ .complex k a b) (hs : ∀ s, x ≠ .string s) :
    (op = .eql → (do eqGuard op t xo yo x y; binOp op t x y : Sem Value).run P w = .ok (.bool b) w) ∧ (op = .neq → (do eqGuard op t xo yo x y; binOp op t x y : Sem Value).run P w = .ok (.bool (!b)) w) := by
  constructor
  · rintro rfl
    rw [Sem.run_bind, hg]
    simp only [Result.andThen]
    have : binOp .eql t x y = (do pure (.bool (← Op.equal t x y)) : Sem Value) := by
      cases x <;> first | rfl | exact absurd rfl (hx _ _) | exact absurd rfl (hf _ _) | exact absurd rfl (hc _ _ _) | exact absurd rfl (hs _)
    rw [this, Sem.run_bind, he]
    rfl
  · rintro rfl
    rw [Sem.run_bind, hg]
    simp only [Result.andThen]
    have : binOp .neq t x y = (do pure (.bool (!(← Op.equal t x y))) : Sem Value) := by
      cases x <;> first | rfl | exact absurd rfl (hx _ _) | exact absurd rfl (hf _ _) | exact absurd rfl (hc _ _ _) | exact absurd rfl (hs _)
    rw [this, Sem.run_bind, he]
    rfl
theorem equal_ptr_nil {P : Program} {t e : TypeId} (hu : P.underlying t = some (.pointer e)) (a : Addr) (w : World) (n : Nat) : (Op.equalIn (n + 1) t (.pointer (some a)) (.pointer none)).run P w = .ok false w := by
  rw [Op.equalIn, Sem.run_bind, run_underlying hu]
  rfl
theorem equal_iface_nil {P : Program} {t u : TypeId} {m : Array (String × TypeId)} {v : Value} (hu : P.underlying t = some (.interface m)) (w : World) (n : Nat) : (Op.equalIn (n + 1) t (.iface u v) .nilIface).run P w = .ok false w := by
  rw [Op.equalIn, Sem.run_bind, run_underlying hu]
  rfl
theorem equal_slice_nil {P : Program} {t e : TypeId} (hu : P.underlying t = some (.slice e)) (a : Addr) (l c l' c' : Nat) (w : World) (n : Nat) : (Op.equalIn (n + 1) t (.slice (some a) l c) (.slice none l' c')).run P w = .ok false w := by
  rw [Op.equalIn, Sem.run_bind, run_underlying hu]
  rfl
theorem equal_ptr_same {P : Program} {t e m : TypeId} (hu : P.underlying t = some (.pointer e)) (hs : szOf P e = some (m + 1)) (g o1 o2 : Nat) (w : World) (n : Nat) : (Op.equalIn (n + 1) t (.pointer (some ⟨g, o1, none⟩)) (.pointer (some ⟨g, o2, none⟩))).run P w = .ok (Nat.beq o1 o2) w := by
  have hbq : (({ block := g, off := o1 } : Addr) == { block := g, off := o2 }) = Nat.beq o1 o2 := by
    cases hz : Nat.beq o1 o2 with
    | true => rw [Nat.eq_of_beq_eq_true hz]; simp
    | false =>
      have : o1 ≠ o2 := fun e => by subst e; rw [Nat.beq_refl] at hz; cases hz
      rw [beq_eq_false_iff_ne]
      intro hh
      injection hh with _ hh
      omega
  rw [Op.equalIn, Sem.run_bind, run_underlying hu]
  simp only [Result.andThen, Sem.run_bind, run_size hs]
  simp [sameAddr, hbq]
section
variable {P : Program} {f : Fr} {A A' : AS} {nx : ANext} {d : Option Tmp} {ty : TypeId} {pos : String} {af : Array Edge} {gd : Option (Nat × Bool)}
theorem cmp_sound (hi : Inv A) {op : BinOp} {t u : TypeId} {x y : Operand} {b : Bool} (h : cmpR op b A = some (nx, A'))
    (hrun : ∀ (φ : Emb) (w : World) (a : Act), FRel φ f a → (eqGuard op t x y (a.eval x) (a.eval y)).run P w = .ok () w ∧ (Op.equal t (a.eval x) (a.eval y)).run P w = .ok b w ∧ (∀ k n, a.eval x ≠ .int k n) ∧ (∀ k n, a.eval x ≠ .float k n) ∧ (∀ k n m, a.eval x ≠ .complex k n m) ∧ (∀ s, a.eval x ≠ .string s)) :
    Sound P f A ⟨d, .binOp op t x y u, ty, pos, af, gd⟩ nx A' := by
  unfold cmpR at h
  split at h
  · injection h with h
    injection h with h1 h2
    subst h1
    subst h2
    refine sound_same hi fun φ w a hf => ?_
    obtain ⟨g1, g2, g3, g4, g5, g6⟩ := hrun φ w a hf
    have e : (execOp a.eval ⟨d, .binOp .eql t x y u, ty, pos, af, gd⟩).run P w = .ok (.value (.bool b)) w := run_v ((notShare g1 g2 g3 g4 g5 g6).1 rfl)
    rw [e]
    exact .val _ _ (.bool _)
  · injection h with h
    injection h with h1 h2
    subst h1
    subst h2
    refine sound_same hi fun φ w a hf => ?_
    obtain ⟨g1, g2, g3, g4, g5, g6⟩ := hrun φ w a hf
    have e : (execOp a.eval ⟨d, .binOp .neq t x y u, ty, pos, af, gd⟩).run P w = .ok (.value (.bool (!b))) w := run_v ((notShare g1 g2 g3 g4 g5 g6).2 rfl)
    rw [e]
    exact .val _ _ (.bool _)
  · cases h
theorem bin_sound (hi : Inv A) (op : BinOp) (t u : TypeId) (x y : Operand) (h : evalOp P f ⟨d, .binOp op t x y u, ty, pos, af, gd⟩ A = some (nx, A')) : Sound P f A ⟨d, .binOp op t x y u, ty, pos, af, gd⟩ nx A' := by
  have h' : binA P f ⟨d, .binOp op t x y u, ty, pos, af, gd⟩ op t (f.eval x) (f.eval y) A = some (nx, A') := h
  unfold binA at h'
  split at h'
  · rename_i va hx
    split at h'
    · rename_i vb hy
      split at h'
      · rename_i v hv
        injection h' with h'
        injection h' with h1 h2
        subst h1
        subst h2
        refine sound_same hi fun φ w a hf => ?_
        have hpx := hf.eval hx
        have hpy := hf.eval hy
        have hk := fastBin_ok hv P t x y w
        have ex : a.eval x = va ∧ a.eval y = vb ∧ VRel φ v v := by
          unfold fastBin at hv
          split at hv
          · split at hv
            · generalize a.eval x = q at hpx ⊢
              generalize a.eval y = q2 at hpy ⊢
              cases hpx
              cases hpy
              refine ⟨rfl, rfl, ?_⟩
              unfold fastInts at hv
              have hcv : ∀ {o : BinOp} {m n : Nat}, fastCmp o m n = some v → VRel φ v v := by
                intro o m n hh
                unfold fastCmp at hh
                split at hh
                all_goals first | (cases hh; done) | (rw [boolV_eq] at hh; injection hh with hh; subst hh; exact .bool _)
              split at hv
              · split at hv
                · unfold fastInt at hv
                  split at hv
                  · unfold fastAdd at hv
                    rw [forceN_eq] at hv
                    obtain ⟨_, hv⟩ := boolSome hv
                    injection hv with hv
                    subst hv
                    exact .int _ _
                  · unfold fastSub at hv
                    obtain ⟨_, hv⟩ := boolSome hv
                    rw [forceN_eq] at hv
                    obtain ⟨_, hv⟩ := boolSome hv
                    injection hv with hv
                    subst hv
                    exact .int _ _
                  · exact hcv hv
                · cases hv
              · split at hv
                · exact hcv hv
                · cases hv
              · split at hv
                · exact hcv hv
                · cases hv
              · cases hv
            · cases hv
          · split at hv
            · generalize a.eval x = q at hpx ⊢
              generalize a.eval y = q2 at hpy ⊢
              cases hpx
              cases hpy
              refine ⟨rfl, rfl, ?_⟩
              unfold fastStr at hv
              split at hv
              all_goals first | (cases hv; done) | (rw [boolV_eq] at hv; injection hv with hv; subst hv; exact .bool _)
            · cases hv
          · cases hv
        have e : (execOp a.eval ⟨d, .binOp op t x y u, ty, pos, af, gd⟩).run P w = .ok (.value v) w := by
          refine run_v ?_
          rw [ex.1, ex.2.1]
          exact hk
        rw [e]
        exact .val _ _ ex.2.2
      · unfold slowBin at h'
        split at h'
        · rename_i p e hu hfb
          refine cmp_sound hi h' fun φ w a hf => ?_
          have hpx := hf.eval hx
          have hpy := hf.eval hy
          generalize hq : a.eval x = q at hpx
          generalize hq2 : a.eval y = q2 at hpy
          cases hpy
          cases hpx with
          | ptr bb oo i hφ =>
            refine ⟨?_, ?_, by intros; simp, by intros; simp, by intros; simp, by intros; simp⟩
            · unfold eqGuard; cases op <;> rfl
            · exact equal_ptr_nil hu _ w 9999
        · rename_i tt vv m hu hfb
          refine cmp_sound hi h' fun φ w a hf => ?_
          have hpx := hf.eval hx
          have hpy := hf.eval hy
          generalize hq : a.eval x = q at hpx
          generalize hq2 : a.eval y = q2 at hpy
          cases hpy
          cases hpx with
          | iface _ _ v' hvv =>
            refine ⟨?_, ?_, by intros; simp, by intros; simp, by intros; simp, by intros; simp⟩
            · unfold eqGuard; cases op <;> rfl
            · exact equal_iface_nil hu w 9999
        · rename_i p l1 c1 l2 c2 e hu hfb
          refine cmp_sound hi h' fun φ w a hf => ?_
          have hpx := hf.eval hx
          have hpy := hf.eval hy
          generalize hq : a.eval x = q at hpx
          generalize hq2 : a.eval y = q2 at hpy
          cases hpy
          cases hpx with
          | slice _ _ _ _ cap' a' j hφ hl hc ha hr =>
            refine ⟨?_, ?_, by intros; simp, by intros; simp, by intros; simp, by intros; simp⟩
            · unfold eqGuard; cases op <;> rfl
            · exact equal_slice_nil hu _ _ _ _ _ w 9999
          | sliceX _ _ _ a' j hφ ha =>
            refine ⟨?_, ?_, by intros; simp, by intros; simp, by intros; simp, by intros; simp⟩
            · unfold eqGuard; cases op <;> rfl
            · exact equal_slice_nil hu _ _ _ _ _ w 9999
        · rename_i b1 o1 b2 o2 e hu hfb
          unfold samePtr at h'
          split at h'
          · rename_i m hsz
            obtain ⟨hb, h1⟩ := boolSome h'
            have hb' : b1 = b2 := Nat.eq_of_beq_eq_true hb
            subst hb'
            refine cmp_sound hi h1 fun φ w a hf => ?_
            have hpx := hf.eval hx
            have hpy := hf.eval hy
            generalize hq : a.eval x = q at hpx
            generalize hq2 : a.eval y = q2 at hpy
            cases hpx with
            | ptr _ _ i hφ =>
              cases hpy with
              | ptr _ _ i2 hφ2 =>
                obtain rfl : i2 = i := by rw [hφ] at hφ2; injection hφ2 with hφ2; exact hφ2.symm
                refine ⟨?_, ?_, by intros; simp, by intros; simp, by intros; simp, by intros; simp⟩
                · unfold eqGuard; cases op <;> rfl
                · have he := equal_ptr_same hu hsz i2.blk (i2.sh + o1) (i2.sh + o2) w 9999
                  have hb2 : Nat.beq (i2.sh + o1) (i2.sh + o2) = Nat.beq o1 o2 := by
                    cases hz : Nat.beq o1 o2 with
                    | true => rw [Nat.eq_of_beq_eq_true hz, Nat.beq_refl]
                    | false =>
                      cases hz2 : Nat.beq (i2.sh + o1) (i2.sh + o2) with
                      | false => rfl
                      | true =>
                        have := Nat.eq_of_beq_eq_true hz2
                        have h3 : o1 = o2 := by omega
                        subst h3
                        rw [Nat.beq_refl] at hz
                        cases hz
                  rw [hb2] at he
                  exact he
          · cases h'
        · exact pure_sound hi _ (by intro _ _ hh; cases hh) h'
    · cases h'
  · cases h'
end
end Go.EvL
namespace Go.EvL
open Go
section
variable {P : Program} {f : Fr} {A A' : AS} {nx : ANext} {d : Option Tmp} {ty : TypeId} {pos : String} {af : Array Edge} {gd : Option (Nat × Bool)}
theorem arg_at {φ : Emb} {a : Act} (hf : FRel φ f a) {args : Array Operand} {i : Nat} {v : Value} (h : (args.toList[i]?).bind f.eval = some v) : ∃ v', (args.map a.eval)[i]? = some v' ∧ VRel φ v v' := by
  cases hx : args.toList[i]? with
  | none => rw [hx] at h; cases h
  | some x =>
    rw [hx] at h
    refine ⟨a.eval x, ?_, hf.eval h⟩
    rw [Array.getElem?_map, show args[i]? = some x by simpa using hx]
    rfl
theorem typ_at {tys : Array TypeId} {i : Nat} {dd : TypeDesc} (h : (tys.toList[i]?).bind P.underlying = some dd) : ∃ t, tys[i]? = some t ∧ P.underlying t = some dd := by
  cases hx : tys.toList[i]? with
  | none => rw [hx] at h; cases h
  | some x => rw [hx] at h; exact ⟨x, by simpa using hx, h⟩
theorem len_sound (hi : Inv A) (args : Array Operand) (tys : Array TypeId) (h : lenA P f ⟨d, .call ⟨.builtin .len, args, tys⟩, ty, pos, af, gd⟩ ((tys.toList[0]?).bind P.underlying) ((args.toList[0]?).bind f.eval) A = some (nx, A')) :
    Sound P f A ⟨d, .call ⟨.builtin .len, args, tys⟩, ty, pos, af, gd⟩ nx A' := by
  unfold lenA at h
  split at h
  · rename_i e a0 n c ht hx
    injection h with h
    injection h with h1 h2
    subst h1
    subst h2
    refine sound_same hi fun φ w a hf => ?_
    obtain ⟨v', g1, g2⟩ := arg_at hf hx
    obtain ⟨t, g3, g4⟩ := typ_at ht
    have e : (execOp a.eval ⟨d, .call ⟨.builtin .len, args, tys⟩, ty, pos, af, gd⟩).run P w = .ok (.value (.int .i64 (n : Int))) w := by
      refine run_v ?_
      cases g2 with
      | slice => simp only [Builtin.len_, g3, g1, Sem.run_bind, run_underlying g4, Result.andThen]; rfl
      | nilSlice => simp only [Builtin.len_, g3, g1, Sem.run_bind, run_underlying g4, Result.andThen]; rfl
      | sliceX => simp only [Builtin.len_, g3, g1, Sem.run_bind, run_underlying g4, Result.andThen]; rfl
    rw [e]
    exact .val _ _ (.int _ _)
  · rename_i b ht hx
    rw [forceN_eq] at h
    injection h with h
    injection h with h1 h2
    subst h1
    subst h2
    refine sound_same hi fun φ w a hf => ?_
    obtain ⟨v', g1, g2⟩ := arg_at hf hx
    obtain ⟨t, g3, g4⟩ := typ_at ht
    have e : (execOp a.eval ⟨d, .call ⟨.builtin .len, args, tys⟩, ty, pos, af, gd⟩).run P w = .ok (.value (.int .i64 (b.data.toList.length : Int))) w := by
      refine run_v ?_
      cases g2
      simp only [Builtin.len_, g3, g1, Sem.run_bind, run_underlying g4, Result.andThen]
      rw [Array.length_toList]
      rfl
    rw [e]
    exact .val _ _ (.int _ _)
  · rename_i kt et b ht hx
    unfold lenMapA at h
    split at h
    · rename_i es clk hb
      rw [forceN_eq] at h
      injection h with h
      injection h with h1 h2
      subst h1
      subst h2
      have hl := (hi.lt _ _ hb).1
      refine ⟨logR_fr hi hl, fun φ T w a hf hr hT _ => ⟨φ, w, by rw [logR_eq]; exact .refl hr rfl rfl rfl rfl rfl rfl rfl, ?_⟩⟩
      have hTb : T b := hT b hl (.inl (by rw [logR_eq, bit_or]; simp))
      obtain ⟨i, q, e1, e2, e3⟩ := hr.obj b _ hb rfl hTb
      obtain ⟨v', g1, g2⟩ := arg_at hf hx
      obtain ⟨t, g3, g4⟩ := typ_at ht
      cases e3 with
      | map _ _ es' hc he =>
        cases g2 with
        | map _ j hj =>
          rw [e1] at hj
          injection hj with hj
          subst hj
          have hlen : es'.size = es.length := by
            have : ∀ {l l' : List MapEntry}, ERel φ l l' → l'.length = l.length := fun h => by
              induction h with
              | nil => rfl
              | cons _ _ _ _ _ _ _ _ _ ih => rw [List.length_cons, List.length_cons, ih]
            rw [← Array.length_toList, this he]
          have e : (execOp a.eval ⟨d, .call ⟨.builtin .len, args, tys⟩, ty, pos, af, gd⟩).run P w = .ok (.value (.int .i64 (es.length : Int))) w := by
            refine run_v ?_
            simp [Builtin.len_, g3, g1, Sem.run_bind, run_underlying g4, MapKept.run_getObj_map e2, Result.andThen, hlen, goInt]
          rw [e]
          exact .val _ _ (.int _ _)
    · cases h
  · exact pure_sound hi _ (by intro _ _ hh; cases hh) h
/-- what is asked of the program's functions -/
structure Env (P : Program) : Prop where
  num : ∀ (g : Nat) (fn : Func), P.funcs[g]? = some fn → (fn.name == "runtime.NumGoroutine") = false
  noesc : ∀ (g : Nat) (fn : Func), P.funcs[g]? = some fn → fn.body = none → (fn.name == "internal/abi.NoEscape") = true → ∀ v w, (callFunc g #[v]).run P w = .ok (.value v) w
theorem enter_run (hP : Env P) {g : FuncId} {fn : Func} {c : Code} (hfn : P.funcs[g]? = some fn) (hc : fn.body = some c) (args : Array Value) (w : World) : (callFunc g args).run P w = .ok (.enter g args) w := by
  simp only [callFunc, Sem.run_bind, run_program, Result.andThen, hfn, hP.num _ _ hfn, hc]
  simp
theorem callA_sound (hP : Env P) (hi : Inv A) {g : FuncId} {vs : List Value} {o : Oper} (h : callA P g vs A = some (nx, A')) (hrun : ∀ (φ : Emb) (w : World) (a : Act), FRel φ f a → ∃ vs', VRels φ vs vs' ∧ (execOp a.eval o).run P w = (callFunc g vs'.toArray).run P w) : Sound P f A o nx A' := by
  unfold callA at h
  split at h
  · cases h
  · rename_i fn hfn
    split at h
    · rename_i c hc
      injection h with h
      injection h with h1 h2
      subst h1
      subst h2
      refine sound_same hi fun φ w a hf => ?_
      obtain ⟨vs', g1, g2⟩ := hrun φ w a hf
      rw [g2, enter_run hP hfn hc]
      exact .enter _ _ _ g1
    · rename_i hc
      rcases boolRec h with ⟨hb, h⟩ | ⟨hb, h⟩
      · obtain ⟨hp, h⟩ := boolSome h
        unfold valOfNext at h
        split at h
        · rename_i v hv
          obtain ⟨hpv, h⟩ := boolSome h
          injection h with h
          injection h with h1 h2
          subst h1
          subst h2
          refine sound_same hi fun φ w a hf => ?_
          obtain ⟨vs', g1, g2⟩ := hrun φ w a hf
          have : vs' = vs := rels_eq (plain_eq φ 50) _ _ hp g1
          subst this
          rw [g2, pureRun_ok P _ hv w]
          exact .val _ _ (plain_self φ _ _ hpv)
        · cases h
      · split at h
        · rename_i v
          injection h with h
          injection h with h1 h2
          subst h1
          subst h2
          refine sound_same hi fun φ w a hf => ?_
          obtain ⟨vs', g1, g2⟩ := hrun φ w a hf
          cases g1 with
          | cons _ v' _ l' hv hs =>
            cases hs
            rw [g2, hP.noesc _ _ hfn hc hb]
            exact .val _ _ hv
        · cases h
theorem callV_sound (hP : Env P) (hi : Inv A) (x : Operand) (args : Array Operand) (tys : Array TypeId) (h : callV P (f.eval x) (evals f args.toList) A = some (nx, A')) :
    Sound P f A ⟨d, .call ⟨.value x, args, tys⟩, ty, pos, af, gd⟩ nx A' := by
  unfold callV at h
  split at h
  · rename_i g first cap as hx has
    refine callA_sound hP hi h fun φ w a hf => ?_
    have hv := hf.eval hx
    have ha := evals_rel hf _ has
    generalize hq : a.eval x = q at hv
    cases hv with
    | func _ _ _ first' cap' h1 h2 =>
      refine ⟨first'.toList ++ (args.toList.map a.eval ++ cap'.toList), VRels.append h1 (VRels.append ha h2), ?_⟩
      have e : (first'.toList ++ (args.toList.map a.eval ++ cap'.toList)).toArray = first' ++ args.map a.eval ++ cap' := by
        apply Array.ext'
        simp
      rw [e]
      simp only [execOp, resolve, hq, Deferred.ofValue]
      rfl
  · cases h
theorem defer_sound (hi : Inv A) (c : Call) (h : evalOp P f ⟨d, .defer c, ty, pos, af, gd⟩ A = some (nx, A')) : Sound P f A ⟨d, .defer c, ty, pos, af, gd⟩ nx A' := by
  have h' : deferA f c A = some (nx, A') := h
  unfold deferA at h'
  obtain ⟨cal, args, tys⟩ := c
  simp only at h'
  split at h'
  · rename_i x
    split at h'
    · rename_i g first cap as hx has
      injection h' with h'
      injection h' with h1 h2
      subst h1
      subst h2
      refine sound_same hi fun φ w a hf => ?_
      have hv := hf.eval hx
      have ha := evals_rel hf _ has
      generalize hq : a.eval x = q at hv
      cases hv with
      | func _ _ _ first' cap' h3 h4 =>
        have e : (execOp a.eval ⟨d, .defer ⟨.value x, args, tys⟩, ty, pos, af, gd⟩).run P w = .ok (.defer ⟨.fn (.func g) cap', first' ++ args.map a.eval⟩) w := by
          simp only [execOp, resolve, hq, Deferred.ofValue]
          rfl
        rw [e]
        refine .dfr _ _ (.mk _ _ _ _ _ h4 ?_)
        simpa using VRels.append h3 ha
    · cases h'
  · cases h'
theorem panic_sound (hi : Inv A) (x : Operand) (h : evalOp P f ⟨d, .panic x, ty, pos, af, gd⟩ A = some (nx, A')) : Sound P f A ⟨d, .panic x, ty, pos, af, gd⟩ nx A' := by
  have h' : panicA (f.eval x) A = some (nx, A') := h
  unfold panicA at h'
  split at h'
  · rename_i t v hx
    injection h' with h'
    injection h' with h1 h2
    subst h1
    subst h2
    refine sound_same hi fun φ w a hf => ?_
    have hv := hf.eval hx
    have e : (execOp a.eval ⟨d, .panic x, ty, pos, af, gd⟩).run P w = .halt (.panic (a.eval x)) w := by
      generalize hq : a.eval x = q at hv
      cases hv
      simp only [execOp, hq]
      rfl
    rw [e]
    exact .panic _ _ hv
  · cases h'
end
end Go.EvL
namespace Go.EvL
open Go
section
variable {P : Program} {f : Fr} {A A' A₁ : AS} {nx : ANext} {d : Option Tmp} {ty : TypeId} {pos : String} {af : Array Edge} {gd : Option (Nat × Bool)}
/-- what is appended: on both sides -/
structure ArgSpec (P : Program) (A A₁ : AS) (e : TypeId) (t : Option TypeDesc) (x : Value) (xs : List Value) (n : Nat) : Prop where
  fr : Inv A → AFr A A₁
  heap : A₁.heap = A.heap
  fz : A₁.fz = A.fz
  next : A₁.next = A.next
  mem : A₁.mem = A.mem
  w : A₁.w = A.w
  nil : n = 0 → xs = []
  src : ∀ (φ : Emb) (T : Nat → Prop) (w : World) (x' : Value) (tx : TypeId) (i : TypeInfo), Inv A → Rel P φ T A w → Foot A A₁ T → VRel φ x x' → P.underlying tx = t → P.info? e = some i → xs.length = n * i.size → xs.all oneC = true → ∃ xs', VRels φ xs xs' ∧ Src P i.size tx x' n xs' w
theorem same_arg {e : TypeId} {t : Option TypeDesc} {x : Value} {xs : List Value} {n : Nat} (h0 : n = 0 → xs = []) (h : ∀ (φ : Emb) (w : World) (x' : Value) (tx : TypeId) (i : TypeInfo), VRel φ x x' → P.underlying tx = t → P.info? e = some i → xs.length = n * i.size → xs.all oneC = true → ∃ xs', VRels φ xs xs' ∧ Src P i.size tx x' n xs' w) : ArgSpec P A A e t x xs n :=
  ⟨fun h => .refl h, rfl, rfl, rfl, rfl, rfl, h0, fun φ _ w x' tx i _ _ _ => h φ w x' tx i⟩
theorem arg_spec {e : TypeId} {t : Option TypeDesc} {x : Value} {xs : List Value} {n : Nat} (h : cellsOfArg P e t A x = some (xs, n, A₁)) : ArgSpec P A A₁ e t x xs n := by
  unfold cellsOfArg at h
  split at h
  · rename_i b
    split at h
    · rename_i hsz
      injection h with h
      injection h with h1 h2
      injection h2 with h2 h3
      subst h1
      subst h2
      subst h3
      refine same_arg (fun h0 => by have h1 : b.data.size = 0 := h0; have h2 : b.data.toList = [] := List.eq_nil_of_length_eq_zero (by rw [Array.length_toList]; exact h1)
                                    rw [h2]; rfl) fun φ w x' tx i hv ht hi _ _ => ?_
      cases hv
      obtain ⟨i', g1, g2, _⟩ := sz_info hsz
      rw [hi] at g1
      injection g1 with g1
      subst g1
      rw [g2]
      refine ⟨byteCells b, ?_, Src.ofString w ht b⟩
      refine rels_self (p := plain 50) (plain_self φ 50) _ ?_
      rw [List.all_map, List.all_eq_true]
      intro c _
      rfl
    · cases h
  · injection h with h
    injection h with h1 h2
    injection h2 with h2 h3
    subst h1
    subst h2
    subst h3
    rename_i c e'
    refine same_arg (fun _ => rfl) fun φ w x' tx i hv ht hi _ _ => ?_
    cases hv
    exact ⟨[], .nil, Src.ofNil w ht _⟩
  · rename_i b off m c e'
    split at h
    · rename_i es hsz
      cases m with
      | zero =>
        have h' : some (([] : List Value), 0, A) = some (xs, n, A₁) := h
        injection h' with h'
        injection h' with h1 h2
        injection h2 with h2 h3
        subst h1
        subst h2
        subst h3
        refine same_arg (fun _ => rfl) fun φ w x' tx i hv ht hi _ _ => ?_
        cases hv with
        | slice _ _ _ _ cap' a' j hφ hl hc ha hr => exact ⟨[], .nil, Src.ofSlice w ht a' 0 cap' [] (by simp) (fun j u hu => by cases hu) (fun u hu => by cases hu)⟩
      | succ m =>
        have h' : (ld A b off (Nat.mul (m + 1) es)).map (fun (xs, s) => (xs, m + 1, s)) = some (xs, n, A₁) := h
        cases hld : ld A b off (Nat.mul (m + 1) es) with
        | none => rw [hld] at h'; cases h'
        | some r =>
          obtain ⟨ys, s1⟩ := r
          rw [hld] at h'
          have h'' : some (ys, m + 1, s1) = some (xs, n, A₁) := h'
          injection h'' with h''
          injection h'' with h1 h2
          injection h2 with h2 h3
          subst h1
          subst h2
          subst h3
          obtain ⟨cells, e2, c2, st2, hb, hxs, hlen, hs1⟩ := ld_spec hld
          refine ⟨fun hi => ld_fr hi hld, by rw [hs1, logR_eq], by rw [hs1, logR_eq], by rw [hs1, logR_eq], by rw [hs1, logR_eq], by rw [hs1, logR_eq], (fun h0 => by omega), fun φ T w x' tx i hi hr hT hv ht hin hl hone => ?_⟩
          cases hv with
          | slice _ _ _ _ cap' a' j hφ hlc hc ha hroom =>
            obtain ⟨xs', g1, g2, _⟩ := ld_run hi hld hr hT hφ
            have ha' : a' = ⟨j.blk, j.sh + off, none⟩ := ha.resolve_left (by omega)
            subst ha'
            refine ⟨xs', g1, Src.ofSlice w ht _ (m + 1) cap' xs' (by rw [← g1.length]; exact hl) g2 (ones_rel g1 hone)⟩
    · cases h
  · cases h
theorem setCells_setRow {w : World} {g o : Nat} {e : TypeId} {fz : Nat × Nat} {C : Array Value} {vs : List Value} (hg : w.heap[g]? = some (.cells C e fz)) (hfz : fz.2 ≤ o) (hl : o + vs.length ≤ C.size) (h1 : ∀ v ∈ vs, v.oneCell' = true) (P : Program) :
    (∀ j, j < vs.length → (w.cell? ⟨g, o + j, none⟩).isSome = true) ∧ (∀ j, j < vs.length → w.frozen? ⟨g, o + j, none⟩ = false) ∧ w.setCells g o vs = w.setRow g (C.toList.take o ++ vs ++ C.toList.drop (o + vs.length)).toArray := by
  have a1 : ∀ j, j < vs.length → (w.cell? ⟨g, o + j, none⟩).isSome = true := by
    intro j hj
    simp only [World.cell?, hg]
    rw [Array.getElem?_eq_getElem (by omega)]
    rfl
  have a2 : ∀ j, j < vs.length → w.frozen? ⟨g, o + j, none⟩ = false := by
    intro j hj
    obtain ⟨lo, hi⟩ := fz
    simp only [World.frozen?, hg, Bool.and_eq_false_iff, decide_eq_false_iff_not]
    right
    simp only at hfz
    omega
  refine ⟨a1, a2, ?_⟩
  have e1 := run_storeCells_cells (P := P) g o vs 0 w (by simpa using a1) (by simpa using a2) h1
  have e2 := run_storeCells_atF P g o e fz vs 0 C w hg (by omega) (by omega) h1
  rw [e1] at e2
  injection e2 with _ e2
theorem Post.drew {φ φ' : Emb} {T : Nat → Prop} {w w' : World} (h : Post P φ T A A' w.drew w' φ') : Post P φ T A A' w w' φ' :=
  ⟨h.ext, h.out, h.rel, h.img, h.size, h.same, h.os, h.tape, h.output⟩
theorem Rel.drew {φ : Emb} {T : Nat → Prop} {w : World} (h : Rel P φ T A w) : Rel P φ T A w.drew := h.heap rfl rfl rfl
theorem zeroCells_size (z : Array Value) (n : Nat) : (Builtin.zeroCells z n).size = n * z.size := by simp [Builtin.zeroCells]
theorem Post.step {φ φ' : Emb} {T : Nat → Prop} {w w' : World} (h1 : A₁.heap = A.heap) (h2 : A₁.fz = A.fz) (h3 : A₁.next = A.next) (hr : Rel P φ T A w) (hf : AFr A₁ A') (h : Post P φ (fun c => T c ∨ (A.next ≤ c ∧ c < A₁.next)) A₁ A' w w' φ') : Post P φ T A A' w w' φ' :=
  Post.trans (by omega) hf (Post.refl hr h1 h2 h3 rfl rfl rfl rfl) h
theorem Foot.left {T : Nat → Prop} (f : AFr A₁ A') (h : Foot A A' T) : Foot A A₁ T := fun c hc hh => h c hc (hh.imp (f.r c) (f.w c))
theorem kill_next : ∀ (l : List Nat) (B : AS), (kill B l).next = B.next := by
  intro l
  induction l with
  | nil => intro B; rfl
  | cons q l ih =>
    intro B
    have : (kill B (q :: l)) = kill (kill1 B q) l := rfl
    rw [this, ih]
    unfold kill1
    split
    · rw [put_eq]
    · rfl
theorem app_next {off len n es e cls st : Nat} {cells xs : List Value} (h : appIn A off len n es e cls st cells xs = some (nx, A')) : A'.next = A.next + 1 := by
  unfold appIn at h
  rw [forceL_eq, forceN_eq] at h
  obtain ⟨_, h⟩ := boolSome h
  rw [forceL_eq] at h
  have kn := kill_next ((members A cls).filter (tooLong A (Nat.add (Nat.add st off) (Nat.mul len es)))) A
  generalize kill A ((members A cls).filter (tooLong A (Nat.add (Nat.add st off) (Nat.mul len es)))) = B at h kn
  cases B
  unfold pushRow at h
  simp only [forceL_eq, forceT_eq, forceN_eq, logR_eq, logW_eq] at h
  injection h with h
  injection h with _ h
  rw [← h]
  show Nat.add _ 1 = _
  simp only at kn
  rw [kn]
theorem append_sound (hi : Inv A) (hn : A'.next ≤ A'.next) (x y : Operand) (t u : TypeId) (h : appA P (P.underlying t) (P.underlying u) (f.eval x) (f.eval y) A = some (nx, A')) :
    Sound P f A ⟨d, .call ⟨.builtin .append, #[x, y], #[t, u]⟩, ty, pos, af, gd⟩ nx A' := by
  unfold appA at h
  split at h
  · rename_i e v vy ht hx hy
    split at h
    · rename_i xs n A1 harg
      have sp := arg_spec harg
      have fr1 := sp.fr hi
      have hi1 := fr1.inv
      unfold appendA at h
      split at h
      · rename_i base len cap
        split at h
        · rename_i i hin
          have hex : ∀ (a : Act) (w w' : World) (v' : Value), (Builtin.append_ #[t, u] ty #[a.eval x, a.eval y]).run P w = .ok v' w' → (execOp a.eval ⟨d, .call ⟨.builtin .append, #[x, y], #[t, u]⟩, ty, pos, af, gd⟩).run P w = .ok (.value v') w' := fun a w w' v' hh => by
            refine run_v ?_
            show (Builtin.append_ #[t, u] ty (Array.map a.eval #[x, y])).run P w = _
            rw [show Array.map a.eval #[x, y] = #[a.eval x, a.eval y] by simp]
            exact hh
          cases n with
          | zero =>
            have h' : some (ANext.val (.slice base len cap), A1) = some (nx, A') := h
            injection h' with h'
            injection h' with h1 h2
            subst h1
            subst h2
            refine ⟨fr1, fun φ T w a hf hr hT hfr => ?_⟩
            refine ⟨φ, w, Post.refl hr sp.heap sp.fz sp.next rfl rfl rfl rfl, ?_⟩
            have hv := hf.eval hx
            have hxs := sp.nil rfl
            subst hxs
            obtain ⟨xs', g1, g2⟩ := sp.src φ T w _ u i hi hr hT (hf.eval hy) rfl hin (by simp) rfl
            cases g1
            generalize hq : a.eval x = q at hv
            have hrun : ∃ base' cap', q = .slice base' len cap' ∧ len ≤ cap' := by
              cases hv with
              | nilSlice => exact ⟨_, _, rfl, Nat.le_refl _⟩
              | slice _ _ _ _ cap' a' j hφ hl hc => exact ⟨_, _, rfl, by omega⟩
              | sliceX => exact ⟨_, _, rfl, Nat.le_refl _⟩
            obtain ⟨base', cap', rfl, hle⟩ := hrun
            rw [hex a w w (.slice base' len cap') (by rw [hq]; exact run_append_nothing w t u ty e i ht hin base' len cap' hle _ g2)]
            exact .val _ _ hv
          | succ n0 =>
            have h' : (Bool.rec none (appTo e A1 base len (n0 + 1) i.size xs) (appOk i i.size len (n0 + 1) xs) : Res) = some (nx, A') := h
            obtain ⟨hok, h1⟩ := boolSome h'
            unfold appOk at hok
            split at hok
            · rename_i z hz
              simp only [Bool.and_eq_true] at hok
              obtain ⟨o1, o2, o3, o4, o5, o6⟩ := hok
              have hxl : xs.length = (n0 + 1) * i.size := Nat.eq_of_beq_eq_true o2
              have hby : (len + (n0 + 1)) * i.bytes ≤ 140737488355328 := Nat.le_of_ble_eq_true o3
              have hzs : z.cells.size = i.size := Nat.eq_of_beq_eq_true o4
              have hbig : len + (n0 + 1) ≤ 1073741824 := Nat.le_of_ble_eq_true o5
              have hes : P.cellsOf e = i.size := by simp [Program.cellsOf, hin]
              unfold appTo at h1
              split at h1
              · -- a nil row
                obtain ⟨hl0, h2⟩ := boolSome h1
                have hl0' : len = 0 := Nat.eq_of_beq_eq_true hl0
                subst hl0'
                injection h2 with h2
                injection h2 with h3 h4
                subst h3
                subst h4
                rw [newRow_next] at hn
                have fr2 := newRow_fr hi1 hn xs e
                refine ⟨fr1.trans fr2, fun φ T w a hf hr hT hfr => ?_⟩
                have hT1 := hT.left fr2
                obtain ⟨xs', g1, g2⟩ := sp.src φ T w _ u i hi hr hT1 (hf.eval hy) rfl hin hxl o6
                have hv := hf.eval hx
                generalize hq : a.eval x = q at hv
                cases hv
                have hlen := g1.length
                have hrun := run_append_grow_src w t u ty e i z ht hin hz none 0 0 [] rfl (a.eval y) (n0 + 1) xs' g2 (by omega) (by omega) (growslice_fits (by omega) hby)
                have hcap := grownCap_ge w (0 + (n0 + 1)) 0 e
                have hr1 : Rel P φ (fun c => T c ∨ (A.next ≤ c ∧ c < A1.next)) A1 w.drew := (Rel.drew (hr.heap (w' := w) sp.heap sp.fz rfl)).sub fun c hc => hc.elim id fun hc => by have := sp.next; omega
                have hCs : (([] ++ xs').toArray ++ Builtin.zeroCells z.cells (grownCap w (0 + (n0 + 1)) 0 e - (0 + (n0 + 1)))).size = grownCap w (0 + (n0 + 1)) 0 e * i.size := by
                  rw [Array.size_append, zeroCells_size, hzs, List.size_toArray, List.nil_append, ← hlen, hxl, ← Nat.add_mul]
                  congr 1
                  omega
                obtain ⟨φ', p1, p2⟩ := Post.new hi1 hn hr1 (hfr _ (by rw [sp.next]; exact Nat.le_refl _) (by rw [newRow_next]; omega)) (fun b => .row xs e b 0 true) rfl (.cells (([] ++ xs').toArray ++ Builtin.zeroCells z.cells (grownCap w (0 + (n0 + 1)) 0 e - (0 + (n0 + 1)))) e) 0 (grownCap w (0 + (n0 + 1)) 0 e * i.size) i.size 0 rfl (fun φ' he _ => by
                  refine .row _ _ _ _ _ (0, 0) rfl rfl hes.symm (by rw [hCs, Nat.zero_add]) (by rw [hCs, hxl, Nat.zero_add]; exact Nat.mul_le_mul_right _ (by omega)) ?_ (.inl rfl) _ (.inl ⟨rfl, Nat.dvd_zero _⟩)
                  have : ((([] ++ xs').toArray ++ Builtin.zeroCells z.cells (grownCap w (0 + (n0 + 1)) 0 e - (0 + (n0 + 1)))).toList.drop 0).take xs.length = xs' := by
                    rw [List.drop_zero, Array.toList_append, List.toList_toArray, List.nil_append, hlen, List.take_left']
                    rfl
                  rw [this]
                  exact g1.mono he)
                rw [← newRow_eq] at p2
                refine ⟨φ', _, Post.step sp.heap sp.fz sp.next hr fr2 p2.drew, ?_⟩
                rw [hex a w _ _ (by rw [hq]; exact hrun)]
                have e0 : 0 + (n0 + 1) = n0 + 1 := by omega
                rw [show Value.slice (some ⟨w.heap.size, 0, none⟩) (0 + (n0 + 1)) (grownCap w (0 + (n0 + 1)) 0 e) = Value.slice (some ⟨w.heap.size, 0, none⟩) (n0 + 1) (grownCap w (0 + (n0 + 1)) 0 e) from by rw [e0]]
                exact .val _ _ (.slice A1.next 0 (n0 + 1) (n0 + 1) _ ⟨w.heap.size, 0, none⟩ _ p1 (Nat.le_refl _) (by omega) (.inr rfl) (by show 0 + _ * i.size ≤ _ * i.size; rw [Nat.zero_add]; exact Nat.le_refl _))
              · rename_i b off
                split at h1
                · rename_i cells e' cls st hb
                  obtain ⟨he, h2⟩ := boolSome h1
                  have he' : e' = e := Nat.eq_of_beq_eq_true he
                  subst he'
                  have hn1 : A1.next + 1 ≤ A1.next + 1 := by rw [← app_next h2]; exact hn
                  obtain ⟨rfl, K, as⟩ := app_spec hi1 hn1 hb h2
                  have fr2 := as.wr.fr hi1
                  refine ⟨fr1.trans fr2, fun φ T w a hf hr hT hfr => ?_⟩
                  have hT1 := hT.left fr2
                  obtain ⟨xs', g1, g2⟩ := sp.src φ T w _ u i hi hr hT1 (hf.eval hy) rfl hin hxl o6
                  have hlen := g1.length
                  have hr1 : Rel P φ (fun c => T c ∨ (A.next ≤ c ∧ c < A1.next)) A1 w := (hr.heap (w' := w) sp.heap sp.fz rfl).sub fun c hc => hc.elim id fun hc => by have := sp.next; omega
                  have hTc : T cls := hT cls (by have := (hi1.lt _ _ hb).2; rw [sp.next] at this; exact this) (.inr (by rw [as.wr.w, bit_or]; simp))
                  have hfresh : φ A1.next = none := hfr _ (by rw [sp.next]; exact Nat.le_refl _) (by rw [app_next h2]; omega)
                  have hv := hf.eval hx
                  generalize hq : a.eval x = q at hv
                  cases hv with
                  | slice _ _ _ _ cap' a' j hφ hl hc ha hroom0 =>
                    have hjes : j.es = i.size := by
                      obtain ⟨jj, _, _, _, e1, _, _, _, e5, _⟩ := hr1.cells hb (.inl hTc)
                      obtain rfl : jj = j := by rw [hφ] at e1; injection e1 with e1; exact e1.symm
                      rw [e5, hes]
                    by_cases hroom : len + (n0 + 1) ≤ cap'
                    · have ha' : a' = ⟨j.blk, j.sh + off, none⟩ := ha.resolve_left (by omega)
                      subst ha'
                      obtain ⟨C, fz, _, q1, q2, q3, q4⟩ := Post.room hi1 as hb hr1 (.inl hTc) hfresh g1 hxl hφ hroom hjes hroom0
                      obtain ⟨s1, s2, s3⟩ := setCells_setRow q1 q2 q3 (ones_rel g1 o6) P
                      have hrun := run_append_room_src w t u ty e' i ht hin j.blk (j.sh + off) len cap' (a.eval y) (n0 + 1) xs' g2 hroom s1 s2
                      rw [s3] at hrun
                      refine ⟨_, _, Post.step sp.heap sp.fz sp.next hr fr2 q4, ?_⟩
                      rw [hex a w _ _ (by rw [hq]; exact hrun)]
                      exact .val _ _ (.slice A1.next 0 _ _ cap' ⟨j.blk, j.sh + off, none⟩ _ (if_pos rfl) (Nat.le_refl _) hroom (.inr rfl) (by show 0 + cap' * j.es ≤ j.sz - off; omega))
                    · obtain ⟨j', C, fz, _, e1, e2, e3, e4, e5, e6, e7, e8, e9, e10⟩ := hr1.cells hb (.inl hTc)
                      obtain rfl : j' = j := by rw [hφ] at e1; injection e1 with e1; exact e1.symm
                      have hold := as.old
                      have hol := ((e8.drop off).take (len * i.size)).length
                      rw [hold] at hol
                      have hcell : ∀ (k : Nat) (v : Value), ((((C.toList.drop j'.sh).take cells.length).drop off).take (len * i.size))[k]? = some v → w.drew.cell? (a'.add k) = some v := by
                        intro k v hk
                        have hkl : k < len * i.size := by
                          rw [List.getElem?_take] at hk
                          split at hk
                          · assumption
                          · cases hk
                        have hl0 : 0 < len := by
                          rcases Nat.eq_zero_or_pos len with h0 | h0
                          · rw [h0, Nat.zero_mul] at hkl; omega
                          · exact h0
                        have ha' : a' = ⟨j'.blk, j'.sh + off, none⟩ := ha.resolve_left (by omega)
                        rw [ha', add_addr]
                        rw [List.getElem?_take, if_pos hkl, List.getElem?_drop, List.getElem?_take, List.getElem?_drop] at hk
                        split at hk
                        · simp only [World.cell?, World.drew, e2]
                          rw [Array.getElem?_toList] at hk
                          rw [← hk]
                          simp [Nat.add_assoc]
                        · cases hk
                      have hfirst := run_firstCells_some (P := P) w.drew i.size len a' len cap' _ hol.symm hcell
                      have hrun := run_append_grow_src w t u ty e' i z ht hin hz (some a') len cap' _ hfirst (a.eval y) (n0 + 1) xs' g2 (by omega) (by omega) (growslice_fits (by omega) hby)
                      have hcap := grownCap_ge w (len + (n0 + 1)) cap' e'
                      generalize hO : (((C.toList.drop j'.sh).take cells.length).drop off).take (len * i.size) = O at hrun hol hfirst hcell
                      have hOv : VRels φ ((cells.drop off).take (len * i.size)) O := by rw [← hO]; exact (e8.drop off).take _
                      have hCs : ((O ++ xs').toArray ++ Builtin.zeroCells z.cells (grownCap w (len + (n0 + 1)) cap' e' - (len + (n0 + 1)))).size = grownCap w (len + (n0 + 1)) cap' e' * i.size := by
                        rw [Array.size_append, zeroCells_size, hzs, List.size_toArray, List.length_append, ← hol, ← hlen, hxl, ← Nat.add_mul, ← Nat.add_mul]
                        congr 1
                        omega
                      have hall : ((cells.drop off).take (len * i.size) ++ xs).length = (O ++ xs').length := by rw [List.length_append, List.length_append, hold, hol, hlen]
                      have p2 := Post.grow hi1 as hb hr1.drew hfresh ((O ++ xs').toArray ++ Builtin.zeroCells z.cells (grownCap w (len + (n0 + 1)) cap' e' - (len + (n0 + 1)))) hes (by
                        rw [hall, Array.toList_append, List.toList_toArray, List.take_left']
                        · exact VRels.append hOv g1
                        · rfl) (by rw [hall, hCs, List.length_append, ← hol, ← hlen, hxl, ← Nat.add_mul]; exact Nat.mul_le_mul_right _ hcap)
                      refine ⟨_, _, Post.step sp.heap sp.fz sp.next hr fr2 p2.drew, ?_⟩
                      rw [hex a w _ _ (by rw [hq]; exact hrun)]
                      exact .val _ _ (.slice A1.next 0 _ _ _ ⟨w.heap.size, 0, none⟩ _ (if_pos rfl) (Nat.le_refl _) hcap (.inr rfl) (by show 0 + _ * i.size ≤ _; rw [Nat.zero_add, hCs]; exact Nat.le_refl _))
                · cases h1
              · rename_i b off
                split at h1
                · rename_i cells e' cls st hb
                  unfold appX at h1
                  rw [forceL_eq] at h1
                  obtain ⟨hol0, h2⟩ := boolSome h1
                  have hold : ((cells.drop off).take (len * i.size)).length = len * i.size := Nat.eq_of_beq_eq_true hol0
                  injection h2 with h2
                  injection h2 with h3 h4
                  subst h3
                  subst h4
                  have hcn : cls < A1.next := (hi1.lt _ _ hb).2
                  have frL := logR_fr hi1 hcn
                  have hiL := frL.inv
                  have hnL : (logR A1 cls).next = A1.next := by rw [logR_eq]
                  have frN := newRow_fr hiL (Nat.le_refl _) ((cells.drop off).take (len * i.size) ++ xs) e
                  have fr2 := frL.trans frN
                  refine ⟨fr1.trans fr2, fun φ T w a hf hr hT hfr => ?_⟩
                  have hT1 := hT.left fr2
                  obtain ⟨xs', g1, g2⟩ := sp.src φ T w _ u i hi hr hT1 (hf.eval hy) rfl hin hxl o6
                  have hlen := g1.length
                  have hr1 : Rel P φ (fun c => T c ∨ (A.next ≤ c ∧ c < A1.next)) A1 w := (hr.heap (w' := w) sp.heap sp.fz rfl).sub fun c hc => hc.elim id fun hc => by have := sp.next; omega
                  have hTc : T cls := hT cls (by rw [sp.next] at hcn; exact hcn) (.inl (frN.r cls (by rw [logR_eq, bit_or]; simp)))
                  have hfresh : φ A1.next = none := hfr _ (by rw [sp.next]; exact Nat.le_refl _) (by rw [newRow_next, hnL]; omega)
                  have hv := hf.eval hx
                  generalize hq : a.eval x = q at hv
                  cases hv with
                  | sliceX _ _ _ a' j hφ ha =>
                    obtain ⟨j', C, fz, _, e1, e2, e3, e4, e5, e6, e7, e8, e9, e10⟩ := hr1.cells hb (.inl hTc)
                    obtain rfl : j' = j := by rw [hφ] at e1; injection e1 with e1; exact e1.symm
                    have hol := ((e8.drop off).take (len * i.size)).length
                    rw [hold] at hol
                    have hcell : ∀ (k : Nat) (v : Value), ((((C.toList.drop j'.sh).take cells.length).drop off).take (len * i.size))[k]? = some v → w.drew.cell? (a'.add k) = some v := by
                      intro k v hk
                      have hkl : k < len * i.size := by
                        rw [List.getElem?_take] at hk
                        split at hk
                        · assumption
                        · cases hk
                      have hl0 : len ≠ 0 := by
                        intro h0
                        rw [h0, Nat.zero_mul] at hkl
                        omega
                      have ha' : a' = ⟨j'.blk, j'.sh + off, none⟩ := ha.resolve_left hl0
                      rw [ha', add_addr]
                      rw [List.getElem?_take, if_pos hkl, List.getElem?_drop, List.getElem?_take, List.getElem?_drop] at hk
                      split at hk
                      · simp only [World.cell?, World.drew, e2]
                        rw [Array.getElem?_toList] at hk
                        rw [← hk]
                        simp [Nat.add_assoc]
                      · cases hk
                    have hfirst := run_firstCells_some (P := P) w.drew i.size len a' len len _ hol.symm hcell
                    have hrun := run_append_grow_src w t u ty e i z ht hin hz (some a') len len _ hfirst (a.eval y) (n0 + 1) xs' g2 (by omega) (by omega) (growslice_fits (by omega) hby)
                    have hcap := grownCap_ge w (len + (n0 + 1)) len e
                    generalize hO : (((C.toList.drop j'.sh).take cells.length).drop off).take (len * i.size) = O at hrun hol hfirst hcell
                    have hOv : VRels φ ((cells.drop off).take (len * i.size)) O := by rw [← hO]; exact (e8.drop off).take _
                    have hCs : ((O ++ xs').toArray ++ Builtin.zeroCells z.cells (grownCap w (len + (n0 + 1)) len e - (len + (n0 + 1)))).size = grownCap w (len + (n0 + 1)) len e * i.size := by
                      rw [Array.size_append, zeroCells_size, hzs, List.size_toArray, List.length_append, ← hol, ← hlen, hxl, ← Nat.add_mul, ← Nat.add_mul]
                      congr 1
                      omega
                    have hall : ((cells.drop off).take (len * i.size) ++ xs).length = (O ++ xs').length := by rw [List.length_append, List.length_append, hold, hol, hlen]
                    have hrL : Rel P φ (fun c => (T c ∨ (A.next ≤ c ∧ c < A1.next)) ∨ (A1.next ≤ c ∧ c < (logR A1 cls).next)) (logR A1 cls) w.drew := (Rel.drew (hr1.heap (w' := w) (by rw [logR_eq]) (by rw [logR_eq]) rfl)).sub fun c hc => hc.elim id fun hc => by rw [hnL] at hc; omega
                    obtain ⟨φ', p1, p2⟩ := Post.new hiL (Nat.le_refl _) hrL (by rw [hnL]; exact hfresh) (fun b => .row ((cells.drop off).take (len * i.size) ++ xs) e b 0 true) rfl (.cells ((O ++ xs').toArray ++ Builtin.zeroCells z.cells (grownCap w (len + (n0 + 1)) len e - (len + (n0 + 1)))) e) 0 (grownCap w (len + (n0 + 1)) len e * i.size) i.size 0 rfl (fun φ' he _ => by
                      refine .row _ _ _ _ _ (0, 0) rfl rfl hes.symm (by rw [hCs, Nat.zero_add]) ?_ ?_ (.inl rfl) _ (.inl ⟨rfl, Nat.dvd_zero _⟩)
                      · rw [hall, hCs, Nat.zero_add, List.length_append, ← hol, ← hlen, hxl, ← Nat.add_mul]
                        exact Nat.mul_le_mul_right _ hcap
                      · have : (((O ++ xs').toArray ++ Builtin.zeroCells z.cells (grownCap w (len + (n0 + 1)) len e - (len + (n0 + 1)))).toList.drop 0).take ((cells.drop off).take (len * i.size) ++ xs).length = O ++ xs' := by
                          rw [hall, List.drop_zero, Array.toList_append, List.toList_toArray, List.take_left']
                          rfl
                        rw [this]
                        exact (VRels.append hOv g1).mono he)
                    rw [← newRow_eq] at p2
                    have p3 : Post P φ (fun c => T c ∨ (A.next ≤ c ∧ c < A1.next)) A1 (newRow (logR A1 cls) ((cells.drop off).take (len * i.size) ++ xs) e) w (w.drew.alloc (.cells ((O ++ xs').toArray ++ Builtin.zeroCells z.cells (grownCap w (len + (n0 + 1)) len e - (len + (n0 + 1)))) e)) φ' := by
                      refine Post.step (A₁ := logR A1 cls) (by rw [logR_eq]) (by rw [logR_eq]) hnL hr1 frN ?_
                      exact p2.drew
                    refine ⟨φ', _, Post.step sp.heap sp.fz sp.next hr fr2 p3, ?_⟩
                    rw [hex a w _ _ (by rw [hq]; exact hrun)]
                    rw [hnL] at p1
                    exact .val _ _ (.slice A1.next 0 _ _ _ ⟨w.heap.size, 0, none⟩ _ p1 (Nat.le_refl _) hcap (.inr rfl) (by show 0 + _ * i.size ≤ _ * i.size; rw [Nat.zero_add]; exact Nat.le_refl _))
                · cases h1
              · cases h1
            · cases hok
        · cases h
      · cases h
    · cases h
  · cases h
theorem copy_sound (hi : Inv A) (hn : A'.next ≤ A'.next) (x y : Operand) (t u : TypeId) (h : copyA P (P.underlying t) (P.underlying u) (f.eval x) (f.eval y) A = some (nx, A')) :
    Sound P f A ⟨d, .call ⟨.builtin .copy, #[x, y], #[t, u]⟩, ty, pos, af, gd⟩ nx A' := by
  unfold copyA at h
  split at h
  · rename_i e base len cap vy ht hx hy
    split at h
    · rename_i xs m A1 i harg hin
      obtain ⟨hok, h1⟩ := boolSome h
      simp only [Bool.and_eq_true] at hok
      obtain ⟨o1, o2, o3⟩ := hok
      have hml : m ≤ len := Nat.le_of_ble_eq_true o1
      have hxl : xs.length = m * i.size := Nat.eq_of_beq_eq_true o2
      have sp := arg_spec harg
      have fr1 := sp.fr hi
      have hi1 := fr1.inv
      have hsz : (P.info? e).map (·.size) = some i.size := by rw [hin]; rfl
      have hex : ∀ (a : Act) (w w' : World) (v' : Value), (Builtin.copy_ #[t, u] ty #[a.eval x, a.eval y]).run P w = .ok v' w' → (execOp a.eval ⟨d, .call ⟨.builtin .copy, #[x, y], #[t, u]⟩, ty, pos, af, gd⟩).run P w = .ok (.value v') w' := fun a w w' v' hh => by
        refine run_v ?_
        show (Builtin.copy_ #[t, u] ty (Array.map a.eval #[x, y])).run P w = _
        rw [show Array.map a.eval #[x, y] = #[a.eval x, a.eval y] by simp]
        exact hh
      cases m with
      | zero =>
        have h' : some (ANext.val (.int .i64 (.ofNat 0)), A1) = some (nx, A') := h1
        injection h' with h'
        injection h' with h1 h2
        subst h1
        subst h2
        refine ⟨fr1, fun φ T w a hf hr hT hfr => ?_⟩
        refine ⟨φ, w, Post.refl hr sp.heap sp.fz sp.next rfl rfl rfl rfl, ?_⟩
        have hv := hf.eval hx
        have hxs := sp.nil rfl
        subst hxs
        obtain ⟨xs', g1, g2⟩ := sp.src φ T w _ u i hi hr hT (hf.eval hy) rfl hin (by simp) rfl
        cases g1
        generalize hq : a.eval x = q at hv
        have hrun : ∃ base' cap', q = .slice base' len cap' := by
          cases hv with
          | nilSlice => exact ⟨_, _, rfl⟩
          | slice => exact ⟨_, _, rfl⟩
          | sliceX => exact ⟨_, _, rfl⟩
        obtain ⟨base', cap', rfl⟩ := hrun
        have hrun : (Builtin.copy_ #[t, u] ty #[.slice base' len cap', a.eval y]).run P w = .ok (goInt 0) w := by
          have h0 := g2.cells
          cases base' <;> simp [Builtin.copy_, run_underlying ht, g2.len, sizeOf, typeInfo, hin, h0, storeCells, goInt]
        rw [hex a w w _ (by rw [hq]; exact hrun)]
        exact .val _ _ (.int ..)
      | succ m0 =>
        have h' : (match (generalizing := false) base with
          | some ⟨b, off, none⟩ => match stc A1 b off xs with
            | some s => some (ANext.val (.int .i64 (.ofNat (Nat.add m0 1))), s)
            | none => none
          | _ => none) = some (nx, A') := h1
        split at h'
        · rename_i b off
          split at h'
          · rename_i s1 hs1
            injection h' with h'
            injection h' with h2 h3
            subst h2
            subst h3
            obtain ⟨cells, e', cls, st, K, ss⟩ := stc_spec hi1 (Nat.le_refl _) hs1
            have fr2 := ss.wr.fr hi1
            refine ⟨fr1.trans fr2, fun φ T w a hf hr hT hfr => ?_⟩
            have hT1 := hT.left fr2
            obtain ⟨xs', g1, g2⟩ := sp.src φ T w _ u i hi hr hT1 (hf.eval hy) rfl hin hxl o3
            have hr1 : Rel P φ (fun c => T c ∨ (A.next ≤ c ∧ c < A1.next)) A1 w := (hr.heap (w' := w) sp.heap sp.fz rfl).sub fun c hc => hc.elim id fun hc => by have := sp.next; omega
            have hTc : T cls := hT cls (by have := (hi1.lt _ _ ss.row).2; rw [sp.next] at this; exact this) (.inr (by rw [ss.wr.w, bit_or]; simp))
            have hv := hf.eval hx
            generalize hq : a.eval x = q at hv
            cases hv with
            | slice _ _ _ _ cap' a' j hφ hl hc ha hroom0 =>
              have ha' : a' = ⟨j.blk, j.sh + off, none⟩ := ha.resolve_left (by omega)
              subst ha'
              obtain ⟨C, fz, e2, k1, k2, k3, k4⟩ := Post.store hi1 ss hr1 (.inl hTc) g1 hφ
              refine ⟨φ, _, Post.step sp.heap sp.fz sp.next hr fr2 k4, ?_⟩
              have hst := run_storeCells_atF P j.blk (j.sh + off) e2 fz xs' 0 C w k1 (by omega) (by omega) (ones_rel g1 ss.one)
              have h0 := g2.cells
              have hmin : Nat.min (m0 + 1) len = m0 + 1 := Nat.min_eq_left hml
              have hrun : (Builtin.copy_ #[t, u] ty #[.slice (some ⟨j.blk, j.sh + off, none⟩) len cap', a.eval y]).run P w = .ok (goInt (m0 + 1 : Nat)) (w.setRow j.blk (C.toList.take (j.sh + off) ++ xs' ++ C.toList.drop (j.sh + off + xs'.length)).toArray) := by
                simp only [Nat.add_zero] at hst
                simp [Builtin.copy_, run_underlying ht, g2.len, sizeOf, typeInfo, hin, hmin, h0, hst]
              rw [hex a w _ _ (by rw [hq]; exact hrun)]
              exact .val _ _ (.int ..)
          · cases h'
        · cases h'
    · cases h
  · cases h
end
end Go.EvL
namespace Go.EvL
open Go
def opWp (P : Program) (ops : Array Oper) (Q : Exit → Act → World → Prop) (o : Oper) (K : Act → World → Prop) (a : Act) (w : World) : Prop :=
  if Region.wanted o (yielded ops a.tmps) = true then o.wp P a w K Q else K (a.put o.dst undef) w
def OpsOK (P : Program) : Prop := ∀ (f : Fr) (o : Oper) (A : AS) (nx : ANext) (A' : AS), Inv A → A'.next ≤ A'.next → evalOp P f o A = some (nx, A') → Sound P f A o nx A'
inductive EndRel (φ : Emb) : AEnd → Ending → Prop
  | ret (v v' : Value) (h : VRel φ v v') : EndRel φ (.ret v) (.returned v')
  | panic (v v' : Value) (h : VRel φ v v') : EndRel φ (.panic v) (.panicked [{ v := v', recovered := false }])
structure CallSound (P : Program) (g : FuncId) (args : Array Value) (A : AS) (r : AEnd) (A' : AS) : Prop where
  fr : AFr A A'
  run : ∀ (φ : Emb) (T : Nat → Prop) (w : World) (args' : Array Value), VRels φ args.toList args'.toList → Rel P φ T A w → Foot A A' T → Fresh A A' φ →
    Calls P g args' w fun e w' => ∃ φ', Post P φ T A A' w w' φ' ∧ EndRel φ' r e
def CallOK (P : Program) (call : CallF) : Prop := ∀ (g : FuncId) (args : Array Value) (A : AS) (r : AEnd) (A' : AS), Inv A → A'.next ≤ A'.next → call g args A = some (r, A') → CallSound P g args A r A'
def CallMono (call : CallF) : Prop := ∀ (g : FuncId) (args : Array Value) (A : AS) (r : AEnd) (A' : AS), call g args A = some (r, A') → A.next ≤ A'.next
theorem put_ok {f f' : Fr} {d : Option Tmp} {v : Value} (h : f.put d v = some f') : (d = none ∧ f' = f) ∨ ∃ t, d = some t ∧ t < f.n ∧ f' = ⟨Tr.set v 40 f.tmps t, f.n, f.defers⟩ := by
  cases d with
  | none => have h' : some f = some f' := h; injection h' with h'; exact .inl ⟨rfl, h'.symm⟩
  | some t =>
    obtain ⟨tm, n, ds⟩ := f
    have h' : (Bool.rec none (forceT (Tr.set v 40 tm t) fun t => some (⟨t, n, ds⟩ : Fr)) (Nat.ble (Nat.succ t) n) : Option Fr) = some f' := h
    obtain ⟨h1, h2⟩ := boolSome h'
    rw [forceT_eq] at h2
    injection h2 with h2
    exact .inr ⟨t, rfl, Nat.le_of_ble_eq_true h1, h2.symm⟩
theorem FRel.put {φ : Emb} {f f' : Fr} {a : Act} {d : Option Tmp} {v v' : Value} (hf : FRel φ f a) (h : f.put d v = some f') (hv : VRel φ v v') : FRel φ f' (a.put d v') := by
  rcases put_ok h with ⟨rfl, rfl⟩ | ⟨t, rfl, ht, rfl⟩
  · exact hf
  · have hfit : Fits t := trivial
    refine ⟨by simp [Act.put, hf.size], hf.few, fun x => ?_, hf.defers⟩
    show VRel φ (((Tr.set v 40 f.tmps t).get x).getD undef) ((a.tmps.setIfInBounds t v').getD x undef)
    rw [Tr.get_set _ _ _ _ hfit]
    have hsz := hf.size
    by_cases hx : x = t
    · subst hx
      rw [if_pos rfl]
      rw [show (a.tmps.setIfInBounds x v').getD x undef = v' by simp [Array.getD_eq_getD_getElem?, hsz, ht]]
      exact hv
    · rw [if_neg hx]
      rw [show (a.tmps.setIfInBounds t v').getD x undef = a.tmps.getD x undef by
        simp only [Array.getD_eq_getD_getElem?, Array.getElem?_setIfInBounds]
        rw [if_neg (fun e => hx e.symm)]]
      exact hf.tmps x
theorem wanted_ok {φ : Emb} {f : Fr} {a : Act} (hf : FRel φ f a) {ops : Array Oper} {o : Oper} {b : Bool} (h : wantedA ops.toList f o.guard = some b) : Region.wanted o (yielded ops a.tmps) = b := by
  unfold Region.wanted
  cases hg : o.guard with
  | none => rw [hg] at h; have h' : some true = some b := h; cases h'; rfl
  | some p =>
    obtain ⟨j, want⟩ := p
    rw [hg] at h
    have h' : guardA ops.toList f j want = some b := h
    unfold guardA at h'
    split at h'
    · rename_i dd hd
      have hd' : (ops[j]?).bind (·.dst) = some dd := by simpa using hd
      have ht := hf.tmps dd
      unfold sameB at h'
      split at h'
      · rename_i bb hb
        injection h' with h'
        rw [hb] at ht
        generalize hq : a.tmps.getD dd undef = q at ht
        cases ht
        have hy : yielded ops a.tmps j = some bb := by
          unfold yielded
          rw [hd']
          have : a.tmps[dd]? = some (.bool bb) := by
            rw [Array.getD_eq_getD_getElem?] at hq
            cases hz : a.tmps[dd]? with
            | none => rw [hz] at hq; cases hq
            | some z => rw [hz] at hq; exact congrArg some hq
          rw [Option.bind_some, this]
        simp only [hy]
        rw [← h']
        cases bb <;> cases want <;> rfl
      · rename_i vs hb
        injection h' with h'
        rw [hb] at ht
        generalize hq : a.tmps.getD dd undef = q at ht
        cases ht with
        | tuple _ vs' hvs =>
          have hy : yielded ops a.tmps j = none := by
            unfold yielded
            rw [hd', Option.bind_some]
            cases hz : a.tmps[dd]? with
            | none => rfl
            | some z =>
              have : z = .tuple vs' := by rw [Array.getD_eq_getD_getElem?, hz] at hq; exact hq
              rw [this]
          simp only [hy]
          rw [← h']
          cases want <;> rfl
      · cases h'
    · cases h'
section
variable {P : Program} {call : CallF} {ops : Array Oper} {f f' : Fr} {o : Oper} {A A' : AS}
structure StepOn (P : Program) (ops : Array Oper) (o : Oper) (f : Fr) (A : AS) (f' : Fr) (A' : AS) : Prop where
  fr : AFr A A'
  run : ∀ (φ : Emb) (T : Nat → Prop) (w : World) (a : Act), FRel φ f a → Rel P φ T A w → Foot A A' T → Fresh A A' φ → ∀ (K : Act → World → Prop) (Q : Exit → Act → World → Prop),
    (∀ φ' w' a', Post P φ T A A' w w' φ' → FRel φ' f' a' → K a' w') → opWp P ops Q o K a w
structure StepUp (P : Program) (ops : Array Oper) (o : Oper) (f : Fr) (A : AS) (v : Value) (A' : AS) : Prop where
  fr : AFr A A'
  run : ∀ (φ : Emb) (T : Nat → Prop) (w : World) (a : Act), FRel φ f a → Rel P φ T A w → Foot A A' T → Fresh A A' φ → ∀ (K : Act → World → Prop) (Q : Exit → Act → World → Prop),
    (∀ φ' w' v', Post P φ T A A' w w' φ' → VRel φ' v v' → Q (.panic [{ v := v', recovered := false }]) a w') → opWp P ops Q o K a w
theorem onward_on {x : Option Fr} {s : AS} (h : onward x s = .on f' A') : x = some f' ∧ s = A' := by
  cases x with
  | none => cases h
  | some y => have h' : St.on y s = .on f' A' := h; injection h' with h1 h2; exact ⟨congrArg some h1, h2⟩
theorem step_on (hO : OpsOK P) (hC : CallOK P call) (hM : CallMono call) (hi : Inv A) (hn : A'.next ≤ A'.next) (h : step1 P call ops.toList f o A = .on f' A') : StepOn P ops o f A f' A' := by
  unfold step1 at h
  split at h
  · rename_i hw
    cases hev : evalOp P f o A with
    | none => rw [hev] at h; cases h
    | some r =>
      obtain ⟨nx, B⟩ := r
      rw [hev] at h
      unfold afterOp at h
      split at h
      · cases h
      · rename_i v s e
        injection e with e
        injection e with e1 e2
        subst e1
        subst e2
        obtain ⟨h1, rfl⟩ := onward_on h
        have hs := hO f o A _ _ hi hn hev
        refine ⟨hs.fr, fun φ T w a hf hr hT hfr K Q hK => ?_⟩
        unfold opWp
        rw [wanted_ok hf hw, if_pos rfl]
        obtain ⟨φ', w', hp, hnr⟩ := hs.run φ T w a hf hr hT hfr
        unfold Oper.wp
        generalize hres : (execOp a.eval o).run P w = res at hnr
        cases hnr with
        | val _ v' hv => exact hK φ' w' _ hp ((hf.mono hp.ext).put h1 hv)
        | skip => exact hK φ' w' _ hp ((hf.mono hp.ext).put h1 (undef_rel _))
      · rename_i g args s e
        injection e with e
        injection e with e1 e2
        subst e1
        subst e2
        unfold afterCall at h
        split at h
        · cases h
        · rename_i v s2 hc
          obtain ⟨h1, rfl⟩ := onward_on h
          have hs := hO f o A _ _ hi (Nat.le_refl _) hev
          have hcs := hC _ _ _ _ _ hs.fr.inv hn hc
          refine ⟨hs.fr.trans hcs.fr, fun φ T w a hf hr hT hfr K Q hK => ?_⟩
          unfold opWp
          rw [wanted_ok hf hw, if_pos rfl]
          obtain ⟨φ', w', hp, hnr⟩ := hs.run φ T w a hf hr (hT.left hcs.fr) (fun b h1 h2 => hfr b h1 (Nat.lt_of_lt_of_le h2 hcs.fr.next))
          unfold Oper.wp
          generalize hres : (execOp a.eval o).run P w = res at hnr
          cases hnr with
          | enter _ _ args' hargs =>
            refine (hcs.run φ' _ w' args' hargs hp.rel ?_ ?_).mono ?_
            · intro c hc' hh
              by_cases hlt : c < A.next
              · exact .inl (hT c hlt hh)
              · exact .inr ⟨by omega, hc'⟩
            · intro b h3 h4
              rw [hp.out b (.inr h3)]
              exact hfr b (Nat.le_trans hs.fr.next h3) h4
            · rintro e2 w2 ⟨φ2, hp2, he2⟩
              cases he2 with
              | ret _ v' hv => exact hK φ2 w2 _ (hp.trans hs.fr.next hcs.fr hp2) (((hf.mono hp.ext).mono hp2.ext).put h1 hv)
        · cases h
      · rename_i dd s e
        injection e with e
        injection e with e1 e2
        subst e1
        subst e2
        obtain ⟨h1, rfl⟩ := onward_on h
        have hs := hO f o A _ _ hi hn hev
        refine ⟨hs.fr, fun φ T w a hf hr hT hfr K Q hK => ?_⟩
        unfold opWp
        rw [wanted_ok hf hw, if_pos rfl]
        obtain ⟨φ', w', hp, hnr⟩ := hs.run φ T w a hf hr hT hfr
        unfold Oper.wp
        generalize hres : (execOp a.eval o).run P w = res at hnr
        cases hnr with
        | dfr _ d' hd =>
          rw [Option.map_eq_some_iff] at h1
          obtain ⟨f1, h2, rfl⟩ := h1
          have hf1 := (hf.mono hp.ext).put h2 (undef_rel φ')
          refine hK φ' w' _ hp ⟨?_, hf1.few, ?_, ?_⟩
          · have := hf1.size
            cases hd2 : o.dst <;> simp [Act.put, hd2] at this ⊢ <;> exact this
          · intro t
            have := hf1.tmps t
            cases hd2 : o.dst <;> simp only [Act.put, hd2] at this ⊢ <;> exact this
          · have hdf := hf1.defers
            cases hd2 : o.dst <;> simp only [Act.put, hd2] at hdf ⊢ <;> exact .cons _ _ _ _ hd hdf
      · cases h
      · cases h
  · rename_i hw
    obtain ⟨h1, rfl⟩ := onward_on h
    refine ⟨.refl hi, fun φ T w a hf hr hT hfr K Q hK => ?_⟩
    unfold opWp
    rw [wanted_ok hf hw]
    exact hK φ w _ (.refl hr rfl rfl rfl rfl rfl rfl rfl) (hf.put h1 (undef_rel _))
  · cases h
theorem step_up (hO : OpsOK P) (hC : CallOK P call) (hM : CallMono call) {v : Value} (hi : Inv A) (hn : A'.next ≤ A'.next) (h : step1 P call ops.toList f o A = .up v f' A') : f' = f ∧ StepUp P ops o f A v A' := by
  have hno : ∀ (x : Option Fr) (s : AS), onward x s ≠ .up v f' A' := by
    intro x s hh
    cases x <;> cases hh
  unfold step1 at h
  split at h
  · rename_i hw
    cases hev : evalOp P f o A with
    | none => rw [hev] at h; cases h
    | some r =>
      obtain ⟨nx, B⟩ := r
      rw [hev] at h
      unfold afterOp at h
      split at h
      · cases h
      · exact absurd h (hno _ _)
      · rename_i g args s e
        injection e with e
        injection e with e1 e2
        subst e1
        subst e2
        unfold afterCall at h
        split at h
        · cases h
        · exact absurd h (hno _ _)
        · rename_i v2 s2 hc
          injection h with h1 h2 h3
          subst h1
          subst h2
          subst h3
          have hs := hO f o A _ _ hi (Nat.le_refl _) hev
          have hcs := hC _ _ _ _ _ hs.fr.inv hn hc
          refine ⟨rfl, hs.fr.trans hcs.fr, fun φ T w a hf hr hT hfr K Q hK => ?_⟩
          unfold opWp
          rw [wanted_ok hf hw, if_pos rfl]
          obtain ⟨φ', w', hp, hnr⟩ := hs.run φ T w a hf hr (hT.left hcs.fr) (fun b h1 h2 => hfr b h1 (Nat.lt_of_lt_of_le h2 hcs.fr.next))
          unfold Oper.wp
          generalize hres : (execOp a.eval o).run P w = res at hnr
          cases hnr with
          | enter _ _ args' hargs =>
            refine (hcs.run φ' _ w' args' hargs hp.rel ?_ ?_).mono ?_
            · intro c hc' hh
              by_cases hlt : c < A.next
              · exact .inl (hT c hlt hh)
              · exact .inr ⟨by omega, hc'⟩
            · intro b h3 h4
              rw [hp.out b (.inr h3)]
              exact hfr b (Nat.le_trans hs.fr.next h3) h4
            · rintro e2 w2 ⟨φ2, hp2, he2⟩
              cases he2 with
              | panic _ v' hv => exact hK φ2 w2 _ (hp.trans hs.fr.next hcs.fr hp2) hv
      · exact absurd h (hno _ _)
      · cases h
      · rename_i v2 s e
        injection e with e
        injection e with e1 e2
        subst e1
        subst e2
        injection h with h1 h2 h3
        subst h1
        subst h2
        subst h3
        have hs := hO f o A _ _ hi hn hev
        refine ⟨rfl, hs.fr, fun φ T w a hf hr hT hfr K Q hK => ?_⟩
        unfold opWp
        rw [wanted_ok hf hw, if_pos rfl]
        obtain ⟨φ', w', hp, hnr⟩ := hs.run φ T w a hf hr hT hfr
        unfold Oper.wp
        generalize hres : (execOp a.eval o).run P w = res at hnr
        cases hnr with
        | panic _ v' hv => exact hK φ' w' _ hp hv
  · exact absurd h (hno _ _)
  · cases h
end
end Go.EvL
namespace Go.EvL
open Go
def OpMono (P : Program) : Prop := ∀ (f : Fr) (o : Oper) (A : AS) (nx : ANext) (A' : AS), evalOp P f o A = some (nx, A') → A.next ≤ A'.next
inductive XRel (φ : Emb) : AExit → Exit → Prop
  | normal : XRel φ .normal .normal
  | exit (id : Nat) : XRel φ (.exit id) (.exit id)
  | ret : XRel φ .ret .ret
  | panic (v v' : Value) (h : VRel φ v v') : XRel φ (.panic v) (.panic [{ v := v', recovered := false }])
/-- a piece of code of the evaluator stands for that code in any run -/
structure CSound (P : Program) (c : Code) (f : Fr) (A : AS) (x : AExit) (f' : Fr) (A' : AS) : Prop where
  fr : AFr A A'
  run : ∀ (φ : Emb) (T : Nat → Prop) (w : World) (a : Act), FRel φ f a → Rel P φ T A w → Foot A A' T → Fresh A A' φ → ∀ (Q : Exit → Act → World → Prop),
    (∀ φ' w' a' e, Post P φ T A A' w w' φ' → FRel φ' f' a' → XRel φ' x e → Q e a' w') → c.wp P Q a w
section
variable {P : Program} {call : CallF}
theorem step_mono (hO : OpMono P) (hM : CallMono call) {ops : List Oper} {f f' : Fr} {o : Oper} {A A' : AS} {v : Value} (h : step1 P call ops f o A = .on f' A' ∨ step1 P call ops f o A = .up v f' A') : A.next ≤ A'.next := by
  have hon : ∀ (x : Option Fr) (s : AS), (onward x s = .on f' A' ∨ onward x s = .up v f' A') → s = A' := by
    intro x s hh
    cases x with
    | none => rcases hh with hh | hh <;> cases hh
    | some y => rcases hh with hh | hh
                · have h' : St.on y s = .on f' A' := hh; injection h'
                · cases hh
  unfold step1 at h
  split at h
  · cases hev : evalOp P f o A with
    | none => rw [hev] at h; rcases h with h | h <;> cases h
    | some r =>
      obtain ⟨nx, B⟩ := r
      have h1 := hO _ _ _ _ _ hev
      rw [hev] at h
      cases nx with
      | val u => rw [← hon _ _ h]; exact h1
      | dfr x => rw [← hon _ _ h]; exact h1
      | recover => rcases h with h | h <;> cases h
      | panic u =>
        rcases h with h | h
        · cases h
        · have h' : St.up u f B = .up v f' A' := h
          injection h' with _ _ h3
          rw [← h3]; exact h1
      | enter g args =>
        have h' : afterCall f o.dst (call g args B) = .on f' A' ∨ afterCall f o.dst (call g args B) = .up v f' A' := h
        cases hc : call g args B with
        | none => rw [hc] at h'; rcases h' with h' | h' <;> cases h'
        | some r =>
          obtain ⟨r, s⟩ := r
          have h2 := hM _ _ _ _ _ hc
          rw [hc] at h'
          cases r with
          | ret u => rw [← hon _ _ h']; omega
          | panic u =>
            rcases h' with h' | h'
            · cases h'
            · have h'' : St.up u f s = .up v f' A' := h'
              injection h'' with _ _ h3
              rw [← h3]; omega
  · rw [← hon _ _ h]; exact Nat.le_refl _
  · rcases h with h | h <;> cases h
theorem runOps_cons {ops : List Oper} (o : Oper) (l : List Oper) (f : Fr) (A : AS) : runOps P call ops (o :: l) f A = stepK (step1 P call ops f o A) (runOps P call ops l) := rfl
theorem runOps_mono (hO : OpMono P) (hM : CallMono call) {ops : List Oper} : ∀ (l : List Oper) {f f' : Fr} {A A' : AS} {v : Value}, (runOps P call ops l f A = .on f' A' ∨ runOps P call ops l f A = .up v f' A') → A.next ≤ A'.next := by
  intro l
  induction l with
  | nil =>
    intro f f' A A' v h
    rcases h with h | h
    · have h' : St.on f A = .on f' A' := h; injection h' with _ h2; rw [h2]; exact Nat.le_refl _
    · cases h
  | cons o l ih =>
    intro f f' A A' v h
    rw [runOps_cons] at h
    cases hs : step1 P call ops f o A with
    | no => rw [hs] at h; rcases h with h | h <;> cases h
    | on g B =>
      rw [hs] at h
      have h1 := step_mono (v := v) hO hM (.inl hs)
      have h2 := ih h
      omega
    | up u g B =>
      rw [hs] at h
      have h1 := step_mono (v := u) hO hM (.inr hs)
      rcases h with h | h
      · cases h
      · have h' : St.up u g B = .up v f' A' := h
        injection h' with _ _ h3
        rw [← h3]; exact h1
theorem fresh_left {A B C : AS} {φ : Emb} (h : Fresh A C φ) (hn : B.next ≤ C.next) : Fresh A B φ := fun b h1 h2 => h b h1 (Nat.lt_of_lt_of_le h2 hn)
theorem fresh_right {A B C : AS} {φ φ' : Emb} {T : Nat → Prop} {w w' : World} (h : Fresh A C φ) (hn : A.next ≤ B.next) (hp : Post P φ T A B w w' φ') : Fresh B C φ' := fun b h1 h2 => by
  rw [hp.out b (.inr h1)]
  exact h b (Nat.le_trans hn h1) h2
theorem foot_right {A B C : AS} {T : Nat → Prop} (h : Foot A C T) : Foot B C (fun c => T c ∨ (A.next ≤ c ∧ c < B.next)) := fun c hc hh => by
  by_cases hlt : c < A.next
  · exact .inl (h c hlt hh)
  · exact .inr ⟨by omega, hc⟩
structure OpsSound (P : Program) (ops : Array Oper) (l : List Oper) (f : Fr) (A : AS) (x : AExit) (f' : Fr) (A' : AS) : Prop where
  fr : AFr A A'
  run : ∀ (φ : Emb) (T : Nat → Prop) (w : World) (a : Act), FRel φ f a → Rel P φ T A w → Foot A A' T → Fresh A A' φ → ∀ (Q : Exit → Act → World → Prop),
    (∀ φ' w' a' e, Post P φ T A A' w w' φ' → FRel φ' f' a' → XRel φ' x e → Q e a' w') → wpList P ops Q l a w
theorem wpList_of_op {ops : Array Oper} {Q : Exit → Act → World → Prop} {o : Oper} {l : List Oper} {a : Act} {w : World} (h : opWp P ops Q o (wpList P ops Q l) a w) : wpList P ops Q (o :: l) a w := by
  unfold opWp at h
  unfold wpList
  split at h
  · rename_i hw; rw [if_pos hw]; exact .inl h
  · rename_i hw; rw [if_neg hw]; exact h
theorem runOps_sound (hO : OpsOK P) (hOm : OpMono P) (hC : CallOK P call) (hM : CallMono call) {ops : Array Oper} : ∀ (l : List Oper) {f f' : Fr} {A A' : AS}, Inv A → A'.next ≤ A'.next →
    (runOps P call ops.toList l f A = .on f' A' → OpsSound P ops l f A .normal f' A') ∧ (∀ v, runOps P call ops.toList l f A = .up v f' A' → OpsSound P ops l f A (.panic v) f' A') := by
  intro l
  induction l with
  | nil =>
    intro f f' A A' hi hn
    constructor
    · intro h
      have h' : St.on f A = .on f' A' := h
      injection h' with h1 h2
      subst h1
      subst h2
      exact ⟨.refl hi, fun φ T w a hf hr _ _ Q hQ => hQ φ w a .normal (.refl hr rfl rfl rfl rfl rfl rfl rfl) hf .normal⟩
    · intro v h; cases h
  | cons o l ih =>
    intro f f' A A' hi hn
    have key : ∀ x, (∀ g B, step1 P call ops.toList f o A = .on g B → B.next ≤ A'.next → OpsSound P ops l g B x f' A') → (∃ g B, step1 P call ops.toList f o A = .on g B ∧ B.next ≤ A'.next) → OpsSound P ops (o :: l) f A x f' A' := by
      rintro x hx ⟨g, B, hs, hle⟩
      have s1 := step_on hO hC hM hi (Nat.le_refl _) hs
      have s2 := hx g B hs hle
      refine ⟨s1.fr.trans s2.fr, fun φ T w a hf hr hT hfr Q hQ => wpList_of_op ?_⟩
      refine s1.run φ T w a hf hr (hT.left s2.fr) (fresh_left hfr s2.fr.next) _ Q fun φ' w' a' hp hf' => ?_
      refine s2.run φ' _ w' a' hf' hp.rel (foot_right hT) (fresh_right hfr s1.fr.next hp) Q fun φ2 w2 a2 e hp2 hf2 hx2 => ?_
      exact hQ φ2 w2 a2 e (hp.trans s1.fr.next s2.fr hp2) hf2 hx2
    constructor
    · intro h
      rw [runOps_cons] at h
      cases hs : step1 P call ops.toList f o A with
      | no => rw [hs] at h; cases h
      | up u g B => rw [hs] at h; cases h
      | on g B =>
        rw [hs] at h
        have h' : runOps P call ops.toList l g B = .on f' A' := h
        have hle := runOps_mono (v := undef) hOm hM l (.inl h')
        exact key _ (fun g2 B2 hs2 _ => by
          rw [hs] at hs2
          injection hs2 with e1 e2
          subst e1
          subst e2
          exact (ih (step_on hO hC hM hi (Nat.le_refl _) hs).fr.inv hn).1 h') ⟨g, B, hs, hle⟩
    · intro v h
      rw [runOps_cons] at h
      cases hs : step1 P call ops.toList f o A with
      | no => rw [hs] at h; cases h
      | up u g B =>
        rw [hs] at h
        have h' : St.up u g B = .up v f' A' := h
        injection h' with e1 e2 e3
        subst e1
        subst e2
        subst e3
        obtain ⟨rfl, s1⟩ := step_up hO hC hM hi hn hs
        refine ⟨s1.fr, fun φ T w a hf hr hT hfr Q hQ => wpList_of_op ?_⟩
        exact s1.run φ T w a hf hr hT hfr _ Q fun φ' w' v' hp hv => hQ φ' w' a _ hp (hf.mono hp.ext) (.panic _ _ hv)
      | on g B =>
        rw [hs] at h
        have h' : runOps P call ops.toList l g B = .up v f' A' := h
        have hle := runOps_mono hOm hM l (.inr h')
        exact key _ (fun g2 B2 hs2 _ => by
          rw [hs] at hs2
          injection hs2 with e1 e2
          subst e1
          subst e2
          exact (ih (step_on hO hC hM hi (Nat.le_refl _) hs).fr.inv hn).2 v h') ⟨g, B, hs, hle⟩
end
end Go.EvL
namespace Go.EvL
open Go
def DrawOK (P : Program) (call : CallF) : Prop := ∀ (id : Nat) (ops : Array Oper) (f : Fr) (A : AS) (x : AExit) (f' : Fr) (A' : AS), Inv A → A'.next ≤ A'.next → exOf (runDraw P call ops ops.toList 0 .nil [] f A) = some (x, f', A') → CSound P (.region id ops true) f A x f' A'
def DrawMono (P : Program) (call : CallF) : Prop := ∀ (ops : Array Oper) (f : Fr) (A : AS) (x : AExit) (f' : Fr) (A' : AS), exOf (runDraw P call ops ops.toList 0 .nil [] f A) = some (x, f', A') → A.next ≤ A'.next
def BodyMono (body : Fr → AS → Ex) : Prop := ∀ (f : Fr) (A : AS) (x : AExit) (f' : Fr) (A' : AS), body f A = some (x, f', A') → A.next ≤ A'.next
section
variable {P : Program} {call : CallF}
theorem seqK_some {r : Ex} {k : Fr → AS → Ex} {x : AExit} {f' : Fr} {A' : AS} (h : seqK r k = some (x, f', A')) : (∃ g B, r = some (.normal, g, B) ∧ k g B = some (x, f', A')) ∨ (r = some (x, f', A') ∧ x ≠ .normal) := by
  unfold seqK at h
  split at h
  · rename_i g B; exact .inl ⟨g, B, rfl, h⟩
  · rename_i hne
    refine .inr ⟨h, ?_⟩
    rintro rfl
    exact hne _ _ h
theorem exOf_some {r : St} {x : AExit} {f' : Fr} {A' : AS} (h : exOf r = some (x, f', A')) : (r = .on f' A' ∧ x = .normal) ∨ ∃ v, r = .up v f' A' ∧ x = .panic v := by
  cases r with
  | no => cases h
  | on f s => have h' : some (AExit.normal, f, s) = some (x, f', A') := h; injection h' with h'; injection h' with h1 h2; injection h2 with h2 h3; subst h1; subst h2; subst h3; exact .inl ⟨rfl, rfl⟩
  | up v f s => have h' : some (AExit.panic v, f, s) = some (x, f', A') := h; injection h' with h'; injection h' with h1 h2; injection h2 with h2 h3; subst h1; subst h2; subst h3; exact .inr ⟨v, rfl, rfl⟩
theorem loopN_succ (body : Fr → AS → Ex) (n : Nat) (f : Fr) (A : AS) : loopN body (n + 1) f A = seqK (body f A) (loopN body n) := rfl
theorem loopN_mono {body : Fr → AS → Ex} (hb : BodyMono body) : ∀ n, BodyMono (loopN body n) := by
  intro n
  induction n with
  | zero => intro f A x f' A' h; cases h
  | succ n ih =>
    intro f A x f' A' h
    rw [loopN_succ] at h
    rcases seqK_some h with ⟨g, B, h1, h2⟩ | ⟨h1, _⟩
    · exact Nat.le_trans (hb _ _ _ _ _ h1) (ih _ _ _ _ _ h2)
    · exact hb _ _ _ _ _ h1
theorem blockK_some {id : Nat} {r : Ex} {x : AExit} {f' : Fr} {A' : AS} (h : blockK id r = some (x, f', A')) : (r = some (.exit id, f', A') ∧ x = .normal) ∨ (r = some (x, f', A') ∧ x ≠ .exit id) := by
  unfold blockK at h
  split at h
  · rename_i i g B
    rcases boolRec h with ⟨hb, hx⟩ | ⟨hb, hx⟩
    · obtain ⟨rfl, rfl, rfl⟩ : AExit.exit i = x ∧ g = f' ∧ B = A' := by injection hx with h; injection h with h1 h2; injection h2 with h2 h3; exact ⟨h1, h2, h3⟩
      refine .inr ⟨rfl, ?_⟩
      intro he
      injection he with he
      subst he
      rw [Nat.beq_refl] at hb
      cases hb
    · have := Nat.eq_of_beq_eq_true hb
      subst this
      obtain ⟨rfl, rfl, rfl⟩ : AExit.normal = x ∧ g = f' ∧ B = A' := by injection hx with h; injection h with h1 h2; injection h2 with h2 h3; exact ⟨h1, h2, h3⟩
      exact .inl ⟨rfl, rfl⟩
  · rename_i hne
    refine .inr ⟨h, ?_⟩
    rintro rfl
    exact hne _ _ _ h
theorem condK_some {v : Option Value} {a b : Ex} {x : AExit} {f' : Fr} {A' : AS} (h : condK v a b = some (x, f', A')) : (v = some (.bool true) ∧ a = some (x, f', A')) ∨ (v = some (.bool false) ∧ b = some (x, f', A')) := by
  unfold condK at h
  split at h
  · exact .inl ⟨rfl, h⟩
  · exact .inr ⟨rfl, h⟩
  · cases h
theorem evalCode_mono (hO : OpMono P) (hM : CallMono call) (hD : DrawMono P call) (c : Code) : BodyMono (evalCode P call c) := by
  induction c with
  | skip => intro f A x f' A' h; have h' : some (AExit.normal, f, A) = some (x, f', A') := h; injection h' with h'; injection h' with _ h2; injection h2 with _ h3; rw [h3]; exact Nat.le_refl _
  | region id ops draw =>
    intro f A x f' A' h
    cases draw with
    | false =>
      have h' : exOf (runOps P call ops.toList ops.toList f A) = some (x, f', A') := h
      rcases exOf_some h' with ⟨h1, _⟩ | ⟨v, h1, _⟩
      · exact runOps_mono (v := undef) hO hM _ (.inl h1)
      · exact runOps_mono hO hM _ (.inr h1)
    | true => exact hD ops f A x f' A' h
  | seq a b iha ihb =>
    intro f A x f' A' h
    have h' : seqK (evalCode P call a f A) (evalCode P call b) = some (x, f', A') := h
    rcases seqK_some h' with ⟨g, B, h1, h2⟩ | ⟨h1, _⟩
    · exact Nat.le_trans (iha _ _ _ _ _ h1) (ihb _ _ _ _ _ h2)
    · exact iha _ _ _ _ _ h1
  | cond o a b iha ihb =>
    intro f A x f' A' h
    have h' : condK (f.eval o) (evalCode P call a f A) (evalCode P call b f A) = some (x, f', A') := h
    rcases condK_some h' with ⟨_, h1⟩ | ⟨_, h1⟩
    · exact iha _ _ _ _ _ h1
    · exact ihb _ _ _ _ _ h1
  | block id b ih =>
    intro f A x f' A' h
    have h' : blockK id (evalCode P call b f A) = some (x, f', A') := h
    rcases blockK_some h' with ⟨h1, _⟩ | ⟨h1, _⟩
    · exact ih _ _ _ _ _ h1
    · exact ih _ _ _ _ _ h1
  | loop b ih => intro f A x f' A' h; exact loopN_mono ih loopMax f A x f' A' h
  | rangeFunc => intro f A x f' A' h; cases h
  | exit id => intro f A x f' A' h; have h' : some (AExit.exit id, f, A) = some (x, f', A') := h; injection h' with h'; injection h' with _ h2; injection h2 with _ h3; rw [h3]; exact Nat.le_refl _
  | scope => intro f A x f' A' h; cases h
  | label => intro f A x f' A' h; have h' : some (AExit.normal, f, A) = some (x, f', A') := h; injection h' with h'; injection h' with _ h2; injection h2 with _ h3; rw [h3]; exact Nat.le_refl _
  | goto => intro f A x f' A' h; cases h
  | ret => intro f A x f' A' h; have h' : some (AExit.ret, f, A) = some (x, f', A') := h; injection h' with h'; injection h' with _ h2; injection h2 with _ h3; rw [h3]; exact Nat.le_refl _
  | refuse => intro f A x f' A' h; cases h
theorem triple {α β γ : Type} {a a' : α} {b b' : β} {c c' : γ} (h : some (a, b, c) = some (a', b', c')) : a = a' ∧ b = b' ∧ c = c' := by injection h with h; injection h with h1 h2; injection h2 with h2 h3; exact ⟨h1, h2, h3⟩
theorem csound_same {c : Code} {f : Fr} {A : AS} {x : AExit} (hi : Inv A) (h : ∀ (φ : Emb) (a : Act) (w : World) (Q : Exit → Act → World → Prop), (∀ e, XRel φ x e → Q e a w) → c.wp P Q a w) : CSound P c f A x f A :=
  ⟨.refl hi, fun φ _ w a hf hr _ _ Q hQ => h φ a w Q fun e he => hQ φ w a e (.refl hr rfl rfl rfl rfl rfl rfl rfl) hf he⟩
/-- loops -/
theorem loopN_sound {c : Code} (hm : BodyMono (evalCode P call c)) (hc : ∀ (f : Fr) (A : AS) (x : AExit) (f' : Fr) (A' : AS), Inv A → A'.next ≤ A'.next → evalCode P call c f A = some (x, f', A') → CSound P c f A x f' A') :
    ∀ (n : Nat) (f : Fr) (A : AS) (x : AExit) (f' : Fr) (A' : AS), Inv A → A'.next ≤ A'.next → loopN (evalCode P call c) n f A = some (x, f', A') → AFr A A' ∧ x ≠ .normal ∧
      ∀ (φ : Emb) (T : Nat → Prop) (w : World) (a : Act), FRel φ f a → Rel P φ T A w → Foot A A' T → Fresh A A' φ → ∀ (Q : Exit → Act → World → Prop),
        (∀ φ' w' a' e, Post P φ T A A' w w' φ' → FRel φ' f' a' → XRel φ' x e → Q e a' w') → Code.rounds P c Q n a w := by
  intro n
  induction n with
  | zero => intro f A x f' A' _ _ h; cases h
  | succ n ih =>
    intro f A x f' A' hi hn h
    rw [loopN_succ] at h
    rcases seqK_some h with ⟨g, B, h1, h2⟩ | ⟨h1, hne⟩
    · have hle := loopN_mono hm n _ _ _ _ _ h2
      have s1 := hc _ _ _ _ _ hi (Nat.le_refl _) h1
      obtain ⟨f2, hx, s2⟩ := ih _ _ _ _ _ s1.fr.inv hn h2
      refine ⟨s1.fr.trans f2, hx, fun φ T w a hf hr hT hfr Q hQ => ?_⟩
      rw [rounds_succ]
      refine s1.run φ T w a hf hr (hT.left f2) (fresh_left hfr f2.next) _ fun φ' w' a' e hp hf' he => ?_
      cases he
      exact s2 φ' _ w' a' hf' hp.rel (foot_right hT) (fresh_right hfr s1.fr.next hp) Q fun φ2 w2 a2 e hp2 hf2 hx2 => hQ φ2 w2 a2 e (hp.trans s1.fr.next f2 hp2) hf2 hx2
    · have s1 := hc _ _ _ _ _ hi hn h1
      refine ⟨s1.fr, hne, fun φ T w a hf hr hT hfr Q hQ => ?_⟩
      rw [rounds_succ]
      refine s1.run φ T w a hf hr hT hfr _ fun φ' w' a' e hp hf' he => ?_
      have := hQ φ' w' a' e hp hf' he
      cases he with
      | normal => exact absurd rfl hne
      | exit id => exact this
      | ret => exact this
      | panic v v' hv => exact this
theorem evalCode_sound (hO : OpsOK P) (hOm : OpMono P) (hC : CallOK P call) (hM : CallMono call) (hD : DrawOK P call) (hDm : DrawMono P call) (c : Code) :
    ∀ (f : Fr) (A : AS) (x : AExit) (f' : Fr) (A' : AS), Inv A → A'.next ≤ A'.next → evalCode P call c f A = some (x, f', A') → CSound P c f A x f' A' := by
  induction c with
  | skip =>
    intro f A x f' A' hi hn h
    obtain ⟨rfl, rfl, rfl⟩ := triple (show some (AExit.normal, f, A) = some (x, f', A') from h)
    exact csound_same hi fun φ a w Q hQ => wp_skip (hQ _ .normal)
  | region id ops draw =>
    intro f A x f' A' hi hn h
    cases draw with
    | false =>
      have h' : exOf (runOps P call ops.toList ops.toList f A) = some (x, f', A') := h
      have hs := runOps_sound hO hOm hC hM (ops := ops) ops.toList (f := f) (f' := f') hi hn
      rcases exOf_some h' with ⟨h1, rfl⟩ | ⟨v, h1, rfl⟩
      · have s := hs.1 h1
        exact ⟨s.fr, fun φ T w a hf hr hT hfr Q hQ => wp_region_list (s.run φ T w a hf hr hT hfr Q hQ)⟩
      · have s := hs.2 v h1
        exact ⟨s.fr, fun φ T w a hf hr hT hfr Q hQ => wp_region_list (s.run φ T w a hf hr hT hfr Q hQ)⟩
    | true => exact hD id ops f A x f' A' hi hn h
  | seq a b iha ihb =>
    intro f A x f' A' hi hn h
    have h' : seqK (evalCode P call a f A) (evalCode P call b) = some (x, f', A') := h
    rcases seqK_some h' with ⟨g, B, h1, h2⟩ | ⟨h1, hne⟩
    · have hle := evalCode_mono hOm hM hDm b _ _ _ _ _ h2
      have s1 := iha _ _ _ _ _ hi (Nat.le_refl _) h1
      have s2 := ihb _ _ _ _ _ s1.fr.inv hn h2
      refine ⟨s1.fr.trans s2.fr, fun φ T w a hf hr hT hfr Q hQ => wp_seq ?_⟩
      refine s1.run φ T w a hf hr (hT.left s2.fr) (fresh_left hfr s2.fr.next) _ fun φ' w' a' e hp hf' he => ?_
      cases he
      exact s2.run φ' _ w' a' hf' hp.rel (foot_right hT) (fresh_right hfr s1.fr.next hp) Q fun φ2 w2 a2 e hp2 hf2 hx2 => hQ φ2 w2 a2 e (hp.trans s1.fr.next s2.fr hp2) hf2 hx2
    · have s1 := iha _ _ _ _ _ hi hn h1
      refine ⟨s1.fr, fun φ T w a hf hr hT hfr Q hQ => wp_seq ?_⟩
      refine s1.run φ T w a hf hr hT hfr _ fun φ' w' a' e hp hf' he => ?_
      have := hQ φ' w' a' e hp hf' he
      cases he with
      | normal => exact absurd rfl hne
      | exit id => exact this
      | ret => exact this
      | panic v v' hv => exact this
  | cond o a b iha ihb =>
    intro f A x f' A' hi hn h
    have h' : condK (f.eval o) (evalCode P call a f A) (evalCode P call b f A) = some (x, f', A') := h
    rcases condK_some h' with ⟨hv, h1⟩ | ⟨hv, h1⟩
    · have s1 := iha _ _ _ _ _ hi hn h1
      refine ⟨s1.fr, fun φ T w a hf hr hT hfr Q hQ => ?_⟩
      have ho := hf.eval hv
      generalize hq : a.eval o = q at ho
      cases ho
      exact wp_cond_true hq (s1.run φ T w a hf hr hT hfr Q hQ)
    · have s1 := ihb _ _ _ _ _ hi hn h1
      refine ⟨s1.fr, fun φ T w a hf hr hT hfr Q hQ => ?_⟩
      have ho := hf.eval hv
      generalize hq : a.eval o = q at ho
      cases ho
      exact wp_cond_false hq (s1.run φ T w a hf hr hT hfr Q hQ)
  | block id b ih =>
    intro f A x f' A' hi hn h
    have h' : blockK id (evalCode P call b f A) = some (x, f', A') := h
    rcases blockK_some h' with ⟨h1, rfl⟩ | ⟨h1, hne⟩
    · have s1 := ih _ _ _ _ _ hi hn h1
      refine ⟨s1.fr, fun φ T w a hf hr hT hfr Q hQ => wp_block ?_⟩
      refine s1.run φ T w a hf hr hT hfr _ fun φ' w' a' e hp hf' he => ?_
      cases he
      show (if id = id then Q .normal a' w' else _)
      rw [if_pos rfl]
      exact hQ φ' w' a' _ hp hf' .normal
    · have s1 := ih _ _ _ _ _ hi hn h1
      refine ⟨s1.fr, fun φ T w a hf hr hT hfr Q hQ => wp_block ?_⟩
      refine s1.run φ T w a hf hr hT hfr _ fun φ' w' a' e hp hf' he => ?_
      have := hQ φ' w' a' e hp hf' he
      cases he with
      | normal => exact this
      | exit i =>
        show (if i = id then _ else Q (.exit i) a' w')
        rw [if_neg (by rintro rfl; exact hne rfl)]
        exact this
      | ret => exact this
      | panic v v' hv => exact this
  | loop b ih =>
    intro f A x f' A' hi hn h
    obtain ⟨h1, hx, h2⟩ := loopN_sound (evalCode_mono hOm hM hDm b) ih loopMax f A x f' A' hi hn h
    exact ⟨h1, fun φ T w a hf hr hT hfr Q hQ => wp_loop_rounds loopMax (h2 φ T w a hf hr hT hfr Q hQ)⟩
  | rangeFunc => intro f A x f' A' _ _ h; cases h
  | exit id =>
    intro f A x f' A' hi hn h
    obtain ⟨rfl, rfl, rfl⟩ := triple (show some (AExit.exit id, f, A) = some (x, f', A') from h)
    exact csound_same hi fun φ a w Q hQ => wp_exit (hQ _ (.exit id))
  | scope => intro f A x f' A' _ _ h; cases h
  | label l =>
    intro f A x f' A' hi hn h
    obtain ⟨rfl, rfl, rfl⟩ := triple (show some (AExit.normal, f, A) = some (x, f', A') from h)
    exact csound_same hi fun φ a w Q hQ => wp_label (hQ _ .normal)
  | goto => intro f A x f' A' _ _ h; cases h
  | ret =>
    intro f A x f' A' hi hn h
    obtain ⟨rfl, rfl, rfl⟩ := triple (show some (AExit.ret, f, A) = some (x, f', A') from h)
    exact csound_same hi fun φ a w Q hQ => wp_ret (hQ _ .ret)
  | refuse => intro f A x f' A' _ _ h; cases h
end
end Go.EvL
namespace Go.EvL
open Go
section
variable {P : Program} {call : CallF}
theorem setAll_cons (v : Value) (l : List Value) (i : Nat) (t : Tr Value) : setAll (v :: l) i t = setAll l (i + 1) (Tr.set v 40 t i) := by
  show forceT (Tr.set v 40 t i) (fun t => setAll l (Nat.add i 1) t) = _
  rw [forceT_eq]
theorem setAll_get : ∀ (l : List Value) (i : Nat) (t : Tr Value), i + l.length ≤ 2000000 → ∀ x, (setAll l i t).get x = if i ≤ x ∧ x < i + l.length then l[x - i]? else t.get x := by
  intro l
  induction l with
  | nil => intro i t _ x; rw [if_neg (by simp)]; rfl
  | cons v l ih =>
    intro i t h x
    simp only [List.length_cons] at h ⊢
    have hf : Fits i := trivial
    rw [setAll_cons, ih _ _ (by omega), Tr.get_set _ _ _ _ hf]
    by_cases h1 : i + 1 ≤ x ∧ x < i + 1 + l.length
    · rw [if_pos h1, if_pos (by omega), show x - i = (x - (i + 1)) + 1 by omega, List.getElem?_cons_succ]
    · rw [if_neg h1]
      by_cases h2 : x = i
      · subst h2; rw [if_pos rfl, if_pos (by omega)]; simp
      · rw [if_neg h2, if_neg (by omega)]
theorem init_rel {φ : Emb} {fn : Func} {args args' : Array Value} (h : VRels φ args.toList args'.toList) (h1 : fn.ntmps ≤ 1000000) (h2 : args.toList.length ≤ fn.ntmps) : FRel φ (initFr fn args) { tmps := args' ++ Array.replicate (fn.ntmps - args'.size) undef, defers := [] } := by
  have hl := h.length
  simp only [Array.length_toList] at hl h2
  refine ⟨?_, h1, fun t => ?_, .nil⟩
  · show (args' ++ Array.replicate (fn.ntmps - args'.size) undef).size = fn.ntmps
    rw [Array.size_append, Array.size_replicate]; omega
  · show VRel φ (((setAll args.toList 0 .nil).get t).getD undef) ((args' ++ Array.replicate (fn.ntmps - args'.size) undef).getD t undef)
    rw [setAll_get _ _ _ (by simp; omega), Array.getD_eq_getD_getElem?, Array.getElem?_append]
    by_cases ht : t < args'.size
    · rw [if_pos (by simp; omega), if_pos ht, Nat.sub_zero]
      have hlt : t < args.toList.length := by simp; omega
      obtain ⟨v', e1, e2⟩ := VRels.get t h (List.getElem?_eq_getElem hlt)
      rw [List.getElem?_eq_getElem hlt, show args'[t]? = some v' by simpa using e1]
      exact e2
    · rw [if_neg (by simp; omega), if_neg ht, Tr.get_nil]
      have : (Array.replicate (fn.ntmps - args'.size) undef)[t - args'.size]?.getD undef = undef := by
        rw [Array.getElem?_replicate]; split <;> rfl
      rw [this]
      exact undef_rel φ
/-- one result variable -/
def resG (tmps : Array Value) : ResultVar → Sem Value
  | .tmp t => pure (tmps.getD t undef)
  | .cell a t => do loadVar t (← asAddr (tmps.getD a undef))
def resV : List Value → Value
  | [v] => v
  | vs => .tuple vs.toArray
theorem results_eq (fn : Func) (tmps : Array Value) : results fn tmps = (fn.results.mapM (resG tmps) >>= fun vs => pure (if h : vs.size = 1 then vs[0] else .tuple vs)) := by
  unfold results
  congr 1
theorem results_run {fn : Func} {tmps : Array Value} {vs : List Value} {w : World} (h : (fn.results.toList.mapM (resG tmps)).run P w = .ok vs w) : (results fn tmps).run P w = .ok (resV vs) w := by
  rw [results_eq, Sem.run_bind, Array.mapM_eq_mapM_toList, map_eq_pure_bind, Sem.run_bind, h]
  simp only [Result.andThen, Sem.run_pure]
  cases vs with
  | nil => rfl
  | cons v vs => cases vs <;> rfl
theorem loadA_run {t : TypeId} {pv v : Value} {A A' : AS} (hi : Inv A) (h : loadA P t (some pv) A = some (.val v, A')) : AFr A A' ∧ ∀ (φ : Emb) (T : Nat → Prop) (w : World) (pv' : Value), VRel φ pv pv' → Rel P φ T A w → Foot A A' T →
    ∃ v', VRel φ v v' ∧ (do loadVar t (← asAddr pv') : Sem Value).run P w = .ok v' w ∧ Post P φ T A A' w w φ := by
  unfold loadA at h
  split at h
  · rename_i b off hx
    injection hx with hx
    subst hx
    split at h
    · rename_i dd hd
      unfold loadIn at h
      rcases boolRec h with ⟨ha, h1⟩ | ⟨ha, h1⟩
      · unfold oneOf at h1
        split at h1
        · rename_i u s1 hl
          injection h1 with h1
          injection h1 with h2 h3
          injection h2 with h2
          subst h2
          subst h3
          refine ⟨ld_fr hi hl, fun φ T w pv' hp hr hT => ?_⟩
          cases hp with
          | ptr _ _ i hφ =>
            obtain ⟨xs', g1, g2, g3⟩ := ld_run hi hl hr hT hφ
            cases g1 with
            | cons _ v' _ l' hv hs =>
              have hc := g2 0 v' rfl
              rw [add_addr, Nat.add_zero] at hc
              refine ⟨v', hv, ?_, g3⟩
              simp only [asAddr, loadVar, Sem.run_bind, Sem.run_pure, Result.andThen, run_agg hd, ha]
              simp [run_load, hc]
        · cases h1
      · split at h1
        · rename_i n hsz
          unfold aggOf at h1
          split at h1
          · rename_i xs s1 hl
            injection h1 with h1
            injection h1 with h2 h3
            injection h2 with h2
            subst h2
            subst h3
            refine ⟨ld_fr hi hl, fun φ T w pv' hp hr hT => ?_⟩
            cases hp with
            | ptr _ _ i hφ =>
              obtain ⟨xs', g1, g2, g3⟩ := ld_run hi hl hr hT hφ
              have hlen : xs'.length = n := by
                obtain ⟨_, _, _, _, _, _, hl', _⟩ := ld_spec hl
                rw [← g1.length, hl']
              refine ⟨.agg xs'.toArray, .agg _ _ g1, ?_, g3⟩
              simp only [asAddr, loadVar, Sem.run_bind, Sem.run_pure, Result.andThen, run_agg hd, ha]
              have := run_loadCells_list (P := P) w ⟨i.blk, i.sh + off, none⟩ xs' g2
              rw [hlen] at this
              simp [this, Sem.run_bind, Result.andThen, run_size hsz]
          · cases h1
        · cases h1
    · cases h
  · cases h
theorem resultsA_cons (f : Fr) (rv : ResultVar) (l : List ResultVar) (A : AS) : resultsA P f (rv :: l) A = (match rv with
      | .tmp t => (match resultsA P f l A with
        | some (vs, s) => some ((f.tmps.get t).getD undef :: vs, s)
        | none => none)
      | .cell a t => (match resCell P (f.tmps.get a) t A with
        | some (v, s) => (match resultsA P f l s with
          | some (vs, s) => some (v :: vs, s)
          | none => none)
        | none => none)) := rfl
theorem resultsA_run (f : Fr) : ∀ (l : List ResultVar) {A A' : AS} {vs : List Value}, Inv A → resultsA P f l A = some (vs, A') → AFr A A' ∧ ∀ (φ : Emb) (T : Nat → Prop) (w : World) (a : Act), FRel φ f a → Rel P φ T A w → Foot A A' T →
    ∃ vs', VRels φ vs vs' ∧ (l.mapM (resG a.tmps)).run P w = .ok vs' w ∧ Post P φ T A A' w w φ := by
  intro l
  induction l with
  | nil =>
    intro A A' vs hi h
    have h' : some (([] : List Value), A) = some (vs, A') := h
    injection h' with h'
    injection h' with h1 h2
    subst h1
    subst h2
    exact ⟨.refl hi, fun φ T w a _ hr _ => ⟨[], .nil, rfl, .refl hr rfl rfl rfl rfl rfl rfl rfl⟩⟩
  | cons rv l ih =>
    intro A A' vs hi h
    rw [resultsA_cons] at h
    cases rv with
    | tmp t =>
      simp only at h
      split at h
      · rename_i us s hs
        injection h with h
        injection h with h1 h2
        subst h1
        subst h2
        obtain ⟨f1, r1⟩ := ih hi hs
        refine ⟨f1, fun φ T w a hf hr hT => ?_⟩
        obtain ⟨vs', g1, g2, g3⟩ := r1 φ T w a hf hr hT
        refine ⟨a.tmps.getD t undef :: vs', .cons _ _ _ _ (hf.tmps t) g1, ?_, g3⟩
        rw [List.mapM_cons, Sem.run_bind]
        simp only [resG, Sem.run_pure, Result.andThen, Sem.run_bind, g2]
      · cases h
    | cell b t =>
      simp only at h
      split at h
      · rename_i v s hc
        split at h
        · rename_i us s2 hs
          injection h with h
          injection h with h1 h2
          subst h1
          subst h2
          unfold resCell at hc
          split at hc
          · rename_i u s1 hl
            injection hc with hc
            injection hc with h3 h4
            subst h3
            subst h4
            cases hb : f.tmps.get b with
            | none => rw [hb] at hl; cases hl
            | some pv =>
              rw [hb] at hl
              obtain ⟨f1, r1⟩ := loadA_run hi hl
              obtain ⟨f2, r2⟩ := ih f1.inv hs
              refine ⟨f1.trans f2, fun φ T w a hf hr hT => ?_⟩
              have hp := hf.tmps b
              rw [hb] at hp
              obtain ⟨v', g1, g2, g3⟩ := r1 φ T w _ hp hr (hT.left f2)
              obtain ⟨vs', k1, k2, k3⟩ := r2 φ _ w a hf g3.rel (foot_right hT)
              refine ⟨v' :: vs', .cons _ _ _ _ g1 k1, ?_, g3.trans f1.next f2 k3⟩
              have e : (resG a.tmps (.cell b t)).run P w = .ok v' w := g2
              rw [List.mapM_cons, Sem.run_bind, e]
              simp only [Result.andThen, Sem.run_bind, k2, Sem.run_pure]
          · cases hc
        · cases h
      · cases h
theorem finish_run {fn : Func} {f : Fr} {A A' : AS} {r : AEnd} (hi : Inv A) (h : finish P fn f A = some (r, A')) : AFr A A' ∧ ∀ (φ : Emb) (T : Nat → Prop) (w : World) (a : Act), FRel φ f a → Rel P φ T A w → Foot A A' T →
    ∃ v', EndRel φ r (.returned v') ∧ (results fn a.tmps).run P w = .ok v' w ∧ Post P φ T A A' w w φ := by
  have key : ∃ vs, resultsA P f fn.results.toList A = some (vs, A') ∧ r = .ret (resV vs) := by
    unfold finish at h
    split at h
    · rename_i v s hs
      injection h with h
      injection h with h1 h2
      subst h1
      subst h2
      exact ⟨_, hs, rfl⟩
    · rename_i vs s hne hs
      injection h with h
      injection h with h1 h2
      subst h1
      subst h2
      refine ⟨_, hs, ?_⟩
      cases vs with
      | nil => rfl
      | cons v vs => cases vs with
        | nil => exact (hne _ rfl).elim
        | cons u us => rfl
    · cases h
  obtain ⟨vs, hs, rfl⟩ := key
  obtain ⟨f1, r1⟩ := resultsA_run f _ hi hs
  refine ⟨f1, fun φ T w a hf hr hT => ?_⟩
  obtain ⟨vs', g1, g2, g3⟩ := r1 φ T w a hf hr hT
  refine ⟨resV vs', .ret _ _ ?_, results_run g2, g3⟩
  cases g1 with
  | nil => exact .tuple _ _ .nil
  | cons v v' l l' hv hs2 =>
    cases hs2 with
    | nil => exact hv
    | cons u u' m m' hu hm => exact .tuple _ _ (.cons _ _ _ _ hv (.cons _ _ _ _ hu hm))
end
end Go.EvL
namespace Go.EvL
open Go
inductive URel (φ : Emb) : Option Value → FrameMode → Prop
  | ret : URel φ none .returning
  | panic (v v' : Value) (h : VRel φ v v') : URel φ (some v) (.panicking [{ v := v', recovered := false }])
theorem URel.mono {φ φ' : Emb} (he : Ext φ φ') {u : Option Value} {m : FrameMode} (h : URel φ u m) : URel φ' u m := by
  cases h with
  | ret => exact .ret
  | panic v v' h => exact .panic v v' (h.mono he)
def DeferOK (P : Program) (call : CallF) : Prop := ∀ (d : Deferred) (A : AS) (u : Option Value) (A' : AS) (u' : Option Value), Inv A → A'.next ≤ A'.next → evalDeferred P call d A u = some (A', u') → AFr A A' ∧
  ∀ (φ : Emb) (T : Nat → Prop) (w : World) (d' : Deferred) (m : FrameMode), DRel φ d d' → URel φ u m → Rel P φ T A w → Foot A A' T → Fresh A A' φ →
    ∃ fv cap g args, d'.target = .fn fv cap ∧ (invoke d'.target d'.args).run P w = .ok (.enter g args) w ∧ CallsD P g args m w fun e m' w' => ∃ v φ', e = .returned v ∧ Post P φ T A A' w w' φ' ∧ URel φ' u' (settle m')
def DeferMono (P : Program) (call : CallF) : Prop := ∀ (d : Deferred) (A : AS) (u : Option Value) (A' : AS) (u' : Option Value), evalDeferred P call d A u = some (A', u') → A.next ≤ A'.next
section
variable {P : Program} {call : CallF}
theorem ld_next {A A' : AS} {b off n : Nat} {xs : List Value} (h : ld A b off n = some (xs, A')) : A'.next = A.next := by
  obtain ⟨_, _, _, _, _, _, _, rfl⟩ := ld_spec h
  rw [logR_eq]
theorem resCell_next {a : Option Value} {t : TypeId} {A A' : AS} {v : Value} (h : resCell P a t A = some (v, A')) : A'.next = A.next := by
  unfold resCell at h
  split at h
  · rename_i u s hl
    injection h with h
    injection h with h1 h2
    subst h2
    unfold loadA at hl
    split at hl
    · split at hl
      · unfold loadIn at hl
        rcases boolRec hl with ⟨_, h1⟩ | ⟨_, h1⟩
        · unfold oneOf at h1
          split at h1
          · rename_i hld
            injection h1 with h1
            injection h1 with _ h3
            subst h3
            exact ld_next hld
          · cases h1
        · split at h1
          · unfold aggOf at h1
            split at h1
            · rename_i hld
              injection h1 with h1
              injection h1 with _ h3
              subst h3
              exact ld_next hld
            · cases h1
          · cases h1
      · cases hl
    · cases hl
  · cases h
theorem resultsA_next (f : Fr) : ∀ (l : List ResultVar) {A A' : AS} {vs : List Value}, resultsA P f l A = some (vs, A') → A'.next = A.next := by
  intro l
  induction l with
  | nil => intro A A' vs h; have h' : some (([] : List Value), A) = some (vs, A') := h; injection h' with h'; injection h' with _ h2; rw [h2]
  | cons rv l ih =>
    intro A A' vs h
    rw [resultsA_cons] at h
    cases rv with
    | tmp t =>
      simp only at h
      split at h
      · rename_i us s hs
        injection h with h
        injection h with _ h2
        subst h2
        exact ih hs
      · cases h
    | cell b t =>
      simp only at h
      split at h
      · rename_i v s hc
        split at h
        · rename_i us s2 hs
          injection h with h
          injection h with _ h2
          subst h2
          rw [ih hs, resCell_next hc]
        · cases h
      · cases h
theorem finish_next {fn : Func} {f : Fr} {A A' : AS} {r : AEnd} (h : finish P fn f A = some (r, A')) : A'.next = A.next := by
  unfold finish at h
  split at h
  · rename_i hs
    injection h with h
    injection h with _ h2
    subst h2
    exact resultsA_next f _ hs
  · rename_i hs
    injection h with h
    injection h with _ h2
    subst h2
    exact resultsA_next f _ hs
  · cases h
theorem leave_cons {fn : Func} {f : Fr} (d : Deferred) (ds : List Deferred) (A : AS) (u : Option Value) : leave P call fn f (d :: ds) A u = (match evalDeferred P call d A u with
    | some (s, u') => leave P call fn f ds s u'
    | none => none) := rfl
theorem leave_mono (hD : DeferMono P call) {fn : Func} {f : Fr} : ∀ (ds : List Deferred) {A A' : AS} {u : Option Value} {r : AEnd}, leave P call fn f ds A u = some (r, A') → A.next ≤ A'.next := by
  intro ds
  induction ds with
  | nil =>
    intro A A' u r h
    have h' : leaveNil P fn f A u = some (r, A') := h
    unfold leaveNil at h'
    split at h'
    · rw [finish_next h']; exact Nat.le_refl _
    · injection h' with h'; injection h' with _ h2; rw [h2]; exact Nat.le_refl _
  | cons d ds ih =>
    intro A A' u r h
    rw [leave_cons] at h
    split at h
    · rename_i s u' hd
      exact Nat.le_trans (hD _ _ _ _ _ hd) (ih h)
    · cases h
theorem leave_sound (hD : DeferOK P call) (hDm : DeferMono P call) {fn : Func} {f : Fr} : ∀ (ds : List Deferred) {A A' : AS} {u : Option Value} {r : AEnd}, Inv A → A'.next ≤ A'.next → leave P call fn f ds A u = some (r, A') → AFr A A' ∧
    ∀ (φ : Emb) (T : Nat → Prop) (w : World) (a : Act) (ds' : List Deferred) (m : FrameMode), FRel φ f a → DRels φ ds ds' → URel φ u m → Rel P φ T A w → Foot A A' T → Fresh A A' φ →
      ∀ (R : Ending → World → Prop), (∀ φ' w' e, Post P φ T A A' w w' φ' → EndRel φ' r e → R e w') → Leaves P fn a.tmps R ds' m w := by
  intro ds
  induction ds with
  | nil =>
    intro A A' u r hi hn h
    have h' : leaveNil P fn f A u = some (r, A') := h
    unfold leaveNil at h'
    split at h'
    · obtain ⟨f1, r1⟩ := finish_run hi h'
      refine ⟨f1, fun φ T w a ds' m hf hd hu hr hT _ R hR => ?_⟩
      cases hd
      cases hu
      obtain ⟨v', g1, g2, g3⟩ := r1 φ T w a hf hr hT
      exact ⟨v', g2, hR φ w _ g3 g1⟩
    · injection h' with h'
      injection h' with h1 h2
      subst h1
      subst h2
      refine ⟨.refl hi, fun φ T w a ds' m hf hd hu hr hT _ R hR => ?_⟩
      cases hd
      cases hu with
      | panic _ v' hv => exact hR φ w _ (.refl hr rfl rfl rfl rfl rfl rfl rfl) (.panic _ _ hv)
  | cons d ds ih =>
    intro A A' u r hi hn h
    rw [leave_cons] at h
    split at h
    · rename_i B u' hd
      have hle := leave_mono hDm ds h
      obtain ⟨f1, r1⟩ := hD _ _ _ _ _ hi (Nat.le_refl _) hd
      obtain ⟨f2, r2⟩ := ih f1.inv hn h
      refine ⟨f1.trans f2, fun φ T w a ds' m hf hds hu hr hT hfr R hR => ?_⟩
      cases hds with
      | cons _ d' _ ds'' hdd hdl =>
        have hm : m ≠ .run := by cases hu <;> simp
        obtain ⟨fv, cap, g, args, e1, e2, e3⟩ := r1 φ T w d' m hdd hu hr (hT.left f2) (fresh_left hfr f2.next)
        refine ⟨hm, fv, cap, g, args, e1, e2, e3.mono ?_⟩
        rintro e m' w' ⟨v, φ', rfl, hp, hu'⟩
        exact r2 φ' _ w' a ds'' (settle m') (hf.mono hp.ext) (hdl.mono hp.ext) hu' hp.rel (foot_right hT) (fresh_right hfr f1.next hp) R fun φ2 w2 e hp2 he => hR φ2 w2 e (hp.trans f1.next f2 hp2) he
    · cases h
def Parts (P : Program) : Prop := ∀ call, CallOK P call → CallMono call → DrawOK P call ∧ DrawMono P call ∧ DeferOK P call ∧ DeferMono P call
theorem endBody_some {fn : Func} {r : Ex} {q : AEnd} {A' : AS} (h : endBody P call fn r = some (q, A')) : ∃ x f B, r = some (x, f, B) ∧ ((x = .normal ∨ x = .ret) ∧ leave P call fn f f.defers B none = some (q, A') ∨ ∃ v, x = .panic v ∧ leave P call fn f f.defers B (some v) = some (q, A')) := by
  unfold endBody at h
  split at h
  · exact ⟨_, _, _, rfl, .inl ⟨.inl rfl, h⟩⟩
  · exact ⟨_, _, _, rfl, .inl ⟨.inr rfl, h⟩⟩
  · exact ⟨_, _, _, rfl, .inr ⟨_, rfl, h⟩⟩
  · cases h
theorem enter_sound (hP : Parts P) (hO : OpsOK P) (hOm : OpMono P) (hC : CallOK P call) (hM : CallMono call) {g : FuncId} {fn : Func} (hfn : P.funcs[g]? = some fn) {args : Array Value} {A A' : AS} {r : AEnd} (h : enterA P call fn args A = some (r, A')) :
    A.next ≤ A'.next ∧ (Inv A → A'.next ≤ A'.next → CallSound P g args A r A') := by
  obtain ⟨hD, hDm, hF, hFm⟩ := hP call hC hM
  unfold enterA at h
  split at h
  · rename_i c hc
    obtain ⟨hb, h⟩ := boolSome h
    simp only [Bool.and_eq_true] at hb
    have b1 := Nat.le_of_ble_eq_true hb.1
    have b2 := Nat.le_of_ble_eq_true hb.2
    obtain ⟨x, f, B, h1, h2⟩ := endBody_some h
    have m1 := evalCode_mono hOm hM hDm c _ _ _ _ _ h1
    have m2 : B.next ≤ A'.next := by
      rcases h2 with ⟨_, h2⟩ | ⟨v, _, h2⟩
      · exact leave_mono hFm _ h2
      · exact leave_mono hFm _ h2
    refine ⟨Nat.le_trans m1 m2, fun hi hn => ?_⟩
    have s1 := evalCode_sound hO hOm hC hM hD hDm c _ _ _ _ _ hi (Nat.le_refl _) h1
    rcases h2 with ⟨hx, h2⟩ | ⟨v, rfl, h2⟩
    · obtain ⟨f2, r2⟩ := leave_sound hF hFm _ s1.fr.inv hn h2
      refine ⟨s1.fr.trans f2, fun φ T w args' hargs hr hT hfr => calls_of_wp_defers hfn hc ?_⟩
      refine s1.run φ T w _ (init_rel hargs b1 b2) hr (hT.left f2) (fresh_left hfr f2.next) _ fun φ' w' a' e hp hf' he => ?_
      have key := r2 φ' _ w' a' a'.defers .returning hf' hf'.defers .ret hp.rel (foot_right hT) (fresh_right hfr s1.fr.next hp) (fun e w' => ∃ φ', Post P φ T A A' w w' φ' ∧ EndRel φ' r e) fun φ2 w2 e hp2 he => ⟨φ2, hp.trans s1.fr.next f2 hp2, he⟩
      rcases hx with rfl | rfl
      · cases he; exact key
      · cases he; exact key
    · obtain ⟨f2, r2⟩ := leave_sound hF hFm _ s1.fr.inv hn h2
      refine ⟨s1.fr.trans f2, fun φ T w args' hargs hr hT hfr => calls_of_wp_defers hfn hc ?_⟩
      refine s1.run φ T w _ (init_rel hargs b1 b2) hr (hT.left f2) (fresh_left hfr f2.next) _ fun φ' w' a' e hp hf' he => ?_
      cases he with
      | panic _ v' hv =>
        exact r2 φ' _ w' a' a'.defers _ hf' hf'.defers (.panic _ _ hv) hp.rel (foot_right hT) (fresh_right hfr s1.fr.next hp) (fun e w' => ∃ φ', Post P φ T A A' w w' φ' ∧ EndRel φ' r e) fun φ2 w2 e hp2 he => ⟨φ2, hp.trans s1.fr.next f2 hp2, he⟩
  · cases h
def OrcOK (P : Program) (orc : Orc) : Prop := ∀ (g : FuncId) (args : Array Value) (A : AS) (r : AEnd) (A' : AS), orcCall orc g args A = some (some (r, A')) → A.next ≤ A'.next ∧ (Inv A → A'.next ≤ A'.next → CallSound P g args A r A')
theorem evalCall_sound (hP : Parts P) (hO : OpsOK P) (hOm : OpMono P) {orc : Orc} (hQ : OrcOK P orc) : ∀ n, CallOK P (evalCall P orc n) ∧ CallMono (evalCall P orc n) := by
  intro n
  induction n with
  | zero => exact ⟨fun g args A r A' _ _ h => (by cases h), fun g args A r A' h => (by cases h)⟩
  | succ n ih =>
    have key : ∀ g args A r A', evalCall P orc (n + 1) g args A = some (r, A') → A.next ≤ A'.next ∧ (Inv A → A'.next ≤ A'.next → CallSound P g args A r A') := by
      intro g args A r A' h
      have h' : (match orcCall orc g args A with | some r => r | none => plainCall P (evalCall P orc n) g args A) = some (r, A') := h
      split at h'
      · rename_i q hq
        subst h'
        exact hQ g args A r A' hq
      · unfold plainCall at h'
        split at h'
        · cases h'
        · rename_i fn hfn
          exact enter_sound hP hO hOm ih.1 ih.2 hfn h'
    exact ⟨fun g args A r A' hi hn h => (key g args A r A' h).2 hi hn, fun g args A r A' h => (key g args A r A' h).1⟩
end
end Go.EvL
