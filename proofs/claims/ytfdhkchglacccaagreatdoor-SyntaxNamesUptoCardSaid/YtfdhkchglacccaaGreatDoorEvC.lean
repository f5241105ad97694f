/- The evaluator: code and calls are sound. No statement is proved here. -/
import Derived.Test.YtfdhkchglacccaaGreatDoorEvB
import Derived.LoopN
import Derived.Recover
namespace Go.EvL
open Go
def opWp (P : Program) (ops : Array Oper) (Q : Exit → Act → World → Prop) (o : Oper) (K : Act → World → Prop) (a : Act) (w : World) : Prop :=
  if Region.wanted o (yielded ops a.tmps) = true then o.wp P a w K Q else K (a.put o.dst undef) w
def OpsOK (P : Program) : Prop := ∀ (f : Fr) (o : Oper) (A : AS) (nx : ANext) (A' : AS), Inv A → A'.next ≤ A'.next → evalOp P f o A = some (nx, A') → Sound P f A o nx A'
inductive EndRel (φ : Emb) : AEnd → Ending → Prop
  | ret (v v' : Value) (h : VRel φ v v') : EndRel φ (.ret v) (.returned v')
  | panic (v v' : Value) (h : VRel φ v v') : EndRel φ (.panic v) (.panicked [{ v := v', recovered := false }])
structure CallSound (P : Program) (g : FuncId) (args : Array Value) (A : AS) (r : AEnd) (A' : AS) : Prop where
  fr : AFr A A'
  run : ∀ (φ : Emb) (T : Nat → Prop) (w : World) (args' : Array Value), VRels φ args.toList args'.toList → Rel P φ T A w → Foot A A' T → Fresh A A' φ →
    Calls P g args' w fun e w' => ∃ φ', Post P φ T A A' w w' φ' ∧ EndRel φ' r e
def CallOK (P : Program) (call : CallF) : Prop := ∀ (g : FuncId) (args : Array Value) (A : AS) (r : AEnd) (A' : AS), Inv A → A'.next ≤ A'.next → call g args A = some (r, A') → CallSound P g args A r A'
def CallMono (call : CallF) : Prop := ∀ (g : FuncId) (args : Array Value) (A : AS) (r : AEnd) (A' : AS), call g args A = some (r, A') → A.next ≤ A'.next
theorem put_ok {f f' : Fr} {d : Option Tmp} {v : Value} (h : f.put d v = some f') : (d = none ∧ f' = f) ∨ ∃ t, d = some t ∧ t < f.n ∧ f' = ⟨Tr.set v 40 f.tmps t, f.n, f.defers⟩ := by
  cases d with
  | none => have h' : some f = some f' := h; injection h' with h'; exact .inl ⟨rfl, h'.symm⟩
  | some t =>
    obtain ⟨tm, n, ds⟩ := f
    have h' : (Bool.rec none (forceT (Tr.set v 40 tm t) fun t => some (⟨t, n, ds⟩ : Fr)) (Nat.ble (Nat.succ t) n) : Option Fr) = some f' := h
    obtain ⟨h1, h2⟩ := boolSome h'
    rw [forceT_eq] at h2
    injection h2 with h2
    exact .inr ⟨t, rfl, Nat.le_of_ble_eq_true h1, h2.symm⟩
theorem FRel.put {φ : Emb} {f f' : Fr} {a : Act} {d : Option Tmp} {v v' : Value} (hf : FRel φ f a) (h : f.put d v = some f') (hv : VRel φ v v') : FRel φ f' (a.put d v') := by
  rcases put_ok h with ⟨rfl, rfl⟩ | ⟨t, rfl, ht, rfl⟩
  · exact hf
  · have hfit : Fits t := trivial
    refine ⟨by simp [Act.put, hf.size], hf.few, fun x => ?_, hf.defers⟩
    show VRel φ (((Tr.set v 40 f.tmps t).get x).getD undef) ((a.tmps.setIfInBounds t v').getD x undef)
    rw [Tr.get_set _ _ _ _ hfit]
    have hsz := hf.size
    by_cases hx : x = t
    · subst hx
      rw [if_pos rfl]
      rw [show (a.tmps.setIfInBounds x v').getD x undef = v' by simp [Array.getD_eq_getD_getElem?, hsz, ht]]
      exact hv
    · rw [if_neg hx]
      rw [show (a.tmps.setIfInBounds t v').getD x undef = a.tmps.getD x undef by
        simp only [Array.getD_eq_getD_getElem?, Array.getElem?_setIfInBounds]
        rw [if_neg (fun e => hx e.symm)]]
      exact hf.tmps x
theorem wanted_ok {φ : Emb} {f : Fr} {a : Act} (hf : FRel φ f a) {ops : Array Oper} {o : Oper} {b : Bool} (h : wantedA ops.toList f o.guard = some b) : Region.wanted o (yielded ops a.tmps) = b := by
  unfold Region.wanted
  cases hg : o.guard with
  | none => rw [hg] at h; have h' : some true = some b := h; cases h'; rfl
  | some p =>
    obtain ⟨j, want⟩ := p
    rw [hg] at h
    have h' : guardA ops.toList f j want = some b := h
    unfold guardA at h'
    split at h'
    · rename_i dd hd
      have hd' : (ops[j]?).bind (·.dst) = some dd := by simpa using hd
      have ht := hf.tmps dd
      unfold sameB at h'
      split at h'
      · rename_i bb hb
        injection h' with h'
        rw [hb] at ht
        generalize hq : a.tmps.getD dd undef = q at ht
        cases ht
        have hy : yielded ops a.tmps j = some bb := by
          unfold yielded
          rw [hd']
          have : a.tmps[dd]? = some (.bool bb) := by
            rw [Array.getD_eq_getD_getElem?] at hq
            cases hz : a.tmps[dd]? with
            | none => rw [hz] at hq; cases hq
            | some z => rw [hz] at hq; exact congrArg some hq
          rw [Option.bind_some, this]
        simp only [hy]
        rw [← h']
        cases bb <;> cases want <;> rfl
      · rename_i vs hb
        injection h' with h'
        rw [hb] at ht
        generalize hq : a.tmps.getD dd undef = q at ht
        cases ht with
        | tuple _ vs' hvs =>
          have hy : yielded ops a.tmps j = none := by
            unfold yielded
            rw [hd', Option.bind_some]
            cases hz : a.tmps[dd]? with
            | none => rfl
            | some z =>
              have : z = .tuple vs' := by rw [Array.getD_eq_getD_getElem?, hz] at hq; exact hq
              rw [this]
          simp only [hy]
          rw [← h']
          cases want <;> rfl
      · cases h'
    · cases h'
section
variable {P : Program} {call : CallF} {ops : Array Oper} {f f' : Fr} {o : Oper} {A A' : AS}
structure StepOn (P : Program) (ops : Array Oper) (o : Oper) (f : Fr) (A : AS) (f' : Fr) (A' : AS) : Prop where
  fr : AFr A A'
  run : ∀ (φ : Emb) (T : Nat → Prop) (w : World) (a : Act), FRel φ f a → Rel P φ T A w → Foot A A' T → Fresh A A' φ → ∀ (K : Act → World → Prop) (Q : Exit → Act → World → Prop),
    (∀ φ' w' a', Post P φ T A A' w w' φ' → FRel φ' f' a' → K a' w') → opWp P ops Q o K a w
structure StepUp (P : Program) (ops : Array Oper) (o : Oper) (f : Fr) (A : AS) (v : Value) (A' : AS) : Prop where
  fr : AFr A A'
  run : ∀ (φ : Emb) (T : Nat → Prop) (w : World) (a : Act), FRel φ f a → Rel P φ T A w → Foot A A' T → Fresh A A' φ → ∀ (K : Act → World → Prop) (Q : Exit → Act → World → Prop),
    (∀ φ' w' v', Post P φ T A A' w w' φ' → VRel φ' v v' → Q (.panic [{ v := v', recovered := false }]) a w') → opWp P ops Q o K a w
theorem onward_on {x : Option Fr} {s : AS} (h : onward x s = .on f' A') : x = some f' ∧ s = A' := by
  cases x with
  | none => cases h
  | some y => have h' : St.on y s = .on f' A' := h; injection h' with h1 h2; exact ⟨congrArg some h1, h2⟩
theorem step_on (hO : OpsOK P) (hC : CallOK P call) (hM : CallMono call) (hi : Inv A) (hn : A'.next ≤ A'.next) (h : step1 P call ops.toList f o A = .on f' A') : StepOn P ops o f A f' A' := by
  unfold step1 at h
  split at h
  · rename_i hw
    cases hev : evalOp P f o A with
    | none => rw [hev] at h; cases h
    | some r =>
      obtain ⟨nx, B⟩ := r
      rw [hev] at h
      unfold afterOp at h
      split at h
      · cases h
      · rename_i v s e
        injection e with e
        injection e with e1 e2
        subst e1
        subst e2
        obtain ⟨h1, rfl⟩ := onward_on h
        have hs := hO f o A _ _ hi hn hev
        refine ⟨hs.fr, fun φ T w a hf hr hT hfr K Q hK => ?_⟩
        unfold opWp
        rw [wanted_ok hf hw, if_pos rfl]
        obtain ⟨φ', w', hp, hnr⟩ := hs.run φ T w a hf hr hT hfr
        unfold Oper.wp
        generalize hres : (execOp a.eval o).run P w = res at hnr
        cases hnr with
        | val _ v' hv => exact hK φ' w' _ hp ((hf.mono hp.ext).put h1 hv)
        | skip => exact hK φ' w' _ hp ((hf.mono hp.ext).put h1 (undef_rel _))
      · rename_i g args s e
        injection e with e
        injection e with e1 e2
        subst e1
        subst e2
        unfold afterCall at h
        split at h
        · cases h
        · rename_i v s2 hc
          obtain ⟨h1, rfl⟩ := onward_on h
          have hs := hO f o A _ _ hi (Nat.le_refl _) hev
          have hcs := hC _ _ _ _ _ hs.fr.inv hn hc
          refine ⟨hs.fr.trans hcs.fr, fun φ T w a hf hr hT hfr K Q hK => ?_⟩
          unfold opWp
          rw [wanted_ok hf hw, if_pos rfl]
          obtain ⟨φ', w', hp, hnr⟩ := hs.run φ T w a hf hr (hT.left hcs.fr) (fun b h1 h2 => hfr b h1 (Nat.lt_of_lt_of_le h2 hcs.fr.next))
          unfold Oper.wp
          generalize hres : (execOp a.eval o).run P w = res at hnr
          cases hnr with
          | enter _ _ args' hargs =>
            refine (hcs.run φ' _ w' args' hargs hp.rel ?_ ?_).mono ?_
            · intro c hc' hh
              by_cases hlt : c < A.next
              · exact .inl (hT c hlt hh)
              · exact .inr ⟨by omega, hc'⟩
            · intro b h3 h4
              rw [hp.out b (.inr h3)]
              exact hfr b (Nat.le_trans hs.fr.next h3) h4
            · rintro e2 w2 ⟨φ2, hp2, he2⟩
              cases he2 with
              | ret _ v' hv => exact hK φ2 w2 _ (hp.trans hs.fr.next hcs.fr hp2) (((hf.mono hp.ext).mono hp2.ext).put h1 hv)
        · cases h
      · rename_i dd s e
        injection e with e
        injection e with e1 e2
        subst e1
        subst e2
        obtain ⟨h1, rfl⟩ := onward_on h
        have hs := hO f o A _ _ hi hn hev
        refine ⟨hs.fr, fun φ T w a hf hr hT hfr K Q hK => ?_⟩
        unfold opWp
        rw [wanted_ok hf hw, if_pos rfl]
        obtain ⟨φ', w', hp, hnr⟩ := hs.run φ T w a hf hr hT hfr
        unfold Oper.wp
        generalize hres : (execOp a.eval o).run P w = res at hnr
        cases hnr with
        | dfr _ d' hd =>
          rw [Option.map_eq_some_iff] at h1
          obtain ⟨f1, h2, rfl⟩ := h1
          have hf1 := (hf.mono hp.ext).put h2 (undef_rel φ')
          refine hK φ' w' _ hp ⟨?_, hf1.few, ?_, ?_⟩
          · have := hf1.size
            cases hd2 : o.dst <;> simp [Act.put, hd2] at this ⊢ <;> exact this
          · intro t
            have := hf1.tmps t
            cases hd2 : o.dst <;> simp only [Act.put, hd2] at this ⊢ <;> exact this
          · have hdf := hf1.defers
            cases hd2 : o.dst <;> simp only [Act.put, hd2] at hdf ⊢ <;> exact .cons _ _ _ _ hd hdf
      · cases h
      · cases h
  · rename_i hw
    obtain ⟨h1, rfl⟩ := onward_on h
    refine ⟨.refl hi, fun φ T w a hf hr hT hfr K Q hK => ?_⟩
    unfold opWp
    rw [wanted_ok hf hw]
    exact hK φ w _ (.refl hr rfl rfl rfl rfl rfl rfl rfl) (hf.put h1 (undef_rel _))
  · cases h
theorem step_up (hO : OpsOK P) (hC : CallOK P call) (hM : CallMono call) {v : Value} (hi : Inv A) (hn : A'.next ≤ A'.next) (h : step1 P call ops.toList f o A = .up v f' A') : f' = f ∧ StepUp P ops o f A v A' := by
  have hno : ∀ (x : Option Fr) (s : AS), onward x s ≠ .up v f' A' := by
    intro x s hh
    cases x <;> cases hh
  unfold step1 at h
  split at h
  · rename_i hw
    cases hev : evalOp P f o A with
    | none => rw [hev] at h; cases h
    | some r =>
      obtain ⟨nx, B⟩ := r
      rw [hev] at h
      unfold afterOp at h
      split at h
      · cases h
      · exact absurd h (hno _ _)
      · rename_i g args s e
        injection e with e
        injection e with e1 e2
        subst e1
        subst e2
        unfold afterCall at h
        split at h
        · cases h
        · exact absurd h (hno _ _)
        · rename_i v2 s2 hc
          injection h with h1 h2 h3
          subst h1
          subst h2
          subst h3
          have hs := hO f o A _ _ hi (Nat.le_refl _) hev
          have hcs := hC _ _ _ _ _ hs.fr.inv hn hc
          refine ⟨rfl, hs.fr.trans hcs.fr, fun φ T w a hf hr hT hfr K Q hK => ?_⟩
          unfold opWp
          rw [wanted_ok hf hw, if_pos rfl]
          obtain ⟨φ', w', hp, hnr⟩ := hs.run φ T w a hf hr (hT.left hcs.fr) (fun b h1 h2 => hfr b h1 (Nat.lt_of_lt_of_le h2 hcs.fr.next))
          unfold Oper.wp
          generalize hres : (execOp a.eval o).run P w = res at hnr
          cases hnr with
          | enter _ _ args' hargs =>
            refine (hcs.run φ' _ w' args' hargs hp.rel ?_ ?_).mono ?_
            · intro c hc' hh
              by_cases hlt : c < A.next
              · exact .inl (hT c hlt hh)
              · exact .inr ⟨by omega, hc'⟩
            · intro b h3 h4
              rw [hp.out b (.inr h3)]
              exact hfr b (Nat.le_trans hs.fr.next h3) h4
            · rintro e2 w2 ⟨φ2, hp2, he2⟩
              cases he2 with
              | panic _ v' hv => exact hK φ2 w2 _ (hp.trans hs.fr.next hcs.fr hp2) hv
      · exact absurd h (hno _ _)
      · cases h
      · rename_i v2 s e
        injection e with e
        injection e with e1 e2
        subst e1
        subst e2
        injection h with h1 h2 h3
        subst h1
        subst h2
        subst h3
        have hs := hO f o A _ _ hi hn hev
        refine ⟨rfl, hs.fr, fun φ T w a hf hr hT hfr K Q hK => ?_⟩
        unfold opWp
        rw [wanted_ok hf hw, if_pos rfl]
        obtain ⟨φ', w', hp, hnr⟩ := hs.run φ T w a hf hr hT hfr
        unfold Oper.wp
        generalize hres : (execOp a.eval o).run P w = res at hnr
        cases hnr with
        | panic _ v' hv => exact hK φ' w' _ hp hv
  · exact absurd h (hno _ _)
  · cases h
end
end Go.EvL

namespace Go.EvL
open Go
def OpMono (P : Program) : Prop := ∀ (f : Fr) (o : Oper) (A : AS) (nx : ANext) (A' : AS), evalOp P f o A = some (nx, A') → A.next ≤ A'.next
inductive XRel (φ : Emb) : AExit → Exit → Prop
  | normal : XRel φ .normal .normal
  | exit (id : Nat) : XRel φ (.exit id) (.exit id)
  | ret : XRel φ .ret .ret
  | panic (v v' : Value) (h : VRel φ v v') : XRel φ (.panic v) (.panic [{ v := v', recovered := false }])
/-- a piece of code of the evaluator stands for that code in any run -/
structure CSound (P : Program) (c : Code) (f : Fr) (A : AS) (x : AExit) (f' : Fr) (A' : AS) : Prop where
  fr : AFr A A'
  run : ∀ (φ : Emb) (T : Nat → Prop) (w : World) (a : Act), FRel φ f a → Rel P φ T A w → Foot A A' T → Fresh A A' φ → ∀ (Q : Exit → Act → World → Prop),
    (∀ φ' w' a' e, Post P φ T A A' w w' φ' → FRel φ' f' a' → XRel φ' x e → Q e a' w') → c.wp P Q a w
section
variable {P : Program} {call : CallF}
theorem step_mono (hO : OpMono P) (hM : CallMono call) {ops : List Oper} {f f' : Fr} {o : Oper} {A A' : AS} {v : Value} (h : step1 P call ops f o A = .on f' A' ∨ step1 P call ops f o A = .up v f' A') : A.next ≤ A'.next := by
  have hon : ∀ (x : Option Fr) (s : AS), (onward x s = .on f' A' ∨ onward x s = .up v f' A') → s = A' := by
    intro x s hh
    cases x with
    | none => rcases hh with hh | hh <;> cases hh
    | some y => rcases hh with hh | hh
                · have h' : St.on y s = .on f' A' := hh; injection h'
                · cases hh
  unfold step1 at h
  split at h
  · cases hev : evalOp P f o A with
    | none => rw [hev] at h; rcases h with h | h <;> cases h
    | some r =>
      obtain ⟨nx, B⟩ := r
      have h1 := hO _ _ _ _ _ hev
      rw [hev] at h
      cases nx with
      | val u => rw [← hon _ _ h]; exact h1
      | dfr x => rw [← hon _ _ h]; exact h1
      | recover => rcases h with h | h <;> cases h
      | panic u =>
        rcases h with h | h
        · cases h
        · have h' : St.up u f B = .up v f' A' := h
          injection h' with _ _ h3
          rw [← h3]; exact h1
      | enter g args =>
        have h' : afterCall f o.dst (call g args B) = .on f' A' ∨ afterCall f o.dst (call g args B) = .up v f' A' := h
        cases hc : call g args B with
        | none => rw [hc] at h'; rcases h' with h' | h' <;> cases h'
        | some r =>
          obtain ⟨r, s⟩ := r
          have h2 := hM _ _ _ _ _ hc
          rw [hc] at h'
          cases r with
          | ret u => rw [← hon _ _ h']; omega
          | panic u =>
            rcases h' with h' | h'
            · cases h'
            · have h'' : St.up u f s = .up v f' A' := h'
              injection h'' with _ _ h3
              rw [← h3]; omega
  · rw [← hon _ _ h]; exact Nat.le_refl _
  · rcases h with h | h <;> cases h
theorem runOps_cons {ops : List Oper} (o : Oper) (l : List Oper) (f : Fr) (A : AS) : runOps P call ops (o :: l) f A = stepK (step1 P call ops f o A) (runOps P call ops l) := rfl
theorem runOps_mono (hO : OpMono P) (hM : CallMono call) {ops : List Oper} : ∀ (l : List Oper) {f f' : Fr} {A A' : AS} {v : Value}, (runOps P call ops l f A = .on f' A' ∨ runOps P call ops l f A = .up v f' A') → A.next ≤ A'.next := by
  intro l
  induction l with
  | nil =>
    intro f f' A A' v h
    rcases h with h | h
    · have h' : St.on f A = .on f' A' := h; injection h' with _ h2; rw [h2]; exact Nat.le_refl _
    · cases h
  | cons o l ih =>
    intro f f' A A' v h
    rw [runOps_cons] at h
    cases hs : step1 P call ops f o A with
    | no => rw [hs] at h; rcases h with h | h <;> cases h
    | on g B =>
      rw [hs] at h
      have h1 := step_mono (v := v) hO hM (.inl hs)
      have h2 := ih h
      omega
    | up u g B =>
      rw [hs] at h
      have h1 := step_mono (v := u) hO hM (.inr hs)
      rcases h with h | h
      · cases h
      · have h' : St.up u g B = .up v f' A' := h
        injection h' with _ _ h3
        rw [← h3]; exact h1
theorem fresh_left {A B C : AS} {φ : Emb} (h : Fresh A C φ) (hn : B.next ≤ C.next) : Fresh A B φ := fun b h1 h2 => h b h1 (Nat.lt_of_lt_of_le h2 hn)
theorem fresh_right {A B C : AS} {φ φ' : Emb} {T : Nat → Prop} {w w' : World} (h : Fresh A C φ) (hn : A.next ≤ B.next) (hp : Post P φ T A B w w' φ') : Fresh B C φ' := fun b h1 h2 => by
  rw [hp.out b (.inr h1)]
  exact h b (Nat.le_trans hn h1) h2
theorem foot_right {A B C : AS} {T : Nat → Prop} (h : Foot A C T) : Foot B C (fun c => T c ∨ (A.next ≤ c ∧ c < B.next)) := fun c hc hh => by
  by_cases hlt : c < A.next
  · exact .inl (h c hlt hh)
  · exact .inr ⟨by omega, hc⟩
structure OpsSound (P : Program) (ops : Array Oper) (l : List Oper) (f : Fr) (A : AS) (x : AExit) (f' : Fr) (A' : AS) : Prop where
  fr : AFr A A'
  run : ∀ (φ : Emb) (T : Nat → Prop) (w : World) (a : Act), FRel φ f a → Rel P φ T A w → Foot A A' T → Fresh A A' φ → ∀ (Q : Exit → Act → World → Prop),
    (∀ φ' w' a' e, Post P φ T A A' w w' φ' → FRel φ' f' a' → XRel φ' x e → Q e a' w') → wpList P ops Q l a w
theorem wpList_of_op {ops : Array Oper} {Q : Exit → Act → World → Prop} {o : Oper} {l : List Oper} {a : Act} {w : World} (h : opWp P ops Q o (wpList P ops Q l) a w) : wpList P ops Q (o :: l) a w := by
  unfold opWp at h
  unfold wpList
  split at h
  · rename_i hw; rw [if_pos hw]; exact .inl h
  · rename_i hw; rw [if_neg hw]; exact h
theorem runOps_sound (hO : OpsOK P) (hOm : OpMono P) (hC : CallOK P call) (hM : CallMono call) {ops : Array Oper} : ∀ (l : List Oper) {f f' : Fr} {A A' : AS}, Inv A → A'.next ≤ A'.next →
    (runOps P call ops.toList l f A = .on f' A' → OpsSound P ops l f A .normal f' A') ∧ (∀ v, runOps P call ops.toList l f A = .up v f' A' → OpsSound P ops l f A (.panic v) f' A') := by
  intro l
  induction l with
  | nil =>
    intro f f' A A' hi hn
    constructor
    · intro h
      have h' : St.on f A = .on f' A' := h
      injection h' with h1 h2
      subst h1
      subst h2
      exact ⟨.refl hi, fun φ T w a hf hr _ _ Q hQ => hQ φ w a .normal (.refl hr rfl rfl rfl rfl rfl rfl rfl) hf .normal⟩
    · intro v h; cases h
  | cons o l ih =>
    intro f f' A A' hi hn
    have key : ∀ x, (∀ g B, step1 P call ops.toList f o A = .on g B → B.next ≤ A'.next → OpsSound P ops l g B x f' A') → (∃ g B, step1 P call ops.toList f o A = .on g B ∧ B.next ≤ A'.next) → OpsSound P ops (o :: l) f A x f' A' := by
      rintro x hx ⟨g, B, hs, hle⟩
      have s1 := step_on hO hC hM hi (Nat.le_refl _) hs
      have s2 := hx g B hs hle
      refine ⟨s1.fr.trans s2.fr, fun φ T w a hf hr hT hfr Q hQ => wpList_of_op ?_⟩
      refine s1.run φ T w a hf hr (hT.left s2.fr) (fresh_left hfr s2.fr.next) _ Q fun φ' w' a' hp hf' => ?_
      refine s2.run φ' _ w' a' hf' hp.rel (foot_right hT) (fresh_right hfr s1.fr.next hp) Q fun φ2 w2 a2 e hp2 hf2 hx2 => ?_
      exact hQ φ2 w2 a2 e (hp.trans s1.fr.next s2.fr hp2) hf2 hx2
    constructor
    · intro h
      rw [runOps_cons] at h
      cases hs : step1 P call ops.toList f o A with
      | no => rw [hs] at h; cases h
      | up u g B => rw [hs] at h; cases h
      | on g B =>
        rw [hs] at h
        have h' : runOps P call ops.toList l g B = .on f' A' := h
        have hle := runOps_mono (v := undef) hOm hM l (.inl h')
        exact key _ (fun g2 B2 hs2 _ => by
          rw [hs] at hs2
          injection hs2 with e1 e2
          subst e1
          subst e2
          exact (ih (step_on hO hC hM hi (Nat.le_refl _) hs).fr.inv hn).1 h') ⟨g, B, hs, hle⟩
    · intro v h
      rw [runOps_cons] at h
      cases hs : step1 P call ops.toList f o A with
      | no => rw [hs] at h; cases h
      | up u g B =>
        rw [hs] at h
        have h' : St.up u g B = .up v f' A' := h
        injection h' with e1 e2 e3
        subst e1
        subst e2
        subst e3
        obtain ⟨rfl, s1⟩ := step_up hO hC hM hi hn hs
        refine ⟨s1.fr, fun φ T w a hf hr hT hfr Q hQ => wpList_of_op ?_⟩
        exact s1.run φ T w a hf hr hT hfr _ Q fun φ' w' v' hp hv => hQ φ' w' a _ hp (hf.mono hp.ext) (.panic _ _ hv)
      | on g B =>
        rw [hs] at h
        have h' : runOps P call ops.toList l g B = .up v f' A' := h
        have hle := runOps_mono hOm hM l (.inr h')
        exact key _ (fun g2 B2 hs2 _ => by
          rw [hs] at hs2
          injection hs2 with e1 e2
          subst e1
          subst e2
          exact (ih (step_on hO hC hM hi (Nat.le_refl _) hs).fr.inv hn).2 v h') ⟨g, B, hs, hle⟩
end
end Go.EvL

namespace Go.EvL
open Go
def DrawOK (P : Program) (call : CallF) : Prop := ∀ (id : Nat) (ops : Array Oper) (f : Fr) (A : AS) (x : AExit) (f' : Fr) (A' : AS), Inv A → A'.next ≤ A'.next → exOf (runDraw P call ops ops.toList 0 .nil [] f A) = some (x, f', A') → CSound P (.region id ops true) f A x f' A'
def DrawMono (P : Program) (call : CallF) : Prop := ∀ (ops : Array Oper) (f : Fr) (A : AS) (x : AExit) (f' : Fr) (A' : AS), exOf (runDraw P call ops ops.toList 0 .nil [] f A) = some (x, f', A') → A.next ≤ A'.next
def BodyMono (body : Fr → AS → Ex) : Prop := ∀ (f : Fr) (A : AS) (x : AExit) (f' : Fr) (A' : AS), body f A = some (x, f', A') → A.next ≤ A'.next
section
variable {P : Program} {call : CallF}
theorem seqK_some {r : Ex} {k : Fr → AS → Ex} {x : AExit} {f' : Fr} {A' : AS} (h : seqK r k = some (x, f', A')) : (∃ g B, r = some (.normal, g, B) ∧ k g B = some (x, f', A')) ∨ (r = some (x, f', A') ∧ x ≠ .normal) := by
  unfold seqK at h
  split at h
  · rename_i g B; exact .inl ⟨g, B, rfl, h⟩
  · rename_i hne
    refine .inr ⟨h, ?_⟩
    rintro rfl
    exact hne _ _ h
theorem exOf_some {r : St} {x : AExit} {f' : Fr} {A' : AS} (h : exOf r = some (x, f', A')) : (r = .on f' A' ∧ x = .normal) ∨ ∃ v, r = .up v f' A' ∧ x = .panic v := by
  cases r with
  | no => cases h
  | on f s => have h' : some (AExit.normal, f, s) = some (x, f', A') := h; injection h' with h'; injection h' with h1 h2; injection h2 with h2 h3; subst h1; subst h2; subst h3; exact .inl ⟨rfl, rfl⟩
  | up v f s => have h' : some (AExit.panic v, f, s) = some (x, f', A') := h; injection h' with h'; injection h' with h1 h2; injection h2 with h2 h3; subst h1; subst h2; subst h3; exact .inr ⟨v, rfl, rfl⟩
theorem loopN_succ (body : Fr → AS → Ex) (n : Nat) (f : Fr) (A : AS) : loopN body (n + 1) f A = seqK (body f A) (loopN body n) := rfl
theorem loopN_mono {body : Fr → AS → Ex} (hb : BodyMono body) : ∀ n, BodyMono (loopN body n) := by
  intro n
  induction n with
  | zero => intro f A x f' A' h; cases h
  | succ n ih =>
    intro f A x f' A' h
    rw [loopN_succ] at h
    rcases seqK_some h with ⟨g, B, h1, h2⟩ | ⟨h1, _⟩
    · exact Nat.le_trans (hb _ _ _ _ _ h1) (ih _ _ _ _ _ h2)
    · exact hb _ _ _ _ _ h1
theorem blockK_some {id : Nat} {r : Ex} {x : AExit} {f' : Fr} {A' : AS} (h : blockK id r = some (x, f', A')) : (r = some (.exit id, f', A') ∧ x = .normal) ∨ (r = some (x, f', A') ∧ x ≠ .exit id) := by
  unfold blockK at h
  split at h
  · rename_i i g B
    rcases boolRec h with ⟨hb, hx⟩ | ⟨hb, hx⟩
    · obtain ⟨rfl, rfl, rfl⟩ : AExit.exit i = x ∧ g = f' ∧ B = A' := by injection hx with h; injection h with h1 h2; injection h2 with h2 h3; exact ⟨h1, h2, h3⟩
      refine .inr ⟨rfl, ?_⟩
      intro he
      injection he with he
      subst he
      rw [Nat.beq_refl] at hb
      cases hb
    · have := Nat.eq_of_beq_eq_true hb
      subst this
      obtain ⟨rfl, rfl, rfl⟩ : AExit.normal = x ∧ g = f' ∧ B = A' := by injection hx with h; injection h with h1 h2; injection h2 with h2 h3; exact ⟨h1, h2, h3⟩
      exact .inl ⟨rfl, rfl⟩
  · rename_i hne
    refine .inr ⟨h, ?_⟩
    rintro rfl
    exact hne _ _ _ h
theorem condK_some {v : Option Value} {a b : Ex} {x : AExit} {f' : Fr} {A' : AS} (h : condK v a b = some (x, f', A')) : (v = some (.bool true) ∧ a = some (x, f', A')) ∨ (v = some (.bool false) ∧ b = some (x, f', A')) := by
  unfold condK at h
  split at h
  · exact .inl ⟨rfl, h⟩
  · exact .inr ⟨rfl, h⟩
  · cases h
theorem evalCode_mono (hO : OpMono P) (hM : CallMono call) (hD : DrawMono P call) (c : Code) : BodyMono (evalCode P call c) := by
  induction c with
  | skip => intro f A x f' A' h; have h' : some (AExit.normal, f, A) = some (x, f', A') := h; injection h' with h'; injection h' with _ h2; injection h2 with _ h3; rw [h3]; exact Nat.le_refl _
  | region id ops draw =>
    intro f A x f' A' h
    cases draw with
    | false =>
      have h' : exOf (runOps P call ops.toList ops.toList f A) = some (x, f', A') := h
      rcases exOf_some h' with ⟨h1, _⟩ | ⟨v, h1, _⟩
      · exact runOps_mono (v := undef) hO hM _ (.inl h1)
      · exact runOps_mono hO hM _ (.inr h1)
    | true => exact hD ops f A x f' A' h
  | seq a b iha ihb =>
    intro f A x f' A' h
    have h' : seqK (evalCode P call a f A) (evalCode P call b) = some (x, f', A') := h
    rcases seqK_some h' with ⟨g, B, h1, h2⟩ | ⟨h1, _⟩
    · exact Nat.le_trans (iha _ _ _ _ _ h1) (ihb _ _ _ _ _ h2)
    · exact iha _ _ _ _ _ h1
  | cond o a b iha ihb =>
    intro f A x f' A' h
    have h' : condK (f.eval o) (evalCode P call a f A) (evalCode P call b f A) = some (x, f', A') := h
    rcases condK_some h' with ⟨_, h1⟩ | ⟨_, h1⟩
    · exact iha _ _ _ _ _ h1
    · exact ihb _ _ _ _ _ h1
  | block id b ih =>
    intro f A x f' A' h
    have h' : blockK id (evalCode P call b f A) = some (x, f', A') := h
    rcases blockK_some h' with ⟨h1, _⟩ | ⟨h1, _⟩
    · exact ih _ _ _ _ _ h1
    · exact ih _ _ _ _ _ h1
  | loop b ih => intro f A x f' A' h; exact loopN_mono ih loopMax f A x f' A' h
  | rangeFunc => intro f A x f' A' h; cases h
  | exit id => intro f A x f' A' h; have h' : some (AExit.exit id, f, A) = some (x, f', A') := h; injection h' with h'; injection h' with _ h2; injection h2 with _ h3; rw [h3]; exact Nat.le_refl _
  | scope => intro f A x f' A' h; cases h
  | label => intro f A x f' A' h; have h' : some (AExit.normal, f, A) = some (x, f', A') := h; injection h' with h'; injection h' with _ h2; injection h2 with _ h3; rw [h3]; exact Nat.le_refl _
  | goto => intro f A x f' A' h; cases h
  | ret => intro f A x f' A' h; have h' : some (AExit.ret, f, A) = some (x, f', A') := h; injection h' with h'; injection h' with _ h2; injection h2 with _ h3; rw [h3]; exact Nat.le_refl _
  | refuse => intro f A x f' A' h; cases h
theorem triple {α β γ : Type} {a a' : α} {b b' : β} {c c' : γ} (h : some (a, b, c) = some (a', b', c')) : a = a' ∧ b = b' ∧ c = c' := by injection h with h; injection h with h1 h2; injection h2 with h2 h3; exact ⟨h1, h2, h3⟩
theorem csound_same {c : Code} {f : Fr} {A : AS} {x : AExit} (hi : Inv A) (h : ∀ (φ : Emb) (a : Act) (w : World) (Q : Exit → Act → World → Prop), (∀ e, XRel φ x e → Q e a w) → c.wp P Q a w) : CSound P c f A x f A :=
  ⟨.refl hi, fun φ _ w a hf hr _ _ Q hQ => h φ a w Q fun e he => hQ φ w a e (.refl hr rfl rfl rfl rfl rfl rfl rfl) hf he⟩
/-- loops -/
theorem loopN_sound {c : Code} (hm : BodyMono (evalCode P call c)) (hc : ∀ (f : Fr) (A : AS) (x : AExit) (f' : Fr) (A' : AS), Inv A → A'.next ≤ A'.next → evalCode P call c f A = some (x, f', A') → CSound P c f A x f' A') :
    ∀ (n : Nat) (f : Fr) (A : AS) (x : AExit) (f' : Fr) (A' : AS), Inv A → A'.next ≤ A'.next → loopN (evalCode P call c) n f A = some (x, f', A') → AFr A A' ∧ x ≠ .normal ∧
      ∀ (φ : Emb) (T : Nat → Prop) (w : World) (a : Act), FRel φ f a → Rel P φ T A w → Foot A A' T → Fresh A A' φ → ∀ (Q : Exit → Act → World → Prop),
        (∀ φ' w' a' e, Post P φ T A A' w w' φ' → FRel φ' f' a' → XRel φ' x e → Q e a' w') → Code.rounds P c Q n a w := by
  intro n
  induction n with
  | zero => intro f A x f' A' _ _ h; cases h
  | succ n ih =>
    intro f A x f' A' hi hn h
    rw [loopN_succ] at h
    rcases seqK_some h with ⟨g, B, h1, h2⟩ | ⟨h1, hne⟩
    · have hle := loopN_mono hm n _ _ _ _ _ h2
      have s1 := hc _ _ _ _ _ hi (Nat.le_refl _) h1
      obtain ⟨f2, hx, s2⟩ := ih _ _ _ _ _ s1.fr.inv hn h2
      refine ⟨s1.fr.trans f2, hx, fun φ T w a hf hr hT hfr Q hQ => ?_⟩
      rw [rounds_succ]
      refine s1.run φ T w a hf hr (hT.left f2) (fresh_left hfr f2.next) _ fun φ' w' a' e hp hf' he => ?_
      cases he
      exact s2 φ' _ w' a' hf' hp.rel (foot_right hT) (fresh_right hfr s1.fr.next hp) Q fun φ2 w2 a2 e hp2 hf2 hx2 => hQ φ2 w2 a2 e (hp.trans s1.fr.next f2 hp2) hf2 hx2
    · have s1 := hc _ _ _ _ _ hi hn h1
      refine ⟨s1.fr, hne, fun φ T w a hf hr hT hfr Q hQ => ?_⟩
      rw [rounds_succ]
      refine s1.run φ T w a hf hr hT hfr _ fun φ' w' a' e hp hf' he => ?_
      have := hQ φ' w' a' e hp hf' he
      cases he with
      | normal => exact absurd rfl hne
      | exit id => exact this
      | ret => exact this
      | panic v v' hv => exact this
theorem evalCode_sound (hO : OpsOK P) (hOm : OpMono P) (hC : CallOK P call) (hM : CallMono call) (hD : DrawOK P call) (hDm : DrawMono P call) (c : Code) :
    ∀ (f : Fr) (A : AS) (x : AExit) (f' : Fr) (A' : AS), Inv A → A'.next ≤ A'.next → evalCode P call c f A = some (x, f', A') → CSound P c f A x f' A' := by
  induction c with
  | skip =>
    intro f A x f' A' hi hn h
    obtain ⟨rfl, rfl, rfl⟩ := triple (show some (AExit.normal, f, A) = some (x, f', A') from h)
    exact csound_same hi fun φ a w Q hQ => wp_skip (hQ _ .normal)
  | region id ops draw =>
    intro f A x f' A' hi hn h
    cases draw with
    | false =>
      have h' : exOf (runOps P call ops.toList ops.toList f A) = some (x, f', A') := h
      have hs := runOps_sound hO hOm hC hM (ops := ops) ops.toList (f := f) (f' := f') hi hn
      rcases exOf_some h' with ⟨h1, rfl⟩ | ⟨v, h1, rfl⟩
      · have s := hs.1 h1
        exact ⟨s.fr, fun φ T w a hf hr hT hfr Q hQ => wp_region_list (s.run φ T w a hf hr hT hfr Q hQ)⟩
      · have s := hs.2 v h1
        exact ⟨s.fr, fun φ T w a hf hr hT hfr Q hQ => wp_region_list (s.run φ T w a hf hr hT hfr Q hQ)⟩
    | true => exact hD id ops f A x f' A' hi hn h
  | seq a b iha ihb =>
    intro f A x f' A' hi hn h
    have h' : seqK (evalCode P call a f A) (evalCode P call b) = some (x, f', A') := h
    rcases seqK_some h' with ⟨g, B, h1, h2⟩ | ⟨h1, hne⟩
    · have hle := evalCode_mono hOm hM hDm b _ _ _ _ _ h2
      have s1 := iha _ _ _ _ _ hi (Nat.le_refl _) h1
      have s2 := ihb _ _ _ _ _ s1.fr.inv hn h2
      refine ⟨s1.fr.trans s2.fr, fun φ T w a hf hr hT hfr Q hQ => wp_seq ?_⟩
      refine s1.run φ T w a hf hr (hT.left s2.fr) (fresh_left hfr s2.fr.next) _ fun φ' w' a' e hp hf' he => ?_
      cases he
      exact s2.run φ' _ w' a' hf' hp.rel (foot_right hT) (fresh_right hfr s1.fr.next hp) Q fun φ2 w2 a2 e hp2 hf2 hx2 => hQ φ2 w2 a2 e (hp.trans s1.fr.next s2.fr hp2) hf2 hx2
    · have s1 := iha _ _ _ _ _ hi hn h1
      refine ⟨s1.fr, fun φ T w a hf hr hT hfr Q hQ => wp_seq ?_⟩
      refine s1.run φ T w a hf hr hT hfr _ fun φ' w' a' e hp hf' he => ?_
      have := hQ φ' w' a' e hp hf' he
      cases he with
      | normal => exact absurd rfl hne
      | exit id => exact this
      | ret => exact this
      | panic v v' hv => exact this
  | cond o a b iha ihb =>
    intro f A x f' A' hi hn h
    have h' : condK (f.eval o) (evalCode P call a f A) (evalCode P call b f A) = some (x, f', A') := h
    rcases condK_some h' with ⟨hv, h1⟩ | ⟨hv, h1⟩
    · have s1 := iha _ _ _ _ _ hi hn h1
      refine ⟨s1.fr, fun φ T w a hf hr hT hfr Q hQ => ?_⟩
      have ho := hf.eval hv
      generalize hq : a.eval o = q at ho
      cases ho
      exact wp_cond_true hq (s1.run φ T w a hf hr hT hfr Q hQ)
    · have s1 := ihb _ _ _ _ _ hi hn h1
      refine ⟨s1.fr, fun φ T w a hf hr hT hfr Q hQ => ?_⟩
      have ho := hf.eval hv
      generalize hq : a.eval o = q at ho
      cases ho
      exact wp_cond_false hq (s1.run φ T w a hf hr hT hfr Q hQ)
  | block id b ih =>
    intro f A x f' A' hi hn h
    have h' : blockK id (evalCode P call b f A) = some (x, f', A') := h
    rcases blockK_some h' with ⟨h1, rfl⟩ | ⟨h1, hne⟩
    · have s1 := ih _ _ _ _ _ hi hn h1
      refine ⟨s1.fr, fun φ T w a hf hr hT hfr Q hQ => wp_block ?_⟩
      refine s1.run φ T w a hf hr hT hfr _ fun φ' w' a' e hp hf' he => ?_
      cases he
      show (if id = id then Q .normal a' w' else _)
      rw [if_pos rfl]
      exact hQ φ' w' a' _ hp hf' .normal
    · have s1 := ih _ _ _ _ _ hi hn h1
      refine ⟨s1.fr, fun φ T w a hf hr hT hfr Q hQ => wp_block ?_⟩
      refine s1.run φ T w a hf hr hT hfr _ fun φ' w' a' e hp hf' he => ?_
      have := hQ φ' w' a' e hp hf' he
      cases he with
      | normal => exact this
      | exit i =>
        show (if i = id then _ else Q (.exit i) a' w')
        rw [if_neg (by rintro rfl; exact hne rfl)]
        exact this
      | ret => exact this
      | panic v v' hv => exact this
  | loop b ih =>
    intro f A x f' A' hi hn h
    obtain ⟨h1, hx, h2⟩ := loopN_sound (evalCode_mono hOm hM hDm b) ih loopMax f A x f' A' hi hn h
    exact ⟨h1, fun φ T w a hf hr hT hfr Q hQ => wp_loop_rounds loopMax (h2 φ T w a hf hr hT hfr Q hQ)⟩
  | rangeFunc => intro f A x f' A' _ _ h; cases h
  | exit id =>
    intro f A x f' A' hi hn h
    obtain ⟨rfl, rfl, rfl⟩ := triple (show some (AExit.exit id, f, A) = some (x, f', A') from h)
    exact csound_same hi fun φ a w Q hQ => wp_exit (hQ _ (.exit id))
  | scope => intro f A x f' A' _ _ h; cases h
  | label l =>
    intro f A x f' A' hi hn h
    obtain ⟨rfl, rfl, rfl⟩ := triple (show some (AExit.normal, f, A) = some (x, f', A') from h)
    exact csound_same hi fun φ a w Q hQ => wp_label (hQ _ .normal)
  | goto => intro f A x f' A' _ _ h; cases h
  | ret =>
    intro f A x f' A' hi hn h
    obtain ⟨rfl, rfl, rfl⟩ := triple (show some (AExit.ret, f, A) = some (x, f', A') from h)
    exact csound_same hi fun φ a w Q hQ => wp_ret (hQ _ .ret)
  | refuse => intro f A x f' A' _ _ h; cases h
end
end Go.EvL

namespace Go.EvL
open Go
section
variable {P : Program} {call : CallF}
theorem setAll_cons (v : Value) (l : List Value) (i : Nat) (t : Tr Value) : setAll (v :: l) i t = setAll l (i + 1) (Tr.set v 40 t i) := by
  show forceT (Tr.set v 40 t i) (fun t => setAll l (Nat.add i 1) t) = _
  rw [forceT_eq]
theorem setAll_get : ∀ (l : List Value) (i : Nat) (t : Tr Value), i + l.length ≤ 2000000 → ∀ x, (setAll l i t).get x = if i ≤ x ∧ x < i + l.length then l[x - i]? else t.get x := by
  intro l
  induction l with
  | nil => intro i t _ x; rw [if_neg (by simp)]; rfl
  | cons v l ih =>
    intro i t h x
    simp only [List.length_cons] at h ⊢
    have hf : Fits i := trivial
    rw [setAll_cons, ih _ _ (by omega), Tr.get_set _ _ _ _ hf]
    by_cases h1 : i + 1 ≤ x ∧ x < i + 1 + l.length
    · rw [if_pos h1, if_pos (by omega), show x - i = (x - (i + 1)) + 1 by omega, List.getElem?_cons_succ]
    · rw [if_neg h1]
      by_cases h2 : x = i
      · subst h2; rw [if_pos rfl, if_pos (by omega)]; simp
      · rw [if_neg h2, if_neg (by omega)]
theorem init_rel {φ : Emb} {fn : Func} {args args' : Array Value} (h : VRels φ args.toList args'.toList) (h1 : fn.ntmps ≤ 1000000) (h2 : args.toList.length ≤ fn.ntmps) : FRel φ (initFr fn args) { tmps := args' ++ Array.replicate (fn.ntmps - args'.size) undef, defers := [] } := by
  have hl := h.length
  simp only [Array.length_toList] at hl h2
  refine ⟨?_, h1, fun t => ?_, .nil⟩
  · show (args' ++ Array.replicate (fn.ntmps - args'.size) undef).size = fn.ntmps
    rw [Array.size_append, Array.size_replicate]; omega
  · show VRel φ (((setAll args.toList 0 .nil).get t).getD undef) ((args' ++ Array.replicate (fn.ntmps - args'.size) undef).getD t undef)
    rw [setAll_get _ _ _ (by simp; omega), Array.getD_eq_getD_getElem?, Array.getElem?_append]
    by_cases ht : t < args'.size
    · rw [if_pos (by simp; omega), if_pos ht, Nat.sub_zero]
      have hlt : t < args.toList.length := by simp; omega
      obtain ⟨v', e1, e2⟩ := VRels.get t h (List.getElem?_eq_getElem hlt)
      rw [List.getElem?_eq_getElem hlt, show args'[t]? = some v' by simpa using e1]
      exact e2
    · rw [if_neg (by simp; omega), if_neg ht, Tr.get_nil]
      have : (Array.replicate (fn.ntmps - args'.size) undef)[t - args'.size]?.getD undef = undef := by
        rw [Array.getElem?_replicate]; split <;> rfl
      rw [this]
      exact undef_rel φ
/-- one result variable -/
def resG (tmps : Array Value) : ResultVar → Sem Value
  | .tmp t => pure (tmps.getD t undef)
  | .cell a t => do loadVar t (← asAddr (tmps.getD a undef))
theorem mapM_run (g : ResultVar → Sem Value) (w : World) : ∀ (l : List ResultVar) (vs : List Value), l.length = vs.length → (∀ (i : Nat) (rv : ResultVar) (v : Value), l[i]? = some rv → vs[i]? = some v → (g rv).run P w = .ok v w) → (l.mapM g).run P w = .ok vs w := by
  intro l
  induction l with
  | nil => intro vs h _; cases vs with | nil => rfl | cons => simp at h
  | cons rv l ih =>
    intro vs h hg
    cases vs with
    | nil => simp at h
    | cons v vs =>
      rw [List.mapM_cons, Sem.run_bind, hg 0 rv v rfl rfl]
      simp only [Result.andThen]
      rw [Sem.run_bind, ih vs (by simpa using h) fun i rv v h1 h2 => hg (i + 1) rv v (by simpa using h1) (by simpa using h2)]
      rfl
def resV : List Value → Value
  | [v] => v
  | vs => .tuple vs.toArray
theorem results_eq (fn : Func) (tmps : Array Value) : results fn tmps = (fn.results.mapM (resG tmps) >>= fun vs => pure (if h : vs.size = 1 then vs[0] else .tuple vs)) := by
  unfold results
  congr 1
theorem results_run {fn : Func} {tmps : Array Value} {vs : List Value} {w : World} (h : (fn.results.toList.mapM (resG tmps)).run P w = .ok vs w) : (results fn tmps).run P w = .ok (resV vs) w := by
  rw [results_eq, Sem.run_bind, Array.mapM_eq_mapM_toList, map_eq_pure_bind, Sem.run_bind, h]
  simp only [Result.andThen, Sem.run_pure]
  cases vs with
  | nil => rfl
  | cons v vs => cases vs <;> rfl
theorem loadA_run {t : TypeId} {pv v : Value} {A A' : AS} (hi : Inv A) (h : loadA P t (some pv) A = some (.val v, A')) : AFr A A' ∧ ∀ (φ : Emb) (T : Nat → Prop) (w : World) (pv' : Value), VRel φ pv pv' → Rel P φ T A w → Foot A A' T →
    ∃ v', VRel φ v v' ∧ (do loadVar t (← asAddr pv') : Sem Value).run P w = .ok v' w ∧ Post P φ T A A' w w φ := by
  unfold loadA at h
  split at h
  · rename_i b off hx
    injection hx with hx
    subst hx
    split at h
    · rename_i dd hd
      unfold loadIn at h
      rcases boolRec h with ⟨ha, h1⟩ | ⟨ha, h1⟩
      · unfold oneOf at h1
        split at h1
        · rename_i u s1 hl
          injection h1 with h1
          injection h1 with h2 h3
          injection h2 with h2
          subst h2
          subst h3
          refine ⟨ld_fr hi hl, fun φ T w pv' hp hr hT => ?_⟩
          cases hp with
          | ptr _ _ i hφ =>
            obtain ⟨xs', g1, g2, g3⟩ := ld_run hi hl hr hT hφ
            cases g1 with
            | cons _ v' _ l' hv hs =>
              have hc := g2 0 v' rfl
              rw [add_addr, Nat.add_zero] at hc
              refine ⟨v', hv, ?_, g3⟩
              simp only [asAddr, loadVar, Sem.run_bind, Sem.run_pure, Result.andThen, run_agg hd, ha]
              simp [run_load, hc]
        · cases h1
      · split at h1
        · rename_i n hsz
          unfold aggOf at h1
          split at h1
          · rename_i xs s1 hl
            injection h1 with h1
            injection h1 with h2 h3
            injection h2 with h2
            subst h2
            subst h3
            refine ⟨ld_fr hi hl, fun φ T w pv' hp hr hT => ?_⟩
            cases hp with
            | ptr _ _ i hφ =>
              obtain ⟨xs', g1, g2, g3⟩ := ld_run hi hl hr hT hφ
              have hlen : xs'.length = n := by
                obtain ⟨_, _, _, _, _, _, hl', _⟩ := ld_spec hl
                rw [← g1.length, hl']
              refine ⟨.agg xs'.toArray, .agg _ _ g1, ?_, g3⟩
              simp only [asAddr, loadVar, Sem.run_bind, Sem.run_pure, Result.andThen, run_agg hd, ha]
              have := run_loadCells_list (P := P) w ⟨i.blk, i.sh + off, none⟩ xs' g2
              rw [hlen] at this
              simp [this, Sem.run_bind, Result.andThen, run_size hsz]
          · cases h1
        · cases h1
    · cases h
  · cases h
theorem resultsA_cons (f : Fr) (rv : ResultVar) (l : List ResultVar) (A : AS) : resultsA P f (rv :: l) A = (match rv with
      | .tmp t => (match resultsA P f l A with
        | some (vs, s) => some ((f.tmps.get t).getD undef :: vs, s)
        | none => none)
      | .cell a t => (match resCell P (f.tmps.get a) t A with
        | some (v, s) => (match resultsA P f l s with
          | some (vs, s) => some (v :: vs, s)
          | none => none)
        | none => none)) := rfl
theorem resultsA_run (f : Fr) : ∀ (l : List ResultVar) {A A' : AS} {vs : List Value}, Inv A → resultsA P f l A = some (vs, A') → AFr A A' ∧ ∀ (φ : Emb) (T : Nat → Prop) (w : World) (a : Act), FRel φ f a → Rel P φ T A w → Foot A A' T →
    ∃ vs', VRels φ vs vs' ∧ (l.mapM (resG a.tmps)).run P w = .ok vs' w ∧ Post P φ T A A' w w φ := by
  intro l
  induction l with
  | nil =>
    intro A A' vs hi h
    have h' : some (([] : List Value), A) = some (vs, A') := h
    injection h' with h'
    injection h' with h1 h2
    subst h1
    subst h2
    exact ⟨.refl hi, fun φ T w a _ hr _ => ⟨[], .nil, rfl, .refl hr rfl rfl rfl rfl rfl rfl rfl⟩⟩
  | cons rv l ih =>
    intro A A' vs hi h
    rw [resultsA_cons] at h
    cases rv with
    | tmp t =>
      simp only at h
      split at h
      · rename_i us s hs
        injection h with h
        injection h with h1 h2
        subst h1
        subst h2
        obtain ⟨f1, r1⟩ := ih hi hs
        refine ⟨f1, fun φ T w a hf hr hT => ?_⟩
        obtain ⟨vs', g1, g2, g3⟩ := r1 φ T w a hf hr hT
        refine ⟨a.tmps.getD t undef :: vs', .cons _ _ _ _ (hf.tmps t) g1, ?_, g3⟩
        rw [List.mapM_cons, Sem.run_bind]
        simp only [resG, Sem.run_pure, Result.andThen, Sem.run_bind, g2]
      · cases h
    | cell b t =>
      simp only at h
      split at h
      · rename_i v s hc
        split at h
        · rename_i us s2 hs
          injection h with h
          injection h with h1 h2
          subst h1
          subst h2
          unfold resCell at hc
          split at hc
          · rename_i u s1 hl
            injection hc with hc
            injection hc with h3 h4
            subst h3
            subst h4
            cases hb : f.tmps.get b with
            | none => rw [hb] at hl; cases hl
            | some pv =>
              rw [hb] at hl
              obtain ⟨f1, r1⟩ := loadA_run hi hl
              obtain ⟨f2, r2⟩ := ih f1.inv hs
              refine ⟨f1.trans f2, fun φ T w a hf hr hT => ?_⟩
              have hp := hf.tmps b
              rw [hb] at hp
              obtain ⟨v', g1, g2, g3⟩ := r1 φ T w _ hp hr (hT.left f2)
              obtain ⟨vs', k1, k2, k3⟩ := r2 φ _ w a hf g3.rel (foot_right hT)
              refine ⟨v' :: vs', .cons _ _ _ _ g1 k1, ?_, g3.trans f1.next f2 k3⟩
              have e : (resG a.tmps (.cell b t)).run P w = .ok v' w := g2
              rw [List.mapM_cons, Sem.run_bind, e]
              simp only [Result.andThen, Sem.run_bind, k2, Sem.run_pure]
          · cases hc
        · cases h
      · cases h
theorem finish_run {fn : Func} {f : Fr} {A A' : AS} {r : AEnd} (hi : Inv A) (h : finish P fn f A = some (r, A')) : AFr A A' ∧ ∀ (φ : Emb) (T : Nat → Prop) (w : World) (a : Act), FRel φ f a → Rel P φ T A w → Foot A A' T →
    ∃ v', EndRel φ r (.returned v') ∧ (results fn a.tmps).run P w = .ok v' w ∧ Post P φ T A A' w w φ := by
  have key : ∃ vs, resultsA P f fn.results.toList A = some (vs, A') ∧ r = .ret (resV vs) := by
    unfold finish at h
    split at h
    · rename_i v s hs
      injection h with h
      injection h with h1 h2
      subst h1
      subst h2
      exact ⟨_, hs, rfl⟩
    · rename_i vs s hne hs
      injection h with h
      injection h with h1 h2
      subst h1
      subst h2
      refine ⟨_, hs, ?_⟩
      cases vs with
      | nil => rfl
      | cons v vs => cases vs with
        | nil => exact (hne _ rfl).elim
        | cons u us => rfl
    · cases h
  obtain ⟨vs, hs, rfl⟩ := key
  obtain ⟨f1, r1⟩ := resultsA_run f _ hi hs
  refine ⟨f1, fun φ T w a hf hr hT => ?_⟩
  obtain ⟨vs', g1, g2, g3⟩ := r1 φ T w a hf hr hT
  refine ⟨resV vs', .ret _ _ ?_, results_run g2, g3⟩
  cases g1 with
  | nil => exact .tuple _ _ .nil
  | cons v v' l l' hv hs2 =>
    cases hs2 with
    | nil => exact hv
    | cons u u' m m' hu hm => exact .tuple _ _ (.cons _ _ _ _ hv (.cons _ _ _ _ hu hm))
end
end Go.EvL

namespace Go.EvL
open Go
inductive URel (φ : Emb) : Option Value → FrameMode → Prop
  | ret : URel φ none .returning
  | panic (v v' : Value) (h : VRel φ v v') : URel φ (some v) (.panicking [{ v := v', recovered := false }])
theorem URel.mono {φ φ' : Emb} (he : Ext φ φ') {u : Option Value} {m : FrameMode} (h : URel φ u m) : URel φ' u m := by
  cases h with
  | ret => exact .ret
  | panic v v' h => exact .panic v v' (h.mono he)
def DeferOK (P : Program) (call : CallF) : Prop := ∀ (d : Deferred) (A : AS) (u : Option Value) (A' : AS) (u' : Option Value), Inv A → A'.next ≤ A'.next → evalDeferred P call d A u = some (A', u') → AFr A A' ∧
  ∀ (φ : Emb) (T : Nat → Prop) (w : World) (d' : Deferred) (m : FrameMode), DRel φ d d' → URel φ u m → Rel P φ T A w → Foot A A' T → Fresh A A' φ →
    ∃ fv cap g args, d'.target = .fn fv cap ∧ (invoke d'.target d'.args).run P w = .ok (.enter g args) w ∧ CallsD P g args m w fun e m' w' => ∃ v φ', e = .returned v ∧ Post P φ T A A' w w' φ' ∧ URel φ' u' (settle m')
def DeferMono (P : Program) (call : CallF) : Prop := ∀ (d : Deferred) (A : AS) (u : Option Value) (A' : AS) (u' : Option Value), evalDeferred P call d A u = some (A', u') → A.next ≤ A'.next
section
variable {P : Program} {call : CallF}
theorem ld_next {A A' : AS} {b off n : Nat} {xs : List Value} (h : ld A b off n = some (xs, A')) : A'.next = A.next := by
  obtain ⟨_, _, _, _, _, _, _, rfl⟩ := ld_spec h
  rw [logR_eq]
theorem resCell_next {a : Option Value} {t : TypeId} {A A' : AS} {v : Value} (h : resCell P a t A = some (v, A')) : A'.next = A.next := by
  unfold resCell at h
  split at h
  · rename_i u s hl
    injection h with h
    injection h with h1 h2
    subst h2
    unfold loadA at hl
    split at hl
    · split at hl
      · unfold loadIn at hl
        rcases boolRec hl with ⟨_, h1⟩ | ⟨_, h1⟩
        · unfold oneOf at h1
          split at h1
          · rename_i hld
            injection h1 with h1
            injection h1 with _ h3
            subst h3
            exact ld_next hld
          · cases h1
        · split at h1
          · unfold aggOf at h1
            split at h1
            · rename_i hld
              injection h1 with h1
              injection h1 with _ h3
              subst h3
              exact ld_next hld
            · cases h1
          · cases h1
      · cases hl
    · cases hl
  · cases h
theorem resultsA_next (f : Fr) : ∀ (l : List ResultVar) {A A' : AS} {vs : List Value}, resultsA P f l A = some (vs, A') → A'.next = A.next := by
  intro l
  induction l with
  | nil => intro A A' vs h; have h' : some (([] : List Value), A) = some (vs, A') := h; injection h' with h'; injection h' with _ h2; rw [h2]
  | cons rv l ih =>
    intro A A' vs h
    rw [resultsA_cons] at h
    cases rv with
    | tmp t =>
      simp only at h
      split at h
      · rename_i us s hs
        injection h with h
        injection h with _ h2
        subst h2
        exact ih hs
      · cases h
    | cell b t =>
      simp only at h
      split at h
      · rename_i v s hc
        split at h
        · rename_i us s2 hs
          injection h with h
          injection h with _ h2
          subst h2
          rw [ih hs, resCell_next hc]
        · cases h
      · cases h
theorem finish_next {fn : Func} {f : Fr} {A A' : AS} {r : AEnd} (h : finish P fn f A = some (r, A')) : A'.next = A.next := by
  unfold finish at h
  split at h
  · rename_i hs
    injection h with h
    injection h with _ h2
    subst h2
    exact resultsA_next f _ hs
  · rename_i hs
    injection h with h
    injection h with _ h2
    subst h2
    exact resultsA_next f _ hs
  · cases h
theorem leave_cons {fn : Func} {f : Fr} (d : Deferred) (ds : List Deferred) (A : AS) (u : Option Value) : leave P call fn f (d :: ds) A u = (match evalDeferred P call d A u with
    | some (s, u') => leave P call fn f ds s u'
    | none => none) := rfl
theorem leave_mono (hD : DeferMono P call) {fn : Func} {f : Fr} : ∀ (ds : List Deferred) {A A' : AS} {u : Option Value} {r : AEnd}, leave P call fn f ds A u = some (r, A') → A.next ≤ A'.next := by
  intro ds
  induction ds with
  | nil =>
    intro A A' u r h
    have h' : leaveNil P fn f A u = some (r, A') := h
    unfold leaveNil at h'
    split at h'
    · rw [finish_next h']; exact Nat.le_refl _
    · injection h' with h'; injection h' with _ h2; rw [h2]; exact Nat.le_refl _
  | cons d ds ih =>
    intro A A' u r h
    rw [leave_cons] at h
    split at h
    · rename_i s u' hd
      exact Nat.le_trans (hD _ _ _ _ _ hd) (ih h)
    · cases h
theorem leave_sound (hD : DeferOK P call) (hDm : DeferMono P call) {fn : Func} {f : Fr} : ∀ (ds : List Deferred) {A A' : AS} {u : Option Value} {r : AEnd}, Inv A → A'.next ≤ A'.next → leave P call fn f ds A u = some (r, A') → AFr A A' ∧
    ∀ (φ : Emb) (T : Nat → Prop) (w : World) (a : Act) (ds' : List Deferred) (m : FrameMode), FRel φ f a → DRels φ ds ds' → URel φ u m → Rel P φ T A w → Foot A A' T → Fresh A A' φ →
      ∀ (R : Ending → World → Prop), (∀ φ' w' e, Post P φ T A A' w w' φ' → EndRel φ' r e → R e w') → Leaves P fn a.tmps R ds' m w := by
  intro ds
  induction ds with
  | nil =>
    intro A A' u r hi hn h
    have h' : leaveNil P fn f A u = some (r, A') := h
    unfold leaveNil at h'
    split at h'
    · obtain ⟨f1, r1⟩ := finish_run hi h'
      refine ⟨f1, fun φ T w a ds' m hf hd hu hr hT _ R hR => ?_⟩
      cases hd
      cases hu
      obtain ⟨v', g1, g2, g3⟩ := r1 φ T w a hf hr hT
      exact ⟨v', g2, hR φ w _ g3 g1⟩
    · injection h' with h'
      injection h' with h1 h2
      subst h1
      subst h2
      refine ⟨.refl hi, fun φ T w a ds' m hf hd hu hr hT _ R hR => ?_⟩
      cases hd
      cases hu with
      | panic _ v' hv => exact hR φ w _ (.refl hr rfl rfl rfl rfl rfl rfl rfl) (.panic _ _ hv)
  | cons d ds ih =>
    intro A A' u r hi hn h
    rw [leave_cons] at h
    split at h
    · rename_i B u' hd
      have hle := leave_mono hDm ds h
      obtain ⟨f1, r1⟩ := hD _ _ _ _ _ hi (Nat.le_refl _) hd
      obtain ⟨f2, r2⟩ := ih f1.inv hn h
      refine ⟨f1.trans f2, fun φ T w a ds' m hf hds hu hr hT hfr R hR => ?_⟩
      cases hds with
      | cons _ d' _ ds'' hdd hdl =>
        have hm : m ≠ .run := by cases hu <;> simp
        obtain ⟨fv, cap, g, args, e1, e2, e3⟩ := r1 φ T w d' m hdd hu hr (hT.left f2) (fresh_left hfr f2.next)
        refine ⟨hm, fv, cap, g, args, e1, e2, e3.mono ?_⟩
        rintro e m' w' ⟨v, φ', rfl, hp, hu'⟩
        exact r2 φ' _ w' a ds'' (settle m') (hf.mono hp.ext) (hdl.mono hp.ext) hu' hp.rel (foot_right hT) (fresh_right hfr f1.next hp) R fun φ2 w2 e hp2 he => hR φ2 w2 e (hp.trans f1.next f2 hp2) he
    · cases h
def Parts (P : Program) : Prop := ∀ call, CallOK P call → CallMono call → DrawOK P call ∧ DrawMono P call ∧ DeferOK P call ∧ DeferMono P call
theorem endBody_some {fn : Func} {r : Ex} {q : AEnd} {A' : AS} (h : endBody P call fn r = some (q, A')) : ∃ x f B, r = some (x, f, B) ∧ ((x = .normal ∨ x = .ret) ∧ leave P call fn f f.defers B none = some (q, A') ∨ ∃ v, x = .panic v ∧ leave P call fn f f.defers B (some v) = some (q, A')) := by
  unfold endBody at h
  split at h
  · exact ⟨_, _, _, rfl, .inl ⟨.inl rfl, h⟩⟩
  · exact ⟨_, _, _, rfl, .inl ⟨.inr rfl, h⟩⟩
  · exact ⟨_, _, _, rfl, .inr ⟨_, rfl, h⟩⟩
  · cases h
theorem enter_sound (hP : Parts P) (hO : OpsOK P) (hOm : OpMono P) (hC : CallOK P call) (hM : CallMono call) {g : FuncId} {fn : Func} (hfn : P.funcs[g]? = some fn) {args : Array Value} {A A' : AS} {r : AEnd} (h : enterA P call fn args A = some (r, A')) :
    A.next ≤ A'.next ∧ (Inv A → A'.next ≤ A'.next → CallSound P g args A r A') := by
  obtain ⟨hD, hDm, hF, hFm⟩ := hP call hC hM
  unfold enterA at h
  split at h
  · rename_i c hc
    obtain ⟨hb, h⟩ := boolSome h
    simp only [Bool.and_eq_true] at hb
    have b1 := Nat.le_of_ble_eq_true hb.1
    have b2 := Nat.le_of_ble_eq_true hb.2
    obtain ⟨x, f, B, h1, h2⟩ := endBody_some h
    have m1 := evalCode_mono hOm hM hDm c _ _ _ _ _ h1
    have m2 : B.next ≤ A'.next := by
      rcases h2 with ⟨_, h2⟩ | ⟨v, _, h2⟩
      · exact leave_mono hFm _ h2
      · exact leave_mono hFm _ h2
    refine ⟨Nat.le_trans m1 m2, fun hi hn => ?_⟩
    have s1 := evalCode_sound hO hOm hC hM hD hDm c _ _ _ _ _ hi (Nat.le_refl _) h1
    rcases h2 with ⟨hx, h2⟩ | ⟨v, rfl, h2⟩
    · obtain ⟨f2, r2⟩ := leave_sound hF hFm _ s1.fr.inv hn h2
      refine ⟨s1.fr.trans f2, fun φ T w args' hargs hr hT hfr => calls_of_wp_defers hfn hc ?_⟩
      refine s1.run φ T w _ (init_rel hargs b1 b2) hr (hT.left f2) (fresh_left hfr f2.next) _ fun φ' w' a' e hp hf' he => ?_
      have key := r2 φ' _ w' a' a'.defers .returning hf' hf'.defers .ret hp.rel (foot_right hT) (fresh_right hfr s1.fr.next hp) (fun e w' => ∃ φ', Post P φ T A A' w w' φ' ∧ EndRel φ' r e) fun φ2 w2 e hp2 he => ⟨φ2, hp.trans s1.fr.next f2 hp2, he⟩
      rcases hx with rfl | rfl
      · cases he; exact key
      · cases he; exact key
    · obtain ⟨f2, r2⟩ := leave_sound hF hFm _ s1.fr.inv hn h2
      refine ⟨s1.fr.trans f2, fun φ T w args' hargs hr hT hfr => calls_of_wp_defers hfn hc ?_⟩
      refine s1.run φ T w _ (init_rel hargs b1 b2) hr (hT.left f2) (fresh_left hfr f2.next) _ fun φ' w' a' e hp hf' he => ?_
      cases he with
      | panic _ v' hv =>
        exact r2 φ' _ w' a' a'.defers _ hf' hf'.defers (.panic _ _ hv) hp.rel (foot_right hT) (fresh_right hfr s1.fr.next hp) (fun e w' => ∃ φ', Post P φ T A A' w w' φ' ∧ EndRel φ' r e) fun φ2 w2 e hp2 he => ⟨φ2, hp.trans s1.fr.next f2 hp2, he⟩
  · cases h
def OrcOK (P : Program) (orc : Orc) : Prop := ∀ (g : FuncId) (args : Array Value) (A : AS) (r : AEnd) (A' : AS), orcCall orc g args A = some (some (r, A')) → A.next ≤ A'.next ∧ (Inv A → A'.next ≤ A'.next → CallSound P g args A r A')
theorem evalCall_sound (hP : Parts P) (hO : OpsOK P) (hOm : OpMono P) {orc : Orc} (hQ : OrcOK P orc) : ∀ n, CallOK P (evalCall P orc n) ∧ CallMono (evalCall P orc n) := by
  intro n
  induction n with
  | zero => exact ⟨fun g args A r A' _ _ h => (by cases h), fun g args A r A' h => (by cases h)⟩
  | succ n ih =>
    have key : ∀ g args A r A', evalCall P orc (n + 1) g args A = some (r, A') → A.next ≤ A'.next ∧ (Inv A → A'.next ≤ A'.next → CallSound P g args A r A') := by
      intro g args A r A' h
      have h' : (match orcCall orc g args A with | some r => r | none => plainCall P (evalCall P orc n) g args A) = some (r, A') := h
      split at h'
      · rename_i q hq
        subst h'
        exact hQ g args A r A' hq
      · unfold plainCall at h'
        split at h'
        · cases h'
        · rename_i fn hfn
          exact enter_sound hP hO hOm ih.1 ih.2 hfn h'
    exact ⟨fun g args A r A' hi hn h => (key g args A r A' h).2 hi hn, fun g args A r A' h => (key g args A r A' h).1⟩
end
end Go.EvL

namespace Go.EvL
open Go
section
variable {P : Program} {f : Fr} {o : Oper} {A A' : AS} {nx : ANext}
theorem pair_next {a : ANext} {s : AS} (h : some (a, s) = some (nx, A')) (hs : A.next ≤ s.next) : A.next ≤ A'.next := by injection h with h; injection h with _ h; rw [← h]; exact hs
theorem valR_next {x : Option Value} {s : AS} (h : valR s x = some (nx, A')) (hs : A.next ≤ s.next) : A.next ≤ A'.next := by
  obtain ⟨_, _, _, rfl⟩ := valR_some h; exact hs
theorem purely_next (h : purely P f o A = some (nx, A')) : A.next ≤ A'.next := by
  unfold purely at h
  obtain ⟨_, h⟩ := boolSome h
  unfold valOfNext at h
  split at h
  · obtain ⟨_, h⟩ := boolSome h
    exact pair_next h (Nat.le_refl _)
  · cases h
theorem logR_next (s : AS) (c : Nat) : (logR s c).next = s.next := by rw [logR_eq]
theorem logW_next (s : AS) (c : Nat) : (logW s c).next = s.next := by rw [logW_eq]
theorem put_next (s : AS) (b : Nat) (o : AObj) : (s.put b o).next = s.next := by rw [put_eq]
theorem new_next (s : AS) (o : Nat → AObj) : (s.new o).next = s.next + 1 := by rw [new_eq]
theorem setMem_next (s : AS) (c : Nat) (l : List Nat) : (setMem s c l).next = s.next := by rw [setMem_eq]
theorem setFz_next (s : AS) (c k : Nat) : (setFz s c k).next = s.next := by rw [setFz_eq]
theorem alone_next (s : AS) (b c : Nat) : (alone s b c).next = s.next := by
  unfold alone
  split
  · rfl
  · rw [setMem_next, kill_next]
theorem stc_next {b off : Nat} {vs : List Value} (h : stc A b off vs = some A') : A'.next = A.next := by
  unfold stc at h
  split at h
  · unfold stIn at h
    obtain ⟨_, h⟩ := boolSome h
    rw [forceL_eq] at h
    injection h with h
    rw [← h, logW_next, put_next, alone_next]
  · cases h
theorem appendA_next {e : TypeId} {v : Value} {xs : List Value} {n : Nat} (h : appendA P e A v xs n = some (nx, A')) : A.next ≤ A'.next := by
  unfold appendA at h
  split at h
  · split at h
    · rename_i i _
      cases n with
      | zero => exact pair_next h (Nat.le_refl _)
      | succ n =>
        have h' : (Bool.rec none (appTo e A _ _ (n + 1) i.size xs) (appOk i i.size _ (n + 1) xs) : Res) = some (nx, A') := h
        obtain ⟨_, h1⟩ := boolSome h'
        unfold appTo at h1
        split at h1
        · obtain ⟨_, h2⟩ := boolSome h1
          exact pair_next h2 (by rw [newRow_next]; omega)
        · split at h1
          · obtain ⟨_, h2⟩ := boolSome h1
            rw [app_next h2]; omega
          · cases h1
        · split at h1
          · unfold appX at h1
            rw [forceL_eq] at h1
            obtain ⟨_, h2⟩ := boolSome h1
            exact pair_next h2 (by rw [newRow_next, logR_next]; omega)
          · cases h1
        · cases h1
    · cases h
  · cases h
theorem callA_next {g : FuncId} {vs : List Value} (h : callA P g vs A = some (nx, A')) : A.next ≤ A'.next := by
  unfold callA at h
  split at h
  · cases h
  · split at h
    · exact pair_next h (Nat.le_refl _)
    · rcases boolRec h with ⟨_, h⟩ | ⟨_, h⟩
      · obtain ⟨_, h⟩ := boolSome h
        unfold valOfNext at h
        split at h
        · obtain ⟨_, h⟩ := boolSome h
          exact pair_next h (Nat.le_refl _)
        · cases h
      · split at h
        · exact pair_next h (Nat.le_refl _)
        · cases h
theorem boxA_next {e : TypeId} {x : Option Value} (h : boxA A e x = some (nx, A')) : A.next ≤ A'.next := by
  unfold boxA at h
  split at h
  · exact pair_next h (by rw [newRow_next]; omega)
  · cases h
theorem buildA_next {t : TypeId} {ps : Array (Nat × Operand)} (h : buildA P f t ps A = some (nx, A')) : A.next ≤ A'.next := by
  unfold buildA at h
  split at h
  · obtain ⟨_, h⟩ := boolSome h
    rw [Option.map_eq_some_iff] at h
    obtain ⟨cs, _, h⟩ := h
    injection h with _ h
    rw [← h]; exact Nat.le_refl _
  · rw [Option.bind_eq_some_iff] at h
    obtain ⟨n, _, h⟩ := h
    rw [Option.map_eq_some_iff] at h
    obtain ⟨cs, _, h⟩ := h
    injection h with _ h
    rw [← h]; exact Nat.le_refl _
  · cases h
theorem buildSliceA_next {t : TypeId} {len : Nat} {ps : Array (Nat × Operand)} (h : buildSliceA P f t len ps A = some (nx, A')) : A.next ≤ A'.next := by
  unfold buildSliceA at h
  split at h
  · split at h
    · split at h
      · rw [Option.map_eq_some_iff] at h
        obtain ⟨cs, _, h⟩ := h
        injection h with _ h
        rw [← h, newRow_next]; omega
      · cases h
    · cases h
  · cases h
theorem oneOf_next {r : Option (List Value × AS)} (hr : ∀ xs s, r = some (xs, s) → A.next ≤ s.next) (h : oneOf r = some (nx, A')) : A.next ≤ A'.next := by
  unfold oneOf at h
  split at h
  · exact pair_next h (hr _ _ rfl)
  · cases h
theorem aggOf_next {r : Option (List Value × AS)} (hr : ∀ xs s, r = some (xs, s) → A.next ≤ s.next) (h : aggOf r = some (nx, A')) : A.next ≤ A'.next := by
  unfold aggOf at h
  split at h
  · exact pair_next h (hr _ _ rfl)
  · cases h
theorem loadA_next {t : TypeId} {x : Option Value} (h : loadA P t x A = some (nx, A')) : A.next ≤ A'.next := by
  unfold loadA at h
  split at h
  · split at h
    · unfold loadIn at h
      rcases boolRec h with ⟨_, h⟩ | ⟨_, h⟩
      · exact oneOf_next (fun xs s hs => by rw [ld_next hs]; exact Nat.le_refl _) h
      · split at h
        · exact aggOf_next (fun xs s hs => by rw [ld_next hs]; exact Nat.le_refl _) h
        · cases h
    · cases h
  · cases h
theorem storeA_next {t : TypeId} {x y : Option Value} (h : storeA P t x y A = some (nx, A')) : A.next ≤ A'.next := by
  unfold storeA at h
  split at h
  · split at h
    · split at h
      · obtain ⟨_, h⟩ := boolSome h
        unfold skipOf at h
        split at h
        · rename_i hs
          exact pair_next h (by rw [stc_next hs]; exact Nat.le_refl _)
        · cases h
      · cases h
    · cases h
  · cases h
theorem cmpR_next {op : BinOp} {b : Bool} (h : cmpR op b A = some (nx, A')) : A.next ≤ A'.next := by
  unfold cmpR at h
  split at h
  · exact pair_next h (Nat.le_refl _)
  · exact pair_next h (Nat.le_refl _)
  · cases h
theorem binA_next {op : BinOp} {t : TypeId} {x y : Option Value} (h : binA P f o op t x y A = some (nx, A')) : A.next ≤ A'.next := by
  unfold binA at h
  split at h
  · split at h
    · split at h
      · exact pair_next h (Nat.le_refl _)
      · unfold slowBin at h
        split at h
        · exact cmpR_next h
        · exact cmpR_next h
        · exact cmpR_next h
        · unfold samePtr at h
          split at h
          · obtain ⟨_, h⟩ := boolSome h
            exact cmpR_next h
          · cases h
        · exact purely_next h
    · cases h
  · cases h
theorem bytesStr_next {b off n : Nat} (h : bytesStr b off n A = some (nx, A')) : A.next ≤ A'.next := by
  cases n with
  | zero => exact pair_next h (Nat.le_refl _)
  | succ n =>
    have h' : (match ld A b off (n + 1) with
      | some (xs, s) => (match bytesOfCells xs with
        | some l => forceL l fun l => some (ANext.val (.string ⟨⟨l⟩⟩), s)
        | none => none)
      | none => none) = some (nx, A') := h
    split at h'
    · rename_i hl
      split at h'
      · rw [forceL_eq] at h'
        exact pair_next h' (by rw [ld_next hl]; exact Nat.le_refl _)
      · cases h'
    · cases h'
theorem convA_next {a b : TypeId} {x : Option Value} (h : convA P f o a b x A = some (nx, A')) : A.next ≤ A'.next := by
  unfold convA at h
  split at h
  · split at h
    · split at h
      · exact bytesStr_next h
      · cases h
    · cases h
  · unfold ptrConv at h
    split at h
    · split at h
      · unfold toUnsafe at h
        split at h
        · split at h
          · obtain ⟨_, h⟩ := boolSome h
            exact pair_next h (by rw [logR_next]; exact Nat.le_refl _)
          · cases h
        · cases h
      · unfold fromUnsafe at h
        split at h
        · split at h
          · obtain ⟨_, h⟩ := boolSome h
            exact pair_next h (by rw [logR_next]; exact Nat.le_refl _)
          · cases h
        · cases h
      · cases h
    · exact purely_next h
  · split at h
    · split at h
      · unfold strBytes at h
        rw [forceN_eq] at h
        obtain ⟨_, h⟩ := boolSome h
        exact pair_next h (by rw [logW_next, logR_next, setFz_next, newRow_next]; omega)
      · cases h
    · exact purely_next h
  · exact purely_next h
theorem sliceA_next {t : TypeId} {x : Option Value} {lo hi mx : Option Operand} (h : sliceA P f o t x lo hi mx A = some (nx, A')) : A.next ≤ A'.next := by
  unfold sliceA at h
  split at h
  · split at h
    · split at h
      · have inN : ∀ (a1 a2 a3 a4 a5 a6 a7 c : Nat), sliceIn a1 a2 a3 a4 a5 a6 a7 (logR A c) = some (nx, A') → A.next ≤ A'.next := fun a1 a2 a3 a4 a5 a6 a7 c h => by
          unfold sliceIn at h
          obtain ⟨_, h⟩ := boolSome h
          exact pair_next h (by rw [logR_eq]; exact Nat.le_refl _)
        cases mx with
        | none =>
          have h2 : sliceAt P _ _ _ _ _ _ _ A = some (nx, A') := h
          unfold sliceAt at h2
          split at h2
          · exact inN _ _ _ _ _ _ _ _ h2
          · cases h2
        | some y =>
          have h2 : sliceMax P _ _ _ _ _ _ _ A = some (nx, A') := h
          unfold sliceMax at h2
          split at h2
          · rcases boolRec h2 with ⟨_, h3⟩ | ⟨_, h3⟩
            · exact inN _ _ _ _ _ _ _ _ h3
            · unfold sliceX at h3
              obtain ⟨_, h3⟩ := boolSome h3
              exact pair_next h3 (by rw [logR_eq]; exact Nat.le_refl _)
          · cases h2
      · cases h
    · cases h
  · split at h
    · split at h
      · exact pair_next h (Nat.le_refl _)
      · cases h
    · exact purely_next h
  · split at h
    · split at h
      · unfold strSlice at h
        obtain ⟨_, h⟩ := boolSome h
        rw [forceL_eq] at h
        exact pair_next h (Nat.le_refl _)
      · cases h
    · cases h
  · exact purely_next h
theorem builtinA_next {b : Builtin} {args : List Operand} {tys : List TypeId} (h : builtinA P f o b args tys A = some (nx, A')) : A.next ≤ A'.next := by
  unfold builtinA at h
  split at h
  · unfold lenA at h
    split at h
    · exact pair_next h (Nat.le_refl _)
    · rw [forceN_eq] at h; exact pair_next h (Nat.le_refl _)
    · unfold lenMapA at h
      split at h
      · rw [forceN_eq] at h; exact pair_next h (by rw [logR_eq]; exact Nat.le_refl _)
      · cases h
    · exact purely_next h
  · split at h
    · unfold appA at h
      split at h
      · split at h
        · rename_i harg
          have sp := arg_spec harg
          have := appendA_next h
          rw [sp.next] at this
          exact this
        · cases h
      · cases h
    · cases h
  · split at h
    · unfold copyA at h
      split at h
      · split at h
        · rename_i xs m A1 i harg hin
          have sp := arg_spec harg
          obtain ⟨_, h⟩ := boolSome h
          cases m with
          | zero =>
            have h' : some (ANext.val (.int .i64 (.ofNat 0)), A1) = some (nx, A') := h
            exact pair_next h' (Nat.le_of_eq sp.next.symm)
          | succ m0 =>
            have h' : (match (generalizing := false) (‹Option Addr›) with
              | some ⟨b, off, none⟩ => match stc A1 b off xs with
                | some s => some (ANext.val (.int .i64 (.ofNat (Nat.add m0 1))), s)
                | none => none
              | _ => none) = some (nx, A') := h
            split at h'
            · split at h'
              · rename_i s1 hs1
                have := stc_next hs1
                exact pair_next h' (by have := sp.next; omega)
              · cases h'
            · cases h'
        · cases h
      · cases h
    · cases h
  · exact pair_next h (Nat.le_refl _)
  · split at h
    · unfold dataA at h
      split at h
      · exact pair_next h (Nat.le_refl _)
      · exact purely_next h
    · cases h
  · split at h
    · unfold ustrA at h
      split at h
      · unfold ustrRow at h
        split at h
        · split at h
          · obtain ⟨_, h⟩ := boolSome h
            unfold ustrIn at h
            split at h
            · rw [forceL_eq] at h
              obtain ⟨_, h⟩ := boolSome h
              exact pair_next h (by rw [logW_next, logR_next, setFz_next]; exact Nat.le_refl _)
            · cases h
          · cases h
        · cases h
      · exact purely_next h
    · cases h
  · exact purely_next h
theorem calleeA_next {c : Call} (h : calleeA P f o c A = some (nx, A')) : A.next ≤ A'.next := by
  unfold calleeA at h
  split at h
  · unfold callV at h
    split at h
    · exact callA_next h
    · cases h
  · exact builtinA_next h
  · cases h
theorem opMono (P : Program) : OpMono P := by
  intro f o A nx A' h
  obtain ⟨d, op, ty, pos, af, gd⟩ := o
  cases op with
  | move x => exact valR_next (show valR A (f.eval x) = _ from h) (Nat.le_refl _)
  | assign x => exact valR_next (show valR A (f.eval x) = _ from h) (Nat.le_refl _)
  | pick c a b =>
    have h' : pickA f (f.eval c) a b A = some (nx, A') := h
    unfold pickA at h'
    split at h'
    · exact valR_next h' (Nat.le_refl _)
    · exact valR_next h' (Nat.le_refl _)
    · cases h'
  | alloc e => exact boxA_next (show boxA A e (zeroOf P e) = _ from h)
  | box e x => exact boxA_next (show boxA A e (f.eval x) = _ from h)
  | build t ps => exact buildA_next (show buildA P f t ps A = _ from h)
  | buildSlice t n ps => exact buildSliceA_next (show buildSliceA P f t n ps A = _ from h)
  | insert => cases h
  | load t a => exact loadA_next (show loadA P t (evalG P f a) A = _ from h)
  | store t a x => exact storeA_next (show storeA P t (f.eval a) (f.eval x) A = _ from h)
  | ready => cases h
  | waits => cases h
  | nilCheck x =>
    have h' : nilCheckA P f _ (f.eval x) A = some (nx, A') := h
    unfold nilCheckA at h'
    split at h'
    · exact pair_next h' (Nat.le_refl _)
    · exact pair_next h' (Nat.le_refl _)
    · exact purely_next h'
  | binOp op t x y u => exact binA_next (show binA P f _ op t (f.eval x) (f.eval y) A = _ from h)
  | unOp => exact purely_next (show purely P f _ A = _ from h)
  | convert a b x => exact convA_next (show convA P f _ a b (f.eval x) A = _ from h)
  | sliceToArrayPointer => cases h
  | makeInterface t x =>
    have h' : ifaceA P t (f.eval x) A = some (nx, A') := h
    unfold ifaceA at h'
    split at h'
    · split at h'
      · cases h'
      · exact pair_next h' (Nat.le_refl _)
      · cases h'
    · cases h'
  | makeFunc fn a b =>
    have h' : funcA f fn a b A = some (nx, A') := h
    unfold funcA at h'
    split at h'
    · split at h'
      · split at h'
        · exact pair_next h' (Nat.le_refl _)
        · cases h'
      · cases h'
    · cases h'
  | makeMap t r =>
    cases r with
    | none =>
      exact pair_next (show some (ANext.val (.map (some A.next)), A.new fun _ => .map [] 0) = some (nx, A') from h)
        (by rw [new_next]; omega)
    | some _ => cases h
  | makeChan => cases h
  | makeSlice t l c =>
    have h' : makeA P t (f.eval l) (f.eval c) A = some (nx, A') := h
    unfold makeA at h'
    split at h'
    · split at h'
      · split at h'
        · unfold makeIn at h'
          obtain ⟨_, h'⟩ := boolSome h'
          exact pair_next h' (by rw [newRow_next]; omega)
        · cases h'
      · cases h'
    · cases h'
  | slice t x lo hi mx =>
    have hg : sliceG mx hi (sliceA P f ⟨d, .slice t x lo hi mx, ty, pos, af, gd⟩ t (f.eval x) lo hi mx A) = some (nx, A') := h
    have h' : sliceA P f ⟨d, .slice t x lo hi mx, ty, pos, af, gd⟩ t (f.eval x) lo hi mx A = some (nx, A') := by cases mx <;> cases hi <;> first | exact hg | cases hg
    exact sliceA_next h'
  | fieldAddr t x i =>
    have h' : fieldAddrA P t (evalG P f x) i A = some (nx, A') := h
    unfold fieldAddrA at h'
    split at h'
    · split at h'
      · split at h'
        · split at h'
          · exact pair_next h' (Nat.le_refl _)
          · cases h'
        · cases h'
      · cases h'
    · cases h'
  | field t x i =>
    have h' : fieldA P t (f.eval x) i A = some (nx, A') := h
    unfold fieldA at h'
    split at h'
    · split at h'
      · split at h'
        · exact valR_next h' (Nat.le_refl _)
        · cases h'
      · cases h'
    · cases h'
  | indexAddr t x i =>
    have h' : indexAddrA P t (evalG P f x) (f.eval i) A = some (nx, A') := h
    unfold indexAddrA at h'
    split at h'
    · obtain ⟨_, _, _, _, rfl⟩ := elem_ok h'; exact Nat.le_refl _
    · obtain ⟨_, _, _, _, rfl⟩ := elem_ok h'; exact Nat.le_refl _
    · obtain ⟨_, _, _, _, rfl⟩ := elem_ok h'; exact Nat.le_refl _
    · cases h'
  | index t x i =>
    have h' : indexA P f _ t (f.eval x) (f.eval i) A = some (nx, A') := h
    unfold indexA at h'
    split at h'
    · split at h'
      · split at h'
        · unfold byteA at h'
          split at h'
          · rw [forceN_eq] at h'; exact pair_next h' (Nat.le_refl _)
          · cases h'
        · cases h'
      · cases h'
    · exact purely_next h'
  | lookup t x k ok =>
    have h' : lookupA P t (f.eval x) (f.eval k) ok A = some (nx, A') := h
    unfold lookupA at h'
    split at h'
    · split at h'
      · split at h'
        · split at h'
          · exact pair_next h' (by rw [logR_next]; exact Nat.le_refl _)
          · split at h'
            · exact pair_next h' (by rw [logR_next]; exact Nat.le_refl _)
            · cases h'
          · cases h'
        · cases h'
      · cases h'
    · cases h'
  | mapUpdate t m k x =>
    have h' : mapUpdateA P t (f.eval m) (f.eval k) (f.eval x) A = some (nx, A') := h
    unfold mapUpdateA at h'
    split at h'
    · split at h'
      · split at h'
        · split at h'
          · exact pair_next h' (by rw [logW_next, logR_next, put_next]; exact Nat.le_refl _)
          · cases h'
        · cases h'
      · cases h'
    · cases h'
  | mapEntry => cases h
  | entryStore => cases h
  | range t x =>
    have h' : rangeA P t (f.eval x) A = some (nx, A') := h
    unfold rangeA at h'
    split at h'
    · exact pair_next h' (by rw [new_next]; omega)
    · cases h'
  | next it b =>
    have h' : nextA (f.eval it) b A = some (nx, A') := h
    unfold nextA at h'
    split at h'
    · split at h'
      · unfold nextIn at h'
        rcases boolRec h' with ⟨_, h1⟩ | ⟨_, h1⟩
        · exact pair_next h1 (by rw [logR_next]; exact Nat.le_refl _)
        · exact pair_next h1 (by rw [logW_next, logR_next, put_next]; exact Nat.le_refl _)
      · cases h'
    · cases h'
  | entry => cases h
  | typeAssert x t a ok =>
    have h' : assertA P (f.eval x) a ok A = some (nx, A') := h
    unfold assertA at h'
    split at h'
    · cases h'
    · rcases boolRec h' with ⟨_, h1⟩ | ⟨_, h1⟩
      · split at h1
        · exact pair_next h1 (Nat.le_refl _)
        · cases h1
      · exact pair_next h1 (Nat.le_refl _)
    · cases h'
  | extract t i =>
    have h' : extractA (f.eval t) i A = some (nx, A') := h
    unfold extractA at h'
    split at h'
    · exact valR_next h' (Nat.le_refl _)
    · cases h'
  | call c => exact calleeA_next (show calleeA P f _ c A = _ from h)
  | go => cases h
  | defer c =>
    have h' : deferA f c A = some (nx, A') := h
    unfold deferA at h'
    split at h'
    · split at h'
      · exact pair_next h' (Nat.le_refl _)
      · cases h'
    · cases h'
  | panic x =>
    have h' : panicA (f.eval x) A = some (nx, A') := h
    unfold panicA at h'
    split at h'
    · exact pair_next h' (Nat.le_refl _)
    · cases h'
  | send => cases h
  | recv => cases h
  | select => cases h
end
end Go.EvL
