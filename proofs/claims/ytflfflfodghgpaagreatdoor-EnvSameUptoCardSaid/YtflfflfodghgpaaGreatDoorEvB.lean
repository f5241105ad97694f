/- An evaluator for closed calls, and its soundness. No statement is proved here. -/
import Derived.Test.YtflfflfodghgpaaGreatDoorEvA
import Derived.MapKept
import Derived.Deep.Upon
import Derived.LoopN
import Derived.Recover
import Derived.Laws.Tables
import Derived.Great.BuildSlice
import Derived.Laws.RangeString
import Derived.Laws.BytesArg
import Derived.Lib.Builder
import Derived.Lib.UnsafeStr
import Derived.Laws.MakeOwn
set_option linter.unusedSimpArgs false
set_option linter.unusedVariables false
namespace Go.EvL
open Go
theorem notShare {op : BinOp} {x y : Value} {t : TypeId} {xo yo : Operand} {P : Program} {w : World} {b : Bool} (hg : (eqGuard op t xo yo x y).run P w = .ok () w) (he : (Op.equal t x y).run P w = .ok b w)
    (hx : ∀ k n, x ≠ .int k n) (hf : ∀ k n, x ≠ .float k n) (hc : ∀ k a b, x ≠ .complex k a b) (hs : ∀ s, x ≠ .string s) :
    (op = .eql → (do eqGuard op t xo yo x y; binOp op t x y : Sem Value).run P w = .ok (.bool b) w) ∧ (op = .neq → (do eqGuard op t xo yo x y; binOp op t x y : Sem Value).run P w = .ok (.bool (!b)) w) := by
  constructor
  · rintro rfl
    rw [Sem.run_bind, hg]
    simp only [Result.andThen]
    have : binOp .eql t x y = (do pure (.bool (← Op.equal t x y)) : Sem Value) := by
      cases x <;> first | rfl | exact absurd rfl (hx _ _) | exact absurd rfl (hf _ _) | exact absurd rfl (hc _ _ _) | exact absurd rfl (hs _)
    rw [this, Sem.run_bind, he]
    rfl
  · rintro rfl
    rw [Sem.run_bind, hg]
    simp only [Result.andThen]
    have : binOp .neq t x y = (do pure (.bool (!(← Op.equal t x y))) : Sem Value) := by
      cases x <;> first | rfl | exact absurd rfl (hx _ _) | exact absurd rfl (hf _ _) | exact absurd rfl (hc _ _ _) | exact absurd rfl (hs _)
    rw [this, Sem.run_bind, he]
    rfl
theorem equal_ptr_nil {P : Program} {t e : TypeId} (hu : P.underlying t = some (.pointer e)) (a : Addr) (w : World) (n : Nat) : (Op.equalIn (n + 1) t (.pointer (some a)) (.pointer none)).run P w = .ok false w := by
  rw [Op.equalIn, Sem.run_bind, run_underlying hu]
  rfl
theorem equal_iface_nil {P : Program} {t u : TypeId} {m : Array (String × TypeId)} {v : Value} (hu : P.underlying t = some (.interface m)) (w : World) (n : Nat) : (Op.equalIn (n + 1) t (.iface u v) .nilIface).run P w = .ok false w := by
  rw [Op.equalIn, Sem.run_bind, run_underlying hu]
  rfl
theorem equal_slice_nil {P : Program} {t e : TypeId} (hu : P.underlying t = some (.slice e)) (a : Addr) (l c l' c' : Nat) (w : World) (n : Nat) : (Op.equalIn (n + 1) t (.slice (some a) l c) (.slice none l' c')).run P w = .ok false w := by
  rw [Op.equalIn, Sem.run_bind, run_underlying hu]
  rfl
theorem equal_ptr_same {P : Program} {t e m : TypeId} (hu : P.underlying t = some (.pointer e)) (hs : szOf P e = some (m + 1)) (g o1 o2 : Nat) (w : World) (n : Nat) : (Op.equalIn (n + 1) t (.pointer (some ⟨g, o1, none⟩)) (.pointer (some ⟨g, o2, none⟩))).run P w = .ok (Nat.beq o1 o2) w := by
  have hbq : (({ block := g, off := o1 } : Addr) == { block := g, off := o2 }) = Nat.beq o1 o2 := by
    cases hz : Nat.beq o1 o2 with
    | true => rw [Nat.eq_of_beq_eq_true hz]; simp
    | false =>
      have : o1 ≠ o2 := fun e => by subst e; rw [Nat.beq_refl] at hz; cases hz
      rw [beq_eq_false_iff_ne]
      intro hh
      injection hh with _ hh
      omega
  rw [Op.equalIn, Sem.run_bind, run_underlying hu]
  simp only [Result.andThen, Sem.run_bind, run_size hs]
  simp [sameAddr, hbq]
section
variable {P : Program} {f : Fr} {A A' : AS} {nx : ANext} {d : Option Tmp} {ty : TypeId} {pos : String} {af : Array Edge} {gd : Option (Nat × Bool)}
theorem cmp_sound (hi : Inv A) {op : BinOp} {t u : TypeId} {x y : Operand} {b : Bool} (h : cmpR op b A = some (nx, A'))
    (hrun : ∀ (φ : Emb) (w : World) (a : Act), FRel φ f a → (eqGuard op t x y (a.eval x) (a.eval y)).run P w = .ok () w ∧ (Op.equal t (a.eval x) (a.eval y)).run P w = .ok b w ∧ (∀ k n, a.eval x ≠ .int k n) ∧ (∀ k n, a.eval x ≠ .float k n) ∧ (∀ k n m, a.eval x ≠ .complex k n m) ∧ (∀ s, a.eval x ≠ .string s)) :
    Sound P f A ⟨d, .binOp op t x y u, ty, pos, af, gd⟩ nx A' := by
  unfold cmpR at h
  split at h
  · injection h with h
    injection h with h1 h2
    subst h1
    subst h2
    refine sound_same hi fun φ w a hf => ?_
    obtain ⟨g1, g2, g3, g4, g5, g6⟩ := hrun φ w a hf
    have e : (execOp a.eval ⟨d, .binOp .eql t x y u, ty, pos, af, gd⟩).run P w = .ok (.value (.bool b)) w := run_v ((notShare g1 g2 g3 g4 g5 g6).1 rfl)
    rw [e]
    exact .val _ _ (.bool _)
  · injection h with h
    injection h with h1 h2
    subst h1
    subst h2
    refine sound_same hi fun φ w a hf => ?_
    obtain ⟨g1, g2, g3, g4, g5, g6⟩ := hrun φ w a hf
    have e : (execOp a.eval ⟨d, .binOp .neq t x y u, ty, pos, af, gd⟩).run P w = .ok (.value (.bool (!b))) w := run_v ((notShare g1 g2 g3 g4 g5 g6).2 rfl)
    rw [e]
    exact .val _ _ (.bool _)
  · cases h
theorem bin_sound (hi : Inv A) (op : BinOp) (t u : TypeId) (x y : Operand) (h : evalOp P f ⟨d, .binOp op t x y u, ty, pos, af, gd⟩ A = some (nx, A')) : Sound P f A ⟨d, .binOp op t x y u, ty, pos, af, gd⟩ nx A' := by
  have h' : binA P f ⟨d, .binOp op t x y u, ty, pos, af, gd⟩ op t (f.eval x) (f.eval y) A = some (nx, A') := h
  unfold binA at h'
  split at h'
  · rename_i va hx
    split at h'
    · rename_i vb hy
      split at h'
      · rename_i v hv
        injection h' with h'
        injection h' with h1 h2
        subst h1
        subst h2
        refine sound_same hi fun φ w a hf => ?_
        have hpx := hf.eval hx
        have hpy := hf.eval hy
        have hk := fastBin_ok hv P t x y w
        have ex : a.eval x = va ∧ a.eval y = vb ∧ VRel φ v v := by
          unfold fastBin at hv
          split at hv
          · split at hv
            · generalize a.eval x = q at hpx ⊢
              generalize a.eval y = q2 at hpy ⊢
              cases hpx
              cases hpy
              refine ⟨rfl, rfl, ?_⟩
              unfold fastInts at hv
              have hcv : ∀ {o : BinOp} {m n : Nat}, fastCmp o m n = some v → VRel φ v v := by
                intro o m n hh
                unfold fastCmp at hh
                split at hh
                all_goals first | (cases hh; done) | (rw [boolV_eq] at hh; injection hh with hh; subst hh; exact .bool _)
              split at hv
              · split at hv
                · unfold fastInt at hv
                  split at hv
                  · unfold fastAdd at hv
                    rw [forceN_eq] at hv
                    obtain ⟨_, hv⟩ := boolSome hv
                    injection hv with hv
                    subst hv
                    exact .int _ _
                  · unfold fastSub at hv
                    obtain ⟨_, hv⟩ := boolSome hv
                    rw [forceN_eq] at hv
                    obtain ⟨_, hv⟩ := boolSome hv
                    injection hv with hv
                    subst hv
                    exact .int _ _
                  · exact hcv hv
                · cases hv
              · split at hv
                · exact hcv hv
                · cases hv
              · split at hv
                · exact hcv hv
                · cases hv
              · cases hv
            · cases hv
          · split at hv
            · generalize a.eval x = q at hpx ⊢
              generalize a.eval y = q2 at hpy ⊢
              cases hpx
              cases hpy
              refine ⟨rfl, rfl, ?_⟩
              unfold fastStr at hv
              split at hv
              all_goals first | (cases hv; done) | (rw [boolV_eq] at hv; injection hv with hv; subst hv; exact .bool _)
            · cases hv
          · cases hv
        have e : (execOp a.eval ⟨d, .binOp op t x y u, ty, pos, af, gd⟩).run P w = .ok (.value v) w := by
          refine run_v ?_
          rw [ex.1, ex.2.1]
          exact hk
        rw [e]
        exact .val _ _ ex.2.2
      · unfold slowBin at h'
        split at h'
        · rename_i p e hu hfb
          refine cmp_sound hi h' fun φ w a hf => ?_
          have hpx := hf.eval hx
          have hpy := hf.eval hy
          generalize hq : a.eval x = q at hpx
          generalize hq2 : a.eval y = q2 at hpy
          cases hpy
          cases hpx with
          | ptr bb oo i hφ =>
            refine ⟨?_, ?_, by intros; simp, by intros; simp, by intros; simp, by intros; simp⟩
            · unfold eqGuard; cases op <;> rfl
            · exact equal_ptr_nil hu _ w 9999
        · rename_i tt vv m hu hfb
          refine cmp_sound hi h' fun φ w a hf => ?_
          have hpx := hf.eval hx
          have hpy := hf.eval hy
          generalize hq : a.eval x = q at hpx
          generalize hq2 : a.eval y = q2 at hpy
          cases hpy
          cases hpx with
          | iface _ _ v' hvv =>
            refine ⟨?_, ?_, by intros; simp, by intros; simp, by intros; simp, by intros; simp⟩
            · unfold eqGuard; cases op <;> rfl
            · exact equal_iface_nil hu w 9999
        · rename_i p l1 c1 l2 c2 e hu hfb
          refine cmp_sound hi h' fun φ w a hf => ?_
          have hpx := hf.eval hx
          have hpy := hf.eval hy
          generalize hq : a.eval x = q at hpx
          generalize hq2 : a.eval y = q2 at hpy
          cases hpy
          cases hpx with
          | slice _ _ _ _ cap' a' j hφ hl hc ha hr =>
            refine ⟨?_, ?_, by intros; simp, by intros; simp, by intros; simp, by intros; simp⟩
            · unfold eqGuard; cases op <;> rfl
            · exact equal_slice_nil hu _ _ _ _ _ w 9999
          | sliceX _ _ _ a' j hφ ha =>
            refine ⟨?_, ?_, by intros; simp, by intros; simp, by intros; simp, by intros; simp⟩
            · unfold eqGuard; cases op <;> rfl
            · exact equal_slice_nil hu _ _ _ _ _ w 9999
        · rename_i b1 o1 b2 o2 e hu hfb
          unfold samePtr at h'
          split at h'
          · rename_i m hsz
            obtain ⟨hb, h1⟩ := boolSome h'
            have hb' : b1 = b2 := Nat.eq_of_beq_eq_true hb
            subst hb'
            refine cmp_sound hi h1 fun φ w a hf => ?_
            have hpx := hf.eval hx
            have hpy := hf.eval hy
            generalize hq : a.eval x = q at hpx
            generalize hq2 : a.eval y = q2 at hpy
            cases hpx with
            | ptr _ _ i hφ =>
              cases hpy with
              | ptr _ _ i2 hφ2 =>
                obtain rfl : i2 = i := by rw [hφ] at hφ2; injection hφ2 with hφ2; exact hφ2.symm
                refine ⟨?_, ?_, by intros; simp, by intros; simp, by intros; simp, by intros; simp⟩
                · unfold eqGuard; cases op <;> rfl
                · have he := equal_ptr_same hu hsz i2.blk (i2.sh + o1) (i2.sh + o2) w 9999
                  have hb2 : Nat.beq (i2.sh + o1) (i2.sh + o2) = Nat.beq o1 o2 := by
                    cases hz : Nat.beq o1 o2 with
                    | true => rw [Nat.eq_of_beq_eq_true hz, Nat.beq_refl]
                    | false =>
                      cases hz2 : Nat.beq (i2.sh + o1) (i2.sh + o2) with
                      | false => rfl
                      | true =>
                        have := Nat.eq_of_beq_eq_true hz2
                        have h3 : o1 = o2 := by omega
                        subst h3
                        rw [Nat.beq_refl] at hz
                        cases hz
                  rw [hb2] at he
                  exact he
          · cases h'
        · exact pure_sound hi _ (by intro _ _ hh; cases hh) h'
    · cases h'
  · cases h'
end
end Go.EvL

namespace Go.EvL
open Go
section
variable {P : Program} {f : Fr} {A A' : AS} {nx : ANext} {d : Option Tmp} {ty : TypeId} {pos : String} {af : Array Edge} {gd : Option (Nat × Bool)}
theorem arg_at {φ : Emb} {a : Act} (hf : FRel φ f a) {args : Array Operand} {i : Nat} {v : Value} (h : (args.toList[i]?).bind f.eval = some v) : ∃ v', (args.map a.eval)[i]? = some v' ∧ VRel φ v v' := by
  cases hx : args.toList[i]? with
  | none => rw [hx] at h; cases h
  | some x =>
    rw [hx] at h
    refine ⟨a.eval x, ?_, hf.eval h⟩
    rw [Array.getElem?_map, show args[i]? = some x by simpa using hx]
    rfl
theorem typ_at {tys : Array TypeId} {i : Nat} {dd : TypeDesc} (h : (tys.toList[i]?).bind P.underlying = some dd) : ∃ t, tys[i]? = some t ∧ P.underlying t = some dd := by
  cases hx : tys.toList[i]? with
  | none => rw [hx] at h; cases h
  | some x => rw [hx] at h; exact ⟨x, by simpa using hx, h⟩
theorem len_sound (hi : Inv A) (args : Array Operand) (tys : Array TypeId) (h : lenA P f ⟨d, .call ⟨.builtin .len, args, tys⟩, ty, pos, af, gd⟩ ((tys.toList[0]?).bind P.underlying) ((args.toList[0]?).bind f.eval) A = some (nx, A')) :
    Sound P f A ⟨d, .call ⟨.builtin .len, args, tys⟩, ty, pos, af, gd⟩ nx A' := by
  unfold lenA at h
  split at h
  · rename_i e a0 n c ht hx
    injection h with h
    injection h with h1 h2
    subst h1
    subst h2
    refine sound_same hi fun φ w a hf => ?_
    obtain ⟨v', g1, g2⟩ := arg_at hf hx
    obtain ⟨t, g3, g4⟩ := typ_at ht
    have e : (execOp a.eval ⟨d, .call ⟨.builtin .len, args, tys⟩, ty, pos, af, gd⟩).run P w = .ok (.value (.int .i64 (n : Int))) w := by
      refine run_v ?_
      cases g2 with
      | slice => simp only [Builtin.len_, g3, g1, Sem.run_bind, run_underlying g4, Result.andThen]; rfl
      | nilSlice => simp only [Builtin.len_, g3, g1, Sem.run_bind, run_underlying g4, Result.andThen]; rfl
      | sliceX => simp only [Builtin.len_, g3, g1, Sem.run_bind, run_underlying g4, Result.andThen]; rfl
    rw [e]
    exact .val _ _ (.int _ _)
  · rename_i b ht hx
    rw [forceN_eq] at h
    injection h with h
    injection h with h1 h2
    subst h1
    subst h2
    refine sound_same hi fun φ w a hf => ?_
    obtain ⟨v', g1, g2⟩ := arg_at hf hx
    obtain ⟨t, g3, g4⟩ := typ_at ht
    have e : (execOp a.eval ⟨d, .call ⟨.builtin .len, args, tys⟩, ty, pos, af, gd⟩).run P w = .ok (.value (.int .i64 (b.data.toList.length : Int))) w := by
      refine run_v ?_
      cases g2
      simp only [Builtin.len_, g3, g1, Sem.run_bind, run_underlying g4, Result.andThen]
      rw [Array.length_toList]
      rfl
    rw [e]
    exact .val _ _ (.int _ _)
  · rename_i kt et b ht hx
    unfold lenMapA at h
    split at h
    · rename_i es clk hb
      rw [forceN_eq] at h
      injection h with h
      injection h with h1 h2
      subst h1
      subst h2
      have hl := (hi.lt _ _ hb).1
      refine ⟨logR_fr hi hl, fun φ T w a hf hr hT _ => ⟨φ, w, by rw [logR_eq]; exact .refl hr rfl rfl rfl rfl rfl rfl rfl, ?_⟩⟩
      have hTb : T b := hT b hl (.inl (by rw [logR_eq, bit_or]; simp))
      obtain ⟨i, q, e1, e2, e3⟩ := hr.obj b _ hb rfl hTb
      obtain ⟨v', g1, g2⟩ := arg_at hf hx
      obtain ⟨t, g3, g4⟩ := typ_at ht
      cases e3 with
      | map _ _ es' hc he =>
        cases g2 with
        | map _ j hj =>
          rw [e1] at hj
          injection hj with hj
          subst hj
          have hlen : es'.size = es.length := by
            have : ∀ {l l' : List MapEntry}, ERel φ l l' → l'.length = l.length := fun h => by
              induction h with
              | nil => rfl
              | cons _ _ _ _ _ _ _ _ _ ih => rw [List.length_cons, List.length_cons, ih]
            rw [← Array.length_toList, this he]
          have e : (execOp a.eval ⟨d, .call ⟨.builtin .len, args, tys⟩, ty, pos, af, gd⟩).run P w = .ok (.value (.int .i64 (es.length : Int))) w := by
            refine run_v ?_
            simp [Builtin.len_, g3, g1, Sem.run_bind, run_underlying g4, MapKept.run_getObj_map e2, Result.andThen, hlen, goInt]
          rw [e]
          exact .val _ _ (.int _ _)
    · cases h
  · exact pure_sound hi _ (by intro _ _ hh; cases hh) h
/-- what is asked of the program's functions -/
structure Env (P : Program) : Prop where
  num : ∀ (g : Nat) (fn : Func), P.funcs[g]? = some fn → (fn.name == "runtime.NumGoroutine") = false
  noesc : ∀ (g : Nat) (fn : Func), P.funcs[g]? = some fn → fn.body = none → (fn.name == "internal/abi.NoEscape") = true → ∀ v w, (callFunc g #[v]).run P w = .ok (.value v) w
theorem enter_run (hP : Env P) {g : FuncId} {fn : Func} {c : Code} (hfn : P.funcs[g]? = some fn) (hc : fn.body = some c) (args : Array Value) (w : World) : (callFunc g args).run P w = .ok (.enter g args) w := by
  simp only [callFunc, Sem.run_bind, run_program, Result.andThen, hfn, hP.num _ _ hfn, hc]
  simp
theorem callA_sound (hP : Env P) (hi : Inv A) {g : FuncId} {vs : List Value} {o : Oper} (h : callA P g vs A = some (nx, A')) (hrun : ∀ (φ : Emb) (w : World) (a : Act), FRel φ f a → ∃ vs', VRels φ vs vs' ∧ (execOp a.eval o).run P w = (callFunc g vs'.toArray).run P w) : Sound P f A o nx A' := by
  unfold callA at h
  split at h
  · cases h
  · rename_i fn hfn
    split at h
    · rename_i c hc
      injection h with h
      injection h with h1 h2
      subst h1
      subst h2
      refine sound_same hi fun φ w a hf => ?_
      obtain ⟨vs', g1, g2⟩ := hrun φ w a hf
      rw [g2, enter_run hP hfn hc]
      exact .enter _ _ _ g1
    · rename_i hc
      rcases boolRec h with ⟨hb, h⟩ | ⟨hb, h⟩
      · obtain ⟨hp, h⟩ := boolSome h
        unfold valOfNext at h
        split at h
        · rename_i v hv
          obtain ⟨hpv, h⟩ := boolSome h
          injection h with h
          injection h with h1 h2
          subst h1
          subst h2
          refine sound_same hi fun φ w a hf => ?_
          obtain ⟨vs', g1, g2⟩ := hrun φ w a hf
          have : vs' = vs := rels_eq (plain_eq φ 50) _ _ hp g1
          subst this
          rw [g2, pureRun_ok P _ hv w]
          exact .val _ _ (plain_self φ _ _ hpv)
        · cases h
      · split at h
        · rename_i v
          injection h with h
          injection h with h1 h2
          subst h1
          subst h2
          refine sound_same hi fun φ w a hf => ?_
          obtain ⟨vs', g1, g2⟩ := hrun φ w a hf
          cases g1 with
          | cons _ v' _ l' hv hs =>
            cases hs
            rw [g2, hP.noesc _ _ hfn hc hb]
            exact .val _ _ hv
        · cases h
theorem callV_sound (hP : Env P) (hi : Inv A) (x : Operand) (args : Array Operand) (tys : Array TypeId) (h : callV P (f.eval x) (evals f args.toList) A = some (nx, A')) :
    Sound P f A ⟨d, .call ⟨.value x, args, tys⟩, ty, pos, af, gd⟩ nx A' := by
  unfold callV at h
  split at h
  · rename_i g first cap as hx has
    refine callA_sound hP hi h fun φ w a hf => ?_
    have hv := hf.eval hx
    have ha := evals_rel hf _ has
    generalize hq : a.eval x = q at hv
    cases hv with
    | func _ _ _ first' cap' h1 h2 =>
      refine ⟨first'.toList ++ (args.toList.map a.eval ++ cap'.toList), VRels.append h1 (VRels.append ha h2), ?_⟩
      have e : (first'.toList ++ (args.toList.map a.eval ++ cap'.toList)).toArray = first' ++ args.map a.eval ++ cap' := by
        apply Array.ext'
        simp
      rw [e]
      simp only [execOp, resolve, hq, Deferred.ofValue]
      rfl
  · cases h
theorem defer_sound (hi : Inv A) (c : Call) (h : evalOp P f ⟨d, .defer c, ty, pos, af, gd⟩ A = some (nx, A')) : Sound P f A ⟨d, .defer c, ty, pos, af, gd⟩ nx A' := by
  have h' : deferA f c A = some (nx, A') := h
  unfold deferA at h'
  obtain ⟨cal, args, tys⟩ := c
  simp only at h'
  split at h'
  · rename_i x
    split at h'
    · rename_i g first cap as hx has
      injection h' with h'
      injection h' with h1 h2
      subst h1
      subst h2
      refine sound_same hi fun φ w a hf => ?_
      have hv := hf.eval hx
      have ha := evals_rel hf _ has
      generalize hq : a.eval x = q at hv
      cases hv with
      | func _ _ _ first' cap' h3 h4 =>
        have e : (execOp a.eval ⟨d, .defer ⟨.value x, args, tys⟩, ty, pos, af, gd⟩).run P w = .ok (.defer ⟨.fn (.func g) cap', first' ++ args.map a.eval⟩) w := by
          simp only [execOp, resolve, hq, Deferred.ofValue]
          rfl
        rw [e]
        refine .dfr _ _ (.mk _ _ _ _ _ h4 ?_)
        simpa using VRels.append h3 ha
    · cases h'
  · cases h'
theorem panic_sound (hi : Inv A) (x : Operand) (h : evalOp P f ⟨d, .panic x, ty, pos, af, gd⟩ A = some (nx, A')) : Sound P f A ⟨d, .panic x, ty, pos, af, gd⟩ nx A' := by
  have h' : panicA (f.eval x) A = some (nx, A') := h
  unfold panicA at h'
  split at h'
  · rename_i t v hx
    injection h' with h'
    injection h' with h1 h2
    subst h1
    subst h2
    refine sound_same hi fun φ w a hf => ?_
    have hv := hf.eval hx
    have e : (execOp a.eval ⟨d, .panic x, ty, pos, af, gd⟩).run P w = .halt (.panic (a.eval x)) w := by
      generalize hq : a.eval x = q at hv
      cases hv
      simp only [execOp, hq]
      rfl
    rw [e]
    exact .panic _ _ hv
  · cases h'
end
end Go.EvL

namespace Go.EvL
open Go
section
variable {P : Program} {f : Fr} {A A' A₁ : AS} {nx : ANext} {d : Option Tmp} {ty : TypeId} {pos : String} {af : Array Edge} {gd : Option (Nat × Bool)}
/-- what is appended: on both sides -/
structure ArgSpec (P : Program) (A A₁ : AS) (e : TypeId) (t : Option TypeDesc) (x : Value) (xs : List Value) (n : Nat) : Prop where
  fr : Inv A → AFr A A₁
  heap : A₁.heap = A.heap
  fz : A₁.fz = A.fz
  next : A₁.next = A.next
  mem : A₁.mem = A.mem
  w : A₁.w = A.w
  nil : n = 0 → xs = []
  src : ∀ (φ : Emb) (T : Nat → Prop) (w : World) (x' : Value) (tx : TypeId) (i : TypeInfo), Inv A → Rel P φ T A w → Foot A A₁ T → VRel φ x x' → P.underlying tx = t → P.info? e = some i → xs.length = n * i.size → xs.all oneC = true → ∃ xs', VRels φ xs xs' ∧ Src P i.size tx x' n xs' w
theorem same_arg {e : TypeId} {t : Option TypeDesc} {x : Value} {xs : List Value} {n : Nat} (h0 : n = 0 → xs = []) (h : ∀ (φ : Emb) (w : World) (x' : Value) (tx : TypeId) (i : TypeInfo), VRel φ x x' → P.underlying tx = t → P.info? e = some i → xs.length = n * i.size → xs.all oneC = true → ∃ xs', VRels φ xs xs' ∧ Src P i.size tx x' n xs' w) : ArgSpec P A A e t x xs n :=
  ⟨fun h => .refl h, rfl, rfl, rfl, rfl, rfl, h0, fun φ _ w x' tx i _ _ _ => h φ w x' tx i⟩
theorem arg_spec {e : TypeId} {t : Option TypeDesc} {x : Value} {xs : List Value} {n : Nat} (h : cellsOfArg P e t A x = some (xs, n, A₁)) : ArgSpec P A A₁ e t x xs n := by
  unfold cellsOfArg at h
  split at h
  · rename_i b
    split at h
    · rename_i hsz
      injection h with h
      injection h with h1 h2
      injection h2 with h2 h3
      subst h1
      subst h2
      subst h3
      refine same_arg (fun h0 => by have h1 : b.data.size = 0 := h0; have h2 : b.data.toList = [] := List.eq_nil_of_length_eq_zero (by rw [Array.length_toList]; exact h1)
                                    rw [h2]; rfl) fun φ w x' tx i hv ht hi _ _ => ?_
      cases hv
      obtain ⟨i', g1, g2, _⟩ := sz_info hsz
      rw [hi] at g1
      injection g1 with g1
      subst g1
      rw [g2]
      refine ⟨byteCells b, ?_, Src.ofString w ht b⟩
      refine rels_self (p := plain 50) (plain_self φ 50) _ ?_
      rw [List.all_map, List.all_eq_true]
      intro c _
      rfl
    · cases h
  · injection h with h
    injection h with h1 h2
    injection h2 with h2 h3
    subst h1
    subst h2
    subst h3
    rename_i c e'
    refine same_arg (fun _ => rfl) fun φ w x' tx i hv ht hi _ _ => ?_
    cases hv
    exact ⟨[], .nil, Src.ofNil w ht _⟩
  · rename_i b off m c e'
    split at h
    · rename_i es hsz
      cases m with
      | zero =>
        have h' : some (([] : List Value), 0, A) = some (xs, n, A₁) := h
        injection h' with h'
        injection h' with h1 h2
        injection h2 with h2 h3
        subst h1
        subst h2
        subst h3
        refine same_arg (fun _ => rfl) fun φ w x' tx i hv ht hi _ _ => ?_
        cases hv with
        | slice _ _ _ _ cap' a' j hφ hl hc ha hr => exact ⟨[], .nil, Src.ofSlice w ht a' 0 cap' [] (by simp) (fun j u hu => by cases hu) (fun u hu => by cases hu)⟩
      | succ m =>
        have h' : (ld A b off (Nat.mul (m + 1) es)).map (fun (xs, s) => (xs, m + 1, s)) = some (xs, n, A₁) := h
        cases hld : ld A b off (Nat.mul (m + 1) es) with
        | none => rw [hld] at h'; cases h'
        | some r =>
          obtain ⟨ys, s1⟩ := r
          rw [hld] at h'
          have h'' : some (ys, m + 1, s1) = some (xs, n, A₁) := h'
          injection h'' with h''
          injection h'' with h1 h2
          injection h2 with h2 h3
          subst h1
          subst h2
          subst h3
          obtain ⟨cells, e2, c2, st2, hb, hxs, hlen, hs1⟩ := ld_spec hld
          refine ⟨fun hi => ld_fr hi hld, by rw [hs1, logR_eq], by rw [hs1, logR_eq], by rw [hs1, logR_eq], by rw [hs1, logR_eq], by rw [hs1, logR_eq], (fun h0 => by omega), fun φ T w x' tx i hi hr hT hv ht hin hl hone => ?_⟩
          cases hv with
          | slice _ _ _ _ cap' a' j hφ hlc hc ha hroom =>
            obtain ⟨xs', g1, g2, _⟩ := ld_run hi hld hr hT hφ
            have ha' : a' = ⟨j.blk, j.sh + off, none⟩ := ha.resolve_left (by omega)
            subst ha'
            refine ⟨xs', g1, Src.ofSlice w ht _ (m + 1) cap' xs' (by rw [← g1.length]; exact hl) g2 (ones_rel g1 hone)⟩
    · cases h
  · cases h
theorem setCells_setRow {w : World} {g o : Nat} {e : TypeId} {fz : Nat × Nat} {C : Array Value} {vs : List Value} (hg : w.heap[g]? = some (.cells C e fz)) (hfz : fz.2 ≤ o) (hl : o + vs.length ≤ C.size) (h1 : ∀ v ∈ vs, v.oneCell' = true) (P : Program) :
    (∀ j, j < vs.length → (w.cell? ⟨g, o + j, none⟩).isSome = true) ∧ (∀ j, j < vs.length → w.frozen? ⟨g, o + j, none⟩ = false) ∧ w.setCells g o vs = w.setRow g (C.toList.take o ++ vs ++ C.toList.drop (o + vs.length)).toArray := by
  have a1 : ∀ j, j < vs.length → (w.cell? ⟨g, o + j, none⟩).isSome = true := by
    intro j hj
    simp only [World.cell?, hg]
    rw [Array.getElem?_eq_getElem (by omega)]
    rfl
  have a2 : ∀ j, j < vs.length → w.frozen? ⟨g, o + j, none⟩ = false := by
    intro j hj
    obtain ⟨lo, hi⟩ := fz
    simp only [World.frozen?, hg, Bool.and_eq_false_iff, decide_eq_false_iff_not]
    right
    simp only at hfz
    omega
  refine ⟨a1, a2, ?_⟩
  have e1 := run_storeCells_cells (P := P) g o vs 0 w (by simpa using a1) (by simpa using a2) h1
  have e2 := run_storeCells_atF P g o e fz vs 0 C w hg (by omega) (by omega) h1
  rw [e1] at e2
  injection e2 with _ e2
theorem Post.drew {φ φ' : Emb} {T : Nat → Prop} {w w' : World} (h : Post P φ T A A' w.drew w' φ') : Post P φ T A A' w w' φ' :=
  ⟨h.ext, h.out, h.rel, h.img, h.size, h.same, h.os, h.tape, h.output⟩
theorem Rel.drew {φ : Emb} {T : Nat → Prop} {w : World} (h : Rel P φ T A w) : Rel P φ T A w.drew := h.heap rfl rfl rfl
theorem zeroCells_size (z : Array Value) (n : Nat) : (Builtin.zeroCells z n).size = n * z.size := by simp [Builtin.zeroCells]
theorem Post.step {φ φ' : Emb} {T : Nat → Prop} {w w' : World} (h1 : A₁.heap = A.heap) (h2 : A₁.fz = A.fz) (h3 : A₁.next = A.next) (hr : Rel P φ T A w) (hf : AFr A₁ A') (h : Post P φ (fun c => T c ∨ (A.next ≤ c ∧ c < A₁.next)) A₁ A' w w' φ') : Post P φ T A A' w w' φ' :=
  Post.trans (by omega) hf (Post.refl hr h1 h2 h3 rfl rfl rfl rfl) h
theorem Foot.left {T : Nat → Prop} (f : AFr A₁ A') (h : Foot A A' T) : Foot A A₁ T := fun c hc hh => h c hc (hh.imp (f.r c) (f.w c))
theorem kill_next : ∀ (l : List Nat) (B : AS), (kill B l).next = B.next := by
  intro l
  induction l with
  | nil => intro B; rfl
  | cons q l ih =>
    intro B
    have : (kill B (q :: l)) = kill (kill1 B q) l := rfl
    rw [this, ih]
    unfold kill1
    split
    · rw [put_eq]
    · rfl
theorem app_next {off len n es e cls st : Nat} {cells xs : List Value} (h : appIn A off len n es e cls st cells xs = some (nx, A')) : A'.next = A.next + 1 := by
  unfold appIn at h
  rw [forceL_eq, forceN_eq] at h
  obtain ⟨_, h⟩ := boolSome h
  rw [forceL_eq] at h
  have kn := kill_next ((members A cls).filter (tooLong A (Nat.add (Nat.add st off) (Nat.mul len es)))) A
  generalize kill A ((members A cls).filter (tooLong A (Nat.add (Nat.add st off) (Nat.mul len es)))) = B at h kn
  cases B
  unfold pushRow at h
  simp only [forceL_eq, forceT_eq, forceN_eq, logR_eq, logW_eq] at h
  injection h with h
  injection h with _ h
  rw [← h]
  show Nat.add _ 1 = _
  simp only at kn
  rw [kn]
theorem append_sound (hi : Inv A) (hn : A'.next ≤ A'.next) (x y : Operand) (t u : TypeId) (h : appA P (P.underlying t) (P.underlying u) (f.eval x) (f.eval y) A = some (nx, A')) :
    Sound P f A ⟨d, .call ⟨.builtin .append, #[x, y], #[t, u]⟩, ty, pos, af, gd⟩ nx A' := by
  unfold appA at h
  split at h
  · rename_i e v vy ht hx hy
    split at h
    · rename_i xs n A1 harg
      have sp := arg_spec harg
      have fr1 := sp.fr hi
      have hi1 := fr1.inv
      unfold appendA at h
      split at h
      · rename_i base len cap
        split at h
        · rename_i i hin
          have hex : ∀ (a : Act) (w w' : World) (v' : Value), (Builtin.append_ #[t, u] ty #[a.eval x, a.eval y]).run P w = .ok v' w' → (execOp a.eval ⟨d, .call ⟨.builtin .append, #[x, y], #[t, u]⟩, ty, pos, af, gd⟩).run P w = .ok (.value v') w' := fun a w w' v' hh => by
            refine run_v ?_
            show (Builtin.append_ #[t, u] ty (Array.map a.eval #[x, y])).run P w = _
            rw [show Array.map a.eval #[x, y] = #[a.eval x, a.eval y] by simp]
            exact hh
          cases n with
          | zero =>
            have h' : some (ANext.val (.slice base len cap), A1) = some (nx, A') := h
            injection h' with h'
            injection h' with h1 h2
            subst h1
            subst h2
            refine ⟨fr1, fun φ T w a hf hr hT hfr => ?_⟩
            refine ⟨φ, w, Post.refl hr sp.heap sp.fz sp.next rfl rfl rfl rfl, ?_⟩
            have hv := hf.eval hx
            have hxs := sp.nil rfl
            subst hxs
            obtain ⟨xs', g1, g2⟩ := sp.src φ T w _ u i hi hr hT (hf.eval hy) rfl hin (by simp) rfl
            cases g1
            generalize hq : a.eval x = q at hv
            have hrun : ∃ base' cap', q = .slice base' len cap' ∧ len ≤ cap' := by
              cases hv with
              | nilSlice => exact ⟨_, _, rfl, Nat.le_refl _⟩
              | slice _ _ _ _ cap' a' j hφ hl hc => exact ⟨_, _, rfl, by omega⟩
              | sliceX => exact ⟨_, _, rfl, Nat.le_refl _⟩
            obtain ⟨base', cap', rfl, hle⟩ := hrun
            rw [hex a w w (.slice base' len cap') (by rw [hq]; exact run_append_nothing w t u ty e i ht hin base' len cap' hle _ g2)]
            exact .val _ _ hv
          | succ n0 =>
            have h' : (Bool.rec none (appTo e A1 base len (n0 + 1) i.size xs) (appOk i i.size len (n0 + 1) xs) : Res) = some (nx, A') := h
            obtain ⟨hok, h1⟩ := boolSome h'
            unfold appOk at hok
            split at hok
            · rename_i z hz
              simp only [Bool.and_eq_true] at hok
              obtain ⟨o1, o2, o3, o4, o5, o6⟩ := hok
              have hxl : xs.length = (n0 + 1) * i.size := Nat.eq_of_beq_eq_true o2
              have hby : (len + (n0 + 1)) * i.bytes ≤ 140737488355328 := Nat.le_of_ble_eq_true o3
              have hzs : z.cells.size = i.size := Nat.eq_of_beq_eq_true o4
              have hbig : len + (n0 + 1) ≤ 1073741824 := Nat.le_of_ble_eq_true o5
              have hes : P.cellsOf e = i.size := by simp [Program.cellsOf, hin]
              unfold appTo at h1
              split at h1
              · -- a nil row
                obtain ⟨hl0, h2⟩ := boolSome h1
                have hl0' : len = 0 := Nat.eq_of_beq_eq_true hl0
                subst hl0'
                injection h2 with h2
                injection h2 with h3 h4
                subst h3
                subst h4
                rw [newRow_next] at hn
                have fr2 := newRow_fr hi1 hn xs e
                refine ⟨fr1.trans fr2, fun φ T w a hf hr hT hfr => ?_⟩
                have hT1 := hT.left fr2
                obtain ⟨xs', g1, g2⟩ := sp.src φ T w _ u i hi hr hT1 (hf.eval hy) rfl hin hxl o6
                have hv := hf.eval hx
                generalize hq : a.eval x = q at hv
                cases hv
                have hlen := g1.length
                have hrun := run_append_grow_src w t u ty e i z ht hin hz none 0 0 [] rfl (a.eval y) (n0 + 1) xs' g2 (by omega) (by omega) (growslice_fits (by omega) hby)
                have hcap := grownCap_ge w (0 + (n0 + 1)) 0 e
                have hr1 : Rel P φ (fun c => T c ∨ (A.next ≤ c ∧ c < A1.next)) A1 w.drew := (Rel.drew (hr.heap (w' := w) sp.heap sp.fz rfl)).sub fun c hc => hc.elim id fun hc => by have := sp.next; omega
                have hCs : (([] ++ xs').toArray ++ Builtin.zeroCells z.cells (grownCap w (0 + (n0 + 1)) 0 e - (0 + (n0 + 1)))).size = grownCap w (0 + (n0 + 1)) 0 e * i.size := by
                  rw [Array.size_append, zeroCells_size, hzs, List.size_toArray, List.nil_append, ← hlen, hxl, ← Nat.add_mul]
                  congr 1
                  omega
                obtain ⟨φ', p1, p2⟩ := Post.new hi1 hn hr1 (hfr _ (by rw [sp.next]; exact Nat.le_refl _) (by rw [newRow_next]; omega)) (fun b => .row xs e b 0 true) rfl (.cells (([] ++ xs').toArray ++ Builtin.zeroCells z.cells (grownCap w (0 + (n0 + 1)) 0 e - (0 + (n0 + 1)))) e) 0 (grownCap w (0 + (n0 + 1)) 0 e * i.size) i.size 0 rfl (fun φ' he _ => by
                  refine .row _ _ _ _ _ (0, 0) rfl rfl hes.symm (by rw [hCs, Nat.zero_add]) (by rw [hCs, hxl, Nat.zero_add]; exact Nat.mul_le_mul_right _ (by omega)) ?_ (.inl rfl) _ (.inl ⟨rfl, Nat.dvd_zero _⟩)
                  have : ((([] ++ xs').toArray ++ Builtin.zeroCells z.cells (grownCap w (0 + (n0 + 1)) 0 e - (0 + (n0 + 1)))).toList.drop 0).take xs.length = xs' := by
                    rw [List.drop_zero, Array.toList_append, List.toList_toArray, List.nil_append, hlen, List.take_left']
                    rfl
                  rw [this]
                  exact g1.mono he)
                rw [← newRow_eq] at p2
                refine ⟨φ', _, Post.step sp.heap sp.fz sp.next hr fr2 p2.drew, ?_⟩
                rw [hex a w _ _ (by rw [hq]; exact hrun)]
                have e0 : 0 + (n0 + 1) = n0 + 1 := by omega
                rw [show Value.slice (some ⟨w.heap.size, 0, none⟩) (0 + (n0 + 1)) (grownCap w (0 + (n0 + 1)) 0 e) = Value.slice (some ⟨w.heap.size, 0, none⟩) (n0 + 1) (grownCap w (0 + (n0 + 1)) 0 e) from by rw [e0]]
                exact .val _ _ (.slice A1.next 0 (n0 + 1) (n0 + 1) _ ⟨w.heap.size, 0, none⟩ _ p1 (Nat.le_refl _) (by omega) (.inr rfl) (by show 0 + _ * i.size ≤ _ * i.size; rw [Nat.zero_add]; exact Nat.le_refl _))
              · rename_i b off
                split at h1
                · rename_i cells e' cls st hb
                  obtain ⟨he, h2⟩ := boolSome h1
                  have he' : e' = e := Nat.eq_of_beq_eq_true he
                  subst he'
                  have hn1 : A1.next + 1 ≤ A1.next + 1 := by rw [← app_next h2]; exact hn
                  obtain ⟨rfl, K, as⟩ := app_spec hi1 hn1 hb h2
                  have fr2 := as.wr.fr hi1
                  refine ⟨fr1.trans fr2, fun φ T w a hf hr hT hfr => ?_⟩
                  have hT1 := hT.left fr2
                  obtain ⟨xs', g1, g2⟩ := sp.src φ T w _ u i hi hr hT1 (hf.eval hy) rfl hin hxl o6
                  have hlen := g1.length
                  have hr1 : Rel P φ (fun c => T c ∨ (A.next ≤ c ∧ c < A1.next)) A1 w := (hr.heap (w' := w) sp.heap sp.fz rfl).sub fun c hc => hc.elim id fun hc => by have := sp.next; omega
                  have hTc : T cls := hT cls (by have := (hi1.lt _ _ hb).2; rw [sp.next] at this; exact this) (.inr (by rw [as.wr.w, bit_or]; simp))
                  have hfresh : φ A1.next = none := hfr _ (by rw [sp.next]; exact Nat.le_refl _) (by rw [app_next h2]; omega)
                  have hv := hf.eval hx
                  generalize hq : a.eval x = q at hv
                  cases hv with
                  | slice _ _ _ _ cap' a' j hφ hl hc ha hroom0 =>
                    have hjes : j.es = i.size := by
                      obtain ⟨jj, _, _, _, e1, _, _, _, e5, _⟩ := hr1.cells hb (.inl hTc)
                      obtain rfl : jj = j := by rw [hφ] at e1; injection e1 with e1; exact e1.symm
                      rw [e5, hes]
                    by_cases hroom : len + (n0 + 1) ≤ cap'
                    · have ha' : a' = ⟨j.blk, j.sh + off, none⟩ := ha.resolve_left (by omega)
                      subst ha'
                      obtain ⟨C, fz, _, q1, q2, q3, q4⟩ := Post.room hi1 as hb hr1 (.inl hTc) hfresh g1 hxl hφ hroom hjes hroom0
                      obtain ⟨s1, s2, s3⟩ := setCells_setRow q1 q2 q3 (ones_rel g1 o6) P
                      have hrun := run_append_room_src w t u ty e' i ht hin j.blk (j.sh + off) len cap' (a.eval y) (n0 + 1) xs' g2 hroom s1 s2
                      rw [s3] at hrun
                      refine ⟨_, _, Post.step sp.heap sp.fz sp.next hr fr2 q4, ?_⟩
                      rw [hex a w _ _ (by rw [hq]; exact hrun)]
                      exact .val _ _ (.slice A1.next 0 _ _ cap' ⟨j.blk, j.sh + off, none⟩ _ (if_pos rfl) (Nat.le_refl _) hroom (.inr rfl) (by show 0 + cap' * j.es ≤ j.sz - off; omega))
                    · obtain ⟨j', C, fz, _, e1, e2, e3, e4, e5, e6, e7, e8, e9, e10⟩ := hr1.cells hb (.inl hTc)
                      obtain rfl : j' = j := by rw [hφ] at e1; injection e1 with e1; exact e1.symm
                      have hold := as.old
                      have hol := ((e8.drop off).take (len * i.size)).length
                      rw [hold] at hol
                      have hcell : ∀ (k : Nat) (v : Value), ((((C.toList.drop j'.sh).take cells.length).drop off).take (len * i.size))[k]? = some v → w.drew.cell? (a'.add k) = some v := by
                        intro k v hk
                        have hkl : k < len * i.size := by
                          rw [List.getElem?_take] at hk
                          split at hk
                          · assumption
                          · cases hk
                        have hl0 : 0 < len := by
                          rcases Nat.eq_zero_or_pos len with h0 | h0
                          · rw [h0, Nat.zero_mul] at hkl; omega
                          · exact h0
                        have ha' : a' = ⟨j'.blk, j'.sh + off, none⟩ := ha.resolve_left (by omega)
                        rw [ha', add_addr]
                        rw [List.getElem?_take, if_pos hkl, List.getElem?_drop, List.getElem?_take, List.getElem?_drop] at hk
                        split at hk
                        · simp only [World.cell?, World.drew, e2]
                          rw [Array.getElem?_toList] at hk
                          rw [← hk]
                          simp [Nat.add_assoc]
                        · cases hk
                      have hfirst := run_firstCells_some (P := P) w.drew i.size len a' len cap' _ hol.symm hcell
                      have hrun := run_append_grow_src w t u ty e' i z ht hin hz (some a') len cap' _ hfirst (a.eval y) (n0 + 1) xs' g2 (by omega) (by omega) (growslice_fits (by omega) hby)
                      have hcap := grownCap_ge w (len + (n0 + 1)) cap' e'
                      generalize hO : (((C.toList.drop j'.sh).take cells.length).drop off).take (len * i.size) = O at hrun hol hfirst hcell
                      have hOv : VRels φ ((cells.drop off).take (len * i.size)) O := by rw [← hO]; exact (e8.drop off).take _
                      have hCs : ((O ++ xs').toArray ++ Builtin.zeroCells z.cells (grownCap w (len + (n0 + 1)) cap' e' - (len + (n0 + 1)))).size = grownCap w (len + (n0 + 1)) cap' e' * i.size := by
                        rw [Array.size_append, zeroCells_size, hzs, List.size_toArray, List.length_append, ← hol, ← hlen, hxl, ← Nat.add_mul, ← Nat.add_mul]
                        congr 1
                        omega
                      have hall : ((cells.drop off).take (len * i.size) ++ xs).length = (O ++ xs').length := by rw [List.length_append, List.length_append, hold, hol, hlen]
                      have p2 := Post.grow hi1 as hb hr1.drew hfresh ((O ++ xs').toArray ++ Builtin.zeroCells z.cells (grownCap w (len + (n0 + 1)) cap' e' - (len + (n0 + 1)))) hes (by
                        rw [hall, Array.toList_append, List.toList_toArray, List.take_left']
                        · exact VRels.append hOv g1
                        · rfl) (by rw [hall, hCs, List.length_append, ← hol, ← hlen, hxl, ← Nat.add_mul]; exact Nat.mul_le_mul_right _ hcap)
                      refine ⟨_, _, Post.step sp.heap sp.fz sp.next hr fr2 p2.drew, ?_⟩
                      rw [hex a w _ _ (by rw [hq]; exact hrun)]
                      exact .val _ _ (.slice A1.next 0 _ _ _ ⟨w.heap.size, 0, none⟩ _ (if_pos rfl) (Nat.le_refl _) hcap (.inr rfl) (by show 0 + _ * i.size ≤ _; rw [Nat.zero_add, hCs]; exact Nat.le_refl _))
                · cases h1
              · rename_i b off
                split at h1
                · rename_i cells e' cls st hb
                  unfold appX at h1
                  rw [forceL_eq] at h1
                  obtain ⟨hol0, h2⟩ := boolSome h1
                  have hold : ((cells.drop off).take (len * i.size)).length = len * i.size := Nat.eq_of_beq_eq_true hol0
                  injection h2 with h2
                  injection h2 with h3 h4
                  subst h3
                  subst h4
                  have hcn : cls < A1.next := (hi1.lt _ _ hb).2
                  have frL := logR_fr hi1 hcn
                  have hiL := frL.inv
                  have hnL : (logR A1 cls).next = A1.next := by rw [logR_eq]
                  have frN := newRow_fr hiL (Nat.le_refl _) ((cells.drop off).take (len * i.size) ++ xs) e
                  have fr2 := frL.trans frN
                  refine ⟨fr1.trans fr2, fun φ T w a hf hr hT hfr => ?_⟩
                  have hT1 := hT.left fr2
                  obtain ⟨xs', g1, g2⟩ := sp.src φ T w _ u i hi hr hT1 (hf.eval hy) rfl hin hxl o6
                  have hlen := g1.length
                  have hr1 : Rel P φ (fun c => T c ∨ (A.next ≤ c ∧ c < A1.next)) A1 w := (hr.heap (w' := w) sp.heap sp.fz rfl).sub fun c hc => hc.elim id fun hc => by have := sp.next; omega
                  have hTc : T cls := hT cls (by rw [sp.next] at hcn; exact hcn) (.inl (frN.r cls (by rw [logR_eq, bit_or]; simp)))
                  have hfresh : φ A1.next = none := hfr _ (by rw [sp.next]; exact Nat.le_refl _) (by rw [newRow_next, hnL]; omega)
                  have hv := hf.eval hx
                  generalize hq : a.eval x = q at hv
                  cases hv with
                  | sliceX _ _ _ a' j hφ ha =>
                    obtain ⟨j', C, fz, _, e1, e2, e3, e4, e5, e6, e7, e8, e9, e10⟩ := hr1.cells hb (.inl hTc)
                    obtain rfl : j' = j := by rw [hφ] at e1; injection e1 with e1; exact e1.symm
                    have hol := ((e8.drop off).take (len * i.size)).length
                    rw [hold] at hol
                    have hcell : ∀ (k : Nat) (v : Value), ((((C.toList.drop j'.sh).take cells.length).drop off).take (len * i.size))[k]? = some v → w.drew.cell? (a'.add k) = some v := by
                      intro k v hk
                      have hkl : k < len * i.size := by
                        rw [List.getElem?_take] at hk
                        split at hk
                        · assumption
                        · cases hk
                      have hl0 : len ≠ 0 := by
                        intro h0
                        rw [h0, Nat.zero_mul] at hkl
                        omega
                      have ha' : a' = ⟨j'.blk, j'.sh + off, none⟩ := ha.resolve_left hl0
                      rw [ha', add_addr]
                      rw [List.getElem?_take, if_pos hkl, List.getElem?_drop, List.getElem?_take, List.getElem?_drop] at hk
                      split at hk
                      · simp only [World.cell?, World.drew, e2]
                        rw [Array.getElem?_toList] at hk
                        rw [← hk]
                        simp [Nat.add_assoc]
                      · cases hk
                    have hfirst := run_firstCells_some (P := P) w.drew i.size len a' len len _ hol.symm hcell
                    have hrun := run_append_grow_src w t u ty e i z ht hin hz (some a') len len _ hfirst (a.eval y) (n0 + 1) xs' g2 (by omega) (by omega) (growslice_fits (by omega) hby)
                    have hcap := grownCap_ge w (len + (n0 + 1)) len e
                    generalize hO : (((C.toList.drop j'.sh).take cells.length).drop off).take (len * i.size) = O at hrun hol hfirst hcell
                    have hOv : VRels φ ((cells.drop off).take (len * i.size)) O := by rw [← hO]; exact (e8.drop off).take _
                    have hCs : ((O ++ xs').toArray ++ Builtin.zeroCells z.cells (grownCap w (len + (n0 + 1)) len e - (len + (n0 + 1)))).size = grownCap w (len + (n0 + 1)) len e * i.size := by
                      rw [Array.size_append, zeroCells_size, hzs, List.size_toArray, List.length_append, ← hol, ← hlen, hxl, ← Nat.add_mul, ← Nat.add_mul]
                      congr 1
                      omega
                    have hall : ((cells.drop off).take (len * i.size) ++ xs).length = (O ++ xs').length := by rw [List.length_append, List.length_append, hold, hol, hlen]
                    have hrL : Rel P φ (fun c => (T c ∨ (A.next ≤ c ∧ c < A1.next)) ∨ (A1.next ≤ c ∧ c < (logR A1 cls).next)) (logR A1 cls) w.drew := (Rel.drew (hr1.heap (w' := w) (by rw [logR_eq]) (by rw [logR_eq]) rfl)).sub fun c hc => hc.elim id fun hc => by rw [hnL] at hc; omega
                    obtain ⟨φ', p1, p2⟩ := Post.new hiL (Nat.le_refl _) hrL (by rw [hnL]; exact hfresh) (fun b => .row ((cells.drop off).take (len * i.size) ++ xs) e b 0 true) rfl (.cells ((O ++ xs').toArray ++ Builtin.zeroCells z.cells (grownCap w (len + (n0 + 1)) len e - (len + (n0 + 1)))) e) 0 (grownCap w (len + (n0 + 1)) len e * i.size) i.size 0 rfl (fun φ' he _ => by
                      refine .row _ _ _ _ _ (0, 0) rfl rfl hes.symm (by rw [hCs, Nat.zero_add]) ?_ ?_ (.inl rfl) _ (.inl ⟨rfl, Nat.dvd_zero _⟩)
                      · rw [hall, hCs, Nat.zero_add, List.length_append, ← hol, ← hlen, hxl, ← Nat.add_mul]
                        exact Nat.mul_le_mul_right _ hcap
                      · have : (((O ++ xs').toArray ++ Builtin.zeroCells z.cells (grownCap w (len + (n0 + 1)) len e - (len + (n0 + 1)))).toList.drop 0).take ((cells.drop off).take (len * i.size) ++ xs).length = O ++ xs' := by
                          rw [hall, List.drop_zero, Array.toList_append, List.toList_toArray, List.take_left']
                          rfl
                        rw [this]
                        exact (VRels.append hOv g1).mono he)
                    rw [← newRow_eq] at p2
                    have p3 : Post P φ (fun c => T c ∨ (A.next ≤ c ∧ c < A1.next)) A1 (newRow (logR A1 cls) ((cells.drop off).take (len * i.size) ++ xs) e) w (w.drew.alloc (.cells ((O ++ xs').toArray ++ Builtin.zeroCells z.cells (grownCap w (len + (n0 + 1)) len e - (len + (n0 + 1)))) e)) φ' := by
                      refine Post.step (A₁ := logR A1 cls) (by rw [logR_eq]) (by rw [logR_eq]) hnL hr1 frN ?_
                      exact p2.drew
                    refine ⟨φ', _, Post.step sp.heap sp.fz sp.next hr fr2 p3, ?_⟩
                    rw [hex a w _ _ (by rw [hq]; exact hrun)]
                    rw [hnL] at p1
                    exact .val _ _ (.slice A1.next 0 _ _ _ ⟨w.heap.size, 0, none⟩ _ p1 (Nat.le_refl _) hcap (.inr rfl) (by show 0 + _ * i.size ≤ _ * i.size; rw [Nat.zero_add]; exact Nat.le_refl _))
                · cases h1
              · cases h1
            · cases hok
        · cases h
      · cases h
    · cases h
  · cases h
theorem copy_sound (hi : Inv A) (hn : A'.next ≤ A'.next) (x y : Operand) (t u : TypeId) (h : copyA P (P.underlying t) (P.underlying u) (f.eval x) (f.eval y) A = some (nx, A')) :
    Sound P f A ⟨d, .call ⟨.builtin .copy, #[x, y], #[t, u]⟩, ty, pos, af, gd⟩ nx A' := by
  unfold copyA at h
  split at h
  · rename_i e base len cap vy ht hx hy
    split at h
    · rename_i xs m A1 i harg hin
      obtain ⟨hok, h1⟩ := boolSome h
      simp only [Bool.and_eq_true] at hok
      obtain ⟨o1, o2, o3⟩ := hok
      have hml : m ≤ len := Nat.le_of_ble_eq_true o1
      have hxl : xs.length = m * i.size := Nat.eq_of_beq_eq_true o2
      have sp := arg_spec harg
      have fr1 := sp.fr hi
      have hi1 := fr1.inv
      have hsz : (P.info? e).map (·.size) = some i.size := by rw [hin]; rfl
      have hex : ∀ (a : Act) (w w' : World) (v' : Value), (Builtin.copy_ #[t, u] ty #[a.eval x, a.eval y]).run P w = .ok v' w' → (execOp a.eval ⟨d, .call ⟨.builtin .copy, #[x, y], #[t, u]⟩, ty, pos, af, gd⟩).run P w = .ok (.value v') w' := fun a w w' v' hh => by
        refine run_v ?_
        show (Builtin.copy_ #[t, u] ty (Array.map a.eval #[x, y])).run P w = _
        rw [show Array.map a.eval #[x, y] = #[a.eval x, a.eval y] by simp]
        exact hh
      cases m with
      | zero =>
        have h' : some (ANext.val (.int .i64 (.ofNat 0)), A1) = some (nx, A') := h1
        injection h' with h'
        injection h' with h1 h2
        subst h1
        subst h2
        refine ⟨fr1, fun φ T w a hf hr hT hfr => ?_⟩
        refine ⟨φ, w, Post.refl hr sp.heap sp.fz sp.next rfl rfl rfl rfl, ?_⟩
        have hv := hf.eval hx
        have hxs := sp.nil rfl
        subst hxs
        obtain ⟨xs', g1, g2⟩ := sp.src φ T w _ u i hi hr hT (hf.eval hy) rfl hin (by simp) rfl
        cases g1
        generalize hq : a.eval x = q at hv
        have hrun : ∃ base' cap', q = .slice base' len cap' := by
          cases hv with
          | nilSlice => exact ⟨_, _, rfl⟩
          | slice => exact ⟨_, _, rfl⟩
          | sliceX => exact ⟨_, _, rfl⟩
        obtain ⟨base', cap', rfl⟩ := hrun
        have hrun : (Builtin.copy_ #[t, u] ty #[.slice base' len cap', a.eval y]).run P w = .ok (goInt 0) w := by
          have h0 := g2.cells
          cases base' <;> simp [Builtin.copy_, run_underlying ht, g2.len, sizeOf, typeInfo, hin, h0, storeCells, goInt]
        rw [hex a w w _ (by rw [hq]; exact hrun)]
        exact .val _ _ (.int ..)
      | succ m0 =>
        have h' : (match (generalizing := false) base with
          | some ⟨b, off, none⟩ => match stc A1 b off xs with
            | some s => some (ANext.val (.int .i64 (.ofNat (Nat.add m0 1))), s)
            | none => none
          | _ => none) = some (nx, A') := h1
        split at h'
        · rename_i b off
          split at h'
          · rename_i s1 hs1
            injection h' with h'
            injection h' with h2 h3
            subst h2
            subst h3
            obtain ⟨cells, e', cls, st, K, ss⟩ := stc_spec hi1 (Nat.le_refl _) hs1
            have fr2 := ss.wr.fr hi1
            refine ⟨fr1.trans fr2, fun φ T w a hf hr hT hfr => ?_⟩
            have hT1 := hT.left fr2
            obtain ⟨xs', g1, g2⟩ := sp.src φ T w _ u i hi hr hT1 (hf.eval hy) rfl hin hxl o3
            have hr1 : Rel P φ (fun c => T c ∨ (A.next ≤ c ∧ c < A1.next)) A1 w := (hr.heap (w' := w) sp.heap sp.fz rfl).sub fun c hc => hc.elim id fun hc => by have := sp.next; omega
            have hTc : T cls := hT cls (by have := (hi1.lt _ _ ss.row).2; rw [sp.next] at this; exact this) (.inr (by rw [ss.wr.w, bit_or]; simp))
            have hv := hf.eval hx
            generalize hq : a.eval x = q at hv
            cases hv with
            | slice _ _ _ _ cap' a' j hφ hl hc ha hroom0 =>
              have ha' : a' = ⟨j.blk, j.sh + off, none⟩ := ha.resolve_left (by omega)
              subst ha'
              obtain ⟨C, fz, e2, k1, k2, k3, k4⟩ := Post.store hi1 ss hr1 (.inl hTc) g1 hφ
              refine ⟨φ, _, Post.step sp.heap sp.fz sp.next hr fr2 k4, ?_⟩
              have hst := run_storeCells_atF P j.blk (j.sh + off) e2 fz xs' 0 C w k1 (by omega) (by omega) (ones_rel g1 ss.one)
              have h0 := g2.cells
              have hmin : Nat.min (m0 + 1) len = m0 + 1 := Nat.min_eq_left hml
              have hrun : (Builtin.copy_ #[t, u] ty #[.slice (some ⟨j.blk, j.sh + off, none⟩) len cap', a.eval y]).run P w = .ok (goInt (m0 + 1 : Nat)) (w.setRow j.blk (C.toList.take (j.sh + off) ++ xs' ++ C.toList.drop (j.sh + off + xs'.length)).toArray) := by
                simp only [Nat.add_zero] at hst
                simp [Builtin.copy_, run_underlying ht, g2.len, sizeOf, typeInfo, hin, hmin, h0, hst]
              rw [hex a w _ _ (by rw [hq]; exact hrun)]
              exact .val _ _ (.int ..)
          · cases h'
        · cases h'
    · cases h
  · cases h
end
end Go.EvL

namespace Go.EvL
open Go
def opWp (P : Program) (ops : Array Oper) (Q : Exit → Act → World → Prop) (o : Oper) (K : Act → World → Prop) (a : Act) (w : World) : Prop :=
  if Region.wanted o (yielded ops a.tmps) = true then o.wp P a w K Q else K (a.put o.dst undef) w
def OpsOK (P : Program) : Prop := ∀ (f : Fr) (o : Oper) (A : AS) (nx : ANext) (A' : AS), Inv A → A'.next ≤ A'.next → evalOp P f o A = some (nx, A') → Sound P f A o nx A'
inductive EndRel (φ : Emb) : AEnd → Ending → Prop
  | ret (v v' : Value) (h : VRel φ v v') : EndRel φ (.ret v) (.returned v')
  | panic (v v' : Value) (h : VRel φ v v') : EndRel φ (.panic v) (.panicked [{ v := v', recovered := false }])
structure CallSound (P : Program) (g : FuncId) (args : Array Value) (A : AS) (r : AEnd) (A' : AS) : Prop where
  fr : AFr A A'
  run : ∀ (φ : Emb) (T : Nat → Prop) (w : World) (args' : Array Value), VRels φ args.toList args'.toList → Rel P φ T A w → Foot A A' T → Fresh A A' φ →
    Calls P g args' w fun e w' => ∃ φ', Post P φ T A A' w w' φ' ∧ EndRel φ' r e
def CallOK (P : Program) (call : CallF) : Prop := ∀ (g : FuncId) (args : Array Value) (A : AS) (r : AEnd) (A' : AS), Inv A → A'.next ≤ A'.next → call g args A = some (r, A') → CallSound P g args A r A'
def CallMono (call : CallF) : Prop := ∀ (g : FuncId) (args : Array Value) (A : AS) (r : AEnd) (A' : AS), call g args A = some (r, A') → A.next ≤ A'.next
theorem put_ok {f f' : Fr} {d : Option Tmp} {v : Value} (h : f.put d v = some f') : (d = none ∧ f' = f) ∨ ∃ t, d = some t ∧ t < f.n ∧ f' = ⟨Tr.set v 40 f.tmps t, f.n, f.defers⟩ := by
  cases d with
  | none => have h' : some f = some f' := h; injection h' with h'; exact .inl ⟨rfl, h'.symm⟩
  | some t =>
    obtain ⟨tm, n, ds⟩ := f
    have h' : (Bool.rec none (forceT (Tr.set v 40 tm t) fun t => some (⟨t, n, ds⟩ : Fr)) (Nat.ble (Nat.succ t) n) : Option Fr) = some f' := h
    obtain ⟨h1, h2⟩ := boolSome h'
    rw [forceT_eq] at h2
    injection h2 with h2
    exact .inr ⟨t, rfl, Nat.le_of_ble_eq_true h1, h2.symm⟩
theorem FRel.put {φ : Emb} {f f' : Fr} {a : Act} {d : Option Tmp} {v v' : Value} (hf : FRel φ f a) (h : f.put d v = some f') (hv : VRel φ v v') : FRel φ f' (a.put d v') := by
  rcases put_ok h with ⟨rfl, rfl⟩ | ⟨t, rfl, ht, rfl⟩
  · exact hf
  · have hfit : Fits t := trivial
    refine ⟨by simp [Act.put, hf.size], hf.few, fun x => ?_, hf.defers⟩
    show VRel φ (((Tr.set v 40 f.tmps t).get x).getD undef) ((a.tmps.setIfInBounds t v').getD x undef)
    rw [Tr.get_set _ _ _ _ hfit]
    have hsz := hf.size
    by_cases hx : x = t
    · subst hx
      rw [if_pos rfl]
      rw [show (a.tmps.setIfInBounds x v').getD x undef = v' by simp [Array.getD_eq_getD_getElem?, hsz, ht]]
      exact hv
    · rw [if_neg hx]
      rw [show (a.tmps.setIfInBounds t v').getD x undef = a.tmps.getD x undef by
        simp only [Array.getD_eq_getD_getElem?, Array.getElem?_setIfInBounds]
        rw [if_neg (fun e => hx e.symm)]]
      exact hf.tmps x
theorem wanted_ok {φ : Emb} {f : Fr} {a : Act} (hf : FRel φ f a) {ops : Array Oper} {o : Oper} {b : Bool} (h : wantedA ops.toList f o.guard = some b) : Region.wanted o (yielded ops a.tmps) = b := by
  unfold Region.wanted
  cases hg : o.guard with
  | none => rw [hg] at h; have h' : some true = some b := h; cases h'; rfl
  | some p =>
    obtain ⟨j, want⟩ := p
    rw [hg] at h
    have h' : guardA ops.toList f j want = some b := h
    unfold guardA at h'
    split at h'
    · rename_i dd hd
      have hd' : (ops[j]?).bind (·.dst) = some dd := by simpa using hd
      have ht := hf.tmps dd
      unfold sameB at h'
      split at h'
      · rename_i bb hb
        injection h' with h'
        rw [hb] at ht
        generalize hq : a.tmps.getD dd undef = q at ht
        cases ht
        have hy : yielded ops a.tmps j = some bb := by
          unfold yielded
          rw [hd']
          have : a.tmps[dd]? = some (.bool bb) := by
            rw [Array.getD_eq_getD_getElem?] at hq
            cases hz : a.tmps[dd]? with
            | none => rw [hz] at hq; cases hq
            | some z => rw [hz] at hq; exact congrArg some hq
          rw [Option.bind_some, this]
        simp only [hy]
        rw [← h']
        cases bb <;> cases want <;> rfl
      · rename_i vs hb
        injection h' with h'
        rw [hb] at ht
        generalize hq : a.tmps.getD dd undef = q at ht
        cases ht with
        | tuple _ vs' hvs =>
          have hy : yielded ops a.tmps j = none := by
            unfold yielded
            rw [hd', Option.bind_some]
            cases hz : a.tmps[dd]? with
            | none => rfl
            | some z =>
              have : z = .tuple vs' := by rw [Array.getD_eq_getD_getElem?, hz] at hq; exact hq
              rw [this]
          simp only [hy]
          rw [← h']
          cases want <;> rfl
      · cases h'
    · cases h'
section
variable {P : Program} {call : CallF} {ops : Array Oper} {f f' : Fr} {o : Oper} {A A' : AS}
structure StepOn (P : Program) (ops : Array Oper) (o : Oper) (f : Fr) (A : AS) (f' : Fr) (A' : AS) : Prop where
  fr : AFr A A'
  run : ∀ (φ : Emb) (T : Nat → Prop) (w : World) (a : Act), FRel φ f a → Rel P φ T A w → Foot A A' T → Fresh A A' φ → ∀ (K : Act → World → Prop) (Q : Exit → Act → World → Prop),
    (∀ φ' w' a', Post P φ T A A' w w' φ' → FRel φ' f' a' → K a' w') → opWp P ops Q o K a w
structure StepUp (P : Program) (ops : Array Oper) (o : Oper) (f : Fr) (A : AS) (v : Value) (A' : AS) : Prop where
  fr : AFr A A'
  run : ∀ (φ : Emb) (T : Nat → Prop) (w : World) (a : Act), FRel φ f a → Rel P φ T A w → Foot A A' T → Fresh A A' φ → ∀ (K : Act → World → Prop) (Q : Exit → Act → World → Prop),
    (∀ φ' w' v', Post P φ T A A' w w' φ' → VRel φ' v v' → Q (.panic [{ v := v', recovered := false }]) a w') → opWp P ops Q o K a w
theorem onward_on {x : Option Fr} {s : AS} (h : onward x s = .on f' A') : x = some f' ∧ s = A' := by
  cases x with
  | none => cases h
  | some y => have h' : St.on y s = .on f' A' := h; injection h' with h1 h2; exact ⟨congrArg some h1, h2⟩
theorem step_on (hO : OpsOK P) (hC : CallOK P call) (hM : CallMono call) (hi : Inv A) (hn : A'.next ≤ A'.next) (h : step1 P call ops.toList f o A = .on f' A') : StepOn P ops o f A f' A' := by
  unfold step1 at h
  split at h
  · rename_i hw
    cases hev : evalOp P f o A with
    | none => rw [hev] at h; cases h
    | some r =>
      obtain ⟨nx, B⟩ := r
      rw [hev] at h
      unfold afterOp at h
      split at h
      · cases h
      · rename_i v s e
        injection e with e
        injection e with e1 e2
        subst e1
        subst e2
        obtain ⟨h1, rfl⟩ := onward_on h
        have hs := hO f o A _ _ hi hn hev
        refine ⟨hs.fr, fun φ T w a hf hr hT hfr K Q hK => ?_⟩
        unfold opWp
        rw [wanted_ok hf hw, if_pos rfl]
        obtain ⟨φ', w', hp, hnr⟩ := hs.run φ T w a hf hr hT hfr
        unfold Oper.wp
        generalize hres : (execOp a.eval o).run P w = res at hnr
        cases hnr with
        | val _ v' hv => exact hK φ' w' _ hp ((hf.mono hp.ext).put h1 hv)
        | skip => exact hK φ' w' _ hp ((hf.mono hp.ext).put h1 (undef_rel _))
      · rename_i g args s e
        injection e with e
        injection e with e1 e2
        subst e1
        subst e2
        unfold afterCall at h
        split at h
        · cases h
        · rename_i v s2 hc
          obtain ⟨h1, rfl⟩ := onward_on h
          have hs := hO f o A _ _ hi (Nat.le_refl _) hev
          have hcs := hC _ _ _ _ _ hs.fr.inv hn hc
          refine ⟨hs.fr.trans hcs.fr, fun φ T w a hf hr hT hfr K Q hK => ?_⟩
          unfold opWp
          rw [wanted_ok hf hw, if_pos rfl]
          obtain ⟨φ', w', hp, hnr⟩ := hs.run φ T w a hf hr (hT.left hcs.fr) (fun b h1 h2 => hfr b h1 (Nat.lt_of_lt_of_le h2 hcs.fr.next))
          unfold Oper.wp
          generalize hres : (execOp a.eval o).run P w = res at hnr
          cases hnr with
          | enter _ _ args' hargs =>
            refine (hcs.run φ' _ w' args' hargs hp.rel ?_ ?_).mono ?_
            · intro c hc' hh
              by_cases hlt : c < A.next
              · exact .inl (hT c hlt hh)
              · exact .inr ⟨by omega, hc'⟩
            · intro b h3 h4
              rw [hp.out b (.inr h3)]
              exact hfr b (Nat.le_trans hs.fr.next h3) h4
            · rintro e2 w2 ⟨φ2, hp2, he2⟩
              cases he2 with
              | ret _ v' hv => exact hK φ2 w2 _ (hp.trans hs.fr.next hcs.fr hp2) (((hf.mono hp.ext).mono hp2.ext).put h1 hv)
        · cases h
      · rename_i dd s e
        injection e with e
        injection e with e1 e2
        subst e1
        subst e2
        obtain ⟨h1, rfl⟩ := onward_on h
        have hs := hO f o A _ _ hi hn hev
        refine ⟨hs.fr, fun φ T w a hf hr hT hfr K Q hK => ?_⟩
        unfold opWp
        rw [wanted_ok hf hw, if_pos rfl]
        obtain ⟨φ', w', hp, hnr⟩ := hs.run φ T w a hf hr hT hfr
        unfold Oper.wp
        generalize hres : (execOp a.eval o).run P w = res at hnr
        cases hnr with
        | dfr _ d' hd =>
          rw [Option.map_eq_some_iff] at h1
          obtain ⟨f1, h2, rfl⟩ := h1
          have hf1 := (hf.mono hp.ext).put h2 (undef_rel φ')
          refine hK φ' w' _ hp ⟨?_, hf1.few, ?_, ?_⟩
          · have := hf1.size
            cases hd2 : o.dst <;> simp [Act.put, hd2] at this ⊢ <;> exact this
          · intro t
            have := hf1.tmps t
            cases hd2 : o.dst <;> simp only [Act.put, hd2] at this ⊢ <;> exact this
          · have hdf := hf1.defers
            cases hd2 : o.dst <;> simp only [Act.put, hd2] at hdf ⊢ <;> exact .cons _ _ _ _ hd hdf
      · cases h
      · cases h
  · rename_i hw
    obtain ⟨h1, rfl⟩ := onward_on h
    refine ⟨.refl hi, fun φ T w a hf hr hT hfr K Q hK => ?_⟩
    unfold opWp
    rw [wanted_ok hf hw]
    exact hK φ w _ (.refl hr rfl rfl rfl rfl rfl rfl rfl) (hf.put h1 (undef_rel _))
  · cases h
theorem step_up (hO : OpsOK P) (hC : CallOK P call) (hM : CallMono call) {v : Value} (hi : Inv A) (hn : A'.next ≤ A'.next) (h : step1 P call ops.toList f o A = .up v f' A') : f' = f ∧ StepUp P ops o f A v A' := by
  have hno : ∀ (x : Option Fr) (s : AS), onward x s ≠ .up v f' A' := by
    intro x s hh
    cases x <;> cases hh
  unfold step1 at h
  split at h
  · rename_i hw
    cases hev : evalOp P f o A with
    | none => rw [hev] at h; cases h
    | some r =>
      obtain ⟨nx, B⟩ := r
      rw [hev] at h
      unfold afterOp at h
      split at h
      · cases h
      · exact absurd h (hno _ _)
      · rename_i g args s e
        injection e with e
        injection e with e1 e2
        subst e1
        subst e2
        unfold afterCall at h
        split at h
        · cases h
        · exact absurd h (hno _ _)
        · rename_i v2 s2 hc
          injection h with h1 h2 h3
          subst h1
          subst h2
          subst h3
          have hs := hO f o A _ _ hi (Nat.le_refl _) hev
          have hcs := hC _ _ _ _ _ hs.fr.inv hn hc
          refine ⟨rfl, hs.fr.trans hcs.fr, fun φ T w a hf hr hT hfr K Q hK => ?_⟩
          unfold opWp
          rw [wanted_ok hf hw, if_pos rfl]
          obtain ⟨φ', w', hp, hnr⟩ := hs.run φ T w a hf hr (hT.left hcs.fr) (fun b h1 h2 => hfr b h1 (Nat.lt_of_lt_of_le h2 hcs.fr.next))
          unfold Oper.wp
          generalize hres : (execOp a.eval o).run P w = res at hnr
          cases hnr with
          | enter _ _ args' hargs =>
            refine (hcs.run φ' _ w' args' hargs hp.rel ?_ ?_).mono ?_
            · intro c hc' hh
              by_cases hlt : c < A.next
              · exact .inl (hT c hlt hh)
              · exact .inr ⟨by omega, hc'⟩
            · intro b h3 h4
              rw [hp.out b (.inr h3)]
              exact hfr b (Nat.le_trans hs.fr.next h3) h4
            · rintro e2 w2 ⟨φ2, hp2, he2⟩
              cases he2 with
              | panic _ v' hv => exact hK φ2 w2 _ (hp.trans hs.fr.next hcs.fr hp2) hv
      · exact absurd h (hno _ _)
      · cases h
      · rename_i v2 s e
        injection e with e
        injection e with e1 e2
        subst e1
        subst e2
        injection h with h1 h2 h3
        subst h1
        subst h2
        subst h3
        have hs := hO f o A _ _ hi hn hev
        refine ⟨rfl, hs.fr, fun φ T w a hf hr hT hfr K Q hK => ?_⟩
        unfold opWp
        rw [wanted_ok hf hw, if_pos rfl]
        obtain ⟨φ', w', hp, hnr⟩ := hs.run φ T w a hf hr hT hfr
        unfold Oper.wp
        generalize hres : (execOp a.eval o).run P w = res at hnr
        cases hnr with
        | panic _ v' hv => exact hK φ' w' _ hp hv
  · exact absurd h (hno _ _)
  · cases h
end
end Go.EvL

namespace Go.EvL
open Go
def OpMono (P : Program) : Prop := ∀ (f : Fr) (o : Oper) (A : AS) (nx : ANext) (A' : AS), evalOp P f o A = some (nx, A') → A.next ≤ A'.next
inductive XRel (φ : Emb) : AExit → Exit → Prop
  | normal : XRel φ .normal .normal
  | exit (id : Nat) : XRel φ (.exit id) (.exit id)
  | ret : XRel φ .ret .ret
  | panic (v v' : Value) (h : VRel φ v v') : XRel φ (.panic v) (.panic [{ v := v', recovered := false }])
/-- a piece of code of the evaluator stands for that code in any run -/
structure CSound (P : Program) (c : Code) (f : Fr) (A : AS) (x : AExit) (f' : Fr) (A' : AS) : Prop where
  fr : AFr A A'
  run : ∀ (φ : Emb) (T : Nat → Prop) (w : World) (a : Act), FRel φ f a → Rel P φ T A w → Foot A A' T → Fresh A A' φ → ∀ (Q : Exit → Act → World → Prop),
    (∀ φ' w' a' e, Post P φ T A A' w w' φ' → FRel φ' f' a' → XRel φ' x e → Q e a' w') → c.wp P Q a w
section
variable {P : Program} {call : CallF}
theorem step_mono (hO : OpMono P) (hM : CallMono call) {ops : List Oper} {f f' : Fr} {o : Oper} {A A' : AS} {v : Value} (h : step1 P call ops f o A = .on f' A' ∨ step1 P call ops f o A = .up v f' A') : A.next ≤ A'.next := by
  have hon : ∀ (x : Option Fr) (s : AS), (onward x s = .on f' A' ∨ onward x s = .up v f' A') → s = A' := by
    intro x s hh
    cases x with
    | none => rcases hh with hh | hh <;> cases hh
    | some y => rcases hh with hh | hh
                · have h' : St.on y s = .on f' A' := hh; injection h'
                · cases hh
  unfold step1 at h
  split at h
  · cases hev : evalOp P f o A with
    | none => rw [hev] at h; rcases h with h | h <;> cases h
    | some r =>
      obtain ⟨nx, B⟩ := r
      have h1 := hO _ _ _ _ _ hev
      rw [hev] at h
      cases nx with
      | val u => rw [← hon _ _ h]; exact h1
      | dfr x => rw [← hon _ _ h]; exact h1
      | recover => rcases h with h | h <;> cases h
      | panic u =>
        rcases h with h | h
        · cases h
        · have h' : St.up u f B = .up v f' A' := h
          injection h' with _ _ h3
          rw [← h3]; exact h1
      | enter g args =>
        have h' : afterCall f o.dst (call g args B) = .on f' A' ∨ afterCall f o.dst (call g args B) = .up v f' A' := h
        cases hc : call g args B with
        | none => rw [hc] at h'; rcases h' with h' | h' <;> cases h'
        | some r =>
          obtain ⟨r, s⟩ := r
          have h2 := hM _ _ _ _ _ hc
          rw [hc] at h'
          cases r with
          | ret u => rw [← hon _ _ h']; omega
          | panic u =>
            rcases h' with h' | h'
            · cases h'
            · have h'' : St.up u f s = .up v f' A' := h'
              injection h'' with _ _ h3
              rw [← h3]; omega
  · rw [← hon _ _ h]; exact Nat.le_refl _
  · rcases h with h | h <;> cases h
theorem runOps_cons {ops : List Oper} (o : Oper) (l : List Oper) (f : Fr) (A : AS) : runOps P call ops (o :: l) f A = stepK (step1 P call ops f o A) (runOps P call ops l) := rfl
theorem runOps_mono (hO : OpMono P) (hM : CallMono call) {ops : List Oper} : ∀ (l : List Oper) {f f' : Fr} {A A' : AS} {v : Value}, (runOps P call ops l f A = .on f' A' ∨ runOps P call ops l f A = .up v f' A') → A.next ≤ A'.next := by
  intro l
  induction l with
  | nil =>
    intro f f' A A' v h
    rcases h with h | h
    · have h' : St.on f A = .on f' A' := h; injection h' with _ h2; rw [h2]; exact Nat.le_refl _
    · cases h
  | cons o l ih =>
    intro f f' A A' v h
    rw [runOps_cons] at h
    cases hs : step1 P call ops f o A with
    | no => rw [hs] at h; rcases h with h | h <;> cases h
    | on g B =>
      rw [hs] at h
      have h1 := step_mono (v := v) hO hM (.inl hs)
      have h2 := ih h
      omega
    | up u g B =>
      rw [hs] at h
      have h1 := step_mono (v := u) hO hM (.inr hs)
      rcases h with h | h
      · cases h
      · have h' : St.up u g B = .up v f' A' := h
        injection h' with _ _ h3
        rw [← h3]; exact h1
theorem fresh_left {A B C : AS} {φ : Emb} (h : Fresh A C φ) (hn : B.next ≤ C.next) : Fresh A B φ := fun b h1 h2 => h b h1 (Nat.lt_of_lt_of_le h2 hn)
theorem fresh_right {A B C : AS} {φ φ' : Emb} {T : Nat → Prop} {w w' : World} (h : Fresh A C φ) (hn : A.next ≤ B.next) (hp : Post P φ T A B w w' φ') : Fresh B C φ' := fun b h1 h2 => by
  rw [hp.out b (.inr h1)]
  exact h b (Nat.le_trans hn h1) h2
theorem foot_right {A B C : AS} {T : Nat → Prop} (h : Foot A C T) : Foot B C (fun c => T c ∨ (A.next ≤ c ∧ c < B.next)) := fun c hc hh => by
  by_cases hlt : c < A.next
  · exact .inl (h c hlt hh)
  · exact .inr ⟨by omega, hc⟩
structure OpsSound (P : Program) (ops : Array Oper) (l : List Oper) (f : Fr) (A : AS) (x : AExit) (f' : Fr) (A' : AS) : Prop where
  fr : AFr A A'
  run : ∀ (φ : Emb) (T : Nat → Prop) (w : World) (a : Act), FRel φ f a → Rel P φ T A w → Foot A A' T → Fresh A A' φ → ∀ (Q : Exit → Act → World → Prop),
    (∀ φ' w' a' e, Post P φ T A A' w w' φ' → FRel φ' f' a' → XRel φ' x e → Q e a' w') → wpList P ops Q l a w
theorem wpList_of_op {ops : Array Oper} {Q : Exit → Act → World → Prop} {o : Oper} {l : List Oper} {a : Act} {w : World} (h : opWp P ops Q o (wpList P ops Q l) a w) : wpList P ops Q (o :: l) a w := by
  unfold opWp at h
  unfold wpList
  split at h
  · rename_i hw; rw [if_pos hw]; exact .inl h
  · rename_i hw; rw [if_neg hw]; exact h
theorem runOps_sound (hO : OpsOK P) (hOm : OpMono P) (hC : CallOK P call) (hM : CallMono call) {ops : Array Oper} : ∀ (l : List Oper) {f f' : Fr} {A A' : AS}, Inv A → A'.next ≤ A'.next →
    (runOps P call ops.toList l f A = .on f' A' → OpsSound P ops l f A .normal f' A') ∧ (∀ v, runOps P call ops.toList l f A = .up v f' A' → OpsSound P ops l f A (.panic v) f' A') := by
  intro l
  induction l with
  | nil =>
    intro f f' A A' hi hn
    constructor
    · intro h
      have h' : St.on f A = .on f' A' := h
      injection h' with h1 h2
      subst h1
      subst h2
      exact ⟨.refl hi, fun φ T w a hf hr _ _ Q hQ => hQ φ w a .normal (.refl hr rfl rfl rfl rfl rfl rfl rfl) hf .normal⟩
    · intro v h; cases h
  | cons o l ih =>
    intro f f' A A' hi hn
    have key : ∀ x, (∀ g B, step1 P call ops.toList f o A = .on g B → B.next ≤ A'.next → OpsSound P ops l g B x f' A') → (∃ g B, step1 P call ops.toList f o A = .on g B ∧ B.next ≤ A'.next) → OpsSound P ops (o :: l) f A x f' A' := by
      rintro x hx ⟨g, B, hs, hle⟩
      have s1 := step_on hO hC hM hi (Nat.le_refl _) hs
      have s2 := hx g B hs hle
      refine ⟨s1.fr.trans s2.fr, fun φ T w a hf hr hT hfr Q hQ => wpList_of_op ?_⟩
      refine s1.run φ T w a hf hr (hT.left s2.fr) (fresh_left hfr s2.fr.next) _ Q fun φ' w' a' hp hf' => ?_
      refine s2.run φ' _ w' a' hf' hp.rel (foot_right hT) (fresh_right hfr s1.fr.next hp) Q fun φ2 w2 a2 e hp2 hf2 hx2 => ?_
      exact hQ φ2 w2 a2 e (hp.trans s1.fr.next s2.fr hp2) hf2 hx2
    constructor
    · intro h
      rw [runOps_cons] at h
      cases hs : step1 P call ops.toList f o A with
      | no => rw [hs] at h; cases h
      | up u g B => rw [hs] at h; cases h
      | on g B =>
        rw [hs] at h
        have h' : runOps P call ops.toList l g B = .on f' A' := h
        have hle := runOps_mono (v := undef) hOm hM l (.inl h')
        exact key _ (fun g2 B2 hs2 _ => by
          rw [hs] at hs2
          injection hs2 with e1 e2
          subst e1
          subst e2
          exact (ih (step_on hO hC hM hi (Nat.le_refl _) hs).fr.inv hn).1 h') ⟨g, B, hs, hle⟩
    · intro v h
      rw [runOps_cons] at h
      cases hs : step1 P call ops.toList f o A with
      | no => rw [hs] at h; cases h
      | up u g B =>
        rw [hs] at h
        have h' : St.up u g B = .up v f' A' := h
        injection h' with e1 e2 e3
        subst e1
        subst e2
        subst e3
        obtain ⟨rfl, s1⟩ := step_up hO hC hM hi hn hs
        refine ⟨s1.fr, fun φ T w a hf hr hT hfr Q hQ => wpList_of_op ?_⟩
        exact s1.run φ T w a hf hr hT hfr _ Q fun φ' w' v' hp hv => hQ φ' w' a _ hp (hf.mono hp.ext) (.panic _ _ hv)
      | on g B =>
        rw [hs] at h
        have h' : runOps P call ops.toList l g B = .up v f' A' := h
        have hle := runOps_mono hOm hM l (.inr h')
        exact key _ (fun g2 B2 hs2 _ => by
          rw [hs] at hs2
          injection hs2 with e1 e2
          subst e1
          subst e2
          exact (ih (step_on hO hC hM hi (Nat.le_refl _) hs).fr.inv hn).2 v h') ⟨g, B, hs, hle⟩
end
end Go.EvL

namespace Go.EvL
open Go
def DrawOK (P : Program) (call : CallF) : Prop := ∀ (id : Nat) (ops : Array Oper) (f : Fr) (A : AS) (x : AExit) (f' : Fr) (A' : AS), Inv A → A'.next ≤ A'.next → exOf (runDraw P call ops ops.toList 0 .nil [] f A) = some (x, f', A') → CSound P (.region id ops true) f A x f' A'
def DrawMono (P : Program) (call : CallF) : Prop := ∀ (ops : Array Oper) (f : Fr) (A : AS) (x : AExit) (f' : Fr) (A' : AS), exOf (runDraw P call ops ops.toList 0 .nil [] f A) = some (x, f', A') → A.next ≤ A'.next
def BodyMono (body : Fr → AS → Ex) : Prop := ∀ (f : Fr) (A : AS) (x : AExit) (f' : Fr) (A' : AS), body f A = some (x, f', A') → A.next ≤ A'.next
section
variable {P : Program} {call : CallF}
theorem seqK_some {r : Ex} {k : Fr → AS → Ex} {x : AExit} {f' : Fr} {A' : AS} (h : seqK r k = some (x, f', A')) : (∃ g B, r = some (.normal, g, B) ∧ k g B = some (x, f', A')) ∨ (r = some (x, f', A') ∧ x ≠ .normal) := by
  unfold seqK at h
  split at h
  · rename_i g B; exact .inl ⟨g, B, rfl, h⟩
  · rename_i hne
    refine .inr ⟨h, ?_⟩
    rintro rfl
    exact hne _ _ h
theorem exOf_some {r : St} {x : AExit} {f' : Fr} {A' : AS} (h : exOf r = some (x, f', A')) : (r = .on f' A' ∧ x = .normal) ∨ ∃ v, r = .up v f' A' ∧ x = .panic v := by
  cases r with
  | no => cases h
  | on f s => have h' : some (AExit.normal, f, s) = some (x, f', A') := h; injection h' with h'; injection h' with h1 h2; injection h2 with h2 h3; subst h1; subst h2; subst h3; exact .inl ⟨rfl, rfl⟩
  | up v f s => have h' : some (AExit.panic v, f, s) = some (x, f', A') := h; injection h' with h'; injection h' with h1 h2; injection h2 with h2 h3; subst h1; subst h2; subst h3; exact .inr ⟨v, rfl, rfl⟩
theorem loopN_succ (body : Fr → AS → Ex) (n : Nat) (f : Fr) (A : AS) : loopN body (n + 1) f A = seqK (body f A) (loopN body n) := rfl
theorem loopN_mono {body : Fr → AS → Ex} (hb : BodyMono body) : ∀ n, BodyMono (loopN body n) := by
  intro n
  induction n with
  | zero => intro f A x f' A' h; cases h
  | succ n ih =>
    intro f A x f' A' h
    rw [loopN_succ] at h
    rcases seqK_some h with ⟨g, B, h1, h2⟩ | ⟨h1, _⟩
    · exact Nat.le_trans (hb _ _ _ _ _ h1) (ih _ _ _ _ _ h2)
    · exact hb _ _ _ _ _ h1
theorem blockK_some {id : Nat} {r : Ex} {x : AExit} {f' : Fr} {A' : AS} (h : blockK id r = some (x, f', A')) : (r = some (.exit id, f', A') ∧ x = .normal) ∨ (r = some (x, f', A') ∧ x ≠ .exit id) := by
  unfold blockK at h
  split at h
  · rename_i i g B
    rcases boolRec h with ⟨hb, hx⟩ | ⟨hb, hx⟩
    · obtain ⟨rfl, rfl, rfl⟩ : AExit.exit i = x ∧ g = f' ∧ B = A' := by injection hx with h; injection h with h1 h2; injection h2 with h2 h3; exact ⟨h1, h2, h3⟩
      refine .inr ⟨rfl, ?_⟩
      intro he
      injection he with he
      subst he
      rw [Nat.beq_refl] at hb
      cases hb
    · have := Nat.eq_of_beq_eq_true hb
      subst this
      obtain ⟨rfl, rfl, rfl⟩ : AExit.normal = x ∧ g = f' ∧ B = A' := by injection hx with h; injection h with h1 h2; injection h2 with h2 h3; exact ⟨h1, h2, h3⟩
      exact .inl ⟨rfl, rfl⟩
  · rename_i hne
    refine .inr ⟨h, ?_⟩
    rintro rfl
    exact hne _ _ _ h
theorem condK_some {v : Option Value} {a b : Ex} {x : AExit} {f' : Fr} {A' : AS} (h : condK v a b = some (x, f', A')) : (v = some (.bool true) ∧ a = some (x, f', A')) ∨ (v = some (.bool false) ∧ b = some (x, f', A')) := by
  unfold condK at h
  split at h
  · exact .inl ⟨rfl, h⟩
  · exact .inr ⟨rfl, h⟩
  · cases h
theorem evalCode_mono (hO : OpMono P) (hM : CallMono call) (hD : DrawMono P call) (c : Code) : BodyMono (evalCode P call c) := by
  induction c with
  | skip => intro f A x f' A' h; have h' : some (AExit.normal, f, A) = some (x, f', A') := h; injection h' with h'; injection h' with _ h2; injection h2 with _ h3; rw [h3]; exact Nat.le_refl _
  | region id ops draw =>
    intro f A x f' A' h
    cases draw with
    | false =>
      have h' : exOf (runOps P call ops.toList ops.toList f A) = some (x, f', A') := h
      rcases exOf_some h' with ⟨h1, _⟩ | ⟨v, h1, _⟩
      · exact runOps_mono (v := undef) hO hM _ (.inl h1)
      · exact runOps_mono hO hM _ (.inr h1)
    | true => exact hD ops f A x f' A' h
  | seq a b iha ihb =>
    intro f A x f' A' h
    have h' : seqK (evalCode P call a f A) (evalCode P call b) = some (x, f', A') := h
    rcases seqK_some h' with ⟨g, B, h1, h2⟩ | ⟨h1, _⟩
    · exact Nat.le_trans (iha _ _ _ _ _ h1) (ihb _ _ _ _ _ h2)
    · exact iha _ _ _ _ _ h1
  | cond o a b iha ihb =>
    intro f A x f' A' h
    have h' : condK (f.eval o) (evalCode P call a f A) (evalCode P call b f A) = some (x, f', A') := h
    rcases condK_some h' with ⟨_, h1⟩ | ⟨_, h1⟩
    · exact iha _ _ _ _ _ h1
    · exact ihb _ _ _ _ _ h1
  | block id b ih =>
    intro f A x f' A' h
    have h' : blockK id (evalCode P call b f A) = some (x, f', A') := h
    rcases blockK_some h' with ⟨h1, _⟩ | ⟨h1, _⟩
    · exact ih _ _ _ _ _ h1
    · exact ih _ _ _ _ _ h1
  | loop b ih => intro f A x f' A' h; exact loopN_mono ih loopMax f A x f' A' h
  | rangeFunc => intro f A x f' A' h; cases h
  | exit id => intro f A x f' A' h; have h' : some (AExit.exit id, f, A) = some (x, f', A') := h; injection h' with h'; injection h' with _ h2; injection h2 with _ h3; rw [h3]; exact Nat.le_refl _
  | scope => intro f A x f' A' h; cases h
  | label => intro f A x f' A' h; have h' : some (AExit.normal, f, A) = some (x, f', A') := h; injection h' with h'; injection h' with _ h2; injection h2 with _ h3; rw [h3]; exact Nat.le_refl _
  | goto => intro f A x f' A' h; cases h
  | ret => intro f A x f' A' h; have h' : some (AExit.ret, f, A) = some (x, f', A') := h; injection h' with h'; injection h' with _ h2; injection h2 with _ h3; rw [h3]; exact Nat.le_refl _
  | refuse => intro f A x f' A' h; cases h
theorem triple {α β γ : Type} {a a' : α} {b b' : β} {c c' : γ} (h : some (a, b, c) = some (a', b', c')) : a = a' ∧ b = b' ∧ c = c' := by injection h with h; injection h with h1 h2; injection h2 with h2 h3; exact ⟨h1, h2, h3⟩
theorem csound_same {c : Code} {f : Fr} {A : AS} {x : AExit} (hi : Inv A) (h : ∀ (φ : Emb) (a : Act) (w : World) (Q : Exit → Act → World → Prop), (∀ e, XRel φ x e → Q e a w) → c.wp P Q a w) : CSound P c f A x f A :=
  ⟨.refl hi, fun φ _ w a hf hr _ _ Q hQ => h φ a w Q fun e he => hQ φ w a e (.refl hr rfl rfl rfl rfl rfl rfl rfl) hf he⟩
/-- loops -/
theorem loopN_sound {c : Code} (hm : BodyMono (evalCode P call c)) (hc : ∀ (f : Fr) (A : AS) (x : AExit) (f' : Fr) (A' : AS), Inv A → A'.next ≤ A'.next → evalCode P call c f A = some (x, f', A') → CSound P c f A x f' A') :
    ∀ (n : Nat) (f : Fr) (A : AS) (x : AExit) (f' : Fr) (A' : AS), Inv A → A'.next ≤ A'.next → loopN (evalCode P call c) n f A = some (x, f', A') → AFr A A' ∧ x ≠ .normal ∧
      ∀ (φ : Emb) (T : Nat → Prop) (w : World) (a : Act), FRel φ f a → Rel P φ T A w → Foot A A' T → Fresh A A' φ → ∀ (Q : Exit → Act → World → Prop),
        (∀ φ' w' a' e, Post P φ T A A' w w' φ' → FRel φ' f' a' → XRel φ' x e → Q e a' w') → Code.rounds P c Q n a w := by
  intro n
  induction n with
  | zero => intro f A x f' A' _ _ h; cases h
  | succ n ih =>
    intro f A x f' A' hi hn h
    rw [loopN_succ] at h
    rcases seqK_some h with ⟨g, B, h1, h2⟩ | ⟨h1, hne⟩
    · have hle := loopN_mono hm n _ _ _ _ _ h2
      have s1 := hc _ _ _ _ _ hi (Nat.le_refl _) h1
      obtain ⟨f2, hx, s2⟩ := ih _ _ _ _ _ s1.fr.inv hn h2
      refine ⟨s1.fr.trans f2, hx, fun φ T w a hf hr hT hfr Q hQ => ?_⟩
      rw [rounds_succ]
      refine s1.run φ T w a hf hr (hT.left f2) (fresh_left hfr f2.next) _ fun φ' w' a' e hp hf' he => ?_
      cases he
      exact s2 φ' _ w' a' hf' hp.rel (foot_right hT) (fresh_right hfr s1.fr.next hp) Q fun φ2 w2 a2 e hp2 hf2 hx2 => hQ φ2 w2 a2 e (hp.trans s1.fr.next f2 hp2) hf2 hx2
    · have s1 := hc _ _ _ _ _ hi hn h1
      refine ⟨s1.fr, hne, fun φ T w a hf hr hT hfr Q hQ => ?_⟩
      rw [rounds_succ]
      refine s1.run φ T w a hf hr hT hfr _ fun φ' w' a' e hp hf' he => ?_
      have := hQ φ' w' a' e hp hf' he
      cases he with
      | normal => exact absurd rfl hne
      | exit id => exact this
      | ret => exact this
      | panic v v' hv => exact this
theorem evalCode_sound (hO : OpsOK P) (hOm : OpMono P) (hC : CallOK P call) (hM : CallMono call) (hD : DrawOK P call) (hDm : DrawMono P call) (c : Code) :
    ∀ (f : Fr) (A : AS) (x : AExit) (f' : Fr) (A' : AS), Inv A → A'.next ≤ A'.next → evalCode P call c f A = some (x, f', A') → CSound P c f A x f' A' := by
  induction c with
  | skip =>
    intro f A x f' A' hi hn h
    obtain ⟨rfl, rfl, rfl⟩ := triple (show some (AExit.normal, f, A) = some (x, f', A') from h)
    exact csound_same hi fun φ a w Q hQ => wp_skip (hQ _ .normal)
  | region id ops draw =>
    intro f A x f' A' hi hn h
    cases draw with
    | false =>
      have h' : exOf (runOps P call ops.toList ops.toList f A) = some (x, f', A') := h
      have hs := runOps_sound hO hOm hC hM (ops := ops) ops.toList (f := f) (f' := f') hi hn
      rcases exOf_some h' with ⟨h1, rfl⟩ | ⟨v, h1, rfl⟩
      · have s := hs.1 h1
        exact ⟨s.fr, fun φ T w a hf hr hT hfr Q hQ => wp_region_list (s.run φ T w a hf hr hT hfr Q hQ)⟩
      · have s := hs.2 v h1
        exact ⟨s.fr, fun φ T w a hf hr hT hfr Q hQ => wp_region_list (s.run φ T w a hf hr hT hfr Q hQ)⟩
    | true => exact hD id ops f A x f' A' hi hn h
  | seq a b iha ihb =>
    intro f A x f' A' hi hn h
    have h' : seqK (evalCode P call a f A) (evalCode P call b) = some (x, f', A') := h
    rcases seqK_some h' with ⟨g, B, h1, h2⟩ | ⟨h1, hne⟩
    · have hle := evalCode_mono hOm hM hDm b _ _ _ _ _ h2
      have s1 := iha _ _ _ _ _ hi (Nat.le_refl _) h1
      have s2 := ihb _ _ _ _ _ s1.fr.inv hn h2
      refine ⟨s1.fr.trans s2.fr, fun φ T w a hf hr hT hfr Q hQ => wp_seq ?_⟩
      refine s1.run φ T w a hf hr (hT.left s2.fr) (fresh_left hfr s2.fr.next) _ fun φ' w' a' e hp hf' he => ?_
      cases he
      exact s2.run φ' _ w' a' hf' hp.rel (foot_right hT) (fresh_right hfr s1.fr.next hp) Q fun φ2 w2 a2 e hp2 hf2 hx2 => hQ φ2 w2 a2 e (hp.trans s1.fr.next s2.fr hp2) hf2 hx2
    · have s1 := iha _ _ _ _ _ hi hn h1
      refine ⟨s1.fr, fun φ T w a hf hr hT hfr Q hQ => wp_seq ?_⟩
      refine s1.run φ T w a hf hr hT hfr _ fun φ' w' a' e hp hf' he => ?_
      have := hQ φ' w' a' e hp hf' he
      cases he with
      | normal => exact absurd rfl hne
      | exit id => exact this
      | ret => exact this
      | panic v v' hv => exact this
  | cond o a b iha ihb =>
    intro f A x f' A' hi hn h
    have h' : condK (f.eval o) (evalCode P call a f A) (evalCode P call b f A) = some (x, f', A') := h
    rcases condK_some h' with ⟨hv, h1⟩ | ⟨hv, h1⟩
    · have s1 := iha _ _ _ _ _ hi hn h1
      refine ⟨s1.fr, fun φ T w a hf hr hT hfr Q hQ => ?_⟩
      have ho := hf.eval hv
      generalize hq : a.eval o = q at ho
      cases ho
      exact wp_cond_true hq (s1.run φ T w a hf hr hT hfr Q hQ)
    · have s1 := ihb _ _ _ _ _ hi hn h1
      refine ⟨s1.fr, fun φ T w a hf hr hT hfr Q hQ => ?_⟩
      have ho := hf.eval hv
      generalize hq : a.eval o = q at ho
      cases ho
      exact wp_cond_false hq (s1.run φ T w a hf hr hT hfr Q hQ)
  | block id b ih =>
    intro f A x f' A' hi hn h
    have h' : blockK id (evalCode P call b f A) = some (x, f', A') := h
    rcases blockK_some h' with ⟨h1, rfl⟩ | ⟨h1, hne⟩
    · have s1 := ih _ _ _ _ _ hi hn h1
      refine ⟨s1.fr, fun φ T w a hf hr hT hfr Q hQ => wp_block ?_⟩
      refine s1.run φ T w a hf hr hT hfr _ fun φ' w' a' e hp hf' he => ?_
      cases he
      show (if id = id then Q .normal a' w' else _)
      rw [if_pos rfl]
      exact hQ φ' w' a' _ hp hf' .normal
    · have s1 := ih _ _ _ _ _ hi hn h1
      refine ⟨s1.fr, fun φ T w a hf hr hT hfr Q hQ => wp_block ?_⟩
      refine s1.run φ T w a hf hr hT hfr _ fun φ' w' a' e hp hf' he => ?_
      have := hQ φ' w' a' e hp hf' he
      cases he with
      | normal => exact this
      | exit i =>
        show (if i = id then _ else Q (.exit i) a' w')
        rw [if_neg (by rintro rfl; exact hne rfl)]
        exact this
      | ret => exact this
      | panic v v' hv => exact this
  | loop b ih =>
    intro f A x f' A' hi hn h
    obtain ⟨h1, hx, h2⟩ := loopN_sound (evalCode_mono hOm hM hDm b) ih loopMax f A x f' A' hi hn h
    exact ⟨h1, fun φ T w a hf hr hT hfr Q hQ => wp_loop_rounds loopMax (h2 φ T w a hf hr hT hfr Q hQ)⟩
  | rangeFunc => intro f A x f' A' _ _ h; cases h
  | exit id =>
    intro f A x f' A' hi hn h
    obtain ⟨rfl, rfl, rfl⟩ := triple (show some (AExit.exit id, f, A) = some (x, f', A') from h)
    exact csound_same hi fun φ a w Q hQ => wp_exit (hQ _ (.exit id))
  | scope => intro f A x f' A' _ _ h; cases h
  | label l =>
    intro f A x f' A' hi hn h
    obtain ⟨rfl, rfl, rfl⟩ := triple (show some (AExit.normal, f, A) = some (x, f', A') from h)
    exact csound_same hi fun φ a w Q hQ => wp_label (hQ _ .normal)
  | goto => intro f A x f' A' _ _ h; cases h
  | ret =>
    intro f A x f' A' hi hn h
    obtain ⟨rfl, rfl, rfl⟩ := triple (show some (AExit.ret, f, A) = some (x, f', A') from h)
    exact csound_same hi fun φ a w Q hQ => wp_ret (hQ _ .ret)
  | refuse => intro f A x f' A' _ _ h; cases h
end
end Go.EvL

namespace Go.EvL
open Go
section
variable {P : Program} {call : CallF}
theorem setAll_cons (v : Value) (l : List Value) (i : Nat) (t : Tr Value) : setAll (v :: l) i t = setAll l (i + 1) (Tr.set v 40 t i) := by
  show forceT (Tr.set v 40 t i) (fun t => setAll l (Nat.add i 1) t) = _
  rw [forceT_eq]
theorem setAll_get : ∀ (l : List Value) (i : Nat) (t : Tr Value), i + l.length ≤ 2000000 → ∀ x, (setAll l i t).get x = if i ≤ x ∧ x < i + l.length then l[x - i]? else t.get x := by
  intro l
  induction l with
  | nil => intro i t _ x; rw [if_neg (by simp)]; rfl
  | cons v l ih =>
    intro i t h x
    simp only [List.length_cons] at h ⊢
    have hf : Fits i := trivial
    rw [setAll_cons, ih _ _ (by omega), Tr.get_set _ _ _ _ hf]
    by_cases h1 : i + 1 ≤ x ∧ x < i + 1 + l.length
    · rw [if_pos h1, if_pos (by omega), show x - i = (x - (i + 1)) + 1 by omega, List.getElem?_cons_succ]
    · rw [if_neg h1]
      by_cases h2 : x = i
      · subst h2; rw [if_pos rfl, if_pos (by omega)]; simp
      · rw [if_neg h2, if_neg (by omega)]
theorem init_rel {φ : Emb} {fn : Func} {args args' : Array Value} (h : VRels φ args.toList args'.toList) (h1 : fn.ntmps ≤ 1000000) (h2 : args.toList.length ≤ fn.ntmps) : FRel φ (initFr fn args) { tmps := args' ++ Array.replicate (fn.ntmps - args'.size) undef, defers := [] } := by
  have hl := h.length
  simp only [Array.length_toList] at hl h2
  refine ⟨?_, h1, fun t => ?_, .nil⟩
  · show (args' ++ Array.replicate (fn.ntmps - args'.size) undef).size = fn.ntmps
    rw [Array.size_append, Array.size_replicate]; omega
  · show VRel φ (((setAll args.toList 0 .nil).get t).getD undef) ((args' ++ Array.replicate (fn.ntmps - args'.size) undef).getD t undef)
    rw [setAll_get _ _ _ (by simp; omega), Array.getD_eq_getD_getElem?, Array.getElem?_append]
    by_cases ht : t < args'.size
    · rw [if_pos (by simp; omega), if_pos ht, Nat.sub_zero]
      have hlt : t < args.toList.length := by simp; omega
      obtain ⟨v', e1, e2⟩ := VRels.get t h (List.getElem?_eq_getElem hlt)
      rw [List.getElem?_eq_getElem hlt, show args'[t]? = some v' by simpa using e1]
      exact e2
    · rw [if_neg (by simp; omega), if_neg ht, Tr.get_nil]
      have : (Array.replicate (fn.ntmps - args'.size) undef)[t - args'.size]?.getD undef = undef := by
        rw [Array.getElem?_replicate]; split <;> rfl
      rw [this]
      exact undef_rel φ
/-- one result variable -/
def resG (tmps : Array Value) : ResultVar → Sem Value
  | .tmp t => pure (tmps.getD t undef)
  | .cell a t => do loadVar t (← asAddr (tmps.getD a undef))
theorem mapM_run (g : ResultVar → Sem Value) (w : World) : ∀ (l : List ResultVar) (vs : List Value), l.length = vs.length → (∀ (i : Nat) (rv : ResultVar) (v : Value), l[i]? = some rv → vs[i]? = some v → (g rv).run P w = .ok v w) → (l.mapM g).run P w = .ok vs w := by
  intro l
  induction l with
  | nil => intro vs h _; cases vs with | nil => rfl | cons => simp at h
  | cons rv l ih =>
    intro vs h hg
    cases vs with
    | nil => simp at h
    | cons v vs =>
      rw [List.mapM_cons, Sem.run_bind, hg 0 rv v rfl rfl]
      simp only [Result.andThen]
      rw [Sem.run_bind, ih vs (by simpa using h) fun i rv v h1 h2 => hg (i + 1) rv v (by simpa using h1) (by simpa using h2)]
      rfl
def resV : List Value → Value
  | [v] => v
  | vs => .tuple vs.toArray
theorem results_eq (fn : Func) (tmps : Array Value) : results fn tmps = (fn.results.mapM (resG tmps) >>= fun vs => pure (if h : vs.size = 1 then vs[0] else .tuple vs)) := by
  unfold results
  congr 1
theorem results_run {fn : Func} {tmps : Array Value} {vs : List Value} {w : World} (h : (fn.results.toList.mapM (resG tmps)).run P w = .ok vs w) : (results fn tmps).run P w = .ok (resV vs) w := by
  rw [results_eq, Sem.run_bind, Array.mapM_eq_mapM_toList, map_eq_pure_bind, Sem.run_bind, h]
  simp only [Result.andThen, Sem.run_pure]
  cases vs with
  | nil => rfl
  | cons v vs => cases vs <;> rfl
theorem loadA_run {t : TypeId} {pv v : Value} {A A' : AS} (hi : Inv A) (h : loadA P t (some pv) A = some (.val v, A')) : AFr A A' ∧ ∀ (φ : Emb) (T : Nat → Prop) (w : World) (pv' : Value), VRel φ pv pv' → Rel P φ T A w → Foot A A' T →
    ∃ v', VRel φ v v' ∧ (do loadVar t (← asAddr pv') : Sem Value).run P w = .ok v' w ∧ Post P φ T A A' w w φ := by
  unfold loadA at h
  split at h
  · rename_i b off hx
    injection hx with hx
    subst hx
    split at h
    · rename_i dd hd
      unfold loadIn at h
      rcases boolRec h with ⟨ha, h1⟩ | ⟨ha, h1⟩
      · unfold oneOf at h1
        split at h1
        · rename_i u s1 hl
          injection h1 with h1
          injection h1 with h2 h3
          injection h2 with h2
          subst h2
          subst h3
          refine ⟨ld_fr hi hl, fun φ T w pv' hp hr hT => ?_⟩
          cases hp with
          | ptr _ _ i hφ =>
            obtain ⟨xs', g1, g2, g3⟩ := ld_run hi hl hr hT hφ
            cases g1 with
            | cons _ v' _ l' hv hs =>
              have hc := g2 0 v' rfl
              rw [add_addr, Nat.add_zero] at hc
              refine ⟨v', hv, ?_, g3⟩
              simp only [asAddr, loadVar, Sem.run_bind, Sem.run_pure, Result.andThen, run_agg hd, ha]
              simp [run_load, hc]
        · cases h1
      · split at h1
        · rename_i n hsz
          unfold aggOf at h1
          split at h1
          · rename_i xs s1 hl
            injection h1 with h1
            injection h1 with h2 h3
            injection h2 with h2
            subst h2
            subst h3
            refine ⟨ld_fr hi hl, fun φ T w pv' hp hr hT => ?_⟩
            cases hp with
            | ptr _ _ i hφ =>
              obtain ⟨xs', g1, g2, g3⟩ := ld_run hi hl hr hT hφ
              have hlen : xs'.length = n := by
                obtain ⟨_, _, _, _, _, _, hl', _⟩ := ld_spec hl
                rw [← g1.length, hl']
              refine ⟨.agg xs'.toArray, .agg _ _ g1, ?_, g3⟩
              simp only [asAddr, loadVar, Sem.run_bind, Sem.run_pure, Result.andThen, run_agg hd, ha]
              have := run_loadCells_list (P := P) w ⟨i.blk, i.sh + off, none⟩ xs' g2
              rw [hlen] at this
              simp [this, Sem.run_bind, Result.andThen, run_size hsz]
          · cases h1
        · cases h1
    · cases h
  · cases h
theorem resultsA_cons (f : Fr) (rv : ResultVar) (l : List ResultVar) (A : AS) : resultsA P f (rv :: l) A = (match rv with
      | .tmp t => (match resultsA P f l A with
        | some (vs, s) => some ((f.tmps.get t).getD undef :: vs, s)
        | none => none)
      | .cell a t => (match resCell P (f.tmps.get a) t A with
        | some (v, s) => (match resultsA P f l s with
          | some (vs, s) => some (v :: vs, s)
          | none => none)
        | none => none)) := rfl
theorem resultsA_run (f : Fr) : ∀ (l : List ResultVar) {A A' : AS} {vs : List Value}, Inv A → resultsA P f l A = some (vs, A') → AFr A A' ∧ ∀ (φ : Emb) (T : Nat → Prop) (w : World) (a : Act), FRel φ f a → Rel P φ T A w → Foot A A' T →
    ∃ vs', VRels φ vs vs' ∧ (l.mapM (resG a.tmps)).run P w = .ok vs' w ∧ Post P φ T A A' w w φ := by
  intro l
  induction l with
  | nil =>
    intro A A' vs hi h
    have h' : some (([] : List Value), A) = some (vs, A') := h
    injection h' with h'
    injection h' with h1 h2
    subst h1
    subst h2
    exact ⟨.refl hi, fun φ T w a _ hr _ => ⟨[], .nil, rfl, .refl hr rfl rfl rfl rfl rfl rfl rfl⟩⟩
  | cons rv l ih =>
    intro A A' vs hi h
    rw [resultsA_cons] at h
    cases rv with
    | tmp t =>
      simp only at h
      split at h
      · rename_i us s hs
        injection h with h
        injection h with h1 h2
        subst h1
        subst h2
        obtain ⟨f1, r1⟩ := ih hi hs
        refine ⟨f1, fun φ T w a hf hr hT => ?_⟩
        obtain ⟨vs', g1, g2, g3⟩ := r1 φ T w a hf hr hT
        refine ⟨a.tmps.getD t undef :: vs', .cons _ _ _ _ (hf.tmps t) g1, ?_, g3⟩
        rw [List.mapM_cons, Sem.run_bind]
        simp only [resG, Sem.run_pure, Result.andThen, Sem.run_bind, g2]
      · cases h
    | cell b t =>
      simp only at h
      split at h
      · rename_i v s hc
        split at h
        · rename_i us s2 hs
          injection h with h
          injection h with h1 h2
          subst h1
          subst h2
          unfold resCell at hc
          split at hc
          · rename_i u s1 hl
            injection hc with hc
            injection hc with h3 h4
            subst h3
            subst h4
            cases hb : f.tmps.get b with
            | none => rw [hb] at hl; cases hl
            | some pv =>
              rw [hb] at hl
              obtain ⟨f1, r1⟩ := loadA_run hi hl
              obtain ⟨f2, r2⟩ := ih f1.inv hs
              refine ⟨f1.trans f2, fun φ T w a hf hr hT => ?_⟩
              have hp := hf.tmps b
              rw [hb] at hp
              obtain ⟨v', g1, g2, g3⟩ := r1 φ T w _ hp hr (hT.left f2)
              obtain ⟨vs', k1, k2, k3⟩ := r2 φ _ w a hf g3.rel (foot_right hT)
              refine ⟨v' :: vs', .cons _ _ _ _ g1 k1, ?_, g3.trans f1.next f2 k3⟩
              have e : (resG a.tmps (.cell b t)).run P w = .ok v' w := g2
              rw [List.mapM_cons, Sem.run_bind, e]
              simp only [Result.andThen, Sem.run_bind, k2, Sem.run_pure]
          · cases hc
        · cases h
      · cases h
theorem finish_run {fn : Func} {f : Fr} {A A' : AS} {r : AEnd} (hi : Inv A) (h : finish P fn f A = some (r, A')) : AFr A A' ∧ ∀ (φ : Emb) (T : Nat → Prop) (w : World) (a : Act), FRel φ f a → Rel P φ T A w → Foot A A' T →
    ∃ v', EndRel φ r (.returned v') ∧ (results fn a.tmps).run P w = .ok v' w ∧ Post P φ T A A' w w φ := by
  have key : ∃ vs, resultsA P f fn.results.toList A = some (vs, A') ∧ r = .ret (resV vs) := by
    unfold finish at h
    split at h
    · rename_i v s hs
      injection h with h
      injection h with h1 h2
      subst h1
      subst h2
      exact ⟨_, hs, rfl⟩
    · rename_i vs s hne hs
      injection h with h
      injection h with h1 h2
      subst h1
      subst h2
      refine ⟨_, hs, ?_⟩
      cases vs with
      | nil => rfl
      | cons v vs => cases vs with
        | nil => exact (hne _ rfl).elim
        | cons u us => rfl
    · cases h
  obtain ⟨vs, hs, rfl⟩ := key
  obtain ⟨f1, r1⟩ := resultsA_run f _ hi hs
  refine ⟨f1, fun φ T w a hf hr hT => ?_⟩
  obtain ⟨vs', g1, g2, g3⟩ := r1 φ T w a hf hr hT
  refine ⟨resV vs', .ret _ _ ?_, results_run g2, g3⟩
  cases g1 with
  | nil => exact .tuple _ _ .nil
  | cons v v' l l' hv hs2 =>
    cases hs2 with
    | nil => exact hv
    | cons u u' m m' hu hm => exact .tuple _ _ (.cons _ _ _ _ hv (.cons _ _ _ _ hu hm))
end
end Go.EvL

namespace Go.EvL
open Go
inductive URel (φ : Emb) : Option Value → FrameMode → Prop
  | ret : URel φ none .returning
  | panic (v v' : Value) (h : VRel φ v v') : URel φ (some v) (.panicking [{ v := v', recovered := false }])
theorem URel.mono {φ φ' : Emb} (he : Ext φ φ') {u : Option Value} {m : FrameMode} (h : URel φ u m) : URel φ' u m := by
  cases h with
  | ret => exact .ret
  | panic v v' h => exact .panic v v' (h.mono he)
def DeferOK (P : Program) (call : CallF) : Prop := ∀ (d : Deferred) (A : AS) (u : Option Value) (A' : AS) (u' : Option Value), Inv A → A'.next ≤ A'.next → evalDeferred P call d A u = some (A', u') → AFr A A' ∧
  ∀ (φ : Emb) (T : Nat → Prop) (w : World) (d' : Deferred) (m : FrameMode), DRel φ d d' → URel φ u m → Rel P φ T A w → Foot A A' T → Fresh A A' φ →
    ∃ fv cap g args, d'.target = .fn fv cap ∧ (invoke d'.target d'.args).run P w = .ok (.enter g args) w ∧ CallsD P g args m w fun e m' w' => ∃ v φ', e = .returned v ∧ Post P φ T A A' w w' φ' ∧ URel φ' u' (settle m')
def DeferMono (P : Program) (call : CallF) : Prop := ∀ (d : Deferred) (A : AS) (u : Option Value) (A' : AS) (u' : Option Value), evalDeferred P call d A u = some (A', u') → A.next ≤ A'.next
section
variable {P : Program} {call : CallF}
theorem ld_next {A A' : AS} {b off n : Nat} {xs : List Value} (h : ld A b off n = some (xs, A')) : A'.next = A.next := by
  obtain ⟨_, _, _, _, _, _, _, rfl⟩ := ld_spec h
  rw [logR_eq]
theorem resCell_next {a : Option Value} {t : TypeId} {A A' : AS} {v : Value} (h : resCell P a t A = some (v, A')) : A'.next = A.next := by
  unfold resCell at h
  split at h
  · rename_i u s hl
    injection h with h
    injection h with h1 h2
    subst h2
    unfold loadA at hl
    split at hl
    · split at hl
      · unfold loadIn at hl
        rcases boolRec hl with ⟨_, h1⟩ | ⟨_, h1⟩
        · unfold oneOf at h1
          split at h1
          · rename_i hld
            injection h1 with h1
            injection h1 with _ h3
            subst h3
            exact ld_next hld
          · cases h1
        · split at h1
          · unfold aggOf at h1
            split at h1
            · rename_i hld
              injection h1 with h1
              injection h1 with _ h3
              subst h3
              exact ld_next hld
            · cases h1
          · cases h1
      · cases hl
    · cases hl
  · cases h
theorem resultsA_next (f : Fr) : ∀ (l : List ResultVar) {A A' : AS} {vs : List Value}, resultsA P f l A = some (vs, A') → A'.next = A.next := by
  intro l
  induction l with
  | nil => intro A A' vs h; have h' : some (([] : List Value), A) = some (vs, A') := h; injection h' with h'; injection h' with _ h2; rw [h2]
  | cons rv l ih =>
    intro A A' vs h
    rw [resultsA_cons] at h
    cases rv with
    | tmp t =>
      simp only at h
      split at h
      · rename_i us s hs
        injection h with h
        injection h with _ h2
        subst h2
        exact ih hs
      · cases h
    | cell b t =>
      simp only at h
      split at h
      · rename_i v s hc
        split at h
        · rename_i us s2 hs
          injection h with h
          injection h with _ h2
          subst h2
          rw [ih hs, resCell_next hc]
        · cases h
      · cases h
theorem finish_next {fn : Func} {f : Fr} {A A' : AS} {r : AEnd} (h : finish P fn f A = some (r, A')) : A'.next = A.next := by
  unfold finish at h
  split at h
  · rename_i hs
    injection h with h
    injection h with _ h2
    subst h2
    exact resultsA_next f _ hs
  · rename_i hs
    injection h with h
    injection h with _ h2
    subst h2
    exact resultsA_next f _ hs
  · cases h
theorem leave_cons {fn : Func} {f : Fr} (d : Deferred) (ds : List Deferred) (A : AS) (u : Option Value) : leave P call fn f (d :: ds) A u = (match evalDeferred P call d A u with
    | some (s, u') => leave P call fn f ds s u'
    | none => none) := rfl
theorem leave_mono (hD : DeferMono P call) {fn : Func} {f : Fr} : ∀ (ds : List Deferred) {A A' : AS} {u : Option Value} {r : AEnd}, leave P call fn f ds A u = some (r, A') → A.next ≤ A'.next := by
  intro ds
  induction ds with
  | nil =>
    intro A A' u r h
    have h' : leaveNil P fn f A u = some (r, A') := h
    unfold leaveNil at h'
    split at h'
    · rw [finish_next h']; exact Nat.le_refl _
    · injection h' with h'; injection h' with _ h2; rw [h2]; exact Nat.le_refl _
  | cons d ds ih =>
    intro A A' u r h
    rw [leave_cons] at h
    split at h
    · rename_i s u' hd
      exact Nat.le_trans (hD _ _ _ _ _ hd) (ih h)
    · cases h
theorem leave_sound (hD : DeferOK P call) (hDm : DeferMono P call) {fn : Func} {f : Fr} : ∀ (ds : List Deferred) {A A' : AS} {u : Option Value} {r : AEnd}, Inv A → A'.next ≤ A'.next → leave P call fn f ds A u = some (r, A') → AFr A A' ∧
    ∀ (φ : Emb) (T : Nat → Prop) (w : World) (a : Act) (ds' : List Deferred) (m : FrameMode), FRel φ f a → DRels φ ds ds' → URel φ u m → Rel P φ T A w → Foot A A' T → Fresh A A' φ →
      ∀ (R : Ending → World → Prop), (∀ φ' w' e, Post P φ T A A' w w' φ' → EndRel φ' r e → R e w') → Leaves P fn a.tmps R ds' m w := by
  intro ds
  induction ds with
  | nil =>
    intro A A' u r hi hn h
    have h' : leaveNil P fn f A u = some (r, A') := h
    unfold leaveNil at h'
    split at h'
    · obtain ⟨f1, r1⟩ := finish_run hi h'
      refine ⟨f1, fun φ T w a ds' m hf hd hu hr hT _ R hR => ?_⟩
      cases hd
      cases hu
      obtain ⟨v', g1, g2, g3⟩ := r1 φ T w a hf hr hT
      exact ⟨v', g2, hR φ w _ g3 g1⟩
    · injection h' with h'
      injection h' with h1 h2
      subst h1
      subst h2
      refine ⟨.refl hi, fun φ T w a ds' m hf hd hu hr hT _ R hR => ?_⟩
      cases hd
      cases hu with
      | panic _ v' hv => exact hR φ w _ (.refl hr rfl rfl rfl rfl rfl rfl rfl) (.panic _ _ hv)
  | cons d ds ih =>
    intro A A' u r hi hn h
    rw [leave_cons] at h
    split at h
    · rename_i B u' hd
      have hle := leave_mono hDm ds h
      obtain ⟨f1, r1⟩ := hD _ _ _ _ _ hi (Nat.le_refl _) hd
      obtain ⟨f2, r2⟩ := ih f1.inv hn h
      refine ⟨f1.trans f2, fun φ T w a ds' m hf hds hu hr hT hfr R hR => ?_⟩
      cases hds with
      | cons _ d' _ ds'' hdd hdl =>
        have hm : m ≠ .run := by cases hu <;> simp
        obtain ⟨fv, cap, g, args, e1, e2, e3⟩ := r1 φ T w d' m hdd hu hr (hT.left f2) (fresh_left hfr f2.next)
        refine ⟨hm, fv, cap, g, args, e1, e2, e3.mono ?_⟩
        rintro e m' w' ⟨v, φ', rfl, hp, hu'⟩
        exact r2 φ' _ w' a ds'' (settle m') (hf.mono hp.ext) (hdl.mono hp.ext) hu' hp.rel (foot_right hT) (fresh_right hfr f1.next hp) R fun φ2 w2 e hp2 he => hR φ2 w2 e (hp.trans f1.next f2 hp2) he
    · cases h
def Parts (P : Program) : Prop := ∀ call, CallOK P call → CallMono call → DrawOK P call ∧ DrawMono P call ∧ DeferOK P call ∧ DeferMono P call
theorem endBody_some {fn : Func} {r : Ex} {q : AEnd} {A' : AS} (h : endBody P call fn r = some (q, A')) : ∃ x f B, r = some (x, f, B) ∧ ((x = .normal ∨ x = .ret) ∧ leave P call fn f f.defers B none = some (q, A') ∨ ∃ v, x = .panic v ∧ leave P call fn f f.defers B (some v) = some (q, A')) := by
  unfold endBody at h
  split at h
  · exact ⟨_, _, _, rfl, .inl ⟨.inl rfl, h⟩⟩
  · exact ⟨_, _, _, rfl, .inl ⟨.inr rfl, h⟩⟩
  · exact ⟨_, _, _, rfl, .inr ⟨_, rfl, h⟩⟩
  · cases h
theorem enter_sound (hP : Parts P) (hO : OpsOK P) (hOm : OpMono P) (hC : CallOK P call) (hM : CallMono call) {g : FuncId} {fn : Func} (hfn : P.funcs[g]? = some fn) {args : Array Value} {A A' : AS} {r : AEnd} (h : enterA P call fn args A = some (r, A')) :
    A.next ≤ A'.next ∧ (Inv A → A'.next ≤ A'.next → CallSound P g args A r A') := by
  obtain ⟨hD, hDm, hF, hFm⟩ := hP call hC hM
  unfold enterA at h
  split at h
  · rename_i c hc
    obtain ⟨hb, h⟩ := boolSome h
    simp only [Bool.and_eq_true] at hb
    have b1 := Nat.le_of_ble_eq_true hb.1
    have b2 := Nat.le_of_ble_eq_true hb.2
    obtain ⟨x, f, B, h1, h2⟩ := endBody_some h
    have m1 := evalCode_mono hOm hM hDm c _ _ _ _ _ h1
    have m2 : B.next ≤ A'.next := by
      rcases h2 with ⟨_, h2⟩ | ⟨v, _, h2⟩
      · exact leave_mono hFm _ h2
      · exact leave_mono hFm _ h2
    refine ⟨Nat.le_trans m1 m2, fun hi hn => ?_⟩
    have s1 := evalCode_sound hO hOm hC hM hD hDm c _ _ _ _ _ hi (Nat.le_refl _) h1
    rcases h2 with ⟨hx, h2⟩ | ⟨v, rfl, h2⟩
    · obtain ⟨f2, r2⟩ := leave_sound hF hFm _ s1.fr.inv hn h2
      refine ⟨s1.fr.trans f2, fun φ T w args' hargs hr hT hfr => calls_of_wp_defers hfn hc ?_⟩
      refine s1.run φ T w _ (init_rel hargs b1 b2) hr (hT.left f2) (fresh_left hfr f2.next) _ fun φ' w' a' e hp hf' he => ?_
      have key := r2 φ' _ w' a' a'.defers .returning hf' hf'.defers .ret hp.rel (foot_right hT) (fresh_right hfr s1.fr.next hp) (fun e w' => ∃ φ', Post P φ T A A' w w' φ' ∧ EndRel φ' r e) fun φ2 w2 e hp2 he => ⟨φ2, hp.trans s1.fr.next f2 hp2, he⟩
      rcases hx with rfl | rfl
      · cases he; exact key
      · cases he; exact key
    · obtain ⟨f2, r2⟩ := leave_sound hF hFm _ s1.fr.inv hn h2
      refine ⟨s1.fr.trans f2, fun φ T w args' hargs hr hT hfr => calls_of_wp_defers hfn hc ?_⟩
      refine s1.run φ T w _ (init_rel hargs b1 b2) hr (hT.left f2) (fresh_left hfr f2.next) _ fun φ' w' a' e hp hf' he => ?_
      cases he with
      | panic _ v' hv =>
        exact r2 φ' _ w' a' a'.defers _ hf' hf'.defers (.panic _ _ hv) hp.rel (foot_right hT) (fresh_right hfr s1.fr.next hp) (fun e w' => ∃ φ', Post P φ T A A' w w' φ' ∧ EndRel φ' r e) fun φ2 w2 e hp2 he => ⟨φ2, hp.trans s1.fr.next f2 hp2, he⟩
  · cases h
def OrcOK (P : Program) (orc : Orc) : Prop := ∀ (g : FuncId) (args : Array Value) (A : AS) (r : AEnd) (A' : AS), orcCall orc g args A = some (some (r, A')) → A.next ≤ A'.next ∧ (Inv A → A'.next ≤ A'.next → CallSound P g args A r A')
theorem evalCall_sound (hP : Parts P) (hO : OpsOK P) (hOm : OpMono P) {orc : Orc} (hQ : OrcOK P orc) : ∀ n, CallOK P (evalCall P orc n) ∧ CallMono (evalCall P orc n) := by
  intro n
  induction n with
  | zero => exact ⟨fun g args A r A' _ _ h => (by cases h), fun g args A r A' h => (by cases h)⟩
  | succ n ih =>
    have key : ∀ g args A r A', evalCall P orc (n + 1) g args A = some (r, A') → A.next ≤ A'.next ∧ (Inv A → A'.next ≤ A'.next → CallSound P g args A r A') := by
      intro g args A r A' h
      have h' : (match orcCall orc g args A with | some r => r | none => plainCall P (evalCall P orc n) g args A) = some (r, A') := h
      split at h'
      · rename_i q hq
        subst h'
        exact hQ g args A r A' hq
      · unfold plainCall at h'
        split at h'
        · cases h'
        · rename_i fn hfn
          exact enter_sound hP hO hOm ih.1 ih.2 hfn h'
    exact ⟨fun g args A r A' hi hn h => (key g args A r A' h).2 hi hn, fun g args A r A' h => (key g args A r A' h).1⟩
end
end Go.EvL

namespace Go.EvL
open Go
section
variable {P : Program} {f : Fr} {o : Oper} {A A' : AS} {nx : ANext}
theorem pair_next {a : ANext} {s : AS} (h : some (a, s) = some (nx, A')) (hs : A.next ≤ s.next) : A.next ≤ A'.next := by injection h with h; injection h with _ h; rw [← h]; exact hs
theorem valR_next {x : Option Value} {s : AS} (h : valR s x = some (nx, A')) (hs : A.next ≤ s.next) : A.next ≤ A'.next := by
  obtain ⟨_, _, _, rfl⟩ := valR_some h; exact hs
theorem purely_next (h : purely P f o A = some (nx, A')) : A.next ≤ A'.next := by
  unfold purely at h
  obtain ⟨_, h⟩ := boolSome h
  unfold valOfNext at h
  split at h
  · obtain ⟨_, h⟩ := boolSome h
    exact pair_next h (Nat.le_refl _)
  · cases h
theorem logR_next (s : AS) (c : Nat) : (logR s c).next = s.next := by rw [logR_eq]
theorem logW_next (s : AS) (c : Nat) : (logW s c).next = s.next := by rw [logW_eq]
theorem put_next (s : AS) (b : Nat) (o : AObj) : (s.put b o).next = s.next := by rw [put_eq]
theorem new_next (s : AS) (o : Nat → AObj) : (s.new o).next = s.next + 1 := by rw [new_eq]
theorem setMem_next (s : AS) (c : Nat) (l : List Nat) : (setMem s c l).next = s.next := by rw [setMem_eq]
theorem setFz_next (s : AS) (c k : Nat) : (setFz s c k).next = s.next := by rw [setFz_eq]
theorem alone_next (s : AS) (b c : Nat) : (alone s b c).next = s.next := by
  unfold alone
  split
  · rfl
  · rw [setMem_next, kill_next]
theorem stc_next {b off : Nat} {vs : List Value} (h : stc A b off vs = some A') : A'.next = A.next := by
  unfold stc at h
  split at h
  · unfold stIn at h
    obtain ⟨_, h⟩ := boolSome h
    rw [forceL_eq] at h
    injection h with h
    rw [← h, logW_next, put_next, alone_next]
  · cases h
theorem appendA_next {e : TypeId} {v : Value} {xs : List Value} {n : Nat} (h : appendA P e A v xs n = some (nx, A')) : A.next ≤ A'.next := by
  unfold appendA at h
  split at h
  · split at h
    · rename_i i _
      cases n with
      | zero => exact pair_next h (Nat.le_refl _)
      | succ n =>
        have h' : (Bool.rec none (appTo e A _ _ (n + 1) i.size xs) (appOk i i.size _ (n + 1) xs) : Res) = some (nx, A') := h
        obtain ⟨_, h1⟩ := boolSome h'
        unfold appTo at h1
        split at h1
        · obtain ⟨_, h2⟩ := boolSome h1
          exact pair_next h2 (by rw [newRow_next]; omega)
        · split at h1
          · obtain ⟨_, h2⟩ := boolSome h1
            rw [app_next h2]; omega
          · cases h1
        · split at h1
          · unfold appX at h1
            rw [forceL_eq] at h1
            obtain ⟨_, h2⟩ := boolSome h1
            exact pair_next h2 (by rw [newRow_next, logR_next]; omega)
          · cases h1
        · cases h1
    · cases h
  · cases h
theorem callA_next {g : FuncId} {vs : List Value} (h : callA P g vs A = some (nx, A')) : A.next ≤ A'.next := by
  unfold callA at h
  split at h
  · cases h
  · split at h
    · exact pair_next h (Nat.le_refl _)
    · rcases boolRec h with ⟨_, h⟩ | ⟨_, h⟩
      · obtain ⟨_, h⟩ := boolSome h
        unfold valOfNext at h
        split at h
        · obtain ⟨_, h⟩ := boolSome h
          exact pair_next h (Nat.le_refl _)
        · cases h
      · split at h
        · exact pair_next h (Nat.le_refl _)
        · cases h
theorem boxA_next {e : TypeId} {x : Option Value} (h : boxA A e x = some (nx, A')) : A.next ≤ A'.next := by
  unfold boxA at h
  split at h
  · exact pair_next h (by rw [newRow_next]; omega)
  · cases h
theorem buildA_next {t : TypeId} {ps : Array (Nat × Operand)} (h : buildA P f t ps A = some (nx, A')) : A.next ≤ A'.next := by
  unfold buildA at h
  split at h
  · obtain ⟨_, h⟩ := boolSome h
    rw [Option.map_eq_some_iff] at h
    obtain ⟨cs, _, h⟩ := h
    injection h with _ h
    rw [← h]; exact Nat.le_refl _
  · rw [Option.bind_eq_some_iff] at h
    obtain ⟨n, _, h⟩ := h
    rw [Option.map_eq_some_iff] at h
    obtain ⟨cs, _, h⟩ := h
    injection h with _ h
    rw [← h]; exact Nat.le_refl _
  · cases h
theorem buildSliceA_next {t : TypeId} {len : Nat} {ps : Array (Nat × Operand)} (h : buildSliceA P f t len ps A = some (nx, A')) : A.next ≤ A'.next := by
  unfold buildSliceA at h
  split at h
  · split at h
    · split at h
      · rw [Option.map_eq_some_iff] at h
        obtain ⟨cs, _, h⟩ := h
        injection h with _ h
        rw [← h, newRow_next]; omega
      · cases h
    · cases h
  · cases h
theorem oneOf_next {r : Option (List Value × AS)} (hr : ∀ xs s, r = some (xs, s) → A.next ≤ s.next) (h : oneOf r = some (nx, A')) : A.next ≤ A'.next := by
  unfold oneOf at h
  split at h
  · exact pair_next h (hr _ _ rfl)
  · cases h
theorem aggOf_next {r : Option (List Value × AS)} (hr : ∀ xs s, r = some (xs, s) → A.next ≤ s.next) (h : aggOf r = some (nx, A')) : A.next ≤ A'.next := by
  unfold aggOf at h
  split at h
  · exact pair_next h (hr _ _ rfl)
  · cases h
theorem loadA_next {t : TypeId} {x : Option Value} (h : loadA P t x A = some (nx, A')) : A.next ≤ A'.next := by
  unfold loadA at h
  split at h
  · split at h
    · unfold loadIn at h
      rcases boolRec h with ⟨_, h⟩ | ⟨_, h⟩
      · exact oneOf_next (fun xs s hs => by rw [ld_next hs]; exact Nat.le_refl _) h
      · split at h
        · exact aggOf_next (fun xs s hs => by rw [ld_next hs]; exact Nat.le_refl _) h
        · cases h
    · cases h
  · cases h
theorem storeA_next {t : TypeId} {x y : Option Value} (h : storeA P t x y A = some (nx, A')) : A.next ≤ A'.next := by
  unfold storeA at h
  split at h
  · split at h
    · split at h
      · obtain ⟨_, h⟩ := boolSome h
        unfold skipOf at h
        split at h
        · rename_i hs
          exact pair_next h (by rw [stc_next hs]; exact Nat.le_refl _)
        · cases h
      · cases h
    · cases h
  · cases h
theorem cmpR_next {op : BinOp} {b : Bool} (h : cmpR op b A = some (nx, A')) : A.next ≤ A'.next := by
  unfold cmpR at h
  split at h
  · exact pair_next h (Nat.le_refl _)
  · exact pair_next h (Nat.le_refl _)
  · cases h
theorem binA_next {op : BinOp} {t : TypeId} {x y : Option Value} (h : binA P f o op t x y A = some (nx, A')) : A.next ≤ A'.next := by
  unfold binA at h
  split at h
  · split at h
    · split at h
      · exact pair_next h (Nat.le_refl _)
      · unfold slowBin at h
        split at h
        · exact cmpR_next h
        · exact cmpR_next h
        · exact cmpR_next h
        · unfold samePtr at h
          split at h
          · obtain ⟨_, h⟩ := boolSome h
            exact cmpR_next h
          · cases h
        · exact purely_next h
    · cases h
  · cases h
theorem bytesStr_next {b off n : Nat} (h : bytesStr b off n A = some (nx, A')) : A.next ≤ A'.next := by
  cases n with
  | zero => exact pair_next h (Nat.le_refl _)
  | succ n =>
    have h' : (match ld A b off (n + 1) with
      | some (xs, s) => (match bytesOfCells xs with
        | some l => forceL l fun l => some (ANext.val (.string ⟨⟨l⟩⟩), s)
        | none => none)
      | none => none) = some (nx, A') := h
    split at h'
    · rename_i hl
      split at h'
      · rw [forceL_eq] at h'
        exact pair_next h' (by rw [ld_next hl]; exact Nat.le_refl _)
      · cases h'
    · cases h'
theorem convA_next {a b : TypeId} {x : Option Value} (h : convA P f o a b x A = some (nx, A')) : A.next ≤ A'.next := by
  unfold convA at h
  split at h
  · split at h
    · split at h
      · exact bytesStr_next h
      · cases h
    · cases h
  · unfold ptrConv at h
    split at h
    · split at h
      · unfold toUnsafe at h
        split at h
        · split at h
          · obtain ⟨_, h⟩ := boolSome h
            exact pair_next h (by rw [logR_next]; exact Nat.le_refl _)
          · cases h
        · cases h
      · unfold fromUnsafe at h
        split at h
        · split at h
          · obtain ⟨_, h⟩ := boolSome h
            exact pair_next h (by rw [logR_next]; exact Nat.le_refl _)
          · cases h
        · cases h
      · cases h
    · exact purely_next h
  · split at h
    · split at h
      · unfold strBytes at h
        rw [forceN_eq] at h
        obtain ⟨_, h⟩ := boolSome h
        exact pair_next h (by rw [logW_next, logR_next, setFz_next, newRow_next]; omega)
      · cases h
    · exact purely_next h
  · exact purely_next h
theorem sliceA_next {t : TypeId} {x : Option Value} {lo hi mx : Option Operand} (h : sliceA P f o t x lo hi mx A = some (nx, A')) : A.next ≤ A'.next := by
  unfold sliceA at h
  split at h
  · split at h
    · split at h
      · have inN : ∀ (a1 a2 a3 a4 a5 a6 a7 c : Nat), sliceIn a1 a2 a3 a4 a5 a6 a7 (logR A c) = some (nx, A') → A.next ≤ A'.next := fun a1 a2 a3 a4 a5 a6 a7 c h => by
          unfold sliceIn at h
          obtain ⟨_, h⟩ := boolSome h
          exact pair_next h (by rw [logR_eq]; exact Nat.le_refl _)
        cases mx with
        | none =>
          have h2 : sliceAt P _ _ _ _ _ _ _ A = some (nx, A') := h
          unfold sliceAt at h2
          split at h2
          · exact inN _ _ _ _ _ _ _ _ h2
          · cases h2
        | some y =>
          have h2 : sliceMax P _ _ _ _ _ _ _ A = some (nx, A') := h
          unfold sliceMax at h2
          split at h2
          · rcases boolRec h2 with ⟨_, h3⟩ | ⟨_, h3⟩
            · exact inN _ _ _ _ _ _ _ _ h3
            · unfold sliceX at h3
              obtain ⟨_, h3⟩ := boolSome h3
              exact pair_next h3 (by rw [logR_eq]; exact Nat.le_refl _)
          · cases h2
      · cases h
    · cases h
  · split at h
    · split at h
      · exact pair_next h (Nat.le_refl _)
      · cases h
    · exact purely_next h
  · split at h
    · split at h
      · unfold strSlice at h
        obtain ⟨_, h⟩ := boolSome h
        rw [forceL_eq] at h
        exact pair_next h (Nat.le_refl _)
      · cases h
    · cases h
  · exact purely_next h
theorem builtinA_next {b : Builtin} {args : List Operand} {tys : List TypeId} (h : builtinA P f o b args tys A = some (nx, A')) : A.next ≤ A'.next := by
  unfold builtinA at h
  split at h
  · unfold lenA at h
    split at h
    · exact pair_next h (Nat.le_refl _)
    · rw [forceN_eq] at h; exact pair_next h (Nat.le_refl _)
    · unfold lenMapA at h
      split at h
      · rw [forceN_eq] at h; exact pair_next h (by rw [logR_eq]; exact Nat.le_refl _)
      · cases h
    · exact purely_next h
  · split at h
    · unfold appA at h
      split at h
      · split at h
        · rename_i harg
          have sp := arg_spec harg
          have := appendA_next h
          rw [sp.next] at this
          exact this
        · cases h
      · cases h
    · cases h
  · split at h
    · unfold copyA at h
      split at h
      · split at h
        · rename_i xs m A1 i harg hin
          have sp := arg_spec harg
          obtain ⟨_, h⟩ := boolSome h
          cases m with
          | zero =>
            have h' : some (ANext.val (.int .i64 (.ofNat 0)), A1) = some (nx, A') := h
            exact pair_next h' (Nat.le_of_eq sp.next.symm)
          | succ m0 =>
            have h' : (match (generalizing := false) (‹Option Addr›) with
              | some ⟨b, off, none⟩ => match stc A1 b off xs with
                | some s => some (ANext.val (.int .i64 (.ofNat (Nat.add m0 1))), s)
                | none => none
              | _ => none) = some (nx, A') := h
            split at h'
            · split at h'
              · rename_i s1 hs1
                have := stc_next hs1
                exact pair_next h' (by have := sp.next; omega)
              · cases h'
            · cases h'
        · cases h
      · cases h
    · cases h
  · exact pair_next h (Nat.le_refl _)
  · split at h
    · unfold dataA at h
      split at h
      · exact pair_next h (Nat.le_refl _)
      · exact purely_next h
    · cases h
  · split at h
    · unfold ustrA at h
      split at h
      · unfold ustrRow at h
        split at h
        · split at h
          · obtain ⟨_, h⟩ := boolSome h
            unfold ustrIn at h
            split at h
            · rw [forceL_eq] at h
              obtain ⟨_, h⟩ := boolSome h
              exact pair_next h (by rw [logW_next, logR_next, setFz_next]; exact Nat.le_refl _)
            · cases h
          · cases h
        · cases h
      · exact purely_next h
    · cases h
  · exact purely_next h
theorem calleeA_next {c : Call} (h : calleeA P f o c A = some (nx, A')) : A.next ≤ A'.next := by
  unfold calleeA at h
  split at h
  · unfold callV at h
    split at h
    · exact callA_next h
    · cases h
  · exact builtinA_next h
  · cases h
theorem opMono (P : Program) : OpMono P := by
  intro f o A nx A' h
  obtain ⟨d, op, ty, pos, af, gd⟩ := o
  cases op with
  | move x => exact valR_next (show valR A (f.eval x) = _ from h) (Nat.le_refl _)
  | assign x => exact valR_next (show valR A (f.eval x) = _ from h) (Nat.le_refl _)
  | pick c a b =>
    have h' : pickA f (f.eval c) a b A = some (nx, A') := h
    unfold pickA at h'
    split at h'
    · exact valR_next h' (Nat.le_refl _)
    · exact valR_next h' (Nat.le_refl _)
    · cases h'
  | alloc e => exact boxA_next (show boxA A e (zeroOf P e) = _ from h)
  | box e x => exact boxA_next (show boxA A e (f.eval x) = _ from h)
  | build t ps => exact buildA_next (show buildA P f t ps A = _ from h)
  | buildSlice t n ps => exact buildSliceA_next (show buildSliceA P f t n ps A = _ from h)
  | insert => cases h
  | load t a => exact loadA_next (show loadA P t (evalG P f a) A = _ from h)
  | store t a x => exact storeA_next (show storeA P t (f.eval a) (f.eval x) A = _ from h)
  | ready => cases h
  | waits => cases h
  | nilCheck x =>
    have h' : nilCheckA P f _ (f.eval x) A = some (nx, A') := h
    unfold nilCheckA at h'
    split at h'
    · exact pair_next h' (Nat.le_refl _)
    · exact pair_next h' (Nat.le_refl _)
    · exact purely_next h'
  | binOp op t x y u => exact binA_next (show binA P f _ op t (f.eval x) (f.eval y) A = _ from h)
  | unOp => exact purely_next (show purely P f _ A = _ from h)
  | convert a b x => exact convA_next (show convA P f _ a b (f.eval x) A = _ from h)
  | sliceToArrayPointer => cases h
  | makeInterface t x =>
    have h' : ifaceA P t (f.eval x) A = some (nx, A') := h
    unfold ifaceA at h'
    split at h'
    · split at h'
      · cases h'
      · exact pair_next h' (Nat.le_refl _)
      · cases h'
    · cases h'
  | makeFunc fn a b =>
    have h' : funcA f fn a b A = some (nx, A') := h
    unfold funcA at h'
    split at h'
    · split at h'
      · split at h'
        · exact pair_next h' (Nat.le_refl _)
        · cases h'
      · cases h'
    · cases h'
  | makeMap t r =>
    cases r with
    | none =>
      exact pair_next (show some (ANext.val (.map (some A.next)), A.new fun _ => .map [] 0) = some (nx, A') from h)
        (by rw [new_next]; omega)
    | some _ => cases h
  | makeChan => cases h
  | makeSlice t l c =>
    have h' : makeA P t (f.eval l) (f.eval c) A = some (nx, A') := h
    unfold makeA at h'
    split at h'
    · split at h'
      · split at h'
        · unfold makeIn at h'
          obtain ⟨_, h'⟩ := boolSome h'
          exact pair_next h' (by rw [newRow_next]; omega)
        · cases h'
      · cases h'
    · cases h'
  | slice t x lo hi mx =>
    have hg : sliceG mx hi (sliceA P f ⟨d, .slice t x lo hi mx, ty, pos, af, gd⟩ t (f.eval x) lo hi mx A) = some (nx, A') := h
    have h' : sliceA P f ⟨d, .slice t x lo hi mx, ty, pos, af, gd⟩ t (f.eval x) lo hi mx A = some (nx, A') := by cases mx <;> cases hi <;> first | exact hg | cases hg
    exact sliceA_next h'
  | fieldAddr t x i =>
    have h' : fieldAddrA P t (evalG P f x) i A = some (nx, A') := h
    unfold fieldAddrA at h'
    split at h'
    · split at h'
      · split at h'
        · split at h'
          · exact pair_next h' (Nat.le_refl _)
          · cases h'
        · cases h'
      · cases h'
    · cases h'
  | field t x i =>
    have h' : fieldA P t (f.eval x) i A = some (nx, A') := h
    unfold fieldA at h'
    split at h'
    · split at h'
      · split at h'
        · exact valR_next h' (Nat.le_refl _)
        · cases h'
      · cases h'
    · cases h'
  | indexAddr t x i =>
    have h' : indexAddrA P t (evalG P f x) (f.eval i) A = some (nx, A') := h
    unfold indexAddrA at h'
    split at h'
    · obtain ⟨_, _, _, _, rfl⟩ := elem_ok h'; exact Nat.le_refl _
    · obtain ⟨_, _, _, _, rfl⟩ := elem_ok h'; exact Nat.le_refl _
    · obtain ⟨_, _, _, _, rfl⟩ := elem_ok h'; exact Nat.le_refl _
    · cases h'
  | index t x i =>
    have h' : indexA P f _ t (f.eval x) (f.eval i) A = some (nx, A') := h
    unfold indexA at h'
    split at h'
    · split at h'
      · split at h'
        · unfold byteA at h'
          split at h'
          · rw [forceN_eq] at h'; exact pair_next h' (Nat.le_refl _)
          · cases h'
        · cases h'
      · cases h'
    · exact purely_next h'
  | lookup t x k ok =>
    have h' : lookupA P t (f.eval x) (f.eval k) ok A = some (nx, A') := h
    unfold lookupA at h'
    split at h'
    · split at h'
      · split at h'
        · split at h'
          · exact pair_next h' (by rw [logR_next]; exact Nat.le_refl _)
          · split at h'
            · exact pair_next h' (by rw [logR_next]; exact Nat.le_refl _)
            · cases h'
          · cases h'
        · cases h'
      · cases h'
    · cases h'
  | mapUpdate t m k x =>
    have h' : mapUpdateA P t (f.eval m) (f.eval k) (f.eval x) A = some (nx, A') := h
    unfold mapUpdateA at h'
    split at h'
    · split at h'
      · split at h'
        · split at h'
          · exact pair_next h' (by rw [logW_next, logR_next, put_next]; exact Nat.le_refl _)
          · cases h'
        · cases h'
      · cases h'
    · cases h'
  | mapEntry => cases h
  | entryStore => cases h
  | range t x =>
    have h' : rangeA P t (f.eval x) A = some (nx, A') := h
    unfold rangeA at h'
    split at h'
    · exact pair_next h' (by rw [new_next]; omega)
    · cases h'
  | next it b =>
    have h' : nextA (f.eval it) b A = some (nx, A') := h
    unfold nextA at h'
    split at h'
    · split at h'
      · unfold nextIn at h'
        rcases boolRec h' with ⟨_, h1⟩ | ⟨_, h1⟩
        · exact pair_next h1 (by rw [logR_next]; exact Nat.le_refl _)
        · exact pair_next h1 (by rw [logW_next, logR_next, put_next]; exact Nat.le_refl _)
      · cases h'
    · cases h'
  | entry => cases h
  | typeAssert x t a ok =>
    have h' : assertA P (f.eval x) a ok A = some (nx, A') := h
    unfold assertA at h'
    split at h'
    · cases h'
    · rcases boolRec h' with ⟨_, h1⟩ | ⟨_, h1⟩
      · split at h1
        · exact pair_next h1 (Nat.le_refl _)
        · cases h1
      · exact pair_next h1 (Nat.le_refl _)
    · cases h'
  | extract t i =>
    have h' : extractA (f.eval t) i A = some (nx, A') := h
    unfold extractA at h'
    split at h'
    · exact valR_next h' (Nat.le_refl _)
    · cases h'
  | call c => exact calleeA_next (show calleeA P f _ c A = _ from h)
  | go => cases h
  | defer c =>
    have h' : deferA f c A = some (nx, A') := h
    unfold deferA at h'
    split at h'
    · split at h'
      · exact pair_next h' (Nat.le_refl _)
      · cases h'
    · cases h'
  | panic x =>
    have h' : panicA (f.eval x) A = some (nx, A') := h
    unfold panicA at h'
    split at h'
    · exact pair_next h' (Nat.le_refl _)
    · cases h'
  | send => cases h
  | recv => cases h
  | select => cases h
end
end Go.EvL

namespace Go.EvL
open Go
section
variable {P : Program} {f : Fr} {A A' : AS} {nx : ANext} {d : Option Tmp} {ty : TypeId} {pos : String} {af : Array Edge} {gd : Option (Nat × Bool)}
theorem assert_run_yes {t : TypeId} {dd : TypeDesc} (hd : P.underlying t = some dd) (hni : ∀ l, dd ≠ .interface l) (xt : TypeId) (v : Value) (w : World) : (Instr.typeAssert (.iface t v) xt t true).run P w = .ok (.tuple #[v, .bool true]) w := by
  simp only [Instr.typeAssert, Sem.run_bind, run_underlying hd, Result.andThen]
  cases dd <;> first | exact absurd rfl (hni _) | (simp only [if_true]; rfl)
theorem assert_run_no {t u : TypeId} {dd : TypeDesc} (hd : P.underlying t = some dd) (hni : ∀ l, dd ≠ .interface l) (xt : TypeId) (v z : Value) (w : World) (hu : u ≠ t) (hz : (zeroValue t).run P w = .ok z w) :
    (Instr.typeAssert (.iface u v) xt t true).run P w = .ok (.tuple #[z, .bool false]) w := by
  simp only [Instr.typeAssert, Sem.run_bind, run_underlying hd, Result.andThen]
  cases dd <;> first | exact absurd rfl (hni _) | (simp only [if_neg hu, if_true, Sem.run_bind, hz, Result.andThen]; rfl)
theorem assert_sound (hi : Inv A) (x : Operand) (xt t : TypeId) (ok : Bool) (h : evalOp P f ⟨d, .typeAssert x xt t ok, ty, pos, af, gd⟩ A = some (nx, A')) : Sound P f A ⟨d, .typeAssert x xt t ok, ty, pos, af, gd⟩ nx A' := by
  have h' : assertA P (f.eval x) t ok A = some (nx, A') := h
  unfold assertA at h'
  split at h'
  · cases h'
  · rename_i u v dd hni hx hd
    have hni' : ∀ l, dd ≠ .interface l := hni
    rcases boolRec h' with ⟨hb, h1⟩ | ⟨hb, h1⟩
    · split at h1
      · rename_i z hz
        injection h1 with h1
        injection h1 with h1 h2
        subst h1
        subst h2
        obtain ⟨hp, hzr⟩ := zero_rel hz
        have hu : u ≠ t := by rintro rfl; rw [Nat.beq_refl] at hb; cases hb
        refine sound_same hi fun φ w a hf => ?_
        have hv := hf.eval hx
        generalize hq : a.eval x = q at hv
        cases hv with
        | iface _ _ v' hvv =>
          have e : (execOp a.eval ⟨d, .typeAssert x xt t true, ty, pos, af, gd⟩).run P w = .ok (.value (.tuple #[z, .bool false])) w := by
            refine run_v ?_
            rw [hq]
            exact assert_run_no hd hni' xt v' z w hu (hzr w)
          rw [e]
          exact .val _ _ (.tuple _ _ (.cons _ _ _ _ (plain_self φ _ _ hp) (.cons _ _ _ _ (.bool _) .nil)))
      · cases h1
    · have := Nat.eq_of_beq_eq_true hb
      subst this
      injection h1 with h1
      injection h1 with h1 h2
      subst h1
      subst h2
      refine sound_same hi fun φ w a hf => ?_
      have hv := hf.eval hx
      generalize hq : a.eval x = q at hv
      cases hv with
      | iface _ _ v' hvv =>
        have e : (execOp a.eval ⟨d, .typeAssert x xt u true, ty, pos, af, gd⟩).run P w = .ok (.value (.tuple #[v', .bool true])) w := by
          refine run_v ?_
          rw [hq]
          exact assert_run_yes hd hni' xt v' w
        rw [e]
        exact .val _ _ (.tuple _ _ (.cons _ _ _ _ hvv (.cons _ _ _ _ (.bool _) .nil)))
  · cases h'
inductive PRels (φ : Emb) : List (Nat × Value) → List (Nat × Value) → Prop
  | nil : PRels φ [] []
  | cons (i : Nat) (v v' : Value) (l l' : List (Nat × Value)) (h : VRel φ v v') (hs : PRels φ l l') : PRels φ ((i, v) :: l) ((i, v') :: l')
theorem parts_rel {φ : Emb} {a : Act} (hf : FRel φ f a) : ∀ (l : List (Nat × Operand)) {ps : List (Nat × Value)}, evalParts f l = some ps → PRels φ ps (l.map fun (i, x) => (i, a.eval x)) := by
  intro l
  induction l with
  | nil => intro vs h; have h' : some ([] : List (Nat × Value)) = some vs := h; injection h' with h'; subst h'; exact .nil
  | cons x l ih =>
    intro vs h
    obtain ⟨i, x⟩ := x
    have h' : (match f.eval x with | some v => (match evalParts f l with | some vs => some ((i, v) :: vs) | none => none) | none => none) = some vs := h
    split at h'
    · rename_i v hx
      split at h'
      · rename_i us hu
        injection h' with h'
        subst h'
        exact .cons _ _ _ _ _ (hf.eval hx) (ih hu)
      · cases h'
    · cases h'
theorem VRels.set {φ : Emb} {l l' : List Value} (i : Nat) {v v' : Value} (h : VRels φ l l') (hv : VRel φ v v') : VRels φ (l.set i v) (l'.set i v') := by
  refine .of_get (by simp [h.length]) fun j u hu => ?_
  rw [List.getElem?_set] at hu ⊢
  rw [← h.length]
  split at hu
  · rename_i e
    rw [if_pos e]
    split at hu
    · rename_i e'
      injection hu with hu
      subst hu
      exact ⟨v', by rw [if_pos e'], hv⟩
    · cases hu
  · rename_i e
    rw [if_neg e]
    exact h.get j hu
theorem put_rel {φ : Emb} (off : Nat) : ∀ (l l' : List Value) (k : Nat) (cs cs' : Array Value), VRels φ l l' → VRels φ cs.toList cs'.toList →
    VRels φ ((l.zipIdx k).foldl (fun cs (x : Value × Nat) => cs.setIfInBounds (off + x.2) x.1) cs).toList ((l'.zipIdx k).foldl (fun cs (x : Value × Nat) => cs.setIfInBounds (off + x.2) x.1) cs').toList := by
  intro l
  induction l with
  | nil => intro l' k cs cs' h hc; cases h; exact hc
  | cons v l ih =>
    intro l' k cs cs' h hc
    cases h with
    | cons _ v' _ l' hv hs =>
      refine ih l' (k + 1) _ _ hs ?_
      rw [Array.toList_setIfInBounds, Array.toList_setIfInBounds]
      exact hc.set _ hv
theorem fill_rel {φ : Emb} {place place' : Nat → Option (Nat × Nat)} (hp : ∀ i p, place i = some p → place' i = some p) : ∀ (ps ps' : List (Nat × Value)) (cs cs' out : Array Value), PRels φ ps ps' → VRels φ cs.toList cs'.toList →
    Instr.fill place cs ps = some out → ∃ out', Instr.fill place' cs' ps' = some out' ∧ VRels φ out.toList out'.toList := by
  intro ps
  induction ps with
  | nil =>
    intro ps' cs cs' out h hc he
    cases h
    injection he with he
    subst he
    exact ⟨cs', rfl, hc⟩
  | cons x ps ih =>
    intro ps' cs cs' out h hc he
    cases h with
    | cons i v v' _ ps' hv hs =>
      have hl := (cells_rel hv).length
      have hl2 := hc.length
      simp only [Array.length_toList] at hl hl2
      simp only [Instr.fill] at he ⊢
      split at he
      · cases he
      · rename_i off size hpl
        rw [hp _ _ hpl]
        simp only
        rw [← hl, ← hl2]
        split at he
        · cases he
        · rename_i hk
          rw [if_neg hk]
          refine ih ps' _ _ out hs ?_ he
          have := put_rel off _ _ 0 cs cs' (cells_rel hv) hc
          rw [← Array.foldl_toList, ← Array.foldl_toList, Array.toList_zipIdx, Array.toList_zipIdx]
          exact this
theorem puts_size (off : Nat) : ∀ (l : List (Value × Nat)) (cs : Array Value), (l.foldl (fun cs (x : Value × Nat) => cs.setIfInBounds (off + x.2) x.1) cs).size = cs.size := by
  intro l
  induction l with
  | nil => intro cs; rfl
  | cons y l ih => intro cs; rw [List.foldl_cons, ih, Array.size_setIfInBounds]
theorem fill_size {place : Nat → Option (Nat × Nat)} : ∀ (ps : List (Nat × Value)) (cs out : Array Value), Instr.fill place cs ps = some out → out.size = cs.size := by
  intro ps
  induction ps with
  | nil => intro cs out h; injection h with h; rw [h]
  | cons x ps ih =>
    intro cs out h
    obtain ⟨i, v⟩ := x
    simp only [Instr.fill] at h
    split at h
    · cases h
    · split at h
      · cases h
      · rw [ih _ _ h, ← Array.foldl_toList]
        exact puts_size _ _ _
end
end Go.EvL

namespace Go.EvL
open Go
/-- what is asked of the program's types -/
structure Tys (P : Program) : Prop where
  fields : ∀ (t : TypeId) (fs : Array Field), t < P.types.size → P.underlying t = some (.struct fs) → ∀ fl ∈ fs.toList, ∃ n, szOf P fl.type = some n
section
variable {P : Program} {f : Fr} {A A' : AS} {nx : ANext} {d : Option Tmp} {ty : TypeId} {pos : String} {af : Array Edge} {gd : Option (Nat × Bool)}
theorem places_ok : ∀ (l : List Field), (∀ fl ∈ l, ∃ n, szOf P fl.type = some n) → l.mapM (fun f => (P.info? f.type).map fun i => (f.offset, i.size)) = some (l.map fun f => (f.offset, (szOf P f.type).getD 0)) := by
  intro l
  induction l with
  | nil => intro _; rfl
  | cons x l ih =>
    intro h
    obtain ⟨n, hn⟩ := h x (by simp)
    have e := ih fun fl hfl => h fl (by simp [hfl])
    unfold szOf at hn
    cases hi : P.info? x.type with
    | none => rw [hi] at hn; cases hn
    | some i => simp [List.mapM_cons, e, hi, szOf]
theorem zero_info {t : TypeId} {z : Value} (h : zeroOf P t = some z) : ∃ i, P.info? t = some i ∧ i.zero = some z := by
  unfold zeroOf at h
  split at h
  · rename_i z' hz
    unfold constV at h
    obtain ⟨_, he⟩ := boolSome h
    injection he with he
    subst he
    cases hi : P.info? t with
    | none => rw [hi] at hz; cases hz
    | some i => rw [hi] at hz; exact ⟨i, rfl, hz⟩
  · cases h
theorem build_sound (hS : Tys P) (hi : Inv A) (t : TypeId) (ps : Array (Nat × Operand)) (h : evalOp P f ⟨d, .build t ps, ty, pos, af, gd⟩ A = some (nx, A')) : Sound P f A ⟨d, .build t ps, ty, pos, af, gd⟩ nx A' := by
  have h' : buildA P f t ps A = some (nx, A') := h
  unfold buildA at h'
  split at h'
  · rename_i z fs us hz hu hps
    obtain ⟨htl, h'⟩ := boolSome h'
    have htl := Nat.le_of_ble_eq_true htl
    cases hc : Instr.fill (fun i => (fs[i]?).bind fun fl => (szOf P fl.type).map fun n => (fl.offset, n)) z.cells us with
    | none => rw [hc] at h'; cases h'
    | some cs =>
      rw [hc] at h'
      injection h' with h'
      injection h' with h1 h2
      subst h1
      subst h2
      obtain ⟨it, hit, hzz⟩ := zero_info hz
      have hp := (zero_rel hz).1
      refine sound_same hi fun φ w a hf => ?_
      obtain ⟨out, e1, e2⟩ := fill_rel (place' := fun i => (fs.toList.map fun f => (f.offset, (szOf P f.type).getD 0)).toArray[i]?) (fun i p hip => by
        cases hg : fs[i]? with
        | none => rw [hg] at hip; cases hip
        | some fl =>
          rw [hg] at hip
          cases hs : szOf P fl.type with
          | none => simp [hs] at hip
          | some n =>
            simp [hs] at hip
            subst hip
            simp [hg, hs]) _ _ _ _ _ (parts_rel hf _ hps) (cells_rel (plain_self φ _ _ hp)) hc
      have e : (execOp a.eval ⟨d, .build t ps, ty, pos, af, gd⟩).run P w = .ok (.value (.agg out)) w := by
        refine run_v ?_
        refine run_build w t _ out ?_
        unfold Program.built
        rw [hit, hu]
        simp only [hzz, places_ok _ (hS.fields t fs htl hu)]
        rw [Array.toList_map]
        exact e1
      rw [e]
      exact .val _ _ (.agg _ _ e2)
  · rename_i z k e us hz hu hps
    cases hn : szOf P e with
    | none => rw [hn] at h'; cases h'
    | some n =>
      rw [hn] at h'
      have h'' : (Instr.fill (fun i => some (i * n, n)) z.cells us).map (fun cs => (ANext.val (.agg cs), A)) = some (nx, A') := h'
      cases hc : Instr.fill (fun i => some (i * n, n)) z.cells us with
      | none => rw [hc] at h''; cases h''
      | some cs =>
        rw [hc] at h''
        injection h'' with h'
        injection h' with h1 h2
        subst h1
        subst h2
        obtain ⟨it, hit, hzz⟩ := zero_info hz
        obtain ⟨ie, hie, hsz, _⟩ := sz_info hn
        have hp := (zero_rel hz).1
        refine sound_same hi fun φ w a hf => ?_
        obtain ⟨out, e1, e2⟩ := fill_rel (place' := fun i => some (i * n, n)) (fun i p hip => hip) _ _ _ _ _ (parts_rel hf _ hps) (cells_rel (plain_self φ _ _ hp)) hc
        have e : (execOp a.eval ⟨d, .build t ps, ty, pos, af, gd⟩).run P w = .ok (.value (.agg out)) w := by
          refine run_v ?_
          refine run_build w t _ out ?_
          unfold Program.built
          rw [hit, hu]
          simp only [hzz, hie, hsz]
          rw [Array.toList_map]
          exact e1
        rw [e]
        exact .val _ _ (.agg _ _ e2)
  · cases h'
theorem rep_get {α : Type} (l : List α) (n : Nat) : ∀ (k i : Nat), l.length = n → i < k * n → (List.replicate k l).flatten[i]? = l[i % n]? := by
  intro k
  induction k with
  | zero => intro i _ h; omega
  | succ k ih =>
    intro i hl h
    rw [List.replicate_succ, List.flatten_cons, List.getElem?_append]
    split
    · rename_i hlt
      rw [hl] at hlt
      rw [Nat.mod_eq_of_lt hlt]
    · rename_i hge
      rw [hl] at hge ⊢
      rw [Nat.succ_mul] at h
      rw [ih (i - n) hl (by omega)]
      congr 1
      exact (Nat.mod_eq_sub_mod (by omega)).symm
theorem rep_eq (z : Value) (k n : Nat) (hz : z.cells.size = n) : (Array.range (k * n)).map (z.cells[· % z.cells.size]!) = (List.replicate k z.cells.toList).flatten.toArray := by
  apply Array.ext'
  rw [Array.toList_map, Array.toList_range]
  apply List.ext_getElem?
  intro i
  rw [List.getElem?_map]
  show _ = (List.replicate k z.cells.toList).flatten[i]?
  by_cases hi : i < k * n
  · rw [rep_get _ n k i (by rw [Array.length_toList]; exact hz) hi]
    have hn : 0 < n := by
      rcases Nat.eq_zero_or_pos n with h | h
      · subst h; omega
      · exact h
    have hm : i % n < z.cells.size := by rw [hz]; exact Nat.mod_lt _ hn
    rw [List.getElem?_range hi]
    simp only [Option.map_some, hz]
    rw [getElem!_pos z.cells (i % n) hm, Array.getElem?_toList, Array.getElem?_eq_getElem hm]
  · rw [List.getElem?_eq_none (by rw [List.length_range]; omega), List.getElem?_eq_none (by simp [hz]; omega)]
    rfl
theorem buildSlice_run (w : World) (t e : TypeId) (len : Nat) (parts : Array (Nat × Value)) (cells : Array Value) (ie : TypeInfo) (z : Value) (hs : z.cells.size = ie.size)
    (hu : P.underlying t = some (.slice e)) (hie : P.info? e = some ie) (hz : ie.zero = some z) (hsmall : ¬ len * ie.size > 2 ^ 24)
    (h : Instr.fill (fun i => some (i * ie.size, ie.size)) (List.replicate len z.cells.toList).flatten.toArray parts.toList = some cells) :
    (Instr.buildSlice t len parts).run P w = .ok (.slice (some ⟨w.heap.size, 0, none⟩) len len) (w.alloc (.cells cells e)) := by
  by_cases hp : len * ie.size = 0
  · have e0 : (List.replicate len z.cells.toList).flatten.toArray = #[] := by rw [← rep_eq z len ie.size hs, hp]; simp
    rw [e0] at h
    have r0 : Array.range 0 = #[] := by simp
    simp [Instr.buildSlice, run_underlying hu, sizeOf, typeInfo, hie, hp, r0, h, Go.newRow]
  · exact run_buildSlice w t e len parts cells ie z hu hie hz hsmall hp (by rw [rep_eq z len ie.size hs]; exact h)
theorem rep_rel {φ : Emb} {l l' : List Value} (h : VRels φ l l') : ∀ k, VRels φ (List.replicate k l).flatten (List.replicate k l').flatten := by
  intro k
  induction k with
  | zero => exact .nil
  | succ k ih => rw [List.replicate_succ, List.flatten_cons, List.replicate_succ, List.flatten_cons]; exact h.append ih
theorem buildSlice_sound (hi : Inv A) (hn : A'.next ≤ A'.next) (t : TypeId) (len : Nat) (ps : Array (Nat × Operand)) (h : evalOp P f ⟨d, .buildSlice t len ps, ty, pos, af, gd⟩ A = some (nx, A')) : Sound P f A ⟨d, .buildSlice t len ps, ty, pos, af, gd⟩ nx A' := by
  have h' : buildSliceA P f t len ps A = some (nx, A') := h
  unfold buildSliceA at h'
  split at h'
  · rename_i el hu
    split at h'
    · rename_i z n us hz hsz hps
      split at h'
      · rename_i hsm
        simp only [Bool.and_eq_true] at hsm
        have hzs : z.cells.size = n := by rw [← Array.length_toList]; exact Nat.eq_of_beq_eq_true hsm.2
        have hsm : len * n ≤ 1048576 := Nat.le_of_ble_eq_true hsm.1
        cases hc : Instr.fill (fun i => some (i * n, n)) (List.replicate len z.cells.toList).flatten.toArray us with
        | none => rw [hc] at h'; cases h'
        | some cs =>
          rw [hc] at h'
          injection h' with h'
          injection h' with h1 h2
          subst h1
          subst h2
          obtain ⟨ie, hie, hzz⟩ := zero_info hz
          obtain ⟨ie', hie', hsz', hco⟩ := sz_info hsz
          obtain rfl : ie = ie' := by rw [hie] at hie'; injection hie'
          have hp := (zero_rel hz).1
          rw [newRow_next] at hn
          refine ⟨newRow_fr hi hn _ _, fun φ T w a hf hr _ hfr => ?_⟩
          have hzc : VRels φ (List.replicate len z.cells.toList).flatten (List.replicate len z.cells.toList).flatten := by
            exact rep_rel (cells_rel (plain_self φ _ _ hp)) len
          obtain ⟨out, e1, e2⟩ := fill_rel (place' := fun i => some (i * n, n)) (fun i p hip => hip) _ _ _ _ _ (parts_rel hf _ hps) hzc hc
          obtain ⟨φ', g1, g2⟩ := newRow_post hi (by rw [newRow_next]; exact hn) hr hfr e2
          refine ⟨φ', _, g2, ?_⟩
          have e : (execOp a.eval ⟨d, .buildSlice t len ps, ty, pos, af, gd⟩).run P w = .ok (.value (.slice (some ⟨w.heap.size, 0, none⟩) len len)) (w.alloc (.cells out.toList.toArray el)) := by
            refine run_v ?_
            rw [Array.toArray_toList]
            refine buildSlice_run w t el len _ out ie z (by rw [hzs, hsz']) hu hie hzz (by rw [hsz']; omega) ?_
            rw [Array.toList_map, hsz']
            exact e1
          rw [e]
          refine .val _ _ (.slice _ 0 len len len _ _ g1 (Nat.le_refl _) (Nat.le_refl _) (.inr rfl) ?_)
          have q1 := fill_size _ _ _ hc
          have q2 := e2.length
          simp only [Array.length_toList] at q2
          show 0 + len * P.cellsOf el ≤ out.toList.length
          rw [hco, Array.length_toList, ← q2, q1]
          simp [hzs]
      · cases h'
    · cases h'
  · cases h'
end
end Go.EvL

namespace Go.EvL
open Go
def flat : AObj → Bool
  | .row _ _ _ _ _ => false
  | _ => true
theorem flat_cls {o : AObj} (h : flat o = true) (b : Nat) : clsOf b o = b := by cases o <;> first | rfl | cases h
theorem flat_live {o : AObj} (h : flat o = true) : live o = true := by cases o <;> first | rfl | cases h
/-- an object that is no row is written on both sides -/
theorem Post.put {P : Program} {φ : Emb} {T : Nat → Prop} {A : AS} {w : World} {b : Nat} {o o1 : AObj} {x x1 : Obj} {i : Inf} (hi : Inv A) (hn : A.next ≤ A.next) (h : Rel P φ T A w) (hT : T b) (hb : A.heap.get b = some o) (ho : flat o = true) (ho1 : flat o1 = true)
    (hφ : φ b = some i) (hx : w.heap[i.blk]? = some x) (hox : ORel P φ (A.fz.get b) b i o x) (h1 : ORel P φ (A.fz.get b) b i o1 x1) :
    Post P φ T A (logW (logR (A.put b o1) b) b) w { w with heap := w.heap.setIfInBounds i.blk x1 } φ := by
  have hl := (hi.lt _ _ hb).1
  have hf : Fits b := fits (by omega)
  have hlt : i.blk < w.heap.size := h.blk _ _ hφ
  have hcls : i.cls = b := by rw [hox.cls, flat_cls ho]
  rw [put_eq, logR_eq, logW_eq]
  refine ⟨fun _ _ h => h, fun _ _ => rfl, ⟨fun y j hy => ?_, h.inj, fun y p hy hlv hTy => ?_, h.al, h.glob, h.root⟩, fun y j hy _ => ⟨y, j, hy, rfl, rfl⟩, ?_, fun k hk hw => ?_, rfl, rfl, rfl⟩
  · show j.blk < (w.heap.setIfInBounds i.blk x1).size
    rw [Array.size_setIfInBounds]
    exact h.blk _ _ hy
  · have hy' : (Tr.set o1 40 A.heap b).get y = some p := hy
    rw [Tr.get_set _ _ _ _ hf] at hy'
    split at hy'
    · rename_i he
      subst he
      injection hy' with hy'
      subst hy'
      refine ⟨i, x1, hφ, ?_, ?_⟩
      · show (w.heap.setIfInBounds i.blk x1)[i.blk]? = _
        rw [Array.getElem?_setIfInBounds, if_pos rfl, if_pos hlt]
      · rw [flat_cls ho1]; exact h1
    · rename_i hne
      have hTy' : T (clsOf y p) := hTy.elim id fun hc => by have : A.next ≤ clsOf y p ∧ clsOf y p < A.next := hc; omega
      obtain ⟨j, q, e1, e2, e3⟩ := h.obj y p hy' hlv hTy'
      refine ⟨j, q, e1, ?_, e3⟩
      show (w.heap.setIfInBounds i.blk x1)[j.blk]? = _
      rw [Array.getElem?_setIfInBounds, if_neg ?_]
      · exact e2
      · intro he
        have hc := (h.inj _ _ _ _ hφ e1 he).1
        rw [hcls, e3.cls] at hc
        rw [← he, hx] at e2
        injection e2 with e2
        subst e2
        cases e3 with
        | row =>
          cases hox
          cases ho
        | map => exact hne hc.symm
        | iter => exact hne hc.symm
  · show w.heap.size ≤ (w.heap.setIfInBounds i.blk x1).size
    rw [Array.size_setIfInBounds]
    exact Nat.le_refl _
  · show (w.heap.setIfInBounds i.blk x1)[k]? = _
    rw [Array.getElem?_setIfInBounds, if_neg]
    intro he
    have := hw b i hφ he
    rw [hcls] at this
    rw [bit_or] at this
    simp at this
section
variable {P : Program} {f : Fr} {A A' : AS} {nx : ANext} {d : Option Tmp} {ty : TypeId} {pos : String} {af : Array Edge} {gd : Option (Nat × Bool)}
theorem makeMap_sound (hi : Inv A) (hn : A'.next ≤ A'.next) (t : TypeId) (r : Option Operand) (h : evalOp P f ⟨d, .makeMap t r, ty, pos, af, gd⟩ A = some (nx, A')) : Sound P f A ⟨d, .makeMap t r, ty, pos, af, gd⟩ nx A' := by
  cases r with
  | some _ => cases h
  | none =>
    have h' : some (ANext.val (.map (some A.next)), A.new fun _ => .map [] 0) = some (nx, A') := h
    injection h' with h'
    injection h' with h1 h2
    subst h1
    subst h2
    rw [new_next] at hn
    refine ⟨new_fr hi hn _ rfl, fun φ T w a hf hr _ hfr => ?_⟩
    obtain ⟨φ', e1, e2⟩ := Post.new hi hn hr (hfr _ (Nat.le_refl _) (by rw [new_next]; omega)) (fun _ => .map [] 0) rfl (.map #[] 0) 0 0 0 0 rfl fun φ' he hp => .map _ _ _ rfl .nil
    refine ⟨φ', _, e2, ?_⟩
    exact .val _ _ (.map _ _ e1)
theorem range_sound (hi : Inv A) (hn : A'.next ≤ A'.next) (t : TypeId) (x : Operand) (h : evalOp P f ⟨d, .range t x, ty, pos, af, gd⟩ A = some (nx, A')) : Sound P f A ⟨d, .range t x, ty, pos, af, gd⟩ nx A' := by
  have h' : rangeA P t (f.eval x) A = some (nx, A') := h
  unfold rangeA at h'
  split at h'
  · rename_i b hu hx
    injection h' with h'
    injection h' with h1 h2
    subst h1
    subst h2
    rw [new_next] at hn
    refine ⟨new_fr hi hn _ rfl, fun φ T w a hf hr _ hfr => ?_⟩
    obtain ⟨φ', e1, e2⟩ := Post.new hi hn hr (hfr _ (Nat.le_refl _) (by rw [new_next]; omega)) (fun _ => .iter b 0) rfl (.stringIter b 0) 0 0 0 0 rfl fun φ' he hp => .iter _ _ rfl rfl
    refine ⟨φ', _, e2, ?_⟩
    have hv := hf.eval hx
    generalize hq : a.eval x = q at hv
    cases hv
    have e : (execOp a.eval ⟨d, .range t x, ty, pos, af, gd⟩).run P w = .ok (.value (.pointer (some ⟨w.heap.size, 0, none⟩))) (w.alloc (.stringIter b 0)) := by
      refine run_v ?_
      rw [hq]
      exact run_range_string w t b hu
    rw [e]
    exact .val _ _ (.ptr _ 0 _ e1)
  · cases h'
theorem next_sound (hi : Inv A) (hn : A'.next ≤ A'.next) (it : Operand) (s : Bool) (h : evalOp P f ⟨d, .next it s, ty, pos, af, gd⟩ A = some (nx, A')) : Sound P f A ⟨d, .next it s, ty, pos, af, gd⟩ nx A' := by
  have h' : nextA (f.eval it) s A = some (nx, A') := h
  unfold nextA at h'
  split at h'
  · rename_i b hx
    split at h'
    · rename_i st p hb
      have hl := (hi.lt _ _ hb).1
      unfold nextIn at h'
      rcases boolRec h' with ⟨hlt, h1⟩ | ⟨hlt, h1⟩
      · injection h1 with h1
        injection h1 with h1 h2
        subst h1
        subst h2
        refine ⟨logR_fr hi hl, fun φ T w a hf hr hT _ => ⟨φ, w, by rw [logR_eq]; exact .refl hr rfl rfl rfl rfl rfl rfl rfl, ?_⟩⟩
        have hTb : T b := hT b hl (.inl (by rw [logR_eq, bit_or]; simp))
        obtain ⟨i, q, e1, e2, e3⟩ := hr.obj b _ hb rfl hTb
        cases e3 with
        | iter _ _ hc hs =>
          have hv := hf.eval hx
          generalize hq : a.eval it = v at hv
          cases hv with
          | ptr _ _ j hj =>
            rw [e1] at hj
            injection hj with hj
            subst hj
            have hp : ¬ p < st.size := by intro hh; rw [Nat.ble_eq_true_of_le hh] at hlt; cases hlt
            have e : (execOp a.eval ⟨d, .next it true, ty, pos, af, gd⟩).run P w = .ok (.value (.tuple #[.bool false])) w := by
              refine run_v ?_
              rw [hq, hs]
              simp [Instr.next, getObj, Sem.run, e2, hp]
            rw [e]
            exact .val _ _ (.tuple _ _ (.cons _ _ _ _ (.bool _) .nil))
      · injection h1 with h1
        injection h1 with h1 h2
        subst h1
        subst h2
        have hn' : A.next ≤ A.next := by rw [put_eq, logR_eq, logW_eq] at hn; exact hn
        have hp : p < st.size := Nat.le_of_ble_eq_true hlt
        refine ⟨put_fr hi hn' hb rfl rfl (by intros; simp) (by intros; simp), fun φ T w a hf hr hT _ => ?_⟩
        have hTb : T b := hT b hl (.inl (by rw [put_eq, logR_eq, logW_eq, bit_or]; simp))
        obtain ⟨i, q, e1, e2, e3⟩ := hr.obj b _ hb rfl hTb
        have e3' := e3
        cases e3 with
        | iter _ _ hc hs =>
          have hv := hf.eval hx
          generalize hq : a.eval it = v at hv
          cases hv with
          | ptr _ _ j hj =>
            rw [e1] at hj
            injection hj with hj
            subst hj
            refine ⟨φ, _, Post.put hi hn' hr hTb hb rfl rfl e1 e2 e3' (.iter st (p + (Utf8.decode st p).2) hc hs), ?_⟩
            have e : (execOp a.eval ⟨d, .next it true, ty, pos, af, gd⟩).run P w = .ok (.value (.tuple #[.bool true, .int .i64 p, .int .i32 (Utf8.decode st p).1])) { w with heap := w.heap.setIfInBounds i.blk (.stringIter st (p + (Utf8.decode st p).2)) } := by
              refine run_v ?_
              rw [hq, hs]
              simp [Instr.next, getObj, setObj, Sem.run, e2, hp, goInt, Result.andThen]
            rw [e]
            exact .val _ _ (.tuple _ _ (.cons _ _ _ _ (.bool _) (.cons _ _ _ _ (.int _ _) (.cons _ _ _ _ (.int _ _) .nil))))
    · cases h'
  · cases h'
end
end Go.EvL

namespace Go.EvL
open Go
section
variable {P : Program} {f : Fr} {A A' : AS} {nx : ANext} {d : Option Tmp} {ty : TypeId} {pos : String} {af : Array Edge} {gd : Option (Nat × Bool)}
theorem check_ok' {kt : TypeId} {dd : TypeDesc} {k : Value} (hd : P.underlying kt = some dd) (hk : keyOk dd k = true) (e : Bool) (n : Nat) (w : World) : (Instr.checkKey e (n + 1) kt k).run P w = .ok () w := by
  unfold keyOk at hk
  split at hk
  · simp [Instr.checkKey, run_underlying hd, Result.andThen]
  · simp [Instr.checkKey, run_underlying hd, Result.andThen]
  · simp [Instr.checkKey, run_underlying hd, Result.andThen]
  · cases hk
theorem check_ok {kt : TypeId} {dd : TypeDesc} {k : Value} (hd : P.underlying kt = some dd) (hk : keyOk dd k = true) (e : Bool) (w : World) : (Instr.checkKey e 10000 kt k).run P w = .ok () w := check_ok' hd hk e 9999 w
theorem findK_ok {kt : TypeId} {k : Value} {es : List MapEntry} {r : Option (Nat × Value)} (h : findK P kt k es = some r) : ∃ dd, P.underlying kt = some dd ∧ keyOk dd k = true ∧ Instr.findNow dd k es 0 = some r := by
  unfold findK at h
  split at h
  · rename_i dd hd
    obtain ⟨h1, h2⟩ := boolSome h
    exact ⟨dd, hd, h1, h2⟩
  · cases h
theorem find_rel {φ : Emb} {dd : TypeDesc} {k : Value} : ∀ {l l' : List MapEntry} (i : Nat), ERel φ l l' →
    (Instr.findNow dd k l i = some none → Instr.findNow dd k l' i = some none) ∧ (∀ j v, Instr.findNow dd k l i = some (some (j, v)) → ∃ v', Instr.findNow dd k l' i = some (some (j, v')) ∧ VRel φ v v') := by
  intro l l' i h
  induction h generalizing i with
  | nil => exact ⟨fun _ => rfl, fun j v h => by cases h⟩
  | cons q v v' n l l' hk hv _ ih =>
    simp only [Instr.findNow]
    cases hs : Instr.sameNow dd k q with
    | none => exact ⟨fun h => (by cases h), fun j v h => (by cases h)⟩
    | some b =>
      cases b with
      | true =>
        refine ⟨fun h => (by cases h), fun j u h => ?_⟩
        injection h with h
        injection h with h
        injection h with h1 h2
        subst h1
        subst h2
        exact ⟨v', rfl, hv⟩
      | false => exact ih (i + 1)
theorem okV_rel {φ : Emb} (ok : Bool) {v v' : Value} (h : VRel φ v v') (b : Bool) : VRel φ (okV ok v b) (if ok = true then .tuple #[v', .bool b] else v') := by
  cases ok with
  | false => exact h
  | true => exact .tuple _ _ (.cons _ _ _ _ h (.cons _ _ _ _ (.bool _) .nil))
theorem lookup_sound (hi : Inv A) (t : TypeId) (x k : Operand) (ok : Bool) (h : evalOp P f ⟨d, .lookup t x k ok, ty, pos, af, gd⟩ A = some (nx, A')) : Sound P f A ⟨d, .lookup t x k ok, ty, pos, af, gd⟩ nx A' := by
  have h' : lookupA P t (f.eval x) (f.eval k) ok A = some (nx, A') := h
  unfold lookupA at h'
  split at h'
  · rename_i kt et b kv hu hx hk
    split at h'
    · rename_i es clk hb
      have hl := (hi.lt _ _ hb).1
      split at h'
      · rename_i hpl
        have main : ∀ (φ : Emb) (T : Nat → Prop) (w : World) (a : Act), FRel φ f a → Rel P φ T A w → Foot A (logR A b) T → ∃ i es', w.heap[i]? = some (.map es' clk) ∧ ERel φ es es'.toList ∧ a.eval x = .map (some i) ∧ a.eval k = kv := by
          intro φ T w a hf hr hT
          have hTb : T b := hT b hl (.inl (by rw [logR_eq, bit_or]; simp))
          obtain ⟨i, q, e1, e2, e3⟩ := hr.obj b _ hb rfl hTb
          cases e3 with
          | map _ _ es' hc he =>
            have hv := hf.eval hx
            generalize hq : a.eval x = v at hv
            cases hv with
            | map _ j hj =>
              rw [e1] at hj
              injection hj with hj
              subst hj
              exact ⟨i.blk, es', e2, he, rfl, plain_eq φ _ _ _ hpl (hf.eval hk)⟩
        split at h'
        · rename_i j v hfk
          obtain ⟨dd, hd, hko, hfn⟩ := findK_ok hfk
          injection h' with h'
          injection h' with h1 h2
          subst h1
          subst h2
          refine ⟨logR_fr hi hl, fun φ T w a hf hr hT _ => ⟨φ, w, by rw [logR_eq]; exact .refl hr rfl rfl rfl rfl rfl rfl rfl, ?_⟩⟩
          obtain ⟨i, es', g1, g2, g3, g4⟩ := main φ T w a hf hr hT
          obtain ⟨v', g5, g6⟩ := (find_rel 0 g2).2 j v hfn
          have e : (execOp a.eval ⟨d, .lookup t x k ok, ty, pos, af, gd⟩).run P w = .ok (.value (if ok = true then .tuple #[v', .bool true] else v')) w := by
            refine run_v ?_
            rw [g3, g4]
            simp [Instr.lookup, run_underlying hu, MapKept.run_getObj_map g1, check_ok hd hko, MapKept.run_findKey hd g5, Result.andThen]
          rw [e]
          exact .val _ _ (okV_rel ok g6 true)
        · rename_i hfk
          obtain ⟨dd, hd, hko, hfn⟩ := findK_ok hfk
          split at h'
          · rename_i z hz
            injection h' with h'
            injection h' with h1 h2
            subst h1
            subst h2
            refine ⟨logR_fr hi hl, fun φ T w a hf hr hT _ => ⟨φ, w, by rw [logR_eq]; exact .refl hr rfl rfl rfl rfl rfl rfl rfl, ?_⟩⟩
            obtain ⟨i, es', g1, g2, g3, g4⟩ := main φ T w a hf hr hT
            have g5 := (find_rel 0 g2).1 hfn
            obtain ⟨hp, hzr⟩ := zero_rel hz
            have e : (execOp a.eval ⟨d, .lookup t x k ok, ty, pos, af, gd⟩).run P w = .ok (.value (if ok = true then .tuple #[z, .bool false] else z)) w := by
              refine run_v ?_
              rw [g3, g4]
              simp [Instr.lookup, run_underlying hu, MapKept.run_getObj_map g1, check_ok hd hko, MapKept.run_findKey hd g5, hzr w, Result.andThen]
            rw [e]
            exact .val _ _ (okV_rel ok (plain_self φ _ _ hp) false)
          · cases h'
        · cases h'
      · cases h'
    · cases h'
  · cases h'
theorem ERel.snoc {φ : Emb} {l l' : List MapEntry} (h : ERel φ l l') (k v v' : Value) (n : Nat) (hk : plain 50 k = true) (hv : VRel φ v v') : ERel φ (l ++ [⟨k, v, n⟩]) (l' ++ [⟨k, v', n⟩]) := by
  induction h with
  | nil => exact .cons _ _ _ _ _ _ hk hv .nil
  | cons q u u' m l l' hq hu _ ih => exact .cons _ _ _ _ _ _ hq hu ih
theorem mapUpdate_sound (hi : Inv A) (hn : A'.next ≤ A'.next) (t : TypeId) (m k x : Operand) (h : evalOp P f ⟨d, .mapUpdate t m k x, ty, pos, af, gd⟩ A = some (nx, A')) : Sound P f A ⟨d, .mapUpdate t m k x, ty, pos, af, gd⟩ nx A' := by
  have h' : mapUpdateA P t (f.eval m) (f.eval k) (f.eval x) A = some (nx, A') := h
  unfold mapUpdateA at h'
  split at h'
  · rename_i kt et b kv xv hu hm hk hx
    split at h'
    · rename_i es clk hb
      have hl := (hi.lt _ _ hb).1
      split at h'
      · rename_i hpl
        split at h'
        · rename_i hfk
          obtain ⟨dd, hd, hko, hfn⟩ := findK_ok hfk
          injection h' with h'
          injection h' with h1 h2
          subst h1
          subst h2
          have hn' : A.next ≤ A.next := by rw [put_eq, logR_eq, logW_eq] at hn; exact hn
          refine ⟨put_fr hi hn' hb rfl rfl (by intros; simp) (by intros; simp), fun φ T w a hf hr hT _ => ?_⟩
          have hTb : T b := hT b hl (.inl (by rw [put_eq, logR_eq, logW_eq, bit_or]; simp))
          obtain ⟨i, q, e1, e2, e3⟩ := hr.obj b _ hb rfl hTb
          have e3' := e3
          cases e3 with
          | map _ _ es' hc he =>
            have hv := hf.eval hm
            generalize hq : a.eval m = v at hv
            cases hv with
            | map _ j hj =>
              rw [e1] at hj
              injection hj with hj
              subst hj
              have hkk : a.eval k = kv := plain_eq φ _ _ _ hpl (hf.eval hk)
              have g5 := (find_rel 0 he).1 hfn
              refine ⟨φ, _, Post.put hi hn' hr hTb hb rfl rfl e1 e2 e3' (.map (es ++ [{ key := kv, val := xv, born := clk }]) (clk + 1) (es'.push { key := kv, val := a.eval x, born := clk }) hc (by rw [Array.toList_push]; exact he.snoc _ _ _ _ hpl (hf.eval hx))), ?_⟩
              have e : (Instr.mapUpdate t (.map (some i.blk)) kv (a.eval x)).run P w = .ok () { w with heap := w.heap.setIfInBounds i.blk (.map (es'.push { key := kv, val := a.eval x, born := clk }) (clk + 1)) } := by
                simp [Instr.mapUpdate, run_underlying hu, MapKept.run_getObj_map e2, check_ok hd hko, MapKept.run_findKey hd g5, MapKept.run_setObj_map _ e2, Result.andThen]
              have e' : (execOp a.eval ⟨d, .mapUpdate t m k x, ty, pos, af, gd⟩).run P w = .ok .skip { w with heap := w.heap.setIfInBounds i.blk (.map (es'.push { key := kv, val := a.eval x, born := clk }) (clk + 1)) } := by
                simp only [execOp, hq, hkk, Sem.run_bind, e, Result.andThen]
                rfl
              rw [e']
              exact .skip
        · cases h'
      · cases h'
    · cases h'
  · cases h'
end
end Go.EvL

namespace Go.EvL
open Go
section
variable {P : Program} {f : Fr} {A A' : AS} {nx : ANext} {d : Option Tmp} {ty : TypeId} {pos : String} {af : Array Edge} {gd : Option (Nat × Bool)}
theorem bytes_rel {φ : Emb} : ∀ {l l' : List Value} {bs : List UInt8}, bytesOfCells l = some bs → VRels φ l l' → ∃ ns : List Int, l' = ns.map (Value.int .u8) ∧ bs = ns.map fun n => UInt8.ofNat n.toNat := by
  intro l
  induction l with
  | nil => intro l' bs h hv; cases hv; have h' : some ([] : List UInt8) = some bs := h; injection h' with h'; exact ⟨[], rfl, h'.symm⟩
  | cons v l ih =>
    intro l' bs h hv
    cases hv with
    | cons _ v' _ l' h1 hs =>
      have h' : (match (generalizing := false) v with | .int .u8 n => (bytesOfCells l).map (UInt8.ofNat n.toNat :: ·) | _ => none) = some bs := h
      split at h'
      · rename_i n
        cases hb : bytesOfCells l with
        | none => rw [hb] at h'; cases h'
        | some b0 =>
          rw [hb] at h'
          have h' : some (UInt8.ofNat n.toNat :: b0) = some bs := h'
          injection h' with h'
          obtain ⟨ns, e1, e2⟩ := ih hb hs
          cases h1
          exact ⟨n :: ns, by rw [e1]; rfl, by rw [← h', e2]; rfl⟩
      · cases h'
theorem conv_empty {src dst e : TypeId} (hs : P.underlying src = some (.slice e)) (he : P.underlying e = some (.int .u8)) (hd : P.underlying dst = some .string) (a : Addr) (c : Nat) (w : World) : (convert src dst (.slice (some a) 0 c)).run P w = .ok (.string ⟨#[]⟩) w := by
  have hl := run_loadCells_list (P := P) w a [] (fun j v hj => by simp at hj)
  rw [run_convert_bytes_string w src dst e _ 0 c hs he hd, run_bytesToString w a 0 c [] hl]
  rfl
theorem shape_of {w : World} {b : Nat} {C : Array Value} {e : Nat} {fz : Nat × Nat} (h : w.heap[b]? = some (.cells C e fz)) : w.shape? b = some (e, C.size) := by
  simp [World.shape?, h]
theorem rowAt_same {e : TypeId} {d count off : Nat} {p : TypeId → Bool} (h0 : P.cellsOf e ≠ 0) (hm : off % P.cellsOf e = 0) (hc : off / P.cellsOf e < count) (hp : p e = true) : rowAt P p (d + 1) e count off 1 = true := by
  unfold rowAt
  rw [if_neg h0]
  simp only [hm, hp, Bool.or_eq_true, Bool.and_eq_true, decide_eq_true_eq]
  exact .inl ⟨⟨rfl, hc⟩, trivial⟩
theorem liesAt_same {e : TypeId} {count off : Nat} (h0 : P.cellsOf e ≠ 0) (hm : off % P.cellsOf e = 0) (hc : off / P.cellsOf e < count) : liesAt P P.depth e count off e 1 = true := by
  have hd : P.depth = (2 * (P.types.size + Made.depth) + 1) + 1 := rfl
  rw [hd]
  simp only [liesAt, Bool.or_eq_true]
  left
  rw [hd]
  exact rowAt_same h0 hm hc (by simp [sameLayout])
theorem rowAt_field {fits : TypeId → Bool} {d e count off : Nat} {fs : Array Field} {fl : Field} (h0 : P.cellsOf e ≠ 0) (hc : off / P.cellsOf e < count) (hu : P.underlying e = some (.struct fs)) (hst : P.stoodInHeld e = false) (hm : fl ∈ fs.toList) (ho : fl.offset = off % P.cellsOf e) (h1 : P.cellsOf fl.type ≠ 0) (hp : fits fl.type = true) :
    rowAt P fits (d + 1 + 1) e count off 1 = true := by
  rw [rowAt]
  simp only [h0, if_false, hu, hst, Bool.not_false, Bool.true_and, Bool.or_eq_true, Bool.and_eq_true, decide_eq_true_eq]
  refine .inr ⟨hc, ?_⟩
  rw [Array.any_eq_true']
  refine ⟨fl, by simpa using hm, ?_⟩
  rw [← ho, Nat.sub_self]
  simp only [Bool.and_eq_true, decide_eq_true_eq]
  refine ⟨⟨Nat.le_refl _, by omega⟩, ?_⟩
  exact rowAt_same h1 (Nat.zero_mod _) (by rw [Nat.zero_div]; omega) hp
theorem fromOk_lies {e u off n len sh sz : Nat} (hn : P.cellsOf u = n + 1) (h : fromOk P e u off n len = true) (hal : P.cellsOf e ∣ sh) (hl : sh + len ≤ sz) : liesAt P P.depth e (sz / P.cellsOf e) (sh + off) u 1 = true := by
  unfold fromOk at h
  rcases (boolRec h).symm with ⟨hc, _⟩ | ⟨hc, h⟩
  · simp only [Bool.and_eq_true] at hc
    have q1 := Nat.eq_of_beq_eq_true hc.1
    have q2 := Nat.eq_of_beq_eq_true hc.2.1
    have q3 : off + (n + 1) ≤ len := Nat.le_of_ble_eq_true hc.2.2
    subst q1
    have hmod : (sh + off) % P.cellsOf e = 0 := by
      rw [hn] at hal ⊢
      obtain ⟨y, hy⟩ := hal
      rw [hy, Nat.mul_add_mod]
      exact q2
    have hdiv : (sh + off) / P.cellsOf e < sz / P.cellsOf e := by
      rw [hn] at hmod ⊢
      have hpos : 0 < n + 1 := by omega
      have h1 : (sh + off) / (n + 1) + 1 ≤ sz / (n + 1) := by
        rw [← Nat.add_div_right _ hpos]
        exact Nat.div_le_div_right (by omega)
      exact Nat.lt_of_succ_le h1
    exact liesAt_same (by rw [hn]; omega) hmod hdiv
  · unfold fieldOk at h
    split at h
    · rename_i m hm
      obtain ⟨_, _, _, k3⟩ := sz_info hm
      rw [Bool.and_eq_true] at h
      obtain ⟨h1, h2⟩ := h
      have h2 : (off / (m + 1) + 1) * (m + 1) ≤ len := Nat.le_of_ble_eq_true h2
      unfold inField at h1
      split at h1
      · rename_i fs hu
        rw [Bool.and_eq_true, List.any_eq_true] at h1
        obtain ⟨hst, fl, hfl, hf⟩ := h1
        rw [Bool.and_eq_true] at hf
        have f1 := Nat.eq_of_beq_eq_true hf.1
        have f2 := Nat.eq_of_beq_eq_true hf.2
        have hd : P.depth = (2 * (P.types.size + Made.depth)) + 1 + 1 := rfl
        rw [hd]
        simp only [liesAt, Bool.or_eq_true]
        left
        rw [hd]
        obtain ⟨y, hy⟩ := hal
        rw [k3] at hy
        have hpos : 0 < m + 1 := by omega
        have hdv : (sh + off) / (m + 1) = y + off / (m + 1) := by rw [hy, Nat.mul_add_div hpos]
        have hmd : (sh + off) % (m + 1) = off % (m + 1) := by rw [hy, Nat.mul_add_mod]
        refine rowAt_field (by rw [k3]; omega) ?_ hu (by simpa using hst) hfl ?_ (by rw [f2, hn]; omega) (by rw [f2]; simp [sameLayout])
        · rw [k3, hdv]
          refine Nat.lt_of_succ_le ?_
          rw [Nat.le_div_iff_mul_le hpos]
          generalize off / (m + 1) = qv at h2
          have h3 : Nat.succ (y + qv) * (m + 1) = (m + 1) * y + (qv + 1) * (m + 1) := by
            generalize m + 1 = M
            rw [Nat.succ_mul, Nat.add_mul, Nat.add_mul, Nat.one_mul, Nat.mul_comm y M, Nat.add_assoc]
          rw [h3, ← hy]
          omega
        · rw [k3, hmd]
          exact f1
      · cases h1
    · cases h
theorem ptr_sound (hi : Inv A) (src dst : TypeId) (x : Operand) (p : Option Addr) (hx : f.eval x = some (.pointer p)) (h : ptrConv P f ⟨d, .convert src dst x, ty, pos, af, gd⟩ src dst p A = some (nx, A')) : Sound P f A ⟨d, .convert src dst x, ty, pos, af, gd⟩ nx A' := by
  unfold ptrConv at h
  split at h
  · rename_i b off
    split at h
    · rename_i t hs hd
      unfold toUnsafe at h
      split at h
      · rename_i m hsz
        split at h
        · rename_i cells e c st hb
          obtain ⟨hlt, h⟩ := boolSome h
          injection h with h
          injection h with h1 h2
          subst h1
          subst h2
          have hcn : c < A.next := (hi.lt _ _ hb).2
          refine ⟨logR_fr hi hcn, fun φ T w a hf hr hT _ => ⟨φ, w, .refl hr (by rw [logR_eq]) (by rw [logR_eq]) (by rw [logR_eq]) rfl rfl rfl rfl, ?_⟩⟩
          have hTc : T c := hT c hcn (.inl (by rw [logR_eq, bit_or]; simp))
          have hv := hf.eval hx
          generalize hq : a.eval x = q at hv
          cases hv with
          | ptr _ _ i hφ =>
            obtain ⟨j, C, fz, e', e1, e2, e3, e4, e5, e6, e7, e8, e9, e10⟩ := hr.cells hb hTc
            obtain rfl : i = j := by rw [hφ] at e1; injection e1
            obtain ⟨ti, k1, k2, k3⟩ := sz_info hsz
            have hoff := Nat.le_of_ble_eq_true hlt
            have e : (execOp a.eval ⟨d, .convert src dst x, ty, pos, af, gd⟩).run P w = .ok (.value (.pointer (some ⟨i.blk, i.sh + off, none⟩))) w := by
              refine run_v ?_
              rw [hq]
              exact Lib.run_to_unsafe w ⟨i.blk, i.sh + off, none⟩ hs hd k1 (by omega) (shape_of e2) (by show i.sh + off < C.size; omega)
            rw [e]
            exact .val _ _ (.ptr _ _ _ hφ)
        · cases h
      · cases h
    · rename_i u hs hd
      unfold fromUnsafe at h
      split at h
      · rename_i m hsz
        split at h
        · rename_i cells e c st hb
          obtain ⟨hlt, h0⟩ := boolSome h
          clear h
          rw [Bool.and_eq_true] at hlt
          have q4 := not_big hlt.2
          injection h0 with h0
          injection h0 with h1 h2
          subst h1
          subst h2
          have hcn : c < A.next := (hi.lt _ _ hb).2
          refine ⟨logR_fr hi hcn, fun φ T w a hf hr hT _ => ⟨φ, w, .refl hr (by rw [logR_eq]) (by rw [logR_eq]) (by rw [logR_eq]) rfl rfl rfl rfl, ?_⟩⟩
          have hTc : T c := hT c hcn (.inl (by rw [logR_eq, bit_or]; simp))
          have hv := hf.eval hx
          generalize hq : a.eval x = q at hv
          cases hv with
          | ptr _ _ i hφ =>
            obtain ⟨j, C, fz, e', e1, e2, e3, e4, e5, e6, e7, e8, e9, e10⟩ := hr.cells hb hTc
            obtain rfl : i = j := by rw [hφ] at e1; injection e1
            obtain ⟨ti, k1, k2, k3⟩ := sz_info hsz
            obtain ⟨he', hal⟩ := e10.resolve_right q4
            rw [he'] at e2
            rw [e5] at hal
            have e : (execOp a.eval ⟨d, .convert src dst x, ty, pos, af, gd⟩).run P w = .ok (.value (.pointer (some ⟨i.blk, i.sh + off, none⟩))) w := by
              refine run_v ?_
              rw [hq]
              exact Lib.run_from_unsafe w ⟨i.blk, i.sh + off, none⟩ hs hd k1 (shape_of e2) (fromOk_lies k3 hlt.1 hal e7)
            rw [e]
            exact .val _ _ (.ptr _ _ _ hφ)
        · cases h
      · cases h
    · cases h
  · exact pure_sound hi _ (by intro _ _ hh; cases hh) h
theorem freeze_size (w : World) (p : Addr) (n : Nat) : (w.freeze p n).heap.size = w.heap.size := by
  unfold World.freeze
  split
  · rfl
  · simp
theorem setFz_fr (hi : Inv A) (hn : A.next ≤ A.next) {c : Nat} (hc : c < A.next) (k : Nat) : AFr A (logW (logR (setFz A c k) c) c) := by
  have hf : Fits c := fits (by omega)
  rw [setFz_eq, logR_eq, logW_eq]
  refine ⟨Nat.le_refl _, fun x hx => by rw [bit_or, hx]; rfl, fun x hx => by rw [bit_or, hx]; rfl, fun _ _ h _ => h, fun _ _ h _ => h, fun x hx => ?_, fun _ _ => rfl, fun x hx => bit_lt hx hc, fun x hx => bit_lt hx hc, ⟨hi.lt, hi.mem, hi.memc, hi.root, hi.ml, hi.old, fun x y hx => ?_⟩⟩
  · show (Tr.set k 40 A.fz c).get x = A.fz.get x
    rw [Tr.get_set _ _ _ _ hf, if_neg]
    rintro rfl
    rw [bit_or] at hx
    simp at hx
  · have hx' : (Tr.set k 40 A.fz c).get x = some y := hx
    rw [Tr.get_set _ _ _ _ hf] at hx'
    split at hx'
    · rename_i he; rw [he]; exact hc
    · exact hi.fz _ _ hx'
theorem Post.freeze {φ : Emb} {T : Nat → Prop} {w : World} {b : Nat} {cells : List Value} {e cls st off n k : Nat} {i : Inf} (hi : Inv A) (hn : A.next ≤ A.next) (h : Rel P φ T A w) (hT : T cls) (hb : A.heap.get b = some (.row cells e cls st true)) (hφ : φ b = some i)
    (hk : ∀ h, A.fz.get cls = some h → h ≤ k) (hk2 : st + off + n ≤ k) : Post P φ T A (logW (logR (setFz A cls k) cls) cls) w (w.freeze ⟨i.blk, i.sh + off, none⟩ n) φ := by
  have hl := (hi.lt _ _ hb).2
  have hl' : cls < A.next := hl
  have hf : Fits cls := fits (by omega)
  obtain ⟨i', C, fz, e', e1, e2, e3, e4, e5, e6, e7, e8, e9, e10⟩ := h.cells hb hT
  obtain rfl : i = i' := by rw [hφ] at e1; injection e1
  have hget : ∀ y, (w.freeze ⟨i.blk, i.sh + off, none⟩ n).heap[y]? = if y = i.blk ∧ n ≠ 0 then some (.cells C e' (if fz.1 == fz.2 then (i.sh + off, i.sh + off + n) else (min fz.1 (i.sh + off), max fz.2 (i.sh + off + n)))) else w.heap[y]? := by
    intro y
    unfold World.freeze
    by_cases h0 : n = 0
    · simp [h0]
    · rw [if_neg h0]
      show (w.heap.modify i.blk _)[y]? = _
      rw [Array.getElem?_modify]
      by_cases hy : i.blk = y
      · subst hy
        rw [if_pos rfl, if_pos ⟨rfl, h0⟩, e2]
        rfl
      · rw [if_neg hy, if_neg (fun hh => hy hh.1.symm)]
  rw [setFz_eq, logR_eq, logW_eq]
  refine ⟨fun _ _ h => h, fun _ _ => rfl, ⟨fun y j hy => by rw [freeze_size]; exact h.blk _ _ hy, h.inj, fun y o hy hlv hTy => ?_, h.al, h.glob, h.root⟩, fun y j hy _ => ⟨y, j, hy, rfl, rfl⟩, by rw [freeze_size]; exact Nat.le_refl _, fun y hy hw => ?_, ?_, ?_, ?_⟩
  · have hTy' : T (clsOf y o) := hTy.elim id fun hc => by have : A.next ≤ clsOf y o ∧ clsOf y o < A.next := hc; omega
    obtain ⟨j, q, g1, g2, g3⟩ := h.obj y o hy hlv hTy'
    show ∃ i' o', φ y = some i' ∧ _ ∧ ORel P φ ((Tr.set k 40 A.fz cls).get (clsOf y o)) y i' o o'
    rw [Tr.get_set _ _ _ _ hf]
    by_cases hy' : j.blk = i.blk ∧ n ≠ 0
    · obtain ⟨hj1, hj2⟩ := hy'
      obtain ⟨hc1, hc2⟩ := h.inj _ _ _ _ g1 hφ hj1
      rw [hj1, e2] at g2
      injection g2 with g2
      subst g2
      have hcy : clsOf y o = cls := by rw [← g3.cls, hc1, e3]
      rw [if_pos hcy]
      refine ⟨j, _, g1, by rw [hget, if_pos ⟨hj1, hj2⟩], ?_⟩
      cases g3 with
      | row cells' _ c' st' _ _ q1 q2 q3 q4 q5 q6 q7 _ q8 =>
        refine .row _ _ _ _ _ _ q1 q2 q3 q4 q5 q6 (.inr ⟨k, rfl, ?_⟩) _ (q8.imp id (Big.mono fun h' hh => ⟨k, rfl, hk h' (by rw [← hcy]; exact hh)⟩))
        have hst : i.sh + off + n + st' ≤ k + j.sh := by omega
        split
        · exact hst
        · rename_i hne
          show max fz.2 (i.sh + off + n) + st' ≤ k + j.sh
          rcases q7 with q7 | ⟨h', q7, q8⟩
          · rw [q7] at hne; simp at hne
          · have hcl : A.fz.get cls = some h' := by rw [← hcy]; exact q7
            have := hk h' hcl
            omega
    · refine ⟨j, q, g1, by rw [hget, if_neg hy']; exact g2, ?_⟩
      refine g3.mono (fun _ _ h => h) fun h' hh => ?_
      split
      · rename_i hcy; rw [hcy] at hh; exact ⟨k, rfl, hk h' hh⟩
      · exact ⟨h', hh, Nat.le_refl _⟩
  · rw [hget, if_neg]
    rintro ⟨rfl, _⟩
    have := hw b i hφ rfl
    rw [e3] at this
    have h2 : (A.w ||| (1 <<< cls)).testBit cls = false := this
    rw [bit_or] at h2
    simp at h2
  · unfold World.freeze; split <;> rfl
  · unfold World.freeze; split <;> rfl
  · unfold World.freeze; split <;> rfl
theorem grown_ge (w : World) {n : Nat} (old : Nat) (e : TypeId) (hn : n ≤ 1073741824) : n ≤ grownCap w n old e ∧ grownCap w n old e ≤ 9223372036854775808 := by
  have h1 : grownCap w n old e = n + w.tape w.drawn (.appendCap n old e) % (2 ^ 63 - n) := rfl
  have h2 := Nat.mod_lt (w.tape w.drawn (.appendCap n old e)) (show 2 ^ 63 - n > 0 by omega)
  rw [h1]
  omega
theorem run_strBytes {src dst e : TypeId} (hs : P.underlying src = some .string) (hd : P.underlying dst = some (.slice e)) (he : P.underlying e = some (.int .u8)) (s : ByteArray) (hn : s.size ≤ 1073741824) (w : World) :
    (convert src dst (.string s)).run P w = .ok (.slice (some ⟨w.heap.size, 0, none⟩) s.size (grownCap w s.size 0 e)) ((w.drew.alloc (.cells ((s.data.map fun b => Value.int .u8 b.toNat) ++ Array.replicate (grownCap w s.size 0 e - s.size) (.int .u8 0)) e)).freeze ⟨w.heap.size, grownCap w s.size 0 e, none⟩ 1) := by
  have hc := (grown_ge w 0 e hn).1
  have hsz : ((s.data.map fun b => Value.int .u8 b.toNat) ++ Array.replicate (grownCap w s.size 0 e - s.size) (Value.int .u8 0)).size = grownCap w s.size 0 e := by
    simp only [Array.size_append, Array.size_map, Array.size_replicate]
    have : s.data.size = s.size := rfl
    omega
  have e1 : (choose (.appendCap s.size 0 e)).run P w = .ok (grownCap w s.size 0 e) w.drew := rfl
  have e2 : ∀ cs, (Go.newRow e cs).run P w.drew = .ok ⟨w.heap.size, 0, none⟩ (w.drew.alloc (.cells cs e)) := fun _ => rfl
  have e3 : ∀ (cs : Array Value) (n : Nat), cs.size = n → (markStringish ⟨w.heap.size, 0, none⟩).run P (w.drew.alloc (.cells cs e)) = .ok () ((w.drew.alloc (.cells cs e)).freeze ⟨w.heap.size, n, none⟩ 1) := fun cs n hcs => by
    have hsh : (w.drew.alloc (.cells cs e)).shape? w.heap.size = some (e, n) := by rw [← hcs]; exact shape_of (w := w.drew.alloc (.cells cs e)) (heap_push_eq (w := w.drew))
    simp [markStringish, shape, freeze, Sem.run, hsh]
  simp only [convert, Sem.run_bind, run_underlying hs, run_underlying hd, run_underlying he, Result.andThen, Conv.stringToBytes, e1, e2, e3 _ _ hsz]
  rfl
theorem strBytes_sound (hi : Inv A) (hn : A'.next ≤ A'.next) (src dst e : TypeId) (x : Operand) (s : ByteArray) (hx : f.eval x = some (.string s)) (hs : P.underlying src = some .string) (hd : P.underlying dst = some (.slice e)) (he : P.underlying e = some (.int .u8)) (hsz : szOf P e = some 1)
    (h : strBytes e s A = some (nx, A')) : Sound P f A ⟨d, .convert src dst x, ty, pos, af, gd⟩ nx A' := by
  unfold strBytes at h
  rw [forceN_eq] at h
  obtain ⟨hsm, h⟩ := boolSome h
  injection h with h
  injection h with h1 h2
  subst h1
  obtain ⟨ti, k1, k2, k3⟩ := sz_info hsz
  have hlen : s.data.toList.length = s.size := by simp
  have hsm : s.size ≤ 1073741824 := by rw [← hlen]; exact Nat.le_of_ble_eq_true hsm
  have hnx : A'.next = A.next + 1 := by rw [← h2, logW_eq, logR_eq, setFz_eq, newRow_next]
  subst h2
  have hn' : A.next + 1 ≤ A.next + 1 := by rw [← hnx]; exact hn
  have fr1 := newRow_fr hi hn' (s.data.toList.map fun c => Value.int .u8 (.ofNat c.toNat)) e
  have fr2 := setFz_fr (c := A.next) fr1.inv (by rw [newRow_next]; exact hn') (by rw [newRow_next]; omega) 18446744073709551616
  refine ⟨fr1.trans fr2, fun φ T w a hf hr hT hfr => ?_⟩
  have hv := hf.eval hx
  generalize hq : a.eval x = q at hv
  cases hv
  have hrun := run_strBytes hs hd he s hsm w
  obtain ⟨C, hCdef⟩ : ∃ C, C = (s.data.map fun b => Value.int .u8 b.toNat) ++ Array.replicate (grownCap w s.size 0 e - s.size) (Value.int .u8 0) := ⟨_, rfl⟩
  rw [← hCdef] at hrun
  obtain ⟨g1, g2⟩ := grown_ge w 0 e hsm
  have hCs : C.size = grownCap w s.size 0 e := by
    rw [hCdef]
    simp only [Array.size_append, Array.size_map, Array.size_replicate]
    have : s.data.size = s.size := rfl
    omega
  have hfr0 : φ A.next = none := hfr _ (Nat.le_refl _) (by rw [hnx]; omega)
  have hr' : Rel P φ T A w.drew := hr.heap rfl rfl rfl
  have htake : C.toList.take (s.data.toList.map fun c => Value.int .u8 (.ofNat c.toNat)).length = s.data.toList.map fun c => Value.int .u8 (.ofNat c.toNat) := by
    rw [hCdef, Array.toList_append, Array.toList_map, List.take_append_of_le_length (by simp)]
    rw [List.take_of_length_le (by simp)]
    rfl
  have hself : ∀ (l : List UInt8) (φ' : Emb), VRels φ' (l.map fun c => Value.int .u8 (.ofNat c.toNat)) (l.map fun c => Value.int .u8 (.ofNat c.toNat)) := by
    intro l φ'
    induction l with
    | nil => exact .nil
    | cons a l ih => exact .cons _ _ _ _ (.int _ _) ih
  obtain ⟨φ1, m1, m2⟩ := Post.new (P := P) (T := T) hi hn' hr' hfr0 (fun b => .row (s.data.toList.map fun c => Value.int .u8 (.ofNat c.toNat)) e b 0 true) rfl (.cells C e) 0 C.size (P.cellsOf e) 0 rfl (fun φ' _ _ => by
    refine .row _ _ _ _ _ (0, 0) rfl rfl rfl (by simp) ?_ ?_ (.inl rfl) _ (.inl ⟨rfl, Nat.dvd_zero _⟩)
    · show 0 + _ ≤ C.size
      rw [List.length_map, hCs, hlen]; omega
    · show VRels φ' _ ((C.toList.drop 0).take _)
      rw [List.drop_zero, htake]
      exact hself _ φ')
  have m2' : Post P φ T A (newRow A (s.data.toList.map fun c => Value.int .u8 (.ofNat c.toNat)) e) w (w.drew.alloc (.cells C e)) φ1 := by
    rw [newRow_eq]
    exact ⟨m2.ext, m2.out, m2.rel, m2.img, m2.size, m2.same, m2.os, m2.tape, m2.output⟩
  have hrow : (newRow A (s.data.toList.map fun c => Value.int .u8 (.ofNat c.toNat)) e).heap.get A.next = some (.row (s.data.toList.map fun c => Value.int .u8 (.ofNat c.toNat)) e A.next 0 true) := by
    rw [newRow_eq, new_eq]
    show (Tr.set _ 40 A.heap A.next).get A.next = _
    rw [Tr.get_set _ _ _ _ (fits (by omega)), if_pos rfl]
  have hfz : ∀ h', (newRow A (s.data.toList.map fun c => Value.int .u8 (.ofNat c.toNat)) e).fz.get A.next = some h' → h' ≤ 18446744073709551616 := fun h' hh => by
    rw [newRow_eq, new_eq] at hh
    have := hi.fz _ _ (show A.fz.get A.next = some h' from hh)
    omega
  have m3 := Post.freeze (off := C.size) (n := 1) fr1.inv (by rw [newRow_next]; exact hn') m2'.rel (.inr ⟨Nat.le_refl _, by rw [newRow_next]; omega⟩) hrow m1 hfz (by omega)
  have hpost := m2'.trans fr1.next fr2 m3
  rw [hCs] at hpost
  refine ⟨φ1, _, hpost, ?_⟩
  have ee : (execOp a.eval ⟨d, .convert src dst x, ty, pos, af, gd⟩).run P w = .ok (.value (.slice (some ⟨w.heap.size, 0, none⟩) s.size (grownCap w s.size 0 e))) ((w.drew.alloc (.cells C e)).freeze ⟨w.heap.size, grownCap w s.size 0 e, none⟩ 1) := by
    refine run_v ?_
    rw [hq]
    exact hrun
  rw [ee, hlen]
  have hw : (w.drew.alloc (.cells C e)).freeze ⟨w.heap.size, 0 + grownCap w s.size 0 e, none⟩ 1 = (w.drew.alloc (.cells C e)).freeze ⟨w.heap.size, grownCap w s.size 0 e, none⟩ 1 := by rw [Nat.zero_add]
  show NRel φ1 ((w.drew.alloc (.cells C e)).freeze ⟨w.heap.size, 0 + grownCap w s.size 0 e, none⟩ 1) _ _
  rw [hw]
  refine .val _ _ (.slice _ _ _ _ _ _ _ m1 (Nat.le_refl _) g1 (.inr rfl) ?_)
  show 0 + grownCap w s.size 0 e * P.cellsOf e ≤ C.size
  rw [k3, hCs]
  omega
theorem conv_sound (hi : Inv A) (hn : A'.next ≤ A'.next) (src dst : TypeId) (x : Operand) (h : evalOp P f ⟨d, .convert src dst x, ty, pos, af, gd⟩ A = some (nx, A')) : Sound P f A ⟨d, .convert src dst x, ty, pos, af, gd⟩ nx A' := by
  have h' : convA P f ⟨d, .convert src dst x, ty, pos, af, gd⟩ src dst (f.eval x) A = some (nx, A') := h
  unfold convA at h'
  split at h'
  · rename_i b off n c hx
    split at h'
    · rename_i e hs hd
      split at h'
      · rename_i he
        cases n with
        | zero =>
          have h'' : some (ANext.val (.string ⟨#[]⟩), A) = some (nx, A') := h'
          injection h'' with h''
          injection h'' with h1 h2
          subst h1
          subst h2
          refine sound_same hi fun φ w a hf => ?_
          have hv := hf.eval hx
          generalize hq : a.eval x = q at hv
          cases hv with
          | slice _ _ _ _ cap' a' i hφ hl hc ha hr =>
            have e : (execOp a.eval ⟨d, .convert src dst x, ty, pos, af, gd⟩).run P w = .ok (.value (.string ⟨#[]⟩)) w := by
              refine run_v ?_
              rw [hq]
              exact conv_empty hs he hd _ _ w
            rw [e]
            exact .val _ _ (.string _)
        | succ n =>
          have h'' : (match ld A b off (n + 1) with
            | some (xs, s) => (match bytesOfCells xs with
              | some l => forceL l fun l => some (ANext.val (.string ⟨⟨l⟩⟩), s)
              | none => none)
            | none => none) = some (nx, A') := h'
          split at h''
          · rename_i xs s hld
            split at h''
            · rename_i l hbl
              rw [forceL_eq] at h''
              injection h'' with h''
              injection h'' with h1 h2
              subst h1
              subst h2
              refine ⟨ld_fr hi hld, fun φ T w a hf hr hT _ => ?_⟩
              have hv := hf.eval hx
              generalize hq : a.eval x = q at hv
              cases hv with
              | slice _ _ _ _ cap' a' i hφ hl hc ha hrr =>
                obtain rfl : a' = ⟨i.blk, i.sh + off, none⟩ := ha.resolve_left (by omega)
                obtain ⟨xs', g1, g2, g3⟩ := ld_run hi hld hr hT hφ
                refine ⟨φ, w, g3, ?_⟩
                obtain ⟨ns, k1, k2⟩ := bytes_rel hbl g1
                have hlen : ns.length = n + 1 := by
                  obtain ⟨_, _, _, _, _, _, q1, _⟩ := ld_spec hld
                  have q2 := g1.length
                  rw [k1, List.length_map] at q2
                  omega
                subst k1
                have hlc := run_loadCells_list (P := P) w ⟨i.blk, i.sh + off, none⟩ (ns.map (Value.int .u8)) g2
                rw [List.length_map, hlen] at hlc
                have e : (execOp a.eval ⟨d, .convert src dst x, ty, pos, af, gd⟩).run P w = .ok (.value (.string ⟨⟨l⟩⟩)) w := by
                  refine run_v ?_
                  rw [hq]
                  rw [run_convert_bytes_string w src dst e _ _ _ hs he hd, run_bytesToString w _ _ _ ns hlc, foldl_push_bytes, k2]
                  simp [ByteArray.empty, ByteArray.emptyWithCapacity]
                  rfl
                rw [e]
                exact .val _ _ (.string _)
            · cases h''
          · cases h''
      · cases h'
    · cases h'
  · rename_i p hx
    exact ptr_sound hi src dst x p hx h'
  · rename_i s hx
    split at h'
    · rename_i e hd
      split at h'
      · rename_i hs he hsz
        exact strBytes_sound hi hn src dst e x s hx hs hd he hsz h'
      · cases h'
    · exact pure_sound hi _ (by intro _ _ hh; cases hh) h'
  · exact pure_sound hi _ (by intro _ _ hh; cases hh) h'
theorem data_sound (hi : Inv A) (x : Operand) (tys : Array TypeId) (h : dataA P f ⟨d, .call ⟨.builtin .unsafeSliceData, #[x], tys⟩, ty, pos, af, gd⟩ (f.eval x) A = some (nx, A')) : Sound P f A ⟨d, .call ⟨.builtin .unsafeSliceData, #[x], tys⟩, ty, pos, af, gd⟩ nx A' := by
  unfold dataA at h
  split at h
  · rename_i bb oo n c hx
    injection h with h
    injection h with h1 h2
    subst h1
    subst h2
    refine sound_same hi fun φ w a hf => ?_
    have hv := hf.eval hx
    generalize hq : a.eval x = q at hv
    cases hv with
    | slice _ _ _ _ cap' a' i hφ hl hc ha hr =>
      obtain rfl : a' = ⟨i.blk, i.sh + oo, none⟩ := ha.resolve_left (by omega)
      have e : (execOp a.eval ⟨d, .call ⟨.builtin .unsafeSliceData, #[x], tys⟩, ty, pos, af, gd⟩).run P w = .ok (.value (.pointer (some ⟨i.blk, i.sh + oo, none⟩))) w := by
        refine run_v ?_
        have hc0 : cap' ≠ 0 := by omega
        have hm : (#[x].map a.eval) = #[a.eval x] := by simp
        rw [hm, hq]
        cases cap' with
        | zero => exact absurd rfl hc0
        | succ k => rfl
      rw [e]
      exact .val _ _ (.ptr _ _ _ hφ)
  · exact pure_sound hi _ (by intro _ _ hh; cases hh) h
end
end Go.EvL
