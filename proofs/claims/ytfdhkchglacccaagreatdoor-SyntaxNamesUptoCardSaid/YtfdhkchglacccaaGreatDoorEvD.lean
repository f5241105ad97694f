/- The evaluator: more operations. No statement is proved here. -/
import Derived.Test.YtfdhkchglacccaaGreatDoorEvC
import Derived.Test.YtfdhkchglacccaaGreatDoorEvB
import Derived.Laws.Tables
import Derived.Great.BuildSlice
import Derived.Laws.RangeString
import Derived.MapKept
import Derived.Laws.BytesArg
import Derived.Lib.Builder
import Derived.Lib.UnsafeStr
import Derived.Laws.MakeOwn
namespace Go.EvL
open Go
section
variable {P : Program} {f : Fr} {A A' : AS} {nx : ANext} {d : Option Tmp} {ty : TypeId} {pos : String} {af : Array Edge} {gd : Option (Nat × Bool)}
theorem assert_run_yes {t : TypeId} {dd : TypeDesc} (hd : P.underlying t = some dd) (hni : ∀ l, dd ≠ .interface l) (xt : TypeId) (v : Value) (w : World) : (Instr.typeAssert (.iface t v) xt t true).run P w = .ok (.tuple #[v, .bool true]) w := by
  simp only [Instr.typeAssert, Sem.run_bind, run_underlying hd, Result.andThen]
  cases dd <;> first | exact absurd rfl (hni _) | (simp only [if_true]; rfl)
theorem assert_run_no {t u : TypeId} {dd : TypeDesc} (hd : P.underlying t = some dd) (hni : ∀ l, dd ≠ .interface l) (xt : TypeId) (v z : Value) (w : World) (hu : u ≠ t) (hz : (zeroValue t).run P w = .ok z w) :
    (Instr.typeAssert (.iface u v) xt t true).run P w = .ok (.tuple #[z, .bool false]) w := by
  simp only [Instr.typeAssert, Sem.run_bind, run_underlying hd, Result.andThen]
  cases dd <;> first | exact absurd rfl (hni _) | (simp only [if_neg hu, if_true, Sem.run_bind, hz, Result.andThen]; rfl)
theorem assert_sound (hi : Inv A) (x : Operand) (xt t : TypeId) (ok : Bool) (h : evalOp P f ⟨d, .typeAssert x xt t ok, ty, pos, af, gd⟩ A = some (nx, A')) : Sound P f A ⟨d, .typeAssert x xt t ok, ty, pos, af, gd⟩ nx A' := by
  have h' : assertA P (f.eval x) t ok A = some (nx, A') := h
  unfold assertA at h'
  split at h'
  · cases h'
  · rename_i u v dd hni hx hd
    have hni' : ∀ l, dd ≠ .interface l := hni
    rcases boolRec h' with ⟨hb, h1⟩ | ⟨hb, h1⟩
    · split at h1
      · rename_i z hz
        injection h1 with h1
        injection h1 with h1 h2
        subst h1
        subst h2
        obtain ⟨hp, hzr⟩ := zero_rel hz
        have hu : u ≠ t := by rintro rfl; rw [Nat.beq_refl] at hb; cases hb
        refine sound_same hi fun φ w a hf => ?_
        have hv := hf.eval hx
        generalize hq : a.eval x = q at hv
        cases hv with
        | iface _ _ v' hvv =>
          have e : (execOp a.eval ⟨d, .typeAssert x xt t true, ty, pos, af, gd⟩).run P w = .ok (.value (.tuple #[z, .bool false])) w := by
            refine run_v ?_
            rw [hq]
            exact assert_run_no hd hni' xt v' z w hu (hzr w)
          rw [e]
          exact .val _ _ (.tuple _ _ (.cons _ _ _ _ (plain_self φ _ _ hp) (.cons _ _ _ _ (.bool _) .nil)))
      · cases h1
    · have := Nat.eq_of_beq_eq_true hb
      subst this
      injection h1 with h1
      injection h1 with h1 h2
      subst h1
      subst h2
      refine sound_same hi fun φ w a hf => ?_
      have hv := hf.eval hx
      generalize hq : a.eval x = q at hv
      cases hv with
      | iface _ _ v' hvv =>
        have e : (execOp a.eval ⟨d, .typeAssert x xt u true, ty, pos, af, gd⟩).run P w = .ok (.value (.tuple #[v', .bool true])) w := by
          refine run_v ?_
          rw [hq]
          exact assert_run_yes hd hni' xt v' w
        rw [e]
        exact .val _ _ (.tuple _ _ (.cons _ _ _ _ hvv (.cons _ _ _ _ (.bool _) .nil)))
  · cases h'
inductive PRels (φ : Emb) : List (Nat × Value) → List (Nat × Value) → Prop
  | nil : PRels φ [] []
  | cons (i : Nat) (v v' : Value) (l l' : List (Nat × Value)) (h : VRel φ v v') (hs : PRels φ l l') : PRels φ ((i, v) :: l) ((i, v') :: l')
theorem parts_rel {φ : Emb} {a : Act} (hf : FRel φ f a) : ∀ (l : List (Nat × Operand)) {ps : List (Nat × Value)}, evalParts f l = some ps → PRels φ ps (l.map fun (i, x) => (i, a.eval x)) := by
  intro l
  induction l with
  | nil => intro vs h; have h' : some ([] : List (Nat × Value)) = some vs := h; injection h' with h'; subst h'; exact .nil
  | cons x l ih =>
    intro vs h
    obtain ⟨i, x⟩ := x
    have h' : (match f.eval x with | some v => (match evalParts f l with | some vs => some ((i, v) :: vs) | none => none) | none => none) = some vs := h
    split at h'
    · rename_i v hx
      split at h'
      · rename_i us hu
        injection h' with h'
        subst h'
        exact .cons _ _ _ _ _ (hf.eval hx) (ih hu)
      · cases h'
    · cases h'
theorem VRels.set {φ : Emb} {l l' : List Value} (i : Nat) {v v' : Value} (h : VRels φ l l') (hv : VRel φ v v') : VRels φ (l.set i v) (l'.set i v') := by
  refine .of_get (by simp [h.length]) fun j u hu => ?_
  rw [List.getElem?_set] at hu ⊢
  rw [← h.length]
  split at hu
  · rename_i e
    rw [if_pos e]
    split at hu
    · rename_i e'
      injection hu with hu
      subst hu
      exact ⟨v', by rw [if_pos e'], hv⟩
    · cases hu
  · rename_i e
    rw [if_neg e]
    exact h.get j hu
theorem put_rel {φ : Emb} (off : Nat) : ∀ (l l' : List Value) (k : Nat) (cs cs' : Array Value), VRels φ l l' → VRels φ cs.toList cs'.toList →
    VRels φ ((l.zipIdx k).foldl (fun cs (x : Value × Nat) => cs.setIfInBounds (off + x.2) x.1) cs).toList ((l'.zipIdx k).foldl (fun cs (x : Value × Nat) => cs.setIfInBounds (off + x.2) x.1) cs').toList := by
  intro l
  induction l with
  | nil => intro l' k cs cs' h hc; cases h; exact hc
  | cons v l ih =>
    intro l' k cs cs' h hc
    cases h with
    | cons _ v' _ l' hv hs =>
      refine ih l' (k + 1) _ _ hs ?_
      rw [Array.toList_setIfInBounds, Array.toList_setIfInBounds]
      exact hc.set _ hv
theorem fill_rel {φ : Emb} {place place' : Nat → Option (Nat × Nat)} (hp : ∀ i p, place i = some p → place' i = some p) : ∀ (ps ps' : List (Nat × Value)) (cs cs' out : Array Value), PRels φ ps ps' → VRels φ cs.toList cs'.toList →
    Instr.fill place cs ps = some out → ∃ out', Instr.fill place' cs' ps' = some out' ∧ VRels φ out.toList out'.toList := by
  intro ps
  induction ps with
  | nil =>
    intro ps' cs cs' out h hc he
    cases h
    injection he with he
    subst he
    exact ⟨cs', rfl, hc⟩
  | cons x ps ih =>
    intro ps' cs cs' out h hc he
    cases h with
    | cons i v v' _ ps' hv hs =>
      have hl := (cells_rel hv).length
      have hl2 := hc.length
      simp only [Array.length_toList] at hl hl2
      simp only [Instr.fill] at he ⊢
      split at he
      · cases he
      · rename_i off size hpl
        rw [hp _ _ hpl]
        simp only
        rw [← hl, ← hl2]
        split at he
        · cases he
        · rename_i hk
          rw [if_neg hk]
          refine ih ps' _ _ out hs ?_ he
          have := put_rel off _ _ 0 cs cs' (cells_rel hv) hc
          rw [← Array.foldl_toList, ← Array.foldl_toList, Array.toList_zipIdx, Array.toList_zipIdx]
          exact this
theorem puts_size (off : Nat) : ∀ (l : List (Value × Nat)) (cs : Array Value), (l.foldl (fun cs (x : Value × Nat) => cs.setIfInBounds (off + x.2) x.1) cs).size = cs.size := by
  intro l
  induction l with
  | nil => intro cs; rfl
  | cons y l ih => intro cs; rw [List.foldl_cons, ih, Array.size_setIfInBounds]
theorem fill_size {place : Nat → Option (Nat × Nat)} : ∀ (ps : List (Nat × Value)) (cs out : Array Value), Instr.fill place cs ps = some out → out.size = cs.size := by
  intro ps
  induction ps with
  | nil => intro cs out h; injection h with h; rw [h]
  | cons x ps ih =>
    intro cs out h
    obtain ⟨i, v⟩ := x
    simp only [Instr.fill] at h
    split at h
    · cases h
    · split at h
      · cases h
      · rw [ih _ _ h, ← Array.foldl_toList]
        exact puts_size _ _ _
end
end Go.EvL

namespace Go.EvL
open Go
/-- what is asked of the program's types -/
structure Tys (P : Program) : Prop where
  fields : ∀ (t : TypeId) (fs : Array Field), t < P.types.size → P.underlying t = some (.struct fs) → ∀ fl ∈ fs.toList, ∃ n, szOf P fl.type = some n
section
variable {P : Program} {f : Fr} {A A' : AS} {nx : ANext} {d : Option Tmp} {ty : TypeId} {pos : String} {af : Array Edge} {gd : Option (Nat × Bool)}
theorem places_ok : ∀ (l : List Field), (∀ fl ∈ l, ∃ n, szOf P fl.type = some n) → l.mapM (fun f => (P.info? f.type).map fun i => (f.offset, i.size)) = some (l.map fun f => (f.offset, (szOf P f.type).getD 0)) := by
  intro l
  induction l with
  | nil => intro _; rfl
  | cons x l ih =>
    intro h
    obtain ⟨n, hn⟩ := h x (by simp)
    have e := ih fun fl hfl => h fl (by simp [hfl])
    unfold szOf at hn
    cases hi : P.info? x.type with
    | none => rw [hi] at hn; cases hn
    | some i => simp [List.mapM_cons, e, hi, szOf]
theorem zero_info {t : TypeId} {z : Value} (h : zeroOf P t = some z) : ∃ i, P.info? t = some i ∧ i.zero = some z := by
  unfold zeroOf at h
  split at h
  · rename_i z' hz
    unfold constV at h
    obtain ⟨_, he⟩ := boolSome h
    injection he with he
    subst he
    cases hi : P.info? t with
    | none => rw [hi] at hz; cases hz
    | some i => rw [hi] at hz; exact ⟨i, rfl, hz⟩
  · cases h
theorem build_sound (hS : Tys P) (hi : Inv A) (t : TypeId) (ps : Array (Nat × Operand)) (h : evalOp P f ⟨d, .build t ps, ty, pos, af, gd⟩ A = some (nx, A')) : Sound P f A ⟨d, .build t ps, ty, pos, af, gd⟩ nx A' := by
  have h' : buildA P f t ps A = some (nx, A') := h
  unfold buildA at h'
  split at h'
  · rename_i z fs us hz hu hps
    obtain ⟨htl, h'⟩ := boolSome h'
    have htl := Nat.le_of_ble_eq_true htl
    cases hc : Instr.fill (fun i => (fs[i]?).bind fun fl => (szOf P fl.type).map fun n => (fl.offset, n)) z.cells us with
    | none => rw [hc] at h'; cases h'
    | some cs =>
      rw [hc] at h'
      injection h' with h'
      injection h' with h1 h2
      subst h1
      subst h2
      obtain ⟨it, hit, hzz⟩ := zero_info hz
      have hp := (zero_rel hz).1
      refine sound_same hi fun φ w a hf => ?_
      obtain ⟨out, e1, e2⟩ := fill_rel (place' := fun i => (fs.toList.map fun f => (f.offset, (szOf P f.type).getD 0)).toArray[i]?) (fun i p hip => by
        cases hg : fs[i]? with
        | none => rw [hg] at hip; cases hip
        | some fl =>
          rw [hg] at hip
          cases hs : szOf P fl.type with
          | none => simp [hs] at hip
          | some n =>
            simp [hs] at hip
            subst hip
            simp [hg, hs]) _ _ _ _ _ (parts_rel hf _ hps) (cells_rel (plain_self φ _ _ hp)) hc
      have e : (execOp a.eval ⟨d, .build t ps, ty, pos, af, gd⟩).run P w = .ok (.value (.agg out)) w := by
        refine run_v ?_
        refine run_build w t _ out ?_
        unfold Program.built
        rw [hit, hu]
        simp only [hzz, places_ok _ (hS.fields t fs htl hu)]
        rw [Array.toList_map]
        exact e1
      rw [e]
      exact .val _ _ (.agg _ _ e2)
  · rename_i z k e us hz hu hps
    cases hn : szOf P e with
    | none => rw [hn] at h'; cases h'
    | some n =>
      rw [hn] at h'
      have h'' : (Instr.fill (fun i => some (i * n, n)) z.cells us).map (fun cs => (ANext.val (.agg cs), A)) = some (nx, A') := h'
      cases hc : Instr.fill (fun i => some (i * n, n)) z.cells us with
      | none => rw [hc] at h''; cases h''
      | some cs =>
        rw [hc] at h''
        injection h'' with h'
        injection h' with h1 h2
        subst h1
        subst h2
        obtain ⟨it, hit, hzz⟩ := zero_info hz
        obtain ⟨ie, hie, hsz, _⟩ := sz_info hn
        have hp := (zero_rel hz).1
        refine sound_same hi fun φ w a hf => ?_
        obtain ⟨out, e1, e2⟩ := fill_rel (place' := fun i => some (i * n, n)) (fun i p hip => hip) _ _ _ _ _ (parts_rel hf _ hps) (cells_rel (plain_self φ _ _ hp)) hc
        have e : (execOp a.eval ⟨d, .build t ps, ty, pos, af, gd⟩).run P w = .ok (.value (.agg out)) w := by
          refine run_v ?_
          refine run_build w t _ out ?_
          unfold Program.built
          rw [hit, hu]
          simp only [hzz, hie, hsz]
          rw [Array.toList_map]
          exact e1
        rw [e]
        exact .val _ _ (.agg _ _ e2)
  · cases h'
theorem rep_get {α : Type} (l : List α) (n : Nat) : ∀ (k i : Nat), l.length = n → i < k * n → (List.replicate k l).flatten[i]? = l[i % n]? := by
  intro k
  induction k with
  | zero => intro i _ h; omega
  | succ k ih =>
    intro i hl h
    rw [List.replicate_succ, List.flatten_cons, List.getElem?_append]
    split
    · rename_i hlt
      rw [hl] at hlt
      rw [Nat.mod_eq_of_lt hlt]
    · rename_i hge
      rw [hl] at hge ⊢
      rw [Nat.succ_mul] at h
      rw [ih (i - n) hl (by omega)]
      congr 1
      exact (Nat.mod_eq_sub_mod (by omega)).symm
theorem rep_eq (z : Value) (k n : Nat) (hz : z.cells.size = n) : (Array.range (k * n)).map (z.cells[· % z.cells.size]!) = (List.replicate k z.cells.toList).flatten.toArray := by
  apply Array.ext'
  rw [Array.toList_map, Array.toList_range]
  apply List.ext_getElem?
  intro i
  rw [List.getElem?_map]
  show _ = (List.replicate k z.cells.toList).flatten[i]?
  by_cases hi : i < k * n
  · rw [rep_get _ n k i (by rw [Array.length_toList]; exact hz) hi]
    have hn : 0 < n := by
      rcases Nat.eq_zero_or_pos n with h | h
      · subst h; omega
      · exact h
    have hm : i % n < z.cells.size := by rw [hz]; exact Nat.mod_lt _ hn
    rw [List.getElem?_range hi]
    simp only [Option.map_some, hz]
    rw [getElem!_pos z.cells (i % n) hm, Array.getElem?_toList, Array.getElem?_eq_getElem hm]
  · rw [List.getElem?_eq_none (by rw [List.length_range]; omega), List.getElem?_eq_none (by simp [hz]; omega)]
    rfl
theorem buildSlice_run (w : World) (t e : TypeId) (len : Nat) (parts : Array (Nat × Value)) (cells : Array Value) (ie : TypeInfo) (z : Value) (hs : z.cells.size = ie.size)
    (hu : P.underlying t = some (.slice e)) (hie : P.info? e = some ie) (hz : ie.zero = some z) (hsmall : ¬ len * ie.size > 2 ^ 24)
    (h : Instr.fill (fun i => some (i * ie.size, ie.size)) (List.replicate len z.cells.toList).flatten.toArray parts.toList = some cells) :
    (Instr.buildSlice t len parts).run P w = .ok (.slice (some ⟨w.heap.size, 0, none⟩) len len) (w.alloc (.cells cells e)) := by
  by_cases hp : len * ie.size = 0
  · have e0 : (List.replicate len z.cells.toList).flatten.toArray = #[] := by rw [← rep_eq z len ie.size hs, hp]; simp
    rw [e0] at h
    have r0 : Array.range 0 = #[] := by simp
    simp [Instr.buildSlice, run_underlying hu, sizeOf, typeInfo, hie, hp, r0, h, Go.newRow]
  · exact run_buildSlice w t e len parts cells ie z hu hie hz hsmall hp (by rw [rep_eq z len ie.size hs]; exact h)
theorem rep_rel {φ : Emb} {l l' : List Value} (h : VRels φ l l') : ∀ k, VRels φ (List.replicate k l).flatten (List.replicate k l').flatten := by
  intro k
  induction k with
  | zero => exact .nil
  | succ k ih => rw [List.replicate_succ, List.flatten_cons, List.replicate_succ, List.flatten_cons]; exact h.append ih
theorem buildSlice_sound (hi : Inv A) (hn : A'.next ≤ A'.next) (t : TypeId) (len : Nat) (ps : Array (Nat × Operand)) (h : evalOp P f ⟨d, .buildSlice t len ps, ty, pos, af, gd⟩ A = some (nx, A')) : Sound P f A ⟨d, .buildSlice t len ps, ty, pos, af, gd⟩ nx A' := by
  have h' : buildSliceA P f t len ps A = some (nx, A') := h
  unfold buildSliceA at h'
  split at h'
  · rename_i el hu
    split at h'
    · rename_i z n us hz hsz hps
      split at h'
      · rename_i hsm
        simp only [Bool.and_eq_true] at hsm
        have hzs : z.cells.size = n := by rw [← Array.length_toList]; exact Nat.eq_of_beq_eq_true hsm.2
        have hsm : len * n ≤ 1048576 := Nat.le_of_ble_eq_true hsm.1
        cases hc : Instr.fill (fun i => some (i * n, n)) (List.replicate len z.cells.toList).flatten.toArray us with
        | none => rw [hc] at h'; cases h'
        | some cs =>
          rw [hc] at h'
          injection h' with h'
          injection h' with h1 h2
          subst h1
          subst h2
          obtain ⟨ie, hie, hzz⟩ := zero_info hz
          obtain ⟨ie', hie', hsz', hco⟩ := sz_info hsz
          obtain rfl : ie = ie' := by rw [hie] at hie'; injection hie'
          have hp := (zero_rel hz).1
          rw [newRow_next] at hn
          refine ⟨newRow_fr hi hn _ _, fun φ T w a hf hr _ hfr => ?_⟩
          have hzc : VRels φ (List.replicate len z.cells.toList).flatten (List.replicate len z.cells.toList).flatten := by
            exact rep_rel (cells_rel (plain_self φ _ _ hp)) len
          obtain ⟨out, e1, e2⟩ := fill_rel (place' := fun i => some (i * n, n)) (fun i p hip => hip) _ _ _ _ _ (parts_rel hf _ hps) hzc hc
          obtain ⟨φ', g1, g2⟩ := newRow_post hi (by rw [newRow_next]; exact hn) hr hfr e2
          refine ⟨φ', _, g2, ?_⟩
          have e : (execOp a.eval ⟨d, .buildSlice t len ps, ty, pos, af, gd⟩).run P w = .ok (.value (.slice (some ⟨w.heap.size, 0, none⟩) len len)) (w.alloc (.cells out.toList.toArray el)) := by
            refine run_v ?_
            rw [Array.toArray_toList]
            refine buildSlice_run w t el len _ out ie z (by rw [hzs, hsz']) hu hie hzz (by rw [hsz']; omega) ?_
            rw [Array.toList_map, hsz']
            exact e1
          rw [e]
          refine .val _ _ (.slice _ 0 len len len _ _ g1 (Nat.le_refl _) (Nat.le_refl _) (.inr rfl) ?_)
          have q1 := fill_size _ _ _ hc
          have q2 := e2.length
          simp only [Array.length_toList] at q2
          show 0 + len * P.cellsOf el ≤ out.toList.length
          rw [hco, Array.length_toList, ← q2, q1]
          simp [hzs]
      · cases h'
    · cases h'
  · cases h'
end
end Go.EvL

namespace Go.EvL
open Go
def flat : AObj → Bool
  | .row _ _ _ _ _ => false
  | _ => true
theorem flat_cls {o : AObj} (h : flat o = true) (b : Nat) : clsOf b o = b := by cases o <;> first | rfl | cases h
theorem flat_live {o : AObj} (h : flat o = true) : live o = true := by cases o <;> first | rfl | cases h
/-- an object that is no row is written on both sides -/
theorem Post.put {P : Program} {φ : Emb} {T : Nat → Prop} {A : AS} {w : World} {b : Nat} {o o1 : AObj} {x x1 : Obj} {i : Inf} (hi : Inv A) (hn : A.next ≤ A.next) (h : Rel P φ T A w) (hT : T b) (hb : A.heap.get b = some o) (ho : flat o = true) (ho1 : flat o1 = true)
    (hφ : φ b = some i) (hx : w.heap[i.blk]? = some x) (hox : ORel P φ (A.fz.get b) b i o x) (h1 : ORel P φ (A.fz.get b) b i o1 x1) :
    Post P φ T A (logW (logR (A.put b o1) b) b) w { w with heap := w.heap.setIfInBounds i.blk x1 } φ := by
  have hl := (hi.lt _ _ hb).1
  have hf : Fits b := fits (by omega)
  have hlt : i.blk < w.heap.size := h.blk _ _ hφ
  have hcls : i.cls = b := by rw [hox.cls, flat_cls ho]
  rw [put_eq, logR_eq, logW_eq]
  refine ⟨fun _ _ h => h, fun _ _ => rfl, ⟨fun y j hy => ?_, h.inj, fun y p hy hlv hTy => ?_, h.al, h.glob, h.root⟩, fun y j hy _ => ⟨y, j, hy, rfl, rfl⟩, ?_, fun k hk hw => ?_, rfl, rfl, rfl⟩
  · show j.blk < (w.heap.setIfInBounds i.blk x1).size
    rw [Array.size_setIfInBounds]
    exact h.blk _ _ hy
  · have hy' : (Tr.set o1 40 A.heap b).get y = some p := hy
    rw [Tr.get_set _ _ _ _ hf] at hy'
    split at hy'
    · rename_i he
      subst he
      injection hy' with hy'
      subst hy'
      refine ⟨i, x1, hφ, ?_, ?_⟩
      · show (w.heap.setIfInBounds i.blk x1)[i.blk]? = _
        rw [Array.getElem?_setIfInBounds, if_pos rfl, if_pos hlt]
      · rw [flat_cls ho1]; exact h1
    · rename_i hne
      have hTy' : T (clsOf y p) := hTy.elim id fun hc => by have : A.next ≤ clsOf y p ∧ clsOf y p < A.next := hc; omega
      obtain ⟨j, q, e1, e2, e3⟩ := h.obj y p hy' hlv hTy'
      refine ⟨j, q, e1, ?_, e3⟩
      show (w.heap.setIfInBounds i.blk x1)[j.blk]? = _
      rw [Array.getElem?_setIfInBounds, if_neg ?_]
      · exact e2
      · intro he
        have hc := (h.inj _ _ _ _ hφ e1 he).1
        rw [hcls, e3.cls] at hc
        rw [← he, hx] at e2
        injection e2 with e2
        subst e2
        cases e3 with
        | row =>
          cases hox
          cases ho
        | map => exact hne hc.symm
        | iter => exact hne hc.symm
  · show w.heap.size ≤ (w.heap.setIfInBounds i.blk x1).size
    rw [Array.size_setIfInBounds]
    exact Nat.le_refl _
  · show (w.heap.setIfInBounds i.blk x1)[k]? = _
    rw [Array.getElem?_setIfInBounds, if_neg]
    intro he
    have := hw b i hφ he
    rw [hcls] at this
    rw [bit_or] at this
    simp at this
section
variable {P : Program} {f : Fr} {A A' : AS} {nx : ANext} {d : Option Tmp} {ty : TypeId} {pos : String} {af : Array Edge} {gd : Option (Nat × Bool)}
theorem makeMap_sound (hi : Inv A) (hn : A'.next ≤ A'.next) (t : TypeId) (r : Option Operand) (h : evalOp P f ⟨d, .makeMap t r, ty, pos, af, gd⟩ A = some (nx, A')) : Sound P f A ⟨d, .makeMap t r, ty, pos, af, gd⟩ nx A' := by
  cases r with
  | some _ => cases h
  | none =>
    have h' : some (ANext.val (.map (some A.next)), A.new fun _ => .map [] 0) = some (nx, A') := h
    injection h' with h'
    injection h' with h1 h2
    subst h1
    subst h2
    rw [new_next] at hn
    refine ⟨new_fr hi hn _ rfl, fun φ T w a hf hr _ hfr => ?_⟩
    obtain ⟨φ', e1, e2⟩ := Post.new hi hn hr (hfr _ (Nat.le_refl _) (by rw [new_next]; omega)) (fun _ => .map [] 0) rfl (.map #[] 0) 0 0 0 0 rfl fun φ' he hp => .map _ _ _ rfl .nil
    refine ⟨φ', _, e2, ?_⟩
    exact .val _ _ (.map _ _ e1)
theorem range_sound (hi : Inv A) (hn : A'.next ≤ A'.next) (t : TypeId) (x : Operand) (h : evalOp P f ⟨d, .range t x, ty, pos, af, gd⟩ A = some (nx, A')) : Sound P f A ⟨d, .range t x, ty, pos, af, gd⟩ nx A' := by
  have h' : rangeA P t (f.eval x) A = some (nx, A') := h
  unfold rangeA at h'
  split at h'
  · rename_i b hu hx
    injection h' with h'
    injection h' with h1 h2
    subst h1
    subst h2
    rw [new_next] at hn
    refine ⟨new_fr hi hn _ rfl, fun φ T w a hf hr _ hfr => ?_⟩
    obtain ⟨φ', e1, e2⟩ := Post.new hi hn hr (hfr _ (Nat.le_refl _) (by rw [new_next]; omega)) (fun _ => .iter b 0) rfl (.stringIter b 0) 0 0 0 0 rfl fun φ' he hp => .iter _ _ rfl rfl
    refine ⟨φ', _, e2, ?_⟩
    have hv := hf.eval hx
    generalize hq : a.eval x = q at hv
    cases hv
    have e : (execOp a.eval ⟨d, .range t x, ty, pos, af, gd⟩).run P w = .ok (.value (.pointer (some ⟨w.heap.size, 0, none⟩))) (w.alloc (.stringIter b 0)) := by
      refine run_v ?_
      rw [hq]
      exact run_range_string w t b hu
    rw [e]
    exact .val _ _ (.ptr _ 0 _ e1)
  · cases h'
theorem next_sound (hi : Inv A) (hn : A'.next ≤ A'.next) (it : Operand) (s : Bool) (h : evalOp P f ⟨d, .next it s, ty, pos, af, gd⟩ A = some (nx, A')) : Sound P f A ⟨d, .next it s, ty, pos, af, gd⟩ nx A' := by
  have h' : nextA (f.eval it) s A = some (nx, A') := h
  unfold nextA at h'
  split at h'
  · rename_i b hx
    split at h'
    · rename_i st p hb
      have hl := (hi.lt _ _ hb).1
      unfold nextIn at h'
      rcases boolRec h' with ⟨hlt, h1⟩ | ⟨hlt, h1⟩
      · injection h1 with h1
        injection h1 with h1 h2
        subst h1
        subst h2
        refine ⟨logR_fr hi hl, fun φ T w a hf hr hT _ => ⟨φ, w, by rw [logR_eq]; exact .refl hr rfl rfl rfl rfl rfl rfl rfl, ?_⟩⟩
        have hTb : T b := hT b hl (.inl (by rw [logR_eq, bit_or]; simp))
        obtain ⟨i, q, e1, e2, e3⟩ := hr.obj b _ hb rfl hTb
        cases e3 with
        | iter _ _ hc hs =>
          have hv := hf.eval hx
          generalize hq : a.eval it = v at hv
          cases hv with
          | ptr _ _ j hj =>
            rw [e1] at hj
            injection hj with hj
            subst hj
            have hp : ¬ p < st.size := by intro hh; rw [Nat.ble_eq_true_of_le hh] at hlt; cases hlt
            have e : (execOp a.eval ⟨d, .next it true, ty, pos, af, gd⟩).run P w = .ok (.value (.tuple #[.bool false])) w := by
              refine run_v ?_
              rw [hq, hs]
              simp [Instr.next, getObj, Sem.run, e2, hp]
            rw [e]
            exact .val _ _ (.tuple _ _ (.cons _ _ _ _ (.bool _) .nil))
      · injection h1 with h1
        injection h1 with h1 h2
        subst h1
        subst h2
        have hn' : A.next ≤ A.next := by rw [put_eq, logR_eq, logW_eq] at hn; exact hn
        have hp : p < st.size := Nat.le_of_ble_eq_true hlt
        refine ⟨put_fr hi hn' hb rfl rfl (by intros; simp) (by intros; simp), fun φ T w a hf hr hT _ => ?_⟩
        have hTb : T b := hT b hl (.inl (by rw [put_eq, logR_eq, logW_eq, bit_or]; simp))
        obtain ⟨i, q, e1, e2, e3⟩ := hr.obj b _ hb rfl hTb
        have e3' := e3
        cases e3 with
        | iter _ _ hc hs =>
          have hv := hf.eval hx
          generalize hq : a.eval it = v at hv
          cases hv with
          | ptr _ _ j hj =>
            rw [e1] at hj
            injection hj with hj
            subst hj
            refine ⟨φ, _, Post.put hi hn' hr hTb hb rfl rfl e1 e2 e3' (.iter st (p + (Utf8.decode st p).2) hc hs), ?_⟩
            have e : (execOp a.eval ⟨d, .next it true, ty, pos, af, gd⟩).run P w = .ok (.value (.tuple #[.bool true, .int .i64 p, .int .i32 (Utf8.decode st p).1])) { w with heap := w.heap.setIfInBounds i.blk (.stringIter st (p + (Utf8.decode st p).2)) } := by
              refine run_v ?_
              rw [hq, hs]
              simp [Instr.next, getObj, setObj, Sem.run, e2, hp, goInt, Result.andThen]
            rw [e]
            exact .val _ _ (.tuple _ _ (.cons _ _ _ _ (.bool _) (.cons _ _ _ _ (.int _ _) (.cons _ _ _ _ (.int _ _) .nil))))
    · cases h'
  · cases h'
end
end Go.EvL

namespace Go.EvL
open Go
section
variable {P : Program} {f : Fr} {A A' : AS} {nx : ANext} {d : Option Tmp} {ty : TypeId} {pos : String} {af : Array Edge} {gd : Option (Nat × Bool)}
theorem check_ok' {kt : TypeId} {dd : TypeDesc} {k : Value} (hd : P.underlying kt = some dd) (hk : keyOk dd k = true) (e : Bool) (n : Nat) (w : World) : (Instr.checkKey e (n + 1) kt k).run P w = .ok () w := by
  unfold keyOk at hk
  split at hk
  · simp [Instr.checkKey, run_underlying hd, Result.andThen]
  · simp [Instr.checkKey, run_underlying hd, Result.andThen]
  · simp [Instr.checkKey, run_underlying hd, Result.andThen]
  · cases hk
theorem check_ok {kt : TypeId} {dd : TypeDesc} {k : Value} (hd : P.underlying kt = some dd) (hk : keyOk dd k = true) (e : Bool) (w : World) : (Instr.checkKey e 10000 kt k).run P w = .ok () w := check_ok' hd hk e 9999 w
theorem findK_ok {kt : TypeId} {k : Value} {es : List MapEntry} {r : Option (Nat × Value)} (h : findK P kt k es = some r) : ∃ dd, P.underlying kt = some dd ∧ keyOk dd k = true ∧ Instr.findNow dd k es 0 = some r := by
  unfold findK at h
  split at h
  · rename_i dd hd
    obtain ⟨h1, h2⟩ := boolSome h
    exact ⟨dd, hd, h1, h2⟩
  · cases h
theorem find_rel {φ : Emb} {dd : TypeDesc} {k : Value} : ∀ {l l' : List MapEntry} (i : Nat), ERel φ l l' →
    (Instr.findNow dd k l i = some none → Instr.findNow dd k l' i = some none) ∧ (∀ j v, Instr.findNow dd k l i = some (some (j, v)) → ∃ v', Instr.findNow dd k l' i = some (some (j, v')) ∧ VRel φ v v') := by
  intro l l' i h
  induction h generalizing i with
  | nil => exact ⟨fun _ => rfl, fun j v h => by cases h⟩
  | cons q v v' n l l' hk hv _ ih =>
    simp only [Instr.findNow]
    cases hs : Instr.sameNow dd k q with
    | none => exact ⟨fun h => (by cases h), fun j v h => (by cases h)⟩
    | some b =>
      cases b with
      | true =>
        refine ⟨fun h => (by cases h), fun j u h => ?_⟩
        injection h with h
        injection h with h
        injection h with h1 h2
        subst h1
        subst h2
        exact ⟨v', rfl, hv⟩
      | false => exact ih (i + 1)
theorem okV_rel {φ : Emb} (ok : Bool) {v v' : Value} (h : VRel φ v v') (b : Bool) : VRel φ (okV ok v b) (if ok = true then .tuple #[v', .bool b] else v') := by
  cases ok with
  | false => exact h
  | true => exact .tuple _ _ (.cons _ _ _ _ h (.cons _ _ _ _ (.bool _) .nil))
theorem lookup_sound (hi : Inv A) (t : TypeId) (x k : Operand) (ok : Bool) (h : evalOp P f ⟨d, .lookup t x k ok, ty, pos, af, gd⟩ A = some (nx, A')) : Sound P f A ⟨d, .lookup t x k ok, ty, pos, af, gd⟩ nx A' := by
  have h' : lookupA P t (f.eval x) (f.eval k) ok A = some (nx, A') := h
  unfold lookupA at h'
  split at h'
  · rename_i kt et b kv hu hx hk
    split at h'
    · rename_i es clk hb
      have hl := (hi.lt _ _ hb).1
      split at h'
      · rename_i hpl
        have main : ∀ (φ : Emb) (T : Nat → Prop) (w : World) (a : Act), FRel φ f a → Rel P φ T A w → Foot A (logR A b) T → ∃ i es', w.heap[i]? = some (.map es' clk) ∧ ERel φ es es'.toList ∧ a.eval x = .map (some i) ∧ a.eval k = kv := by
          intro φ T w a hf hr hT
          have hTb : T b := hT b hl (.inl (by rw [logR_eq, bit_or]; simp))
          obtain ⟨i, q, e1, e2, e3⟩ := hr.obj b _ hb rfl hTb
          cases e3 with
          | map _ _ es' hc he =>
            have hv := hf.eval hx
            generalize hq : a.eval x = v at hv
            cases hv with
            | map _ j hj =>
              rw [e1] at hj
              injection hj with hj
              subst hj
              exact ⟨i.blk, es', e2, he, rfl, plain_eq φ _ _ _ hpl (hf.eval hk)⟩
        split at h'
        · rename_i j v hfk
          obtain ⟨dd, hd, hko, hfn⟩ := findK_ok hfk
          injection h' with h'
          injection h' with h1 h2
          subst h1
          subst h2
          refine ⟨logR_fr hi hl, fun φ T w a hf hr hT _ => ⟨φ, w, by rw [logR_eq]; exact .refl hr rfl rfl rfl rfl rfl rfl rfl, ?_⟩⟩
          obtain ⟨i, es', g1, g2, g3, g4⟩ := main φ T w a hf hr hT
          obtain ⟨v', g5, g6⟩ := (find_rel 0 g2).2 j v hfn
          have e : (execOp a.eval ⟨d, .lookup t x k ok, ty, pos, af, gd⟩).run P w = .ok (.value (if ok = true then .tuple #[v', .bool true] else v')) w := by
            refine run_v ?_
            rw [g3, g4]
            simp [Instr.lookup, run_underlying hu, MapKept.run_getObj_map g1, check_ok hd hko, MapKept.run_findKey hd g5, Result.andThen]
          rw [e]
          exact .val _ _ (okV_rel ok g6 true)
        · rename_i hfk
          obtain ⟨dd, hd, hko, hfn⟩ := findK_ok hfk
          split at h'
          · rename_i z hz
            injection h' with h'
            injection h' with h1 h2
            subst h1
            subst h2
            refine ⟨logR_fr hi hl, fun φ T w a hf hr hT _ => ⟨φ, w, by rw [logR_eq]; exact .refl hr rfl rfl rfl rfl rfl rfl rfl, ?_⟩⟩
            obtain ⟨i, es', g1, g2, g3, g4⟩ := main φ T w a hf hr hT
            have g5 := (find_rel 0 g2).1 hfn
            obtain ⟨hp, hzr⟩ := zero_rel hz
            have e : (execOp a.eval ⟨d, .lookup t x k ok, ty, pos, af, gd⟩).run P w = .ok (.value (if ok = true then .tuple #[z, .bool false] else z)) w := by
              refine run_v ?_
              rw [g3, g4]
              simp [Instr.lookup, run_underlying hu, MapKept.run_getObj_map g1, check_ok hd hko, MapKept.run_findKey hd g5, hzr w, Result.andThen]
            rw [e]
            exact .val _ _ (okV_rel ok (plain_self φ _ _ hp) false)
          · cases h'
        · cases h'
      · cases h'
    · cases h'
  · cases h'
theorem ERel.snoc {φ : Emb} {l l' : List MapEntry} (h : ERel φ l l') (k v v' : Value) (n : Nat) (hk : plain 50 k = true) (hv : VRel φ v v') : ERel φ (l ++ [⟨k, v, n⟩]) (l' ++ [⟨k, v', n⟩]) := by
  induction h with
  | nil => exact .cons _ _ _ _ _ _ hk hv .nil
  | cons q u u' m l l' hq hu _ ih => exact .cons _ _ _ _ _ _ hq hu ih
theorem mapUpdate_sound (hi : Inv A) (hn : A'.next ≤ A'.next) (t : TypeId) (m k x : Operand) (h : evalOp P f ⟨d, .mapUpdate t m k x, ty, pos, af, gd⟩ A = some (nx, A')) : Sound P f A ⟨d, .mapUpdate t m k x, ty, pos, af, gd⟩ nx A' := by
  have h' : mapUpdateA P t (f.eval m) (f.eval k) (f.eval x) A = some (nx, A') := h
  unfold mapUpdateA at h'
  split at h'
  · rename_i kt et b kv xv hu hm hk hx
    split at h'
    · rename_i es clk hb
      have hl := (hi.lt _ _ hb).1
      split at h'
      · rename_i hpl
        split at h'
        · rename_i hfk
          obtain ⟨dd, hd, hko, hfn⟩ := findK_ok hfk
          injection h' with h'
          injection h' with h1 h2
          subst h1
          subst h2
          have hn' : A.next ≤ A.next := by rw [put_eq, logR_eq, logW_eq] at hn; exact hn
          refine ⟨put_fr hi hn' hb rfl rfl (by intros; simp) (by intros; simp), fun φ T w a hf hr hT _ => ?_⟩
          have hTb : T b := hT b hl (.inl (by rw [put_eq, logR_eq, logW_eq, bit_or]; simp))
          obtain ⟨i, q, e1, e2, e3⟩ := hr.obj b _ hb rfl hTb
          have e3' := e3
          cases e3 with
          | map _ _ es' hc he =>
            have hv := hf.eval hm
            generalize hq : a.eval m = v at hv
            cases hv with
            | map _ j hj =>
              rw [e1] at hj
              injection hj with hj
              subst hj
              have hkk : a.eval k = kv := plain_eq φ _ _ _ hpl (hf.eval hk)
              have g5 := (find_rel 0 he).1 hfn
              refine ⟨φ, _, Post.put hi hn' hr hTb hb rfl rfl e1 e2 e3' (.map (es ++ [{ key := kv, val := xv, born := clk }]) (clk + 1) (es'.push { key := kv, val := a.eval x, born := clk }) hc (by rw [Array.toList_push]; exact he.snoc _ _ _ _ hpl (hf.eval hx))), ?_⟩
              have e : (Instr.mapUpdate t (.map (some i.blk)) kv (a.eval x)).run P w = .ok () { w with heap := w.heap.setIfInBounds i.blk (.map (es'.push { key := kv, val := a.eval x, born := clk }) (clk + 1)) } := by
                simp [Instr.mapUpdate, run_underlying hu, MapKept.run_getObj_map e2, check_ok hd hko, MapKept.run_findKey hd g5, MapKept.run_setObj_map _ e2, Result.andThen]
              have e' : (execOp a.eval ⟨d, .mapUpdate t m k x, ty, pos, af, gd⟩).run P w = .ok .skip { w with heap := w.heap.setIfInBounds i.blk (.map (es'.push { key := kv, val := a.eval x, born := clk }) (clk + 1)) } := by
                simp only [execOp, hq, hkk, Sem.run_bind, e, Result.andThen]
                rfl
              rw [e']
              exact .skip
        · cases h'
      · cases h'
    · cases h'
  · cases h'
end
end Go.EvL

namespace Go.EvL
open Go
section
variable {P : Program} {f : Fr} {A A' : AS} {nx : ANext} {d : Option Tmp} {ty : TypeId} {pos : String} {af : Array Edge} {gd : Option (Nat × Bool)}
theorem bytes_rel {φ : Emb} : ∀ {l l' : List Value} {bs : List UInt8}, bytesOfCells l = some bs → VRels φ l l' → ∃ ns : List Int, l' = ns.map (Value.int .u8) ∧ bs = ns.map fun n => UInt8.ofNat n.toNat := by
  intro l
  induction l with
  | nil => intro l' bs h hv; cases hv; have h' : some ([] : List UInt8) = some bs := h; injection h' with h'; exact ⟨[], rfl, h'.symm⟩
  | cons v l ih =>
    intro l' bs h hv
    cases hv with
    | cons _ v' _ l' h1 hs =>
      have h' : (match (generalizing := false) v with | .int .u8 n => (bytesOfCells l).map (UInt8.ofNat n.toNat :: ·) | _ => none) = some bs := h
      split at h'
      · rename_i n
        cases hb : bytesOfCells l with
        | none => rw [hb] at h'; cases h'
        | some b0 =>
          rw [hb] at h'
          have h' : some (UInt8.ofNat n.toNat :: b0) = some bs := h'
          injection h' with h'
          obtain ⟨ns, e1, e2⟩ := ih hb hs
          cases h1
          exact ⟨n :: ns, by rw [e1]; rfl, by rw [← h', e2]; rfl⟩
      · cases h'
theorem conv_empty {src dst e : TypeId} (hs : P.underlying src = some (.slice e)) (he : P.underlying e = some (.int .u8)) (hd : P.underlying dst = some .string) (a : Addr) (c : Nat) (w : World) : (convert src dst (.slice (some a) 0 c)).run P w = .ok (.string ⟨#[]⟩) w := by
  have hl := run_loadCells_list (P := P) w a [] (fun j v hj => by simp at hj)
  rw [run_convert_bytes_string w src dst e _ 0 c hs he hd, run_bytesToString w a 0 c [] hl]
  rfl
theorem shape_of {w : World} {b : Nat} {C : Array Value} {e : Nat} {fz : Nat × Nat} (h : w.heap[b]? = some (.cells C e fz)) : w.shape? b = some (e, C.size) := by
  simp [World.shape?, h]
theorem rowAt_same {e : TypeId} {d count off : Nat} {p : TypeId → Bool} (h0 : P.cellsOf e ≠ 0) (hm : off % P.cellsOf e = 0) (hc : off / P.cellsOf e < count) (hp : p e = true) : rowAt P p (d + 1) e count off 1 = true := by
  unfold rowAt
  rw [if_neg h0]
  simp only [hm, hp, Bool.or_eq_true, Bool.and_eq_true, decide_eq_true_eq]
  exact .inl ⟨⟨rfl, hc⟩, trivial⟩
theorem liesAt_same {e : TypeId} {count off : Nat} (h0 : P.cellsOf e ≠ 0) (hm : off % P.cellsOf e = 0) (hc : off / P.cellsOf e < count) : liesAt P P.depth e count off e 1 = true := by
  have hd : P.depth = (2 * (P.types.size + Made.depth) + 1) + 1 := rfl
  rw [hd]
  simp only [liesAt, Bool.or_eq_true]
  left
  rw [hd]
  exact rowAt_same h0 hm hc (by simp [sameLayout])
theorem rowAt_field {fits : TypeId → Bool} {d e count off : Nat} {fs : Array Field} {fl : Field} (h0 : P.cellsOf e ≠ 0) (hc : off / P.cellsOf e < count) (hu : P.underlying e = some (.struct fs)) (hst : P.stoodInHeld e = false) (hm : fl ∈ fs.toList) (ho : fl.offset = off % P.cellsOf e) (h1 : P.cellsOf fl.type ≠ 0) (hp : fits fl.type = true) :
    rowAt P fits (d + 1 + 1) e count off 1 = true := by
  rw [rowAt]
  simp only [h0, if_false, hu, hst, Bool.not_false, Bool.true_and, Bool.or_eq_true, Bool.and_eq_true, decide_eq_true_eq]
  refine .inr ⟨hc, ?_⟩
  rw [Array.any_eq_true']
  refine ⟨fl, by simpa using hm, ?_⟩
  rw [← ho, Nat.sub_self]
  simp only [Bool.and_eq_true, decide_eq_true_eq]
  refine ⟨⟨Nat.le_refl _, by omega⟩, ?_⟩
  exact rowAt_same h1 (Nat.zero_mod _) (by rw [Nat.zero_div]; omega) hp
theorem fromOk_lies {e u off n len sh sz : Nat} (hn : P.cellsOf u = n + 1) (h : fromOk P e u off n len = true) (hal : P.cellsOf e ∣ sh) (hl : sh + len ≤ sz) : liesAt P P.depth e (sz / P.cellsOf e) (sh + off) u 1 = true := by
  unfold fromOk at h
  rcases (boolRec h).symm with ⟨hc, _⟩ | ⟨hc, h⟩
  · simp only [Bool.and_eq_true] at hc
    have q1 := Nat.eq_of_beq_eq_true hc.1
    have q2 := Nat.eq_of_beq_eq_true hc.2.1
    have q3 : off + (n + 1) ≤ len := Nat.le_of_ble_eq_true hc.2.2
    subst q1
    have hmod : (sh + off) % P.cellsOf e = 0 := by
      rw [hn] at hal ⊢
      obtain ⟨y, hy⟩ := hal
      rw [hy, Nat.mul_add_mod]
      exact q2
    have hdiv : (sh + off) / P.cellsOf e < sz / P.cellsOf e := by
      rw [hn] at hmod ⊢
      have hpos : 0 < n + 1 := by omega
      have h1 : (sh + off) / (n + 1) + 1 ≤ sz / (n + 1) := by
        rw [← Nat.add_div_right _ hpos]
        exact Nat.div_le_div_right (by omega)
      exact Nat.lt_of_succ_le h1
    exact liesAt_same (by rw [hn]; omega) hmod hdiv
  · unfold fieldOk at h
    split at h
    · rename_i m hm
      obtain ⟨_, _, _, k3⟩ := sz_info hm
      rw [Bool.and_eq_true] at h
      obtain ⟨h1, h2⟩ := h
      have h2 : (off / (m + 1) + 1) * (m + 1) ≤ len := Nat.le_of_ble_eq_true h2
      unfold inField at h1
      split at h1
      · rename_i fs hu
        rw [Bool.and_eq_true, List.any_eq_true] at h1
        obtain ⟨hst, fl, hfl, hf⟩ := h1
        rw [Bool.and_eq_true] at hf
        have f1 := Nat.eq_of_beq_eq_true hf.1
        have f2 := Nat.eq_of_beq_eq_true hf.2
        have hd : P.depth = (2 * (P.types.size + Made.depth)) + 1 + 1 := rfl
        rw [hd]
        simp only [liesAt, Bool.or_eq_true]
        left
        rw [hd]
        obtain ⟨y, hy⟩ := hal
        rw [k3] at hy
        have hpos : 0 < m + 1 := by omega
        have hdv : (sh + off) / (m + 1) = y + off / (m + 1) := by rw [hy, Nat.mul_add_div hpos]
        have hmd : (sh + off) % (m + 1) = off % (m + 1) := by rw [hy, Nat.mul_add_mod]
        refine rowAt_field (by rw [k3]; omega) ?_ hu (by simpa using hst) hfl ?_ (by rw [f2, hn]; omega) (by rw [f2]; simp [sameLayout])
        · rw [k3, hdv]
          refine Nat.lt_of_succ_le ?_
          rw [Nat.le_div_iff_mul_le hpos]
          generalize off / (m + 1) = qv at h2
          have h3 : Nat.succ (y + qv) * (m + 1) = (m + 1) * y + (qv + 1) * (m + 1) := by
            generalize m + 1 = M
            rw [Nat.succ_mul, Nat.add_mul, Nat.add_mul, Nat.one_mul, Nat.mul_comm y M, Nat.add_assoc]
          rw [h3, ← hy]
          omega
        · rw [k3, hmd]
          exact f1
      · cases h1
    · cases h
theorem ptr_sound (hi : Inv A) (src dst : TypeId) (x : Operand) (p : Option Addr) (hx : f.eval x = some (.pointer p)) (h : ptrConv P f ⟨d, .convert src dst x, ty, pos, af, gd⟩ src dst p A = some (nx, A')) : Sound P f A ⟨d, .convert src dst x, ty, pos, af, gd⟩ nx A' := by
  unfold ptrConv at h
  split at h
  · rename_i b off
    split at h
    · rename_i t hs hd
      unfold toUnsafe at h
      split at h
      · rename_i m hsz
        split at h
        · rename_i cells e c st hb
          obtain ⟨hlt, h⟩ := boolSome h
          injection h with h
          injection h with h1 h2
          subst h1
          subst h2
          have hcn : c < A.next := (hi.lt _ _ hb).2
          refine ⟨logR_fr hi hcn, fun φ T w a hf hr hT _ => ⟨φ, w, .refl hr (by rw [logR_eq]) (by rw [logR_eq]) (by rw [logR_eq]) rfl rfl rfl rfl, ?_⟩⟩
          have hTc : T c := hT c hcn (.inl (by rw [logR_eq, bit_or]; simp))
          have hv := hf.eval hx
          generalize hq : a.eval x = q at hv
          cases hv with
          | ptr _ _ i hφ =>
            obtain ⟨j, C, fz, e', e1, e2, e3, e4, e5, e6, e7, e8, e9, e10⟩ := hr.cells hb hTc
            obtain rfl : i = j := by rw [hφ] at e1; injection e1
            obtain ⟨ti, k1, k2, k3⟩ := sz_info hsz
            have hoff := Nat.le_of_ble_eq_true hlt
            have e : (execOp a.eval ⟨d, .convert src dst x, ty, pos, af, gd⟩).run P w = .ok (.value (.pointer (some ⟨i.blk, i.sh + off, none⟩))) w := by
              refine run_v ?_
              rw [hq]
              exact Lib.run_to_unsafe w ⟨i.blk, i.sh + off, none⟩ hs hd k1 (by omega) (shape_of e2) (by show i.sh + off < C.size; omega)
            rw [e]
            exact .val _ _ (.ptr _ _ _ hφ)
        · cases h
      · cases h
    · rename_i u hs hd
      unfold fromUnsafe at h
      split at h
      · rename_i m hsz
        split at h
        · rename_i cells e c st hb
          obtain ⟨hlt, h0⟩ := boolSome h
          clear h
          rw [Bool.and_eq_true] at hlt
          have q4 := not_big hlt.2
          injection h0 with h0
          injection h0 with h1 h2
          subst h1
          subst h2
          have hcn : c < A.next := (hi.lt _ _ hb).2
          refine ⟨logR_fr hi hcn, fun φ T w a hf hr hT _ => ⟨φ, w, .refl hr (by rw [logR_eq]) (by rw [logR_eq]) (by rw [logR_eq]) rfl rfl rfl rfl, ?_⟩⟩
          have hTc : T c := hT c hcn (.inl (by rw [logR_eq, bit_or]; simp))
          have hv := hf.eval hx
          generalize hq : a.eval x = q at hv
          cases hv with
          | ptr _ _ i hφ =>
            obtain ⟨j, C, fz, e', e1, e2, e3, e4, e5, e6, e7, e8, e9, e10⟩ := hr.cells hb hTc
            obtain rfl : i = j := by rw [hφ] at e1; injection e1
            obtain ⟨ti, k1, k2, k3⟩ := sz_info hsz
            obtain ⟨he', hal⟩ := e10.resolve_right q4
            rw [he'] at e2
            rw [e5] at hal
            have e : (execOp a.eval ⟨d, .convert src dst x, ty, pos, af, gd⟩).run P w = .ok (.value (.pointer (some ⟨i.blk, i.sh + off, none⟩))) w := by
              refine run_v ?_
              rw [hq]
              exact Lib.run_from_unsafe w ⟨i.blk, i.sh + off, none⟩ hs hd k1 (shape_of e2) (fromOk_lies k3 hlt.1 hal e7)
            rw [e]
            exact .val _ _ (.ptr _ _ _ hφ)
        · cases h
      · cases h
    · cases h
  · exact pure_sound hi _ (by intro _ _ hh; cases hh) h
theorem freeze_size (w : World) (p : Addr) (n : Nat) : (w.freeze p n).heap.size = w.heap.size := by
  unfold World.freeze
  split
  · rfl
  · simp
theorem setFz_fr (hi : Inv A) (hn : A.next ≤ A.next) {c : Nat} (hc : c < A.next) (k : Nat) : AFr A (logW (logR (setFz A c k) c) c) := by
  have hf : Fits c := fits (by omega)
  rw [setFz_eq, logR_eq, logW_eq]
  refine ⟨Nat.le_refl _, fun x hx => by rw [bit_or, hx]; rfl, fun x hx => by rw [bit_or, hx]; rfl, fun _ _ h _ => h, fun _ _ h _ => h, fun x hx => ?_, fun _ _ => rfl, fun x hx => bit_lt hx hc, fun x hx => bit_lt hx hc, ⟨hi.lt, hi.mem, hi.memc, hi.root, hi.ml, hi.old, fun x y hx => ?_⟩⟩
  · show (Tr.set k 40 A.fz c).get x = A.fz.get x
    rw [Tr.get_set _ _ _ _ hf, if_neg]
    rintro rfl
    rw [bit_or] at hx
    simp at hx
  · have hx' : (Tr.set k 40 A.fz c).get x = some y := hx
    rw [Tr.get_set _ _ _ _ hf] at hx'
    split at hx'
    · rename_i he; rw [he]; exact hc
    · exact hi.fz _ _ hx'
theorem Post.freeze {φ : Emb} {T : Nat → Prop} {w : World} {b : Nat} {cells : List Value} {e cls st off n k : Nat} {i : Inf} (hi : Inv A) (hn : A.next ≤ A.next) (h : Rel P φ T A w) (hT : T cls) (hb : A.heap.get b = some (.row cells e cls st true)) (hφ : φ b = some i)
    (hk : ∀ h, A.fz.get cls = some h → h ≤ k) (hk2 : st + off + n ≤ k) : Post P φ T A (logW (logR (setFz A cls k) cls) cls) w (w.freeze ⟨i.blk, i.sh + off, none⟩ n) φ := by
  have hl := (hi.lt _ _ hb).2
  have hl' : cls < A.next := hl
  have hf : Fits cls := fits (by omega)
  obtain ⟨i', C, fz, e', e1, e2, e3, e4, e5, e6, e7, e8, e9, e10⟩ := h.cells hb hT
  obtain rfl : i = i' := by rw [hφ] at e1; injection e1
  have hget : ∀ y, (w.freeze ⟨i.blk, i.sh + off, none⟩ n).heap[y]? = if y = i.blk ∧ n ≠ 0 then some (.cells C e' (if fz.1 == fz.2 then (i.sh + off, i.sh + off + n) else (min fz.1 (i.sh + off), max fz.2 (i.sh + off + n)))) else w.heap[y]? := by
    intro y
    unfold World.freeze
    by_cases h0 : n = 0
    · simp [h0]
    · rw [if_neg h0]
      show (w.heap.modify i.blk _)[y]? = _
      rw [Array.getElem?_modify]
      by_cases hy : i.blk = y
      · subst hy
        rw [if_pos rfl, if_pos ⟨rfl, h0⟩, e2]
        rfl
      · rw [if_neg hy, if_neg (fun hh => hy hh.1.symm)]
  rw [setFz_eq, logR_eq, logW_eq]
  refine ⟨fun _ _ h => h, fun _ _ => rfl, ⟨fun y j hy => by rw [freeze_size]; exact h.blk _ _ hy, h.inj, fun y o hy hlv hTy => ?_, h.al, h.glob, h.root⟩, fun y j hy _ => ⟨y, j, hy, rfl, rfl⟩, by rw [freeze_size]; exact Nat.le_refl _, fun y hy hw => ?_, ?_, ?_, ?_⟩
  · have hTy' : T (clsOf y o) := hTy.elim id fun hc => by have : A.next ≤ clsOf y o ∧ clsOf y o < A.next := hc; omega
    obtain ⟨j, q, g1, g2, g3⟩ := h.obj y o hy hlv hTy'
    show ∃ i' o', φ y = some i' ∧ _ ∧ ORel P φ ((Tr.set k 40 A.fz cls).get (clsOf y o)) y i' o o'
    rw [Tr.get_set _ _ _ _ hf]
    by_cases hy' : j.blk = i.blk ∧ n ≠ 0
    · obtain ⟨hj1, hj2⟩ := hy'
      obtain ⟨hc1, hc2⟩ := h.inj _ _ _ _ g1 hφ hj1
      rw [hj1, e2] at g2
      injection g2 with g2
      subst g2
      have hcy : clsOf y o = cls := by rw [← g3.cls, hc1, e3]
      rw [if_pos hcy]
      refine ⟨j, _, g1, by rw [hget, if_pos ⟨hj1, hj2⟩], ?_⟩
      cases g3 with
      | row cells' _ c' st' _ _ q1 q2 q3 q4 q5 q6 q7 _ q8 =>
        refine .row _ _ _ _ _ _ q1 q2 q3 q4 q5 q6 (.inr ⟨k, rfl, ?_⟩) _ (q8.imp id (Big.mono fun h' hh => ⟨k, rfl, hk h' (by rw [← hcy]; exact hh)⟩))
        have hst : i.sh + off + n + st' ≤ k + j.sh := by omega
        split
        · exact hst
        · rename_i hne
          show max fz.2 (i.sh + off + n) + st' ≤ k + j.sh
          rcases q7 with q7 | ⟨h', q7, q8⟩
          · rw [q7] at hne; simp at hne
          · have hcl : A.fz.get cls = some h' := by rw [← hcy]; exact q7
            have := hk h' hcl
            omega
    · refine ⟨j, q, g1, by rw [hget, if_neg hy']; exact g2, ?_⟩
      refine g3.mono (fun _ _ h => h) fun h' hh => ?_
      split
      · rename_i hcy; rw [hcy] at hh; exact ⟨k, rfl, hk h' hh⟩
      · exact ⟨h', hh, Nat.le_refl _⟩
  · rw [hget, if_neg]
    rintro ⟨rfl, _⟩
    have := hw b i hφ rfl
    rw [e3] at this
    have h2 : (A.w ||| (1 <<< cls)).testBit cls = false := this
    rw [bit_or] at h2
    simp at h2
  · unfold World.freeze; split <;> rfl
  · unfold World.freeze; split <;> rfl
  · unfold World.freeze; split <;> rfl
theorem grown_ge (w : World) {n : Nat} (old : Nat) (e : TypeId) (hn : n ≤ 1073741824) : n ≤ grownCap w n old e ∧ grownCap w n old e ≤ 9223372036854775808 := by
  have h1 : grownCap w n old e = n + w.tape w.drawn (.appendCap n old e) % (2 ^ 63 - n) := rfl
  have h2 := Nat.mod_lt (w.tape w.drawn (.appendCap n old e)) (show 2 ^ 63 - n > 0 by omega)
  rw [h1]
  omega
theorem run_strBytes {src dst e : TypeId} (hs : P.underlying src = some .string) (hd : P.underlying dst = some (.slice e)) (he : P.underlying e = some (.int .u8)) (s : ByteArray) (hn : s.size ≤ 1073741824) (w : World) :
    (convert src dst (.string s)).run P w = .ok (.slice (some ⟨w.heap.size, 0, none⟩) s.size (grownCap w s.size 0 e)) ((w.drew.alloc (.cells ((s.data.map fun b => Value.int .u8 b.toNat) ++ Array.replicate (grownCap w s.size 0 e - s.size) (.int .u8 0)) e)).freeze ⟨w.heap.size, grownCap w s.size 0 e, none⟩ 1) := by
  have hc := (grown_ge w 0 e hn).1
  have hsz : ((s.data.map fun b => Value.int .u8 b.toNat) ++ Array.replicate (grownCap w s.size 0 e - s.size) (Value.int .u8 0)).size = grownCap w s.size 0 e := by
    simp only [Array.size_append, Array.size_map, Array.size_replicate]
    have : s.data.size = s.size := rfl
    omega
  have e1 : (choose (.appendCap s.size 0 e)).run P w = .ok (grownCap w s.size 0 e) w.drew := rfl
  have e2 : ∀ cs, (Go.newRow e cs).run P w.drew = .ok ⟨w.heap.size, 0, none⟩ (w.drew.alloc (.cells cs e)) := fun _ => rfl
  have e3 : ∀ (cs : Array Value) (n : Nat), cs.size = n → (markStringish ⟨w.heap.size, 0, none⟩).run P (w.drew.alloc (.cells cs e)) = .ok () ((w.drew.alloc (.cells cs e)).freeze ⟨w.heap.size, n, none⟩ 1) := fun cs n hcs => by
    have hsh : (w.drew.alloc (.cells cs e)).shape? w.heap.size = some (e, n) := by rw [← hcs]; exact shape_of (w := w.drew.alloc (.cells cs e)) (heap_push_eq (w := w.drew))
    simp [markStringish, shape, freeze, Sem.run, hsh]
  simp only [convert, Sem.run_bind, run_underlying hs, run_underlying hd, run_underlying he, Result.andThen, Conv.stringToBytes, e1, e2, e3 _ _ hsz]
  rfl
theorem strBytes_sound (hi : Inv A) (hn : A'.next ≤ A'.next) (src dst e : TypeId) (x : Operand) (s : ByteArray) (hx : f.eval x = some (.string s)) (hs : P.underlying src = some .string) (hd : P.underlying dst = some (.slice e)) (he : P.underlying e = some (.int .u8)) (hsz : szOf P e = some 1)
    (h : strBytes e s A = some (nx, A')) : Sound P f A ⟨d, .convert src dst x, ty, pos, af, gd⟩ nx A' := by
  unfold strBytes at h
  rw [forceN_eq] at h
  obtain ⟨hsm, h⟩ := boolSome h
  injection h with h
  injection h with h1 h2
  subst h1
  obtain ⟨ti, k1, k2, k3⟩ := sz_info hsz
  have hlen : s.data.toList.length = s.size := by simp
  have hsm : s.size ≤ 1073741824 := by rw [← hlen]; exact Nat.le_of_ble_eq_true hsm
  have hnx : A'.next = A.next + 1 := by rw [← h2, logW_eq, logR_eq, setFz_eq, newRow_next]
  subst h2
  have hn' : A.next + 1 ≤ A.next + 1 := by rw [← hnx]; exact hn
  have fr1 := newRow_fr hi hn' (s.data.toList.map fun c => Value.int .u8 (.ofNat c.toNat)) e
  have fr2 := setFz_fr (c := A.next) fr1.inv (by rw [newRow_next]; exact hn') (by rw [newRow_next]; omega) 18446744073709551616
  refine ⟨fr1.trans fr2, fun φ T w a hf hr hT hfr => ?_⟩
  have hv := hf.eval hx
  generalize hq : a.eval x = q at hv
  cases hv
  have hrun := run_strBytes hs hd he s hsm w
  obtain ⟨C, hCdef⟩ : ∃ C, C = (s.data.map fun b => Value.int .u8 b.toNat) ++ Array.replicate (grownCap w s.size 0 e - s.size) (Value.int .u8 0) := ⟨_, rfl⟩
  rw [← hCdef] at hrun
  obtain ⟨g1, g2⟩ := grown_ge w 0 e hsm
  have hCs : C.size = grownCap w s.size 0 e := by
    rw [hCdef]
    simp only [Array.size_append, Array.size_map, Array.size_replicate]
    have : s.data.size = s.size := rfl
    omega
  have hfr0 : φ A.next = none := hfr _ (Nat.le_refl _) (by rw [hnx]; omega)
  have hr' : Rel P φ T A w.drew := hr.heap rfl rfl rfl
  have htake : C.toList.take (s.data.toList.map fun c => Value.int .u8 (.ofNat c.toNat)).length = s.data.toList.map fun c => Value.int .u8 (.ofNat c.toNat) := by
    rw [hCdef, Array.toList_append, Array.toList_map, List.take_append_of_le_length (by simp)]
    rw [List.take_of_length_le (by simp)]
    rfl
  have hself : ∀ (l : List UInt8) (φ' : Emb), VRels φ' (l.map fun c => Value.int .u8 (.ofNat c.toNat)) (l.map fun c => Value.int .u8 (.ofNat c.toNat)) := by
    intro l φ'
    induction l with
    | nil => exact .nil
    | cons a l ih => exact .cons _ _ _ _ (.int _ _) ih
  obtain ⟨φ1, m1, m2⟩ := Post.new (P := P) (T := T) hi hn' hr' hfr0 (fun b => .row (s.data.toList.map fun c => Value.int .u8 (.ofNat c.toNat)) e b 0 true) rfl (.cells C e) 0 C.size (P.cellsOf e) 0 rfl (fun φ' _ _ => by
    refine .row _ _ _ _ _ (0, 0) rfl rfl rfl (by simp) ?_ ?_ (.inl rfl) _ (.inl ⟨rfl, Nat.dvd_zero _⟩)
    · show 0 + _ ≤ C.size
      rw [List.length_map, hCs, hlen]; omega
    · show VRels φ' _ ((C.toList.drop 0).take _)
      rw [List.drop_zero, htake]
      exact hself _ φ')
  have m2' : Post P φ T A (newRow A (s.data.toList.map fun c => Value.int .u8 (.ofNat c.toNat)) e) w (w.drew.alloc (.cells C e)) φ1 := by
    rw [newRow_eq]
    exact ⟨m2.ext, m2.out, m2.rel, m2.img, m2.size, m2.same, m2.os, m2.tape, m2.output⟩
  have hrow : (newRow A (s.data.toList.map fun c => Value.int .u8 (.ofNat c.toNat)) e).heap.get A.next = some (.row (s.data.toList.map fun c => Value.int .u8 (.ofNat c.toNat)) e A.next 0 true) := by
    rw [newRow_eq, new_eq]
    show (Tr.set _ 40 A.heap A.next).get A.next = _
    rw [Tr.get_set _ _ _ _ (fits (by omega)), if_pos rfl]
  have hfz : ∀ h', (newRow A (s.data.toList.map fun c => Value.int .u8 (.ofNat c.toNat)) e).fz.get A.next = some h' → h' ≤ 18446744073709551616 := fun h' hh => by
    rw [newRow_eq, new_eq] at hh
    have := hi.fz _ _ (show A.fz.get A.next = some h' from hh)
    omega
  have m3 := Post.freeze (off := C.size) (n := 1) fr1.inv (by rw [newRow_next]; exact hn') m2'.rel (.inr ⟨Nat.le_refl _, by rw [newRow_next]; omega⟩) hrow m1 hfz (by omega)
  have hpost := m2'.trans fr1.next fr2 m3
  rw [hCs] at hpost
  refine ⟨φ1, _, hpost, ?_⟩
  have ee : (execOp a.eval ⟨d, .convert src dst x, ty, pos, af, gd⟩).run P w = .ok (.value (.slice (some ⟨w.heap.size, 0, none⟩) s.size (grownCap w s.size 0 e))) ((w.drew.alloc (.cells C e)).freeze ⟨w.heap.size, grownCap w s.size 0 e, none⟩ 1) := by
    refine run_v ?_
    rw [hq]
    exact hrun
  rw [ee, hlen]
  have hw : (w.drew.alloc (.cells C e)).freeze ⟨w.heap.size, 0 + grownCap w s.size 0 e, none⟩ 1 = (w.drew.alloc (.cells C e)).freeze ⟨w.heap.size, grownCap w s.size 0 e, none⟩ 1 := by rw [Nat.zero_add]
  show NRel φ1 ((w.drew.alloc (.cells C e)).freeze ⟨w.heap.size, 0 + grownCap w s.size 0 e, none⟩ 1) _ _
  rw [hw]
  refine .val _ _ (.slice _ _ _ _ _ _ _ m1 (Nat.le_refl _) g1 (.inr rfl) ?_)
  show 0 + grownCap w s.size 0 e * P.cellsOf e ≤ C.size
  rw [k3, hCs]
  omega
theorem conv_sound (hi : Inv A) (hn : A'.next ≤ A'.next) (src dst : TypeId) (x : Operand) (h : evalOp P f ⟨d, .convert src dst x, ty, pos, af, gd⟩ A = some (nx, A')) : Sound P f A ⟨d, .convert src dst x, ty, pos, af, gd⟩ nx A' := by
  have h' : convA P f ⟨d, .convert src dst x, ty, pos, af, gd⟩ src dst (f.eval x) A = some (nx, A') := h
  unfold convA at h'
  split at h'
  · rename_i b off n c hx
    split at h'
    · rename_i e hs hd
      split at h'
      · rename_i he
        cases n with
        | zero =>
          have h'' : some (ANext.val (.string ⟨#[]⟩), A) = some (nx, A') := h'
          injection h'' with h''
          injection h'' with h1 h2
          subst h1
          subst h2
          refine sound_same hi fun φ w a hf => ?_
          have hv := hf.eval hx
          generalize hq : a.eval x = q at hv
          cases hv with
          | slice _ _ _ _ cap' a' i hφ hl hc ha hr =>
            have e : (execOp a.eval ⟨d, .convert src dst x, ty, pos, af, gd⟩).run P w = .ok (.value (.string ⟨#[]⟩)) w := by
              refine run_v ?_
              rw [hq]
              exact conv_empty hs he hd _ _ w
            rw [e]
            exact .val _ _ (.string _)
        | succ n =>
          have h'' : (match ld A b off (n + 1) with
            | some (xs, s) => (match bytesOfCells xs with
              | some l => forceL l fun l => some (ANext.val (.string ⟨⟨l⟩⟩), s)
              | none => none)
            | none => none) = some (nx, A') := h'
          split at h''
          · rename_i xs s hld
            split at h''
            · rename_i l hbl
              rw [forceL_eq] at h''
              injection h'' with h''
              injection h'' with h1 h2
              subst h1
              subst h2
              refine ⟨ld_fr hi hld, fun φ T w a hf hr hT _ => ?_⟩
              have hv := hf.eval hx
              generalize hq : a.eval x = q at hv
              cases hv with
              | slice _ _ _ _ cap' a' i hφ hl hc ha hrr =>
                obtain rfl : a' = ⟨i.blk, i.sh + off, none⟩ := ha.resolve_left (by omega)
                obtain ⟨xs', g1, g2, g3⟩ := ld_run hi hld hr hT hφ
                refine ⟨φ, w, g3, ?_⟩
                obtain ⟨ns, k1, k2⟩ := bytes_rel hbl g1
                have hlen : ns.length = n + 1 := by
                  obtain ⟨_, _, _, _, _, _, q1, _⟩ := ld_spec hld
                  have q2 := g1.length
                  rw [k1, List.length_map] at q2
                  omega
                subst k1
                have hlc := run_loadCells_list (P := P) w ⟨i.blk, i.sh + off, none⟩ (ns.map (Value.int .u8)) g2
                rw [List.length_map, hlen] at hlc
                have e : (execOp a.eval ⟨d, .convert src dst x, ty, pos, af, gd⟩).run P w = .ok (.value (.string ⟨⟨l⟩⟩)) w := by
                  refine run_v ?_
                  rw [hq]
                  rw [run_convert_bytes_string w src dst e _ _ _ hs he hd, run_bytesToString w _ _ _ ns hlc, foldl_push_bytes, k2]
                  simp [ByteArray.empty, ByteArray.emptyWithCapacity]
                  rfl
                rw [e]
                exact .val _ _ (.string _)
            · cases h''
          · cases h''
      · cases h'
    · cases h'
  · rename_i p hx
    exact ptr_sound hi src dst x p hx h'
  · rename_i s hx
    split at h'
    · rename_i e hd
      split at h'
      · rename_i hs he hsz
        exact strBytes_sound hi hn src dst e x s hx hs hd he hsz h'
      · cases h'
    · exact pure_sound hi _ (by intro _ _ hh; cases hh) h'
  · exact pure_sound hi _ (by intro _ _ hh; cases hh) h'
theorem data_sound (hi : Inv A) (x : Operand) (tys : Array TypeId) (h : dataA P f ⟨d, .call ⟨.builtin .unsafeSliceData, #[x], tys⟩, ty, pos, af, gd⟩ (f.eval x) A = some (nx, A')) : Sound P f A ⟨d, .call ⟨.builtin .unsafeSliceData, #[x], tys⟩, ty, pos, af, gd⟩ nx A' := by
  unfold dataA at h
  split at h
  · rename_i bb oo n c hx
    injection h with h
    injection h with h1 h2
    subst h1
    subst h2
    refine sound_same hi fun φ w a hf => ?_
    have hv := hf.eval hx
    generalize hq : a.eval x = q at hv
    cases hv with
    | slice _ _ _ _ cap' a' i hφ hl hc ha hr =>
      obtain rfl : a' = ⟨i.blk, i.sh + oo, none⟩ := ha.resolve_left (by omega)
      have e : (execOp a.eval ⟨d, .call ⟨.builtin .unsafeSliceData, #[x], tys⟩, ty, pos, af, gd⟩).run P w = .ok (.value (.pointer (some ⟨i.blk, i.sh + oo, none⟩))) w := by
        refine run_v ?_
        have hc0 : cap' ≠ 0 := by omega
        have hm : (#[x].map a.eval) = #[a.eval x] := by simp
        rw [hm, hq]
        cases cap' with
        | zero => exact absurd rfl hc0
        | succ k => rfl
      rw [e]
      exact .val _ _ (.ptr _ _ _ hφ)
  · exact pure_sound hi _ (by intro _ _ hh; cases hh) h
end
end Go.EvL

namespace Go.EvL
open Go
section
variable {P : Program} {f : Fr} {A A' : AS} {nx : ANext} {d : Option Tmp} {ty : TypeId} {pos : String} {af : Array Edge} {gd : Option (Nat × Bool)}
theorem run_loadInts (w : World) : ∀ (l : List Int) (a : Addr) (acc : ByteArray), (∀ j x, l[j]? = some x → w.cell? (a.add j) = some (.int .u8 x)) →
    (loadBytes a acc l.length).run P w = .ok ⟨acc.data ++ (l.map fun n => UInt8.ofNat n.toNat).toArray⟩ w
  | [], a, acc, _ => by simp [loadBytes]
  | x :: l, a, acc, h => by
    have h0 : w.cell? a = some (.int .u8 x) := by
      have := h 0 x rfl
      simpa [Addr.add] using this
    have ih := run_loadInts w l (a.add 1) (acc.push (UInt8.ofNat x.toNat)) (fun j y hy => by
      have := h (j + 1) y (by simpa using hy)
      have e : (a.add 1).add j = a.add (j + 1) := by
        unfold Addr.add
        by_cases hj : j = 0
        · subst hj; simp
        · simp [hj]; omega
      rw [e]; exact this)
    simp only [List.length_cons, loadBytes, Sem.run_bind, run_load, h0, Result.andThen]
    refine Eq.trans ih ?_
    congr 1
    apply ByteArray.ext
    simp [ByteArray.push]
theorem liesAt_ones {e : TypeId} (hc : P.cellsOf e = 1) (count off n : Nat) (hn : off + n ≤ count) : liesAt P P.depth e count off e n = true := by
  have hd : P.depth = (2 * (P.types.size + Made.depth) + 1) + 1 := rfl
  rw [hd]
  simp only [liesAt, Bool.or_eq_true]
  left
  rw [hd]
  simp [rowAt, hc, hn, sameLayout, Nat.mod_one]
theorem run_ustr (w : World) (pt it ty e : TypeId) (hp : P.underlying pt = some (.pointer e)) (hc : P.cellsOf e = 1) (g off cells : Nat) (hsh : w.shape? g = some (e, cells)) (l : List Int) (h0 : l ≠ []) (hn : off + l.length ≤ cells) (h63 : l.length ≤ 9223372036854775807)
    (hcell : ∀ j x, l[j]? = some x → w.cell? ((⟨g, off, none⟩ : Addr).add j) = some (.int .u8 x)) :
    (Builtin.unsafeString_ #[pt, it] ty #[.pointer (some ⟨g, off, none⟩), .int .i64 l.length]).run P w = .ok (.string ⟨(l.map fun n => UInt8.ofNat n.toNat).toArray⟩) (w.freeze ⟨g, off, none⟩ l.length) := by
  have hl : l.length ≠ 0 := by simpa using h0
  have hlb := run_loadInts (P := P) w l ⟨g, off, none⟩ .empty hcell
  have hlies := liesAt_ones (P := P) hc (cells / P.cellsOf e) off l.length (by rw [hc]; simpa using hn)
  have h63' : ¬ (9223372036854775807 : Int) < (l.length : Int) := by omega
  have hdef : Builtin.unsafeString_ #[pt, it] ty #[.pointer (some ⟨g, off, none⟩), .int .i64 l.length] =
      (do
        let n ← asInt (.int .i64 l.length)
        if n < 0 then runtimePanic (.error "unsafe.String: len out of range")
        if n > IntKind.i64.max then unsupported (.unsafePointer "String: a length above the largest int")
        if n = 0 then pure (.string .empty)
        else if ← variablesAt ⟨g, off, none⟩ (← elemOf pt) n.toNat then do
          let s ← loadBytes ⟨g, off, none⟩ .empty n.toNat
          freeze ⟨g, off, none⟩ n.toNat
          pure (.string s)
        else unsupported (.unsafePointer "String: not so many bytes at ptr")) := rfl
  rw [hdef]
  have hmax : IntKind.i64.max = 9223372036854775807 := rfl
  have hneg : ¬ (l.length : Int) < 0 := by omega
  simp [asInt, asIntOf, hmax, h63', hneg, hl, variablesAt, hsh, elemOf, run_underlying hp, hlies, hlb]
theorem ustr_sound (hi : Inv A) (hn : A'.next ≤ A'.next) (x y : Operand) (tys : Array TypeId) (h : ustrA P f ⟨d, .call ⟨.builtin .unsafeString, #[x, y], tys⟩, ty, pos, af, gd⟩ tys.toList (f.eval x) (f.eval y) A = some (nx, A')) :
    Sound P f A ⟨d, .call ⟨.builtin .unsafeString, #[x, y], tys⟩, ty, pos, af, gd⟩ nx A' := by
  unfold ustrA at h
  split at h
  case h_2 => exact pure_sound hi _ (by intro _ _ hh; cases hh) h
  rename_i b off n hx hy
  unfold ustrRow at h
  split at h
  case h_2 => cases h
  rename_i cells e cls st pt it hb htys
  split at h
  case h_2 => cases h
  rename_i e' hp hsz
  obtain ⟨hc, h0⟩ := boolSome h
  clear h
  simp only [Bool.and_eq_true] at hc
  have c1 := Nat.eq_of_beq_eq_true hc.1
  have c2 := Nat.le_of_ble_eq_true hc.2.1
  have hsmall := not_big hc.2.2
  subst c1
  unfold ustrIn at h0
  split at h0
  case h_2 => cases h0
  rename_i l hl
  rw [forceL_eq] at h0
  obtain ⟨hlen, h3⟩ := boolSome h0
  clear h0
  have hlen := Nat.eq_of_beq_eq_true hlen
  injection h3 with h3
  injection h3 with h1 h2
  subst h1
  have hnx : A'.next = A.next := by rw [← h2, logW_eq, logR_eq, setFz_eq]
  subst h2
  have hcn : cls < A.next := (hi.lt _ _ hb).2
  have hle : A.next ≤ A.next := by rw [← hnx]; exact hn
  have htys' : tys = #[pt, it] := by cases tys; cases htys; rfl
  refine ⟨setFz_fr hi hle hcn _, fun φ T w a hf hr hT _ => ?_⟩
  have hTc : T cls := hT cls hcn (.inl (by rw [logW_eq, logR_eq, bit_or]; simp))
  have hvx := hf.eval hx
  have hvy := hf.eval hy
  generalize hqx : a.eval x = qx at hvx
  generalize hqy : a.eval y = qy at hvy
  cases hvy
  cases hvx with
  | ptr _ _ i hφ =>
    obtain ⟨j, C, fz, e', e1, e2, e3, e4, e5, e6, e7, e8, e9, e10⟩ := hr.cells hb hTc
    obtain ⟨he', _⟩ := e10.resolve_right hsmall
    rw [he'] at e2
    obtain rfl : i = j := by rw [hφ] at e1; injection e1
    obtain ⟨ns, k1, k2⟩ := bytes_rel hl ((e8.drop off).take (n + 1))
    obtain ⟨_, _, _, q3⟩ := sz_info hsz
    have hnl : ns.length = n + 1 := by rw [← hlen, k2, List.length_map]
    have hl1 : ns.length = min (n + 1) (cells.length - off) := by
      have := congrArg List.length k1
      simp only [List.length_take, List.length_drop, List.length_map, Array.length_toList] at this
      omega
    have hoff : off + (n + 1) ≤ cells.length := by omega
    have hcell : ∀ jj xx, ns[jj]? = some xx → w.cell? ((⟨i.blk, i.sh + off, none⟩ : Addr).add jj) = some (.int .u8 xx) := by
      intro jj xx hjj
      have hjl : jj < n + 1 := by
        rw [← hnl]
        exact (List.getElem?_eq_some_iff.1 hjj).1
      have h3 : (((C.toList.drop i.sh).take cells.length).drop off).take (n + 1) = ns.map (Value.int .u8) := k1
      have h4 : ((((C.toList.drop i.sh).take cells.length).drop off).take (n + 1))[jj]? = some (.int .u8 xx) := by rw [h3]; simp [hjj]
      rw [List.getElem?_take, if_pos hjl, List.getElem?_drop, List.getElem?_take, if_pos (by omega), List.getElem?_drop] at h4
      rw [add_addr, Lib.cell_of_heap e2]
      rw [show i.sh + off + jj = i.sh + (off + jj) by omega]
      simpa using h4
    have hrun := run_ustr w pt it ty e hp q3 i.blk (i.sh + off) C.size (shape_of e2) ns (by intro hh; rw [hh] at hnl; simp at hnl) (by omega) (by omega) hcell
    rw [hnl] at hrun
    refine ⟨φ, w.freeze ⟨i.blk, i.sh + off, none⟩ (n + 1), Post.freeze hi hle hr hTc hb hφ (fun h' hh => by rw [hh]; exact Nat.le_max_left _ _) (Nat.le_max_right _ _), ?_⟩
    have e : (execOp a.eval ⟨d, .call ⟨.builtin .unsafeString, #[x, y], tys⟩, ty, pos, af, gd⟩).run P w = .ok (.value (.string ⟨(ns.map fun n => UInt8.ofNat n.toNat).toArray⟩)) (w.freeze ⟨i.blk, i.sh + off, none⟩ (n + 1)) := by
      refine run_v ?_
      have hm : (#[x, y].map a.eval) = #[a.eval x, a.eval y] := by simp
      rw [hm, hqx, hqy, htys']
      exact hrun
    rw [e, ← k2]
    exact .val _ _ (.string _)
theorem self_rels {φ : Emb} {g : Nat → Value} (h : ∀ k, VRel φ (g k) (g k)) : ∀ l : List Nat, VRels φ (l.map g) (l.map g) := by
  intro l
  induction l with
  | nil => exact .nil
  | cons a l ih => exact .cons _ _ _ _ (h a) ih
theorem made_eq (z : Array Value) (n : Nat) (h : n = 0 ∨ z.size ≠ 0) : (madeC z.toList z.size n).toArray = madeCells z n := by
  unfold madeC madeCells
  apply Array.ext
  · simp
  · intro k h1 h2
    have hk : k < n := by simpa using h1
    have hz : 0 < z.size := by rcases h with h | h <;> omega
    have hlt : k % z.size < z.size := Nat.mod_lt _ hz
    simp only [List.getElem_toArray, List.getElem_map, List.getElem_range, Array.getElem_map, Array.getElem_range]
    rw [getElem!_pos z (k % z.size) hlt]
    have : Nat.mod k z.size = k % z.size := rfl
    rw [this]
    simp [List.getD, hlt]
theorem make_sound (hi : Inv A) (hn : A'.next ≤ A'.next) (t : TypeId) (l c : Operand) (h : evalOp P f ⟨d, .makeSlice t l c, ty, pos, af, gd⟩ A = some (nx, A')) : Sound P f A ⟨d, .makeSlice t l c, ty, pos, af, gd⟩ nx A' := by
  have h' : makeA P t (f.eval l) (f.eval c) A = some (nx, A') := h
  unfold makeA at h'
  split at h'
  case h_2 => cases h'
  rename_i e n m ht hl hc
  split at h'
  case h_2 => cases h'
  rename_i i hin
  split at h'
  case h_2 => cases h'
  rename_i z hz
  unfold makeIn at h'
  obtain ⟨hb, h'⟩ := boolSome h'
  simp only [Bool.and_eq_true] at hb
  have b1 := Nat.le_of_ble_eq_true hb.1
  have b2 : i.bytes * m ≤ 281474976710656 := Nat.le_of_ble_eq_true hb.2.1
  have b3 := Nat.le_of_ble_eq_true hb.2.2.1
  have b4 := hb.2.2.2.1
  have b5 : z.cells.size = i.size := by rw [← Array.length_toList]; exact Nat.eq_of_beq_eq_true hb.2.2.2.2
  injection h' with h'
  injection h' with h1 h2
  subst h1
  subst h2
  rw [newRow_next] at hn
  refine ⟨newRow_fr hi hn _ _, fun φ T w a hf hr _ hfr => ?_⟩
  have hself := cells_rel (plain_self φ 50 z b4)
  have hcells : VRels φ (madeC z.cells.toList i.size (Nat.mul m i.size)) (madeC z.cells.toList i.size (Nat.mul m i.size)) := by
    refine self_rels (fun k => ?_) _
    cases hk : z.cells.toList[Nat.mod k i.size]? with
    | none => rw [List.getD_eq_getElem?_getD, hk]; exact undef_rel φ
    | some v =>
      obtain ⟨v', g1, g2⟩ := VRels.get _ hself hk
      rw [hk] at g1
      injection g1 with g1
      subst g1
      rw [List.getD_eq_getElem?_getD, hk]
      exact g2
  obtain ⟨φ', e1, e2⟩ := newRow_post hi (by rw [newRow_next]; exact hn) hr hfr hcells
  refine ⟨φ', _, e2, ?_⟩
  obtain ⟨vl, hl1, hl2⟩ : ∃ v, f.eval l = some v ∧ natOf? v = some n := by
    cases hh : f.eval l with
    | none => rw [hh] at hl; cases hl
    | some v => rw [hh] at hl; exact ⟨v, rfl, hl⟩
  obtain ⟨vc, hc1, hc2⟩ : ∃ v, f.eval c = some v ∧ natOf? v = some m := by
    cases hh : f.eval c with
    | none => rw [hh] at hc; cases hc
    | some v => rw [hh] at hc; exact ⟨v, rfl, hc⟩
  obtain ⟨kl, rfl⟩ := natOf_int hl2
  obtain ⟨kc, rfl⟩ := natOf_int hc2
  have r1 := hf.eval hl1
  have r2 := hf.eval hc1
  generalize hq1 : a.eval l = q1 at r1
  generalize hq2 : a.eval c = q2 at r2
  cases r1
  cases r2
  have hcm : (madeC z.cells.toList i.size (Nat.mul m i.size)).toArray = madeCells z.cells (m * i.size) := by
    rw [← b5]
    refine made_eq _ _ ?_
    by_cases h0 : z.cells.size = 0
    · left; rw [h0]; rfl
    · exact .inr h0
  have hb2 : (i.bytes : Int) * (m : Int) ≤ 281474976710656 := by
    have h : ((i.bytes * m : Nat) : Int) ≤ 281474976710656 := by omega
    rwa [Int.natCast_mul] at h
  have hrun := run_make (P := P) w t e i z ht hin hz kl kc (n : Int) (m : Int) (by omega) (by omega) hb2 (by omega)
  simp only [Int.toNat_natCast] at hrun
  have hes : P.cellsOf e = i.size := by simp [Program.cellsOf, hin]
  have ee : (execOp a.eval ⟨d, .makeSlice t l c, ty, pos, af, gd⟩).run P w = .ok (.value (.slice (some ⟨w.heap.size, 0, none⟩) n m)) (w.alloc (.cells (madeC z.cells.toList i.size (Nat.mul m i.size)).toArray e)) := by
    refine run_v ?_
    rw [hq1, hq2, hcm]
    exact hrun
  rw [ee]
  refine .val _ _ (.slice _ _ _ _ _ _ _ e1 b1 (Nat.le_refl _) (.inr (by simp)) ?_)
  show 0 + m * P.cellsOf e ≤ (madeC z.cells.toList i.size (Nat.mul m i.size)).length
  rw [hes]
  unfold madeC
  simp
end
end Go.EvL

namespace Go.EvL
open Go
section
variable {P : Program} {f : Fr} {A A' : AS} {nx : ANext} {d : Option Tmp} {ty : TypeId} {pos : String} {af : Array Edge} {gd : Option (Nat × Bool)}
theorem toList_one {α : Type} {xs : Array α} {x : α} (h : xs.toList = [x]) : xs = #[x] := by cases xs; cases h; rfl
theorem toList_two {α : Type} {xs : Array α} {x y : α} (h : xs.toList = [x, y]) : xs = #[x, y] := by cases xs; cases h; rfl
theorem builtin_sound (hi : Inv A) (hn : A'.next ≤ A'.next) (b : Builtin) (args : Array Operand) (tys : Array TypeId) (h : builtinA P f ⟨d, .call ⟨.builtin b, args, tys⟩, ty, pos, af, gd⟩ b args.toList tys.toList A = some (nx, A')) :
    Sound P f A ⟨d, .call ⟨.builtin b, args, tys⟩, ty, pos, af, gd⟩ nx A' := by
  unfold builtinA at h
  split at h
  · exact len_sound hi args tys h
  · split at h
    · rename_i x y t u h1 h2
      obtain rfl := toList_two h1
      obtain rfl := toList_two h2
      exact append_sound hi hn x y t u h
    · cases h
  · split at h
    · rename_i x y t u h1 h2
      obtain rfl := toList_two h1
      obtain rfl := toList_two h2
      exact copy_sound hi hn x y t u h
    · cases h
  · injection h with h
    injection h with h1 h2
    subst h1
    subst h2
    refine sound_same hi fun φ w a hf => ?_
    exact .recover
  · split at h
    · rename_i x h1
      obtain rfl := toList_one h1
      exact data_sound hi x tys h
    · cases h
  · split at h
    · rename_i x y h1
      obtain rfl := toList_two h1
      exact ustr_sound hi hn x y tys h
    · cases h
  · exact pure_sound hi _ (by intro _ _ hh; cases hh) h
theorem call_sound (hE : Env P) (hi : Inv A) (hn : A'.next ≤ A'.next) (c : Call) (h : evalOp P f ⟨d, .call c, ty, pos, af, gd⟩ A = some (nx, A')) : Sound P f A ⟨d, .call c, ty, pos, af, gd⟩ nx A' := by
  obtain ⟨cal, args, tys⟩ := c
  cases cal with
  | value x => exact callV_sound hE hi x args tys (show callV P (f.eval x) (evals f args.toList) A = _ from h)
  | builtin b => exact builtin_sound hi hn b args tys (show builtinA P f _ b args.toList tys.toList A = _ from h)
  | invoke => cases h
end
/-- every operation of the evaluator is sound -/
theorem opsOK {P : Program} (hE : Env P) (hS : Tys P) : OpsOK P := by
  intro f o A nx A' hi hn h
  obtain ⟨d, op, ty, pos, af, gd⟩ := o
  cases op with
  | move x => exact move_sound hi x h
  | assign x => exact assign_sound hi x h
  | pick c a b => exact pick_sound hi c a b h
  | alloc e => exact alloc_sound hi hn e h
  | box e x => exact box_sound hi hn e x h
  | build t ps => exact build_sound hS hi t ps h
  | buildSlice t n ps => exact buildSlice_sound hi hn t n ps h
  | insert => cases h
  | load t a => exact load_sound hi t a h
  | store t a x => exact store_sound hi hn t a x h
  | ready => cases h
  | waits => cases h
  | nilCheck x => exact nilCheck_sound hi x h
  | binOp op t x y u => exact bin_sound hi op t u x y h
  | unOp => exact pure_sound hi _ (by intro _ _ hh; cases hh) (show purely P f _ A = _ from h)
  | convert a b x => exact conv_sound hi hn a b x h
  | sliceToArrayPointer => cases h
  | makeInterface t x => exact iface_sound hi t x h
  | makeFunc fn a b => exact func_sound hi fn a b h
  | makeMap t r => exact makeMap_sound hi hn t r h
  | makeChan => cases h
  | makeSlice t l c => exact make_sound hi hn t l c h
  | slice t x lo hi' mx => exact slice_sound hi t x lo hi' mx h
  | fieldAddr t x i => exact fieldAddr_sound hi t x i h
  | field t x i => exact field_sound hi t x i h
  | indexAddr t x i => exact indexAddr_sound hi t x i h
  | index t x i => exact index_sound hi t x i h
  | lookup t x k ok => exact lookup_sound hi t x k ok h
  | mapUpdate t m k x => exact mapUpdate_sound hi hn t m k x h
  | mapEntry => cases h
  | entryStore => cases h
  | range t x => exact range_sound hi hn t x h
  | next it b => exact next_sound hi hn it b h
  | entry => cases h
  | typeAssert x t a ok => exact assert_sound hi x t a ok h
  | extract t i => exact extract_sound hi t i h
  | call c => exact call_sound hE hi hn c h
  | go => cases h
  | defer c => exact defer_sound hi c h
  | panic x => exact panic_sound hi x h
  | send => cases h
  | recv => cases h
  | select => cases h
end Go.EvL

namespace Go.EvL
open Go
section
variable {P : Program} {call : CallF}
theorem clearRW_next (s : AS) : (clearRW s).next = s.next := by cases s; rfl
theorem joinRW_next (s s' : AS) : (joinRW s s').next = s'.next := by cases s'; unfold joinRW; simp only [forceN_eq]
theorem runDraw_nil (ops : Array Oper) (j : Nat) (bs : Tr Nat) (acc : List Fp) (f : Fr) (A : AS) : runDraw P call ops [] j bs acc f A = .on f A := rfl
theorem runDraw_cons (ops : Array Oper) (o : Oper) (l : List Oper) (j : Nat) (bs : Tr Nat) (acc : List Fp) (f : Fr) (A : AS) :
    runDraw P call ops (o :: l) j bs acc f A = drawNext o (o.looksAt ops) f A j bs acc (step1 P call ops.toList (onlyFr (o.looksAt ops) f) o (clearRW A)) (runDraw P call ops l) := by
  show forceL (o.looksAt ops) (fun ls => drawNext o ls f A j bs acc (step1 P call ops.toList (onlyFr ls f) o (clearRW A)) (runDraw P call ops l)) = _
  rw [forceL_eq]
theorem drawNext_some {o : Oper} {l : List Tmp} {f : Fr} {A : AS} {j : Nat} {bs : Tr Nat} {acc : List Fp} {r : St} {k : DrK} (h : drawNext o l f A j bs acc r k ≠ .no) :
    ∃ g B f', r = .on g B ∧ drawPut f o.dst g = some f' ∧ edgesLow j o.after.toList = true ∧ j < 100000 ∧ lowSlots l = true ∧
      clearOf (befOf bs o.after.toList) (combM f'.n B.r (slotMask l)) (combM f'.n B.w (slotMask o.dst.toList)) acc = true ∧
      drawNext o l f A j bs acc r k = k (j + 1) (Tr.set (befOf bs o.after.toList) 40 bs j) (⟨j, combM f'.n B.r (slotMask l), combM f'.n B.w (slotMask o.dst.toList)⟩ :: acc) f' (joinRW A B) := by
  unfold drawNext at h ⊢
  cases r with
  | no => exact absurd rfl h
  | up v g B => exact absurd rfl h
  | on g B =>
    simp only at h ⊢
    cases hp : drawPut f o.dst g with
    | none => rw [hp] at h; exact absurd rfl h
    | some f' =>
      rw [hp] at h
      simp only at h ⊢
      unfold drawGo at h ⊢
      simp only [forceN_eq, forceT_eq] at h ⊢
      cases hb : (edgesLow j o.after.toList && (Nat.ble (Nat.succ j) 100000 && (lowSlots l && clearOf (befOf bs o.after.toList) (combM f'.n B.r (slotMask l)) (combM f'.n B.w (slotMask o.dst.toList)) acc))) with
      | false => rw [hb] at h; exact absurd rfl h
      | true =>
        have hb' := hb
        simp only [Bool.and_eq_true] at hb'
        exact ⟨g, B, f', rfl, hp, hb'.1, Nat.le_of_ble_eq_true hb'.2.1, hb'.2.2.1, hb'.2.2.2, rfl⟩
theorem runDraw_up (ops : Array Oper) : ∀ (l : List Oper) (j : Nat) (bs : Tr Nat) (acc : List Fp) (f : Fr) (A : AS) (v : Value) (f' : Fr) (A' : AS), runDraw P call ops l j bs acc f A ≠ .up v f' A' := by
  intro l
  induction l with
  | nil => intro j bs acc f A v f' A' h; rw [runDraw_nil] at h; cases h
  | cons o l ih =>
    intro j bs acc f A v f' A' h
    rw [runDraw_cons] at h
    obtain ⟨g, B, f1, _, _, _, _, _, _, he⟩ := drawNext_some (by rw [h]; exact fun hh => by cases hh)
    rw [he] at h
    exact ih _ _ _ _ _ _ _ _ h
theorem runDraw_mono (hO : OpMono P) (hM : CallMono call) {ops : Array Oper} : ∀ (l : List Oper) {f f' : Fr} {A A' : AS} {j : Nat} {bs : Tr Nat} {acc : List Fp}, runDraw P call ops l j bs acc f A = .on f' A' → A.next ≤ A'.next := by
  intro l
  induction l with
  | nil => intro f f' A A' j bs acc h; rw [runDraw_nil] at h; injection h with _ h2; rw [h2]; exact Nat.le_refl _
  | cons o l ih =>
    intro f f' A A' j bs acc h
    rw [runDraw_cons] at h
    obtain ⟨g, B, f1, hs, _, _, _, _, _, he⟩ := drawNext_some (by rw [h]; exact fun hh => by cases hh)
    have h1 := step_mono hO hM (v := undef) (.inl hs)
    rw [he] at h
    have h2 := ih h
    rw [joinRW_next] at h2
    rw [clearRW_next] at h1
    omega
theorem drawMono (hO : OpMono P) (hM : CallMono call) : DrawMono P call := by
  intro ops f A x f' A' h
  rcases exOf_some h with ⟨h1, _⟩ | ⟨v, h1, _⟩
  · exact runDraw_mono hO hM _ h1
  · exact absurd h1 (runDraw_up _ _ _ _ _ _ _ _ _ _)
/-! ### the way through a region that draws, in text order -/
structure Stp where
  f : Fr
  s : AS
  g : Fr
  B : AS
  bs : Tr Nat
  acc : List Fp
def StepR (P : Program) (call : CallF) (ops : Array Oper) (f : Fr) (A : AS) (g : Fr) (B : AS) (o : Oper) : Prop :=
  step1 P call ops.toList f o A = .on g B ∨ (StepOn P ops o f A g B ∧ (wantedA ops.toList f o.guard = some false ∨ ∀ cs b, o.op ≠ .select cs b))
structure Good (P : Program) (call : CallF) (ops : Array Oper) (X : Nat → Stp) (j : Nat) (o : Oper) : Prop where
  step : StepR P call ops (onlyFr (o.looksAt ops) (X j).f) (clearRW (X j).s) (X j).g (X j).B o
  put : drawPut (X j).f o.dst (X j).g = some (X (j + 1)).f
  s : (X (j + 1)).s = joinRW (X j).s (X j).B
  low : edgesLow j o.after.toList = true
  few : j < 100000
  looks : lowSlots (o.looksAt ops) = true
  bs : (X (j + 1)).bs = Tr.set (befOf (X j).bs o.after.toList) 40 (X j).bs j
  acc : (X (j + 1)).acc = ⟨j, combM (X (j + 1)).f.n (X j).B.r (slotMask (o.looksAt ops)), combM (X (j + 1)).f.n (X j).B.w (slotMask o.dst.toList)⟩ :: (X j).acc
  clear : clearOf (befOf (X j).bs o.after.toList) (combM (X (j + 1)).f.n (X j).B.r (slotMask (o.looksAt ops))) (combM (X (j + 1)).f.n (X j).B.w (slotMask o.dst.toList)) (X j).acc = true
theorem trace {ops : Array Oper} : ∀ (l : List Oper) (j : Nat) (bs : Tr Nat) (acc : List Fp) (f f' : Fr) (A A' : AS), runDraw P call ops l j bs acc f A = .on f' A' →
    ∃ X : Nat → Stp, (X j).f = f ∧ (X j).s = A ∧ (X j).bs = bs ∧ (X j).acc = acc ∧ (X (j + l.length)).f = f' ∧ (X (j + l.length)).s = A' ∧ ∀ i o, l[i]? = some o → Good P call ops X (j + i) o := by
  intro l
  induction l with
  | nil =>
    intro j bs acc f f' A A' h
    rw [runDraw_nil] at h
    injection h with h1 h2
    exact ⟨fun _ => ⟨f, A, f, A, bs, acc⟩, rfl, rfl, rfl, rfl, h1, h2, fun i o hh => by simp at hh⟩
  | cons o l ih =>
    intro j bs acc f f' A A' h
    rw [runDraw_cons] at h
    obtain ⟨g, B, f1, hs, hp, hl, hf, hlo, hc, he⟩ := drawNext_some (by rw [h]; exact fun hh => by cases hh)
    rw [he] at h
    obtain ⟨X, e1, e2, e3, e4, e5, e6, e7⟩ := ih _ _ _ _ _ _ _ h
    obtain ⟨Y, hYj, hY⟩ : ∃ Y : Nat → Stp, Y j = ⟨f, A, g, B, bs, acc⟩ ∧ ∀ i, Y (j + 1 + i) = X (j + 1 + i) :=
      ⟨fun n => if n = j then ⟨f, A, g, B, bs, acc⟩ else X n, if_pos rfl, fun i => if_neg (by omega)⟩
    refine ⟨Y, by rw [hYj], by rw [hYj], by rw [hYj], by rw [hYj], ?_, ?_, fun i o' hi => ?_⟩
    · rw [List.length_cons, show j + (l.length + 1) = j + 1 + l.length by omega, hY]; exact e5
    · rw [List.length_cons, show j + (l.length + 1) = j + 1 + l.length by omega, hY]; exact e6
    · cases i with
      | zero =>
        simp at hi
        subst hi
        have h0 : Y (j + 1) = X (j + 1) := hY 0
        refine ⟨.inl ?_, ?_, ?_, hl, hf, hlo, ?_, ?_, ?_⟩ <;> simp only [Nat.add_zero, hYj, h0, e1, e2, e3, e4] <;> assumption
      | succ i =>
        have hg := e7 i o' (by simpa using hi)
        have h0 := hY i
        have h1 := hY (i + 1)
        rw [show j + (i + 1) = j + 1 + i by omega]
        obtain ⟨a1, a2, a3, a4, a5, a9, a6, a7, a8⟩ := hg
        rw [show j + 1 + (i + 1) = j + 1 + i + 1 by omega] at h1
        refine ⟨?_, ?_, ?_, a4, a5, a9, ?_, ?_, ?_⟩ <;> simp only [h0, h1] <;> assumption
end
end Go.EvL

namespace Go.EvL
open Go
section
variable {P : Program} {call : CallF}
theorem onward_next {x : Option Fr} {s A' : AS} {f' : Fr} (h : onward x s = .on f' A') : s = A' := (onward_on h).2
theorem runOpsD_cons (ops : List Oper) (o : Oper) (l : List Oper) (f : Fr) (A : AS) (u : Option Value) : runOpsD P call ops (o :: l) f A u = ddOp P call ops o f A u (runOpsD P call ops l) := rfl
theorem runOpsD_mono (hO : OpMono P) (hM : CallMono call) {ops : List Oper} : ∀ (l : List Oper) {f : Fr} {A : AS} {u : Option Value} {q : Dd}, runOpsD P call ops l f A u = some q → A.next ≤ q.s.next := by
  intro l
  induction l with
  | nil =>
    intro f A u q h
    have h' : some (⟨f, A, u⟩ : Dd) = some q := h
    injection h' with h'
    rw [← h']
    exact Nat.le_refl _
  | cons o l ih =>
    intro f A u q h
    rw [runOpsD_cons] at h
    unfold ddOp at h
    split at h
    · rename_i s hev
      have h1 := hO _ _ _ _ _ hev
      split at h
      · unfold ddK at h
        split at h
        · rename_i g s' hon
          have := onward_next hon
          subst this
          have := ih h
          omega
        · cases h
      · cases h
    · unfold ddK at h
      split at h
      · rename_i g s' hst
        have h1 := step_mono hO hM (v := undef) (.inl hst)
        have := ih h
        omega
      · cases h
theorem deferMono (hO : OpMono P) (hM : CallMono call) (hD : DrawMono P call) : DeferMono P call := by
  intro d A u A' u' h
  unfold evalDeferred at h
  split at h
  · split at h
    · obtain ⟨_, h⟩ := boolSome h
      unfold deferIn at h
      split at h
      · split at h
        · rename_i g s v hr
          have h1 := runOpsD_mono hO hM _ hr
          unfold endD at h
          split at h
          · rename_i f0 s0 he
            have h2 := evalCode_mono hO hM hD _ _ _ _ _ _ he
            split at h
            · injection h with h
              injection h with h3 _
              subst h3
              exact Nat.le_trans h1 h2
            · cases h
          · rename_i f0 s0 he
            have h2 := evalCode_mono hO hM hD _ _ _ _ _ _ he
            split at h
            · injection h with h
              injection h with h3 _
              subst h3
              exact Nat.le_trans h1 h2
            · cases h
          · cases h
        · cases h
      · cases h
    · cases h
  · cases h
end
end Go.EvL
