/- The evaluator: regions that draw their order, deferred functions, and the end theorem on closed calls. No statement is proved here. -/
import Derived.Test.YtfdhkchglacccaaGreatDoorEvD
import Derived.Recover
import Derived.Below
import Derived.Maps.Own
import Derived.Sort.KeysCollected
namespace Go.EvL
open Go
section
variable {P : Program} {call : CallF} {ops : Array Oper} {X : Nat → Stp}
theorem clearRW_eq (s : AS) : clearRW s = ⟨s.heap, s.next, s.mem, s.fz, 0, 0⟩ := by cases s; rfl
theorem joinRW_eq (s s' : AS) : joinRW s s' = ⟨s'.heap, s'.next, s'.mem, s'.fz, s'.r ||| s.r, s'.w ||| s.w⟩ := by
  cases s'; unfold joinRW; simp only [forceN_eq]; rfl
theorem inv_rw {A B : AS} (h : Inv A) (h1 : B.heap = A.heap) (h2 : B.next = A.next) (h3 : B.mem = A.mem) (h4 : B.fz = A.fz) : Inv B := by
  obtain ⟨hp, n, m, z, r, w⟩ := A
  obtain ⟨hp', n', m', z', r', w'⟩ := B
  simp only at h1 h2 h3 h4
  subst h1; subst h2; subst h3; subst h4
  exact ⟨h.lt, h.mem, h.memc, h.root, h.ml, h.old, h.fz⟩
theorem inv_clear {A : AS} (h : Inv A) : Inv (clearRW A) := by rw [clearRW_eq]; exact inv_rw h rfl rfl rfl rfl
theorem join_fr {A B : AS} (h : AFr (clearRW A) B) : AFr A (joinRW A B) := by
  rw [clearRW_eq] at h
  rw [joinRW_eq]
  refine ⟨h.next, fun c hc => ?_, fun c hc => ?_, fun b o hb hw => ?_, fun b o hb hw => ?_, fun c hc => ?_, fun c hc => ?_, fun c hc => ?_, fun c hc => ?_, inv_rw h.inv rfl rfl rfl rfl⟩
  · show (B.r ||| A.r).testBit c = true; rw [Nat.testBit_or, hc, Bool.or_true]
  · show (B.w ||| A.w).testBit c = true; rw [Nat.testBit_or, hc, Bool.or_true]
  · have hw' : (B.w ||| A.w).testBit _ = false := hw
    rw [Nat.testBit_or, Bool.or_eq_false_iff] at hw'
    exact h.old b o hb hw'.1
  · have hw' : (B.w ||| A.w).testBit _ = false := hw
    rw [Nat.testBit_or, Bool.or_eq_false_iff] at hw'
    exact h.new b o hb hw'.1
  · have hw' : (B.w ||| A.w).testBit _ = false := hc
    rw [Nat.testBit_or, Bool.or_eq_false_iff] at hw'
    exact h.fz c hw'.1
  · have hw' : (B.w ||| A.w).testBit _ = false := hc
    rw [Nat.testBit_or, Bool.or_eq_false_iff] at hw'
    exact h.mem c hw'.1
  · have hw' : (B.r ||| A.r).testBit _ = true := hc
    rw [Nat.testBit_or, Bool.or_eq_true] at hw'
    rcases hw' with hw' | hw'
    · rcases h.rb c hw' with h1 | h1
      · simp at h1
      · exact .inr h1
    · exact .inl hw'
  · have hw' : (B.w ||| A.w).testBit _ = true := hc
    rw [Nat.testBit_or, Bool.or_eq_true] at hw'
    rcases hw' with hw' | hw'
    · rcases h.wb c hw' with h1 | h1
      · simp at h1
      · exact .inr h1
    · exact .inl hw'
/-! masks -/
theorem slotMask_bit {l : List Tmp} {t : Nat} (h : t ∈ l) : (slotMask l).testBit t = true := by
  induction l with
  | nil => cases h
  | cons x l ih =>
    show (Nat.lor (slotMask l) (1 <<< x)).testBit t = true
    have e : Nat.lor (slotMask l) (1 <<< x) = slotMask l ||| (1 <<< x) := rfl
    rw [e, bit_or]
    rcases List.mem_cons.1 h with rfl | h
    · simp
    · rw [ih h]; rfl
theorem comb_cls {n c l x : Nat} (h : c.testBit x = true) : (combM n c l).testBit (n + x) = true := by
  show ((c <<< n) ||| l).testBit (n + x) = true
  rw [Nat.testBit_or, Nat.testBit_shiftLeft]
  simp [h]
theorem comb_slot {n c l x : Nat} (h : l.testBit x = true) : (combM n c l).testBit x = true := by
  show ((c <<< n) ||| l).testBit x = true
  rw [Nat.testBit_or, h, Bool.or_true]
theorem and_ne {a b x : Nat} (ha : a.testBit x = true) (hb : b.testBit x = true) : Nat.beq (Nat.land a b) 0 = false := by
  have e : Nat.land a b = a &&& b := rfl
  cases hz : Nat.beq (Nat.land a b) 0 with
  | false => rfl
  | true =>
    have h0 := Nat.eq_of_beq_eq_true hz
    rw [e] at h0
    have : (a &&& b).testBit x = true := by rw [Nat.testBit_and, ha, hb]; rfl
    rw [h0] at this
    simp at this
theorem apart_no {r w r' w' x : Nat} (h : (w.testBit x = true ∧ (r'.testBit x = true ∨ w'.testBit x = true)) ∨ (w'.testBit x = true ∧ r.testBit x = true)) : apartM r w r' w' = false := by
  unfold apartM
  rcases h with ⟨h1, h2⟩ | ⟨h1, h2⟩
  · rw [and_ne (x := x) h1 (by show (r' ||| w').testBit x = true; rw [Nat.testBit_or]; rcases h2 with h2 | h2 <;> simp [h2])]; rfl
  · rw [and_ne h1 h2, Bool.and_false]
theorem befOf_bit {bs : Tr Nat} {l : List Edge} {i : Nat} (h : (befOf bs l).testBit i = true) : ∃ e ∈ l, Region.binds .any e = true ∧ (i = e.on ∨ ((bs.get e.on).getD 0).testBit i = true) := by
  induction l with
  | nil => exact absurd h (by show (Nat.testBit 0 i) ≠ true; simp)
  | cons e l ih =>
    have h' : (Bool.rec (befOf bs l) (Nat.lor (befOf bs l) (Nat.lor (Nat.shiftLeft 1 e.on) ((bs.get e.on).getD 0))) (Region.binds .any e) : Nat).testBit i = true := h
    cases hb : Region.binds .any e with
    | false =>
      rw [hb] at h'
      obtain ⟨e', h1, h2⟩ := ih h'
      exact ⟨e', List.mem_cons_of_mem _ h1, h2⟩
    | true =>
      rw [hb] at h'
      have h'' : (befOf bs l ||| ((1 <<< e.on) ||| ((bs.get e.on).getD 0))).testBit i = true := h'
      rw [Nat.testBit_or, Nat.testBit_or, Bool.or_eq_true, Bool.or_eq_true] at h''
      rcases h'' with h1 | h1 | h1
      · obtain ⟨e', h1, h2⟩ := ih h1
        exact ⟨e', List.mem_cons_of_mem _ h1, h2⟩
      · rw [Nat.one_shiftLeft, Nat.testBit_two_pow] at h1
        exact ⟨e, List.mem_cons_self, hb, .inl (by simpa using (of_decide_eq_true h1).symm)⟩
      · exact ⟨e, List.mem_cons_self, hb, .inr h1⟩
/-! what follows from the checks -/
structure Way (P : Program) (call : CallF) (ops : Array Oper) (X : Nat → Stp) : Prop where
  bs : (X 0).bs = .nil
  acc : (X 0).acc = []
  good : ∀ i o, ops[i]? = some o → Good P call ops X i o
theorem op_at {i : Nat} (h : i < ops.size) : ∃ o, ops[i]? = some o := ⟨ops[i], by simp [h]⟩
theorem op_lt {i : Nat} {o : Oper} (h : ops[i]? = some o) : i < ops.size := (Array.getElem?_eq_some_iff.1 h).1
theorem Way.bsAt (W : Way P call ops X) : ∀ j, j ≤ ops.size → ∀ m, ((X j).bs.get m).isSome = true → ∃ o, ops[m]? = some o ∧ m < j ∧ (X j).bs.get m = some (befOf (X m).bs o.after.toList) := by
  intro j
  induction j with
  | zero => intro _ m h; rw [W.bs] at h; simp [Tr.get_nil] at h
  | succ j ih =>
    intro hj m h
    obtain ⟨o, ho⟩ := op_at (ops := ops) (show j < ops.size by omega)
    have g := W.good j o ho
    have hf : Fits j := trivial
    rw [g.bs, Tr.get_set _ _ _ _ hf] at h ⊢
    split at h
    · rename_i he; subst he; rw [if_pos rfl]; exact ⟨o, ho, by omega, rfl⟩
    · rename_i he
      rw [if_neg he]
      obtain ⟨o', h1, h2, h3⟩ := ih (by omega) m h
      exact ⟨o', h1, by omega, h3⟩
def Closed (ops : Array Oper) (L : Nat → Prop) : Prop := ∀ j o, ops[j]? = some o → L j → ∀ e ∈ o.after, Region.binds .any e = true → L e.on
theorem Way.before (W : Way P call ops X) {L : Nat → Prop} (hL : Closed ops L) : ∀ j o, ops[j]? = some o → L j → ∀ i, (befOf (X j).bs o.after.toList).testBit i = true → L i := by
  intro j
  induction j using Nat.strongRecOn with
  | _ j ih =>
    intro o ho hj i hi
    obtain ⟨e, h1, h2, h3⟩ := befOf_bit hi
    have he := hL j o ho hj e (by simpa using h1) h2
    rcases h3 with rfl | h3
    · exact he
    · cases hg : (X j).bs.get e.on with
      | none => rw [hg] at h3; simp at h3
      | some b =>
        obtain ⟨o', k1, k2, k3⟩ := W.bsAt j (Nat.le_of_lt (op_lt ho)) e.on (by rw [hg]; rfl)
        rw [k3] at h3
        exact ih e.on k2 o' k1 he i h3
theorem Way.accAt (W : Way P call ops X) : ∀ j, j ≤ ops.size → ∀ i o, i < j → ops[i]? = some o → (⟨i, combM (X (i + 1)).f.n (X i).B.r (slotMask (o.looksAt ops)), combM (X (i + 1)).f.n (X i).B.w (slotMask o.dst.toList)⟩ : Fp) ∈ (X j).acc := by
  intro j
  induction j with
  | zero => intro _ i o h; omega
  | succ j ih =>
    intro hj i o hi ho
    obtain ⟨o', ho'⟩ := op_at (ops := ops) (show j < ops.size by omega)
    rw [(W.good j o' ho').acc]
    by_cases he : i = j
    · subst he
      rw [ho] at ho'; injection ho' with ho'; subst ho'
      exact List.mem_cons_self
    · exact List.mem_cons_of_mem _ (ih (by omega) i o (by omega) ho)
theorem drawPut_n {f f' g : Fr} {d : Option Tmp} (h : drawPut f d g = some f') : f'.n = f.n ∧ f'.defers = f.defers ∧ g.defers = [] := by
  unfold drawPut at h
  split at h
  · rename_i hg
    refine ⟨?_, ?_, hg⟩
    · rcases put_ok h with ⟨_, rfl⟩ | ⟨t, _, _, rfl⟩ <;> rfl
    · rcases put_ok h with ⟨_, rfl⟩ | ⟨t, _, _, rfl⟩ <;> rfl
  · cases h
theorem drawPut_at {f f' g : Fr} {d : Option Tmp} (hf : f.n ≤ 1000000) (h : drawPut f d g = some f') (t : Nat) : (d = some t → t < f.n ∧ f'.tmps.get t = some ((g.tmps.get t).getD undef)) ∧ (d ≠ some t → f'.tmps.get t = f.tmps.get t) := by
  unfold drawPut at h
  split at h
  · rcases put_ok h with ⟨rfl, rfl⟩ | ⟨t', rfl, hlt, rfl⟩
    · exact ⟨fun h => absurd h (by simp), fun _ => rfl⟩
    · have hfit : Fits t' := trivial
      refine ⟨fun h => ?_, fun h => ?_⟩
      · injection h with h; subst h
        refine ⟨hlt, ?_⟩
        show (Tr.set _ 40 f.tmps t').get t' = _
        rw [Tr.get_set _ _ _ _ hfit, if_pos rfl]
      · show (Tr.set _ 40 f.tmps t').get t = _
        rw [Tr.get_set _ _ _ _ hfit, if_neg (fun e => h (by rw [e]))]
  · cases h
theorem Way.n (W : Way P call ops X) : ∀ j, j ≤ ops.size → (X j).f.n = (X 0).f.n ∧ (X j).f.defers = (X 0).f.defers := by
  intro j
  induction j with
  | zero => intro _; exact ⟨rfl, rfl⟩
  | succ j ih =>
    intro hj
    obtain ⟨o, ho⟩ := op_at (ops := ops) (show j < ops.size by omega)
    obtain ⟨h1, h2, _⟩ := drawPut_n (W.good j o ho).put
    obtain ⟨k1, k2⟩ := ih (by omega)
    exact ⟨h1.trans k1, h2.trans k2⟩
/-- two operations that clash stand in the order of the edges -/
theorem Way.clash (W : Way P call ops X) {i j : Nat} {o o' : Oper} (hij : i < j) (ho : ops[i]? = some o) (ho' : ops[j]? = some o') {x : Nat}
    (h : ((combM (X (i + 1)).f.n (X i).B.w (slotMask o.dst.toList)).testBit x = true ∧ ((combM (X (j + 1)).f.n (X j).B.r (slotMask (o'.looksAt ops))).testBit x = true ∨ (combM (X (j + 1)).f.n (X j).B.w (slotMask o'.dst.toList)).testBit x = true)) ∨
      ((combM (X (j + 1)).f.n (X j).B.w (slotMask o'.dst.toList)).testBit x = true ∧ (combM (X (i + 1)).f.n (X i).B.r (slotMask (o.looksAt ops))).testBit x = true)) :
    (befOf (X j).bs o'.after.toList).testBit i = true := by
  have hc := (W.good j o' ho').clear
  unfold clearOf at hc
  rw [List.all_eq_true] at hc
  have := hc _ (W.accAt j (Nat.le_of_lt (op_lt ho')) i o hij ho)
  rw [apart_no h, Bool.false_or] at this
  exact this
theorem Way.cls (W : Way P call ops X) {L : Nat → Prop} (hL : Closed ops L) {i j : Nat} (hij : i < j) (hj : j < ops.size) (hLj : L j) {c : Nat}
    (h : ((X i).B.w.testBit c = true ∧ ((X j).B.r.testBit c = true ∨ (X j).B.w.testBit c = true)) ∨ ((X j).B.w.testBit c = true ∧ (X i).B.r.testBit c = true)) : L i := by
  obtain ⟨o, ho⟩ := op_at (ops := ops) (show i < ops.size by omega)
  obtain ⟨o', ho'⟩ := op_at hj
  have hn : (X (j + 1)).f.n = (X (i + 1)).f.n := (W.n (j + 1) (by omega)).1.trans (W.n (i + 1) (by omega)).1.symm
  refine W.before hL j o' ho' hLj i (W.clash hij ho ho' (x := (X (i + 1)).f.n + c) ?_)
  rw [hn]
  rcases h with ⟨h1, h2⟩ | ⟨h1, h2⟩
  · exact .inl ⟨comb_cls h1, h2.imp comb_cls comb_cls⟩
  · exact .inr ⟨comb_cls h1, comb_cls h2⟩
theorem Way.slot (W : Way P call ops X) {L : Nat → Prop} (hL : Closed ops L) {i j : Nat} {o o' : Oper} (hij : i < j) (ho : ops[i]? = some o) (ho' : ops[j]? = some o') (hLj : L j) {t : Nat}
    (h : (o.dst = some t ∧ (t ∈ o'.looksAt ops ∨ o'.dst = some t)) ∨ (o'.dst = some t ∧ t ∈ o.looksAt ops)) : L i := by
  have hd : ∀ {o : Oper}, o.dst = some t → (slotMask o.dst.toList).testBit t = true := fun h => slotMask_bit (by rw [h]; simp)
  refine W.before hL j o' ho' hLj i (W.clash hij ho ho' (x := t) ?_)
  rcases h with ⟨h1, h2⟩ | ⟨h1, h2⟩
  · exact .inl ⟨comb_slot (hd h1), h2.imp (fun h => comb_slot (slotMask_bit h)) (fun h => comb_slot (hd h))⟩
  · exact .inr ⟨comb_slot (hd h1), comb_slot (slotMask_bit h2)⟩
end
end Go.EvL

namespace Go.EvL
open Go
section
variable {P : Program} {call : CallF} {ops : Array Oper} {X : Nat → Stp}
/-! the states in text order -/
structure Path (P : Program) (ops : Array Oper) (X : Nat → Stp) : Prop where
  fr : ∀ i, i < ops.size → AFr (clearRW (X i).s) (X i).B
  on : ∀ i o, ops[i]? = some o → StepOn P ops o (onlyFr (o.looksAt ops) (X i).f) (clearRW (X i).s) (X i).g (X i).B
theorem Path.fr' (W : Way P call ops X) (H : Path P ops X) {i : Nat} (hi : i < ops.size) : AFr (X i).s (X (i + 1)).s := by
  obtain ⟨o, ho⟩ := op_at hi
  rw [(W.good i o ho).s]
  exact join_fr (H.fr i hi)
theorem Path.le (W : Way P call ops X) (H : Path P ops X) {i : Nat} : ∀ {j : Nat}, i ≤ j → j ≤ ops.size → (X i).s.next ≤ (X j).s.next := by
  intro j
  induction j with
  | zero => intro hij _; rw [show i = 0 by omega]; exact Nat.le_refl _
  | succ j ih =>
    intro hij hj
    by_cases he : i = j + 1
    · rw [he]; exact Nat.le_refl _
    · exact Nat.le_trans (ih (by omega) (by omega)) (H.fr' W (show j < ops.size by omega)).next
theorem Path.heap (W : Way P call ops X) {i : Nat} (hi : i < ops.size) : (X (i + 1)).s.heap = (X i).B.heap ∧ (X (i + 1)).s.fz = (X i).B.fz ∧ (X (i + 1)).s.next = (X i).B.next ∧ (X (i + 1)).s.w = (X i).B.w ||| (X i).s.w ∧ (X (i + 1)).s.r = (X i).B.r ||| (X i).s.r := by
  obtain ⟨o, ho⟩ := op_at hi
  rw [(W.good i o ho).s, joinRW_eq]
  exact ⟨rfl, rfl, rfl, rfl, rfl⟩
/-- a class that is not written is as before -/
theorem Path.agree (W : Way P call ops X) (H : Path P ops X) {c i : Nat} : ∀ {k : Nat}, i ≤ k → k ≤ ops.size → (∀ m, i ≤ m → m < k → (X m).B.w.testBit c = false) → (X k).s.fz.get c = (X i).s.fz.get c ∧ ∀ b o, (X k).s.heap.get b = some o → clsOf b o = c → (X i).s.heap.get b = some o := by
  intro k
  induction k with
  | zero => intro hik _ _; rw [show i = 0 by omega]; exact ⟨rfl, fun _ _ h _ => h⟩
  | succ k ih =>
    intro hik hk hw
    by_cases he : i = k + 1
    · rw [he]; exact ⟨rfl, fun _ _ h _ => h⟩
    · obtain ⟨h1, h2⟩ := ih (by omega) (by omega) fun m a b => hw m a (by omega)
      have hf := H.fr k (by omega)
      obtain ⟨e1, e2, e3, _⟩ := Path.heap W (show k < ops.size by omega)
      rw [clearRW_eq] at hf
      have hwk := hw k (by omega) (by omega)
      refine ⟨by rw [e2, hf.fz c hwk]; exact h1, fun b o hb hc => h2 b o ?_ hc⟩
      rw [e1] at hb
      exact hf.new b o hb (by rw [hc]; exact hwk)
theorem Path.bits (W : Way P call ops X) {i : Nat} (_hi : i < ops.size) {c : Nat} : ∀ {k : Nat}, i < k → k ≤ ops.size → ((X i).B.w.testBit c = true → (X k).s.w.testBit c = true) ∧ ((X i).B.r.testBit c = true → (X k).s.r.testBit c = true) := by
  intro k
  induction k with
  | zero => intro h; omega
  | succ k ih =>
    intro hik hk
    obtain ⟨_, _, _, e4, e5⟩ := Path.heap W (show k < ops.size by omega)
    rw [e4, e5]
    by_cases he : i = k
    · subst he
      exact ⟨fun h => by rw [Nat.testBit_or, h]; rfl, fun h => by rw [Nat.testBit_or, h]; rfl⟩
    · obtain ⟨h1, h2⟩ := ih (by omega) (by omega)
      exact ⟨fun h => by rw [Nat.testBit_or, h1 h, Bool.or_true], fun h => by rw [Nat.testBit_or, h2 h, Bool.or_true]⟩
def Dst (ops : Array Oper) (i t : Nat) : Prop := ∃ o, ops[i]? = some o ∧ o.dst = some t
theorem Way.slotAt (W : Way P call ops X) (hn : (X 0).f.n ≤ 1000000) {t i : Nat} : ∀ {k : Nat}, i ≤ k → k ≤ ops.size → (∀ m, i ≤ m → m < k → ¬ Dst ops m t) → (X k).f.tmps.get t = (X i).f.tmps.get t := by
  intro k
  induction k with
  | zero => intro hik _ _; rw [show i = 0 by omega]
  | succ k ih =>
    intro hik hk hw
    by_cases he : i = k + 1
    · rw [he]
    · obtain ⟨o, ho⟩ := op_at (ops := ops) (show k < ops.size by omega)
      have h1 := ih (by omega) (by omega) fun m a b => hw m a (by omega)
      have h2 := (drawPut_at (by rw [(W.n k (by omega)).1]; exact hn) (W.good k o ho).put t).2 (fun hd => hw k (by omega) (by omega) ⟨o, ho, hd⟩)
      rw [h2]; exact h1
/-! ### the mixed state -/
structure Mix (P : Program) (ops : Array Oper) (X : Nat → Stp) (φ₀ : Emb) (T : Nat → Prop) (w₀ : World) (L : Nat → Prop) (φ : Emb) (a : Act) (w : World) : Prop where
  ext : Ext φ₀ φ
  out : ∀ b, φ b = φ₀ b ∨ ∃ i, i < ops.size ∧ L i ∧ (X i).s.next ≤ b ∧ b < (X (i + 1)).s.next
  blk : ∀ b i, φ b = some i → i.blk < w.heap.size
  inj : ∀ b₁ b₂ i₁ i₂, φ b₁ = some i₁ → φ b₂ = some i₂ → i₁.blk = i₂.blk → i₁.cls = i₂.cls ∧ i₁.sh + i₂.st = i₂.sh + i₁.st
  al : ∀ b i, φ b = some i → True
  glob : Glob P φ
  root : ∀ b i, φ b = some i → i.cls = b → i.sh = 0
  obj : ∀ c, (T c ∨ (X 0).s.next ≤ c) → ∀ k, k ≤ ops.size → (∀ i, i < k → (X i).B.w.testBit c = true → L i) → (∀ i, k ≤ i → i < ops.size → (X i).B.w.testBit c = true → ¬ L i) →
    ∀ b o, (X k).s.heap.get b = some o → live o = true → clsOf b o = c → ∃ i o', φ b = some i ∧ w.heap[i.blk]? = some o' ∧ ORel P φ ((X k).s.fz.get c) b i o o'
  img : ∀ b i, φ b = some i → i.blk < w₀.heap.size → ∃ b₀ i₀, φ₀ b₀ = some i₀ ∧ i₀.blk = i.blk ∧ i₀.cls = i.cls
  size : w₀.heap.size ≤ w.heap.size
  same : ∀ k, k < w₀.heap.size → (∀ b i, φ₀ b = some i → i.blk = k → (X ops.size).s.w.testBit i.cls = false) → w.heap[k]? = w₀.heap[k]?
  os : w.os = w₀.os
  tape : w.tape = w₀.tape
  output : w.output = w₀.output
  sz : a.tmps.size = (X 0).f.n
  tmps : ∀ t k, k ≤ ops.size → (∀ i, i < k → Dst ops i t → L i) → (∀ i, k ≤ i → i < ops.size → Dst ops i t → ¬ L i) → VRel φ (((X k).f.tmps.get t).getD undef) (a.tmps.getD t undef)
  defers : DRels φ (X 0).f.defers a.defers
theorem Mix.start (W : Way P call ops X) (H : Path P ops X) (hI : Inv (X 0).s) {φ : Emb} {T : Nat → Prop} {w : World} {a : Act} {k : Nat} (hf : FRel φ (X 0).f a) (hr : Rel P φ T (X 0).s w) :
    Mix P ops X φ T w (fun _ => False) φ a { w with drawn := k } where
  ext := fun _ _ h => h
  out := fun _ => .inl rfl
  blk := hr.blk
  inj := hr.inj
  al := hr.al
  glob := hr.glob
  root := hr.root
  obj := fun c hc k hk h1 _ b o hb hl hcl => by
    have hz : ∀ m, 0 ≤ m → m < k → (X m).B.w.testBit c = false := fun m _ hm => by
      cases hh : (X m).B.w.testBit c with
      | false => rfl
      | true => exact absurd hh (fun hh => h1 m hm hh)
    obtain ⟨e1, e2⟩ := H.agree W (Nat.zero_le k) hk hz
    have hb0 := e2 b o hb hcl
    have hlt := (hI.lt _ _ hb0).2
    obtain ⟨i, o', g1, g2, g3⟩ := hr.obj b o hb0 hl (by rw [hcl]; exact hc.resolve_right (by omega))
    exact ⟨i, o', g1, g2, by rw [e1]; rw [hcl] at g3; exact g3⟩
  img := fun b i hb _ => ⟨b, i, hb, rfl, rfl⟩
  size := Nat.le_refl _
  same := fun _ _ _ => rfl
  os := rfl
  tape := rfl
  output := rfl
  sz := hf.size
  tmps := fun t k hk h1 _ => by
    rw [W.slotAt hf.few (Nat.zero_le k) hk fun m _ hm hd => h1 m hm hd]
    exact hf.tmps t
  defers := hf.defers
theorem Mix.finish (W : Way P call ops X) (H : Path P ops X) {φ₀ φ : Emb} {T : Nat → Prop} {w₀ w : World} {a : Act} {L : Nat → Prop} (hn : (X 0).f.n ≤ 1000000) (hL : ∀ i, i < ops.size → L i) (h : Mix P ops X φ₀ T w₀ L φ a w) :
    Post P φ₀ T (X 0).s (X ops.size).s w₀ w φ ∧ FRel φ (X ops.size).f a := by
  refine ⟨⟨h.ext, fun b hb => ?_, ⟨h.blk, h.inj, fun b o hb hl hT => ?_, h.al, h.glob, h.root⟩, h.img, h.size, h.same, h.os, h.tape, h.output⟩, ?_, ?_, ?_, ?_⟩
  · rcases h.out b with h1 | ⟨i, h1, _, h3, h4⟩
    · exact h1
    · have := H.le W (Nat.zero_le i) (Nat.le_of_lt h1)
      have := H.le W (show i + 1 ≤ ops.size by omega) (Nat.le_refl _)
      omega
  · exact h.obj _ (hT.imp id fun hh => hh.1) ops.size (Nat.le_refl _) (fun i hi _ => hL i hi) (fun i h1 h2 => by omega) b o hb hl rfl
  · rw [(W.n ops.size (Nat.le_refl _)).1]; exact h.sz
  · rw [(W.n ops.size (Nat.le_refl _)).1]; exact hn
  · intro t; exact h.tmps t ops.size (Nat.le_refl _) (fun i hi _ => hL i hi) (fun i h1 h2 => by omega)
  · rw [(W.n ops.size (Nat.le_refl _)).2]; exact h.defers
end
end Go.EvL

namespace Go.EvL
open Go
section
variable {P : Program} {call : CallF} {ops : Array Oper} {X : Nat → Stp}
/-! an activation of which only some slots are kept -/
def onlyAct (l : List Tmp) (a : Act) : Act := ⟨Array.ofFn (n := a.tmps.size) fun i => if i.val ∈ l then a.tmps.getD i.val undef else undef, []⟩
theorem onlyAct_get (l : List Tmp) (a : Act) (t : Nat) : (onlyAct l a).tmps.getD t undef = if t ∈ l then a.tmps.getD t undef else undef := by
  unfold onlyAct
  by_cases h : t < a.tmps.size
  · rw [Array.getD_eq_getD_getElem?, Array.getElem?_ofFn, dif_pos h]; rfl
  · have h2 : a.tmps.getD t undef = undef := by rw [Array.getD_eq_getD_getElem?, Array.getElem?_eq_none (Nat.le_of_not_lt h)]; rfl
    rw [Array.getD_eq_getD_getElem?, Array.getElem?_ofFn, dif_neg h, h2]
    simp
theorem onlyAct_size (l : List Tmp) (a : Act) : (onlyAct l a).tmps.size = a.tmps.size := by unfold onlyAct; simp
theorem onlyT_get (t : Tr Value) (l : List Tmp) (hl : ∀ x ∈ l, Fits x ∨ t.get x = none) (x : Nat) : (onlyT t l).get x = if x ∈ l then t.get x else none := by
  induction l with
  | nil => show (Tr.nil : Tr Value).get x = _; rw [Tr.get_nil]; simp
  | cons y l ih =>
    have ih' := ih fun x hx => hl x (List.mem_cons_of_mem _ hx)
    show (Option.rec (onlyT t l) (fun v => forceT (onlyT t l) fun ih => Tr.set v 40 ih y) (t.get y) : Tr Value).get x = _
    cases hg : t.get y with
    | none =>
      show (onlyT t l).get x = _
      rw [ih']
      by_cases hx : x = y
      · subst hx; rw [hg]; simp
      · simp [hx]
    | some v =>
      show (forceT (onlyT t l) fun ih => Tr.set v 40 ih y).get x = _
      have hf : Fits y := (hl y List.mem_cons_self).resolve_right (by rw [hg]; simp)
      rw [forceT_eq, Tr.get_set _ _ _ _ hf, ih']
      by_cases hx : x = y
      · subst hx; rw [if_pos rfl, hg]; simp
      · rw [if_neg hx]; simp [hx]
theorem onlyFr_eq (l : List Tmp) (f : Fr) : onlyFr l f = ⟨onlyT f.tmps l, f.n, []⟩ := by cases f; unfold onlyFr; simp only [forceT_eq]
/-- the frame and the activation, restricted -/
theorem only_rel {φ : Emb} {f : Fr} {a : Act} {l : List Tmp} (hs : a.tmps.size = f.n) (hn : f.n ≤ 1000000) (hfit : ∀ x ∈ l, Fits x ∨ f.tmps.get x = none) (h : ∀ t ∈ l, VRel φ ((f.tmps.get t).getD undef) (a.tmps.getD t undef)) : FRel φ (onlyFr l f) (onlyAct l a) := by
  rw [onlyFr_eq]
  refine ⟨by rw [onlyAct_size]; exact hs, hn, fun t => ?_, .nil⟩
  show VRel φ (((onlyT f.tmps l).get t).getD undef) _
  rw [onlyT_get _ _ hfit, onlyAct_get]
  by_cases ht : t ∈ l
  · rw [if_pos ht, if_pos ht]; exact h t ht
  · rw [if_neg ht, if_neg ht]; exact undef_rel φ
theorem only_eval {o : Oper} {a : Act} {x : Operand} (hx : x ∈ o.op.operands) : (onlyAct (o.looksAt ops) a).eval x = a.eval x := by
  cases x with
  | tmp t =>
    show (onlyAct (o.looksAt ops) a).tmps.getD t undef = a.tmps.getD t undef
    have hm : t ∈ o.looksAt ops := List.mem_append_left _ (List.mem_filterMap.2 ⟨Operand.tmp t, by simpa using hx, rfl⟩)
    rw [onlyAct_get, if_pos hm]
  | const v => rfl
  | global g => rfl
  | func g => rfl
theorem yield_only {o : Oper} {a : Act} {j : Nat} {b : Bool} (hg : o.guard = some (j, b)) : yielded ops (onlyAct (o.looksAt ops) a).tmps j = yielded ops a.tmps j := by
  unfold yielded
  cases ht : (ops[j]?).bind (·.dst) with
  | none => rfl
  | some t =>
    have hm : t ∈ o.looksAt ops := List.mem_append_right _ (by rw [hg]; simp [ht])
    rw [Option.bind_some, Option.bind_some]
    have h1 := onlyAct_get (o.looksAt ops) a t
    rw [if_pos hm] at h1
    have h2 := onlyAct_size (o.looksAt ops) a
    have h3 : (onlyAct (o.looksAt ops) a).tmps[t]? = a.tmps[t]? := by
      by_cases hlt : t < a.tmps.size
      · have hlt' : t < (onlyAct (o.looksAt ops) a).tmps.size := by rw [h2]; exact hlt
        rw [Array.getD_eq_getD_getElem?, Array.getD_eq_getD_getElem?, Array.getElem?_eq_getElem hlt, Array.getElem?_eq_getElem hlt'] at h1
        rw [Array.getElem?_eq_getElem hlt, Array.getElem?_eq_getElem hlt']
        exact congrArg some h1
      · rw [Array.getElem?_eq_none (Nat.le_of_not_lt hlt), Array.getElem?_eq_none (by rw [h2]; exact Nat.le_of_not_lt hlt)]
    rw [h3]
theorem wanted_only (o : Oper) (a : Act) : Region.wanted o (yielded ops (onlyAct (o.looksAt ops) a).tmps) = Region.wanted o (yielded ops a.tmps) := by
  unfold Region.wanted
  cases hg : o.guard with
  | none => rfl
  | some p => obtain ⟨j, b⟩ := p; simp only [yield_only hg]
theorem step_select {f g : Fr} {o : Oper} {A B : AS} {l : List Oper} (h : step1 P call l f o A = .on g B) : wantedA l f o.guard = some false ∨ ∀ cs b, o.op ≠ .select cs b := by
  unfold step1 at h
  split at h
  · refine .inr fun cs b he => ?_
    have hn : evalOp P f o A = none := by unfold evalOp; rw [he]
    rw [hn] at h
    cases h
  · rename_i hw; exact .inl hw
  · cases h
/-- from the restricted activation to the whole -/
theorem opWp_only {o : Oper} {a : Act} {w : World} {K K' : Act → World → Prop} {Q : Exit → Act → World → Prop} (hs : Region.wanted o (yielded ops a.tmps) = false ∨ ∀ cs b, o.op ≠ .select cs b)
    (hv : ∀ v w', K' ((onlyAct (o.looksAt ops) a).put o.dst v) w' → K (a.put o.dst v) w')
    (hd : ∀ d w', ¬ K' (({ onlyAct (o.looksAt ops) a with defers := [d] } : Act).put o.dst undef) w')
    (h : opWp P ops (fun _ _ _ => False) o K' (onlyAct (o.looksAt ops) a) w) : opWp P ops Q o K a w := by
  unfold opWp at h ⊢
  rw [wanted_only] at h
  split
  · rename_i hw
    rw [if_pos hw] at h
    have hs' := hs.resolve_left (by rw [hw]; simp)
    have he : execOp a.eval o = execOp (onlyAct (o.looksAt ops) a).eval o := execOp_congr o hs' fun x hx => (only_eval hx).symm
    unfold Oper.wp at h ⊢
    rw [he]
    generalize (execOp (onlyAct (o.looksAt ops) a).eval o).run P w = r at h ⊢
    cases r with
    | ok n w' =>
      cases n <;> simp only [Oper.upon] at h ⊢
      case value v => exact hv v w' h
      case skip => exact hv undef w' h
      case defer d => exact absurd h (hd d w')
      case enter g args =>
        refine Calls.mono h fun e w'' he => ?_
        cases e with
        | returned v => exact hv v w'' he
        | panicked c => exact he.elim
        | outgrown => obtain ⟨_, _, he⟩ := he; exact he.elim
      case row row args => exact Rows.mono h fun v w'' he => hv v w'' he
    | halt x w' => cases x <;> simp only [Oper.upon] at h ⊢
  · rename_i hw
    rw [if_neg hw] at h
    exact hv undef w h
theorem put_get {a : Act} {d : Option Tmp} {v : Value} (t : Nat) : (a.put d v).tmps.getD t undef = if d = some t ∧ t < a.tmps.size then v else a.tmps.getD t undef := by
  cases d with
  | none => simp [Act.put]
  | some x =>
    show (a.tmps.setIfInBounds x v).getD t undef = _
    simp only [Array.getD_eq_getD_getElem?, Array.getElem?_setIfInBounds, Option.some.injEq]
    by_cases hx : x = t
    · subst hx
      by_cases hlt : x < a.tmps.size
      · simp [hlt]
      · simp [hlt]
    · simp [hx]
theorem put_size {a : Act} {d : Option Tmp} {v : Value} : (a.put d v).tmps.size = a.tmps.size := by cases d <;> simp [Act.put]
theorem put_dfr {a : Act} {d : Option Tmp} {v : Value} : (a.put d v).defers = a.defers := by cases d <;> rfl
end
end Go.EvL

namespace Go.EvL
open Go
section
variable {P : Program} {call : CallF} {ops : Array Oper} {X : Nat → Stp}
theorem closed_add {L : Nat → Prop} (hL : Closed ops L) {i : Nat} {o : Oper} (ho : ops[i]? = some o) (hr : ∀ e ∈ o.after, Region.binds .any e = true → L e.on) : Closed ops fun j => L j ∨ j = i := by
  intro j o' ho' hj e he hb
  rcases hj with hj | rfl
  · exact .inl (hL j o' ho' hj e he hb)
  · rw [ho] at ho'; injection ho' with ho'; subst ho'; exact .inl (hr e he hb)
theorem Mix.step (W : Way P call ops X) (H : Path P ops X) {φ₀ φ : Emb} {T : Nat → Prop} {w₀ w : World} {a : Act} {L : Nat → Prop} (hn : (X 0).f.n ≤ 1000000)
    (hT : Foot (X 0).s (X ops.size).s T) (hfr : Fresh (X 0).s (X ops.size).s φ₀)
    (hL : Closed ops L) {i : Nat} {o : Oper} (ho : ops[i]? = some o) (hLi : ¬ L i) (hr : ∀ e ∈ o.after, Region.binds .any e = true → L e.on) (M : Mix P ops X φ₀ T w₀ L φ a w)
    {K : Act → World → Prop} {Q : Exit → Act → World → Prop} (hK : ∀ φ' a' w', Mix P ops X φ₀ T w₀ (fun j => L j ∨ j = i) φ' a' w' → K a' w') : opWp P ops Q o K a w := by
  have hi := op_lt ho
  have hL' := closed_add hL ho hr
  have g := W.good i o ho
  have hs := H.on i o ho
  have hni : (X i).f.n ≤ 1000000 := by rw [(W.n i (Nat.le_of_lt hi)).1]; exact hn
  obtain ⟨e1, e2, e3, _, _⟩ := Path.heap W hi
  -- what comes before and what comes behind
  have bef : ∀ {c j : Nat}, j < i → ((X i).B.r.testBit c = true ∨ (X i).B.w.testBit c = true) → (X j).B.w.testBit c = true → L j := fun {c j} hj hc hw =>
    (W.cls hL' hj hi (.inr rfl) (.inl ⟨hw, hc⟩)).resolve_right (by omega)
  have beh : ∀ {c j : Nat}, i < j → j < ops.size → ((X i).B.r.testBit c = true ∨ (X i).B.w.testBit c = true) → (X j).B.w.testBit c = true → ¬ L j := fun {c j} hij hj hc hw hLj =>
    hLi (W.cls hL hij hj hLj (hc.elim (fun h => .inr ⟨hw, h⟩) fun h => .inl ⟨h, .inr hw⟩))
  have befS : ∀ {t j : Nat}, j < i → (t ∈ o.looksAt ops ∨ o.dst = some t) → Dst ops j t → L j := fun {t j} hj ht hd => by
    obtain ⟨o', ho', hd⟩ := hd
    exact (W.slot hL' hj ho' ho (.inr rfl) (.inl ⟨hd, ht⟩)).resolve_right (by omega)
  have behS : ∀ {t j : Nat}, i < j → j < ops.size → (t ∈ o.looksAt ops ∨ o.dst = some t) → Dst ops j t → ¬ L j := fun {t j} hij hj ht hd hLj => by
    obtain ⟨o', ho', hd⟩ := hd
    exact hLi (W.slot hL hij ho ho' hLj (ht.elim (fun h => .inr ⟨hd, h⟩) fun h => .inl ⟨h, .inr hd⟩))
  -- the footprint
  have hrel : Rel P φ (fun c => ((X i).B.r.testBit c = true ∨ (X i).B.w.testBit c = true) ∧ c < (X i).s.next) (clearRW (X i).s) w := by
    refine ⟨M.blk, M.inj, fun b x hb hl hc => ?_, M.al, M.glob, M.root⟩
    rw [clearRW_eq] at hb ⊢
    refine M.obj _ ?_ i (Nat.le_of_lt hi) (fun j hj hw => bef hj hc.1 hw) (fun j hij hj hw => ?_) b x hb hl rfl
    · by_cases h0 : (X 0).s.next ≤ clsOf b x
      · exact .inr h0
      · have hbits := Path.bits W hi (c := clsOf b x) hi (Nat.le_refl _)
        exact .inl (hT _ (by omega) (hc.1.imp hbits.2 hbits.1))
    · by_cases he : j = i
      · rw [he]; exact hLi
      · exact beh (by omega) hj hc.1 hw
  have hfoot : Foot (clearRW (X i).s) (X i).B (fun c => ((X i).B.r.testBit c = true ∨ (X i).B.w.testBit c = true) ∧ c < (X i).s.next) := by
    intro c hc hb
    rw [clearRW_next] at hc
    exact ⟨hb, hc⟩
  have hfresh : Fresh (clearRW (X i).s) (X i).B φ := by
    intro b h1 h2
    rw [clearRW_next] at h1
    rw [← e3] at h2
    have l1 := H.le W (Nat.zero_le i) (Nat.le_of_lt hi)
    have l2 := H.le W (show i + 1 ≤ ops.size by omega) (Nat.le_refl _)
    rcases M.out b with h | ⟨j, hj, hLj, h3, h4⟩
    · rw [h]; exact hfr b (by omega) (by omega)
    · exfalso
      rcases Nat.lt_trichotomy i j with hij | hij | hij
      · have := H.le W (show i + 1 ≤ j by omega) (by omega); omega
      · rw [hij] at hLi; exact hLi hLj
      · have := H.le W (show j + 1 ≤ i by omega) (by omega); omega
  have hframe : FRel φ (onlyFr (o.looksAt ops) (X i).f) (onlyAct (o.looksAt ops) a) := by
    refine only_rel (by rw [M.sz, (W.n i (Nat.le_of_lt hi)).1]) hni (fun x hx => .inl ?_) fun t ht => M.tmps t i (Nat.le_of_lt hi) (fun j hj hd => befS hj (.inl ht) hd) fun j hij hj hd => ?_
    · trivial
    · by_cases he : j = i
      · rw [he]; exact hLi
      · exact behS (by omega) hj (.inl ht) hd
  have hsel : Region.wanted o (yielded ops a.tmps) = false ∨ ∀ cs b, o.op ≠ .select cs b := by
    rcases g.step.elim step_select And.right with h | h
    · left
      rw [← wanted_only]
      exact wanted_ok hframe h
    · exact .inr h
  have hgd : (X i).g.defers = [] := (drawPut_n g.put).2.2
  refine opWp_only (K' := fun a'' w'' => ∃ φ', Post P φ (fun c => ((X i).B.r.testBit c = true ∨ (X i).B.w.testBit c = true) ∧ c < (X i).s.next) (clearRW (X i).s) (X i).B w w'' φ' ∧ FRel φ' (X i).g a'') hsel ?_ ?_
    (hs.run φ _ w _ hframe hrel hfoot hfresh _ _ fun φ' w' a' hp hf => ⟨φ', hp, hf⟩)
  · rintro v w' ⟨φ', hp, hf⟩
    refine hK φ' _ w' ⟨?_, ?_, hp.rel.blk, hp.rel.inj, hp.rel.al, hp.rel.glob, hp.rel.root, ?_, ?_, ?_, ?_, ?_, ?_, ?_, ?_, ?_, ?_⟩
    · exact fun b j hb => hp.ext b j (M.ext b j hb)
    · intro b
      by_cases hb : b < (X i).s.next ∨ (X i).B.next ≤ b
      · rw [hp.out b (by rw [clearRW_next]; exact hb)]
        rcases M.out b with h | ⟨j, h1, h2, h3⟩
        · exact .inl h
        · exact .inr ⟨j, h1, .inl h2, h3⟩
      · exact .inr ⟨i, hi, .inr rfl, by omega, by rw [e3]; omega⟩
    · intro c hc k hk h1 h2 b x hb hl hcl
      by_cases hw : (X i).B.w.testBit c = true
      · -- written by this operation
        have hik : i < k := by
          rcases Nat.lt_or_ge i k with h | h
          · exact h
          · exact absurd (.inr rfl) (h2 i h hi hw)
        have hz : ∀ m, i + 1 ≤ m → m < k → (X m).B.w.testBit c = false := fun m hm hmk => by
          cases hh : (X m).B.w.testBit c with
          | false => rfl
          | true => exact absurd ((h1 m hmk hh).resolve_right (by omega)) (beh (by omega) (by omega) (.inr hw) hh)
        obtain ⟨a1, a2⟩ := H.agree W (show i + 1 ≤ k by omega) hk hz
        have hb1 := a2 b x hb hcl
        rw [e1] at hb1
        rw [a1, e2]
        have hcn : c < (X i).B.next := by
          rcases (H.fr i hi).wb c hw with h | h
          · rw [clearRW_eq] at h; simp at h
          · exact h
        have := hp.rel.obj b x hb1 hl (by
          rw [hcl, clearRW_next]
          by_cases hlt : c < (X i).s.next
          · exact .inl ⟨.inr hw, hlt⟩
          · exact .inr ⟨by omega, hcn⟩)
        rw [hcl] at this
        exact this
      · have hw' : (X i).B.w.testBit c = false := by simpa using hw
        obtain ⟨j, x', g1, g2, g3⟩ := M.obj c hc k hk (fun m hm hh => (h1 m hm hh).resolve_right (fun he => hw (he ▸ hh))) (fun m a1 a2 hh hl => h2 m a1 a2 hh (.inl hl)) b x hb hl hcl
        refine ⟨j, x', hp.ext _ _ g1, ?_, g3.mono hp.ext fun h hh => ⟨h, hh, Nat.le_refl _⟩⟩
        rw [hp.same j.blk (M.blk _ _ g1) fun b' i' hb' he => ?_]
        · exact g2
        · rw [(M.inj _ _ _ _ hb' g1 he).1, g3.cls, hcl]; exact hw'
    · intro b j hb hlt
      obtain ⟨b1, j1, g1, g2, g3⟩ := hp.img b j hb (Nat.lt_of_lt_of_le hlt M.size)
      obtain ⟨b0, j0, k1, k2, k3⟩ := M.img b1 j1 g1 (by rw [g2]; exact hlt)
      exact ⟨b0, j0, k1, k2.trans g2, k3.trans g3⟩
    · exact Nat.le_trans M.size hp.size
    · intro k hk hw
      rw [hp.same k (Nat.lt_of_lt_of_le hk M.size) fun b j hb he => ?_]
      · exact M.same k hk hw
      · obtain ⟨b0, j0, k1, k2, k3⟩ := M.img b j hb (by rw [he]; exact hk)
        have := hw b0 j0 k1 (k2.trans he)
        rw [k3] at this
        exact bfalse (Path.bits W hi hi (Nat.le_refl _)).1 this
    · exact hp.os.trans M.os
    · exact hp.tape.trans M.tape
    · exact hp.output.trans M.output
    · rw [put_size]; exact M.sz
    · intro t k hk h1 h2
      rw [put_get]
      by_cases hd : o.dst = some t
      · have hD : Dst ops i t := ⟨o, ho, hd⟩
        have hik : i < k := by
          rcases Nat.lt_or_ge i k with h | h
          · exact h
          · exact absurd (.inr rfl) (h2 i h hi hD)
        have hz : ∀ m, i + 1 ≤ m → m < k → ¬ Dst ops m t := fun m hm hmk hh =>
          behS (by omega) (by omega) (.inr hd) hh ((h1 m hmk hh).resolve_right (by omega))
        rw [W.slotAt hn (show i + 1 ≤ k by omega) hk hz]
        obtain ⟨hlt, hget⟩ := (drawPut_at hni g.put t).1 hd
        rw [(W.n i (Nat.le_of_lt hi)).1] at hlt
        rw [hget, if_pos ⟨hd, by rw [M.sz]; exact hlt⟩]
        have := hf.tmps t
        rw [put_get, if_pos ⟨hd, by rw [onlyAct_size, M.sz]; exact hlt⟩] at this
        exact this
      · rw [if_neg (fun h => hd h.1)]
        have hnD : ¬ Dst ops i t := fun ⟨o', h3, h4⟩ => by rw [ho] at h3; injection h3 with h3; subst h3; exact hd h4
        exact (M.tmps t k hk (fun m hm hh => (h1 m hm hh).resolve_right (fun he => hnD (he ▸ hh))) (fun m a1 a2 hh hl => h2 m a1 a2 hh (.inl hl))).mono hp.ext
    · rw [put_dfr]; exact M.defers.mono hp.ext
  · rintro d w' ⟨φ', _, hf⟩
    have := hf.defers
    rw [hgd, put_dfr] at this
    cases this
end
end Go.EvL

namespace Go.EvL
open Go
section
variable {P : Program} {call : CallF} {ops : Array Oper} {X : Nat → Stp}
def cnt (p : Nat → Bool) : Nat → Nat
  | 0 => 0
  | n + 1 => cnt p n + if p n then 1 else 0
theorem cnt_congr {p q : Nat → Bool} : ∀ n, (∀ j, j < n → q j = p j) → cnt q n = cnt p n := by
  intro n
  induction n with
  | zero => intro _; rfl
  | succ n ih => intro h; simp only [cnt]; rw [ih fun j hj => h j (by omega), h n (by omega)]
theorem cnt_drop {p q : Nat → Bool} {i : Nat} (hp : p i = true) (hq : q i = false) (h : ∀ j, j ≠ i → q j = p j) : ∀ n, i < n → cnt q n + 1 = cnt p n := by
  intro n
  induction n with
  | zero => intro h; omega
  | succ n ih =>
    intro hi
    simp only [cnt]
    by_cases he : i = n
    · subst he
      rw [cnt_congr i fun j hj => h j (by omega), hp, hq]
      simp
    · rw [h n (fun e => he e.symm)]
      have := ih (by omega)
      omega
theorem cnt_zero {p : Nat → Bool} : ∀ n, cnt p n = 0 → ∀ j, j < n → p j = false := by
  intro n
  induction n with
  | zero => intro _ j hj; omega
  | succ n ih =>
    intro h j hj
    simp only [cnt] at h
    by_cases he : j = n
    · subst he
      cases hp : p j with
      | false => rfl
      | true => rw [hp] at h; simp at h
    · exact ih (by omega) j (by omega)
def On (listed : Array Bool) (i : Nat) : Prop := listed.getD i false = true
theorem on_set {listed : Array Bool} {i : Nat} (hi : i < listed.size) (j : Nat) : On (listed.setIfInBounds i true) j ↔ On listed j ∨ j = i := by
  unfold On
  simp only [Array.getD_eq_getD_getElem?, Array.getElem?_setIfInBounds]
  by_cases h : i = j
  · subst h; simp [hi]
  · simp [h]; exact fun e => absurd e.symm h
theorem not_on {listed : Array Bool} {i : Nat} (hi : i < listed.size) : listed.getD i true = false ↔ ¬ On listed i := by
  unfold On
  simp only [Array.getD_eq_getD_getElem?, Array.getElem?_eq_getElem hi, Option.getD_some]
  cases listed[i] <;> simp
theorem all_on (W : Way P call ops X) {listed : Array Bool} (hs : listed.size = ops.size) (hr : Region.ready .any ops listed = []) : ∀ i, i < ops.size → On listed i := by
  intro i
  induction i using Nat.strongRecOn with
  | _ i ih =>
    intro hi
    obtain ⟨o, ho⟩ := op_at hi
    by_cases hon : On listed i
    · exact hon
    · exfalso
      have : i ∈ Region.ready .any ops listed := by
        rw [mem_ready]
        refine ⟨(not_on (by omega)).2 hon, o, ho, fun e he hb => ?_⟩
        have hl := (W.good i o ho).low
        unfold edgesLow at hl
        rw [List.all_eq_true] at hl
        have := hl e (by simpa using he)
        rw [hb] at this
        have hlt : e.on < i := Nat.le_of_ble_eq_true (by simpa using this)
        exact ih e.on hlt (by omega)
      rw [hr] at this
      cases this
theorem wpAny_of (W : Way P call ops X) (H : Path P ops X) {φ₀ : Emb} {T : Nat → Prop} {w₀ : World} (hn : (X 0).f.n ≤ 1000000) (hT : Foot (X 0).s (X ops.size).s T) (hfr : Fresh (X 0).s (X ops.size).s φ₀) {Q : Exit → Act → World → Prop}
    (hQ : ∀ φ' w' a', Post P φ₀ T (X 0).s (X ops.size).s w₀ w' φ' → FRel φ' (X ops.size).f a' → Q .normal a' w') :
    ∀ (fuel : Nat) (listed : Array Bool) (φ : Emb) (a : Act) (w : World) (L : Nat → Prop), listed.size = ops.size → (∀ j, L j ↔ On listed j) → Closed ops L → cnt (fun j => !listed.getD j false) ops.size ≤ fuel → Mix P ops X φ₀ T w₀ L φ a w →
      wpAny P .any ops Q fuel listed a w := by
  intro fuel
  have done : ∀ (listed : Array Bool) (φ : Emb) (a : Act) (w : World) (L : Nat → Prop), (∀ j, L j ↔ On listed j) → (∀ i, i < ops.size → On listed i) → Mix P ops X φ₀ T w₀ L φ a w → Q .normal a w := fun listed φ a w L hLo hall M => by
    obtain ⟨h1, h2⟩ := Mix.finish W H hn (fun i hi => (hLo i).2 (hall i hi)) M
    exact hQ φ w a h1 h2
  induction fuel with
  | zero =>
    intro listed φ a w L hs hLo _ hc M
    have hall : ∀ i, i < ops.size → On listed i := fun i hi => by
      have := cnt_zero _ (Nat.le_zero.1 hc) i hi
      simpa [On] using this
    refine ⟨?_, done listed φ a w L hLo hall M⟩
    cases hr : Region.ready .any ops listed with
    | nil => rfl
    | cons i l =>
      have hm : i ∈ Region.ready .any ops listed := by rw [hr]; exact List.mem_cons_self
      obtain ⟨h0, o, ho, _⟩ := mem_ready.1 hm
      exact absurd (hall i (op_lt ho)) ((not_on (by rw [hs]; exact op_lt ho)).1 h0)
  | succ fuel ih =>
    intro listed φ a w L hs hLo hcl hc M
    refine ⟨fun hr => done listed φ a w L hLo (all_on W hs hr) M, fun i hm => ?_⟩
    obtain ⟨h0, o, ho, hall⟩ := mem_ready.1 hm
    have hi := op_lt ho
    have hnot := (not_on (by rw [hs]; exact hi)).1 h0
    have hr : ∀ e ∈ o.after, Region.binds .any e = true → L e.on := fun e he hb => (hLo _).2 (hall e he hb)
    have key : opWp P ops Q o (wpAny P .any ops Q fuel (listed.setIfInBounds i true)) a w := by
      refine M.step W H hn hT hfr hcl ho (fun h => hnot ((hLo i).1 h)) hr fun φ' a' w' M' => ?_
      refine ih (listed.setIfInBounds i true) φ' a' w' (fun j => L j ∨ j = i) (by simp [hs]) (fun j => ?_) (closed_add hcl ho hr) ?_ M'
      · rw [on_set (by rw [hs]; exact hi), hLo]
      · have := cnt_drop (p := fun j => !listed.getD j false) (q := fun j => !(listed.setIfInBounds i true).getD j false) (i := i) (by simpa [On] using hnot)
          (by have := (on_set (listed := listed) (by rw [hs]; exact hi) i).2 (.inr rfl); unfold On at this; simp only [this]; rfl)
          (fun j hj => by simp only [getD_set_ne false (Ne.symm hj)]) ops.size hi
        omega
    unfold wpOp
    rw [ho]
    unfold opWp at key
    split at key
    · rename_i hw; simp only [hw, if_true]; exact .inl key
    · rename_i hw; simp only [hw]; exact key
theorem Way.path (hO : OpsOK P) (hOm : OpMono P) (hC : CallOK P call) (hM : CallMono call) (W : Way P call ops X) (hI : Inv (X 0).s) (hn : (X ops.size).s.next ≤ (X ops.size).s.next) : Path P ops X := by
  have hmono : ∀ i, i < ops.size → (X i).s.next ≤ (X (i + 1)).s.next := fun i hi => by
    obtain ⟨o, ho⟩ := op_at hi
    have : (clearRW (X i).s).next ≤ (X i).B.next := (W.good i o ho).step.elim (fun h => step_mono hOm hM (v := undef) (.inl h)) fun h => h.1.fr.next
    rw [clearRW_next] at this
    rw [(W.good i o ho).s, joinRW_next]
    exact this
  have hle : ∀ k i, i + k ≤ ops.size → (X i).s.next ≤ (X (i + k)).s.next := by
    intro k
    induction k with
    | zero => intro i _; exact Nat.le_refl _
    | succ k ih => intro i h; exact Nat.le_trans (ih i (by omega)) (hmono (i + k) (by omega))
  have key : ∀ i, i ≤ ops.size → Inv (X i).s := by
    intro i
    induction i with
    | zero => intro _; exact hI
    | succ i ih =>
      intro hi
      obtain ⟨o, ho⟩ := op_at (show i < ops.size by omega)
      have g := W.good i o ho
      have hb : (X i).B.next ≤ (X i).B.next := by
        have h1 := hle (ops.size - (i + 1)) (i + 1) (by omega)
        rw [show i + 1 + (ops.size - (i + 1)) = ops.size by omega, g.s, joinRW_next] at h1
        omega
      have hs := g.step.elim (fun h => step_on hO hC hM (inv_clear (ih (by omega))) hb h) And.left
      rw [g.s]
      exact (join_fr hs.fr).inv
  have hon : ∀ i o, ops[i]? = some o → StepOn P ops o (onlyFr (o.looksAt ops) (X i).f) (clearRW (X i).s) (X i).g (X i).B := fun i o ho => by
    have hi := op_lt ho
    have g := W.good i o ho
    have hb : (X i).B.next ≤ (X i).B.next := by
      have h1 := hle (ops.size - (i + 1)) (i + 1) (by omega)
      rw [show i + 1 + (ops.size - (i + 1)) = ops.size by omega, g.s, joinRW_next] at h1
      omega
    exact g.step.elim (fun h => step_on hO hC hM (inv_clear (key i (Nat.le_of_lt hi))) hb h) And.left
  exact ⟨fun i hi => by obtain ⟨o, ho⟩ := op_at hi; exact (hon i o ho).fr, hon⟩
theorem Path.all (W : Way P call ops X) (H : Path P ops X) (hI : Inv (X 0).s) : ∀ i, i ≤ ops.size → AFr (X 0).s (X i).s := by
  intro i
  induction i with
  | zero => intro _; exact .refl hI
  | succ i ih => intro hi; exact (ih (by omega)).trans (H.fr' W (by omega))
/-- a region that draws, out of its way in text order -/
theorem drawC (hm : P.follows .mixedOrders = true) (W : Way P call ops X) (H : Path P ops X) (hI : Inv (X 0).s) (id : Nat) : CSound P (.region id ops true) (X 0).f (X 0).s .normal (X ops.size).f (X ops.size).s := by
  refine ⟨H.all W hI _ (Nat.le_refl _), fun φ T w a hf hr hT hfr Q hQ => ?_⟩
  refine wp_region_any hm (wpAny_of W H hf.few hT hfr (w₀ := w) (fun φ' w' a' hp hf' => hQ φ' w' a' _ hp hf' .normal) ops.size _ φ a _ (fun _ => False) (by simp) (fun j => ?_) (fun _ _ _ hh => hh.elim) ?_ (Mix.start W H hI hf hr))
  · unfold On
    refine ⟨fun h => h.elim, fun h => ?_⟩
    simp only [Array.getD_eq_getD_getElem?, Array.getElem?_replicate] at h
    split at h <;> simp at h
  · have : ∀ (p : Nat → Bool) n, cnt p n ≤ n := by
      intro p n
      induction n with
      | zero => exact Nat.le_refl _
      | succ n ih => simp only [cnt]; split <;> omega
    exact this _ _
theorem drawOK (hm : P.follows .mixedOrders = true) (hO : OpsOK P) (hOm : OpMono P) (hC : CallOK P call) (hM : CallMono call) : DrawOK P call := by
  intro id ops f A x f' A' hI hn h
  rcases exOf_some h with ⟨h1, rfl⟩ | ⟨v, h1, _⟩
  · obtain ⟨X, e1, e2, e3, e4, e5, e6, e7⟩ := trace _ _ _ _ _ _ _ _ h1
    simp only [Nat.zero_add, Array.length_toList] at e5 e6 e7
    have W : Way P call ops X := ⟨e3, e4, fun i o ho => e7 i o (by simpa using ho)⟩
    subst e1; subst e2; subst e5; subst e6
    have H := W.path hO hOm hC hM hI hn
    refine ⟨H.all W hI _ (Nat.le_refl _), fun φ T w a hf hr hT hfr Q hQ => ?_⟩
    refine wp_region_any hm (wpAny_of W H hf.few hT hfr (w₀ := w) (fun φ' w' a' hp hf' => hQ φ' w' a' _ hp hf' .normal) ops.size _ φ a _ (fun _ => False) (by simp) (fun j => ?_) (fun _ _ _ hh => hh.elim) ?_ (Mix.start W H hI hf hr))
    · unfold On
      refine ⟨fun h => h.elim, fun h => ?_⟩
      simp only [Array.getD_eq_getD_getElem?, Array.getElem?_replicate] at h
      split at h <;> simp at h
    · have : ∀ (p : Nat → Bool) n, cnt p n ≤ n := by
        intro p n
        induction n with
        | zero => exact Nat.le_refl _
        | succ n ih => simp only [cnt]; split <;> omega
      exact this _ _
  · exact absurd h1 (runDraw_up _ _ _ _ _ _ _ _ _ _)
end
end Go.EvL

namespace Go.EvL
open Go
section
variable {P : Program} {call : CallF}
/-- the caller's mode while a deferred function runs -/
inductive UIn (φ : Emb) : Option Value → FrameMode → Prop
  | ret : UIn φ none .returning
  | panic (v v' : Value) (h : VRel φ v v') : UIn φ (some v) (.panicking [{ v := v', recovered := false }])
  | done (v' : Value) : UIn φ none (.panicking [{ v := v', recovered := true }])
theorem UIn.mono {φ φ' : Emb} (he : Ext φ φ') {u : Option Value} {m : FrameMode} (h : UIn φ u m) : UIn φ' u m := by
  cases h with
  | ret => exact .ret
  | panic v v' h => exact .panic v v' (h.mono he)
  | done v' => exact .done v'
theorem URel.inn {φ : Emb} {u : Option Value} {m : FrameMode} (h : URel φ u m) : UIn φ u m := by
  cases h with
  | ret => exact .ret
  | panic v v' h => exact .panic v v' h
theorem UIn.settle {φ : Emb} {u : Option Value} {m : FrameMode} (h : UIn φ u m) : URel φ u (settle m) := by
  cases h with
  | ret => exact .ret
  | panic v v' h => exact .panic v v' h
  | done v' => exact .ret
def opS (P : Program) (ops : Array Oper) (Q : Exit → Act → List Frame → World → Prop) (o : Oper) (K : Act → List Frame → World → Prop) (a : Act) (cs : List Frame) (w : World) : Prop :=
  if Region.wanted o (yielded ops a.tmps) then
    match (execOp a.eval o).run P w with
    | .ok .recover w' =>
      match recoverD cs with
      | some (v, cs') => K (a.put o.dst v) cs' w'
      | none => K (a.put o.dst .nilIface) cs w'
    | r => o.upon P a (fun a' w' => K a' cs w') (fun e a' w' => Q e a' cs w') r
  else K (a.put o.dst undef) cs w
def wpListS (P : Program) (ops : Array Oper) (Q : Exit → Act → List Frame → World → Prop) : List Oper → Act → List Frame → World → Prop
  | [], a, cs, w => Q .normal a cs w
  | o :: l, a, cs, w => opS P ops Q o (wpListS P ops Q l) a cs w
theorem upon_mono {o : Oper} {a : Act} {K K' : Act → World → Prop} {Q : Exit → Act → World → Prop} (h : ∀ a w, K a w → K' a w) {r : Result Next} (hh : o.upon P a K Q r) : o.upon P a K' Q r := by
  cases r with
  | ok n w' =>
    cases n <;> simp only [Oper.upon] at hh ⊢ <;>
      first
        | exact h _ _ hh
        | exact Calls.mono hh (fun e w'' he => by cases e <;> first | exact h _ _ he | exact he)
        | exact Rows.mono hh (fun _ _ he => h _ _ he)
  | halt x w' => cases x <;> simp only [Oper.upon] at hh ⊢ <;> exact hh
theorem wpOpsS_of_list {ops : Array Oper} {Q : Exit → Act → List Frame → World → Prop} : ∀ (l : List Oper) (k : Nat) (a : Act) (cs : List Frame) (w : World), ops.toList.drop k = l → wpListS P ops Q l a cs w → wpOpsS P ops Q (List.range' k l.length) a cs w := by
  intro l
  induction l with
  | nil => intro k a cs w _ h; exact h
  | cons o l ih =>
    intro k a cs w hd h
    have hk : ops[k]? = some o := by
      have : (ops.toList.drop k)[0]? = some o := by rw [hd]; rfl
      simpa using this
    have hd' : ops.toList.drop (k + 1) = l := by rw [← List.drop_drop (i := 1) (j := k), hd]; rfl
    have ih' := fun a cs w => ih (k + 1) a cs w hd'
    rw [List.length_cons, List.range'_succ]
    unfold wpListS opS at h
    simp only [wpOpsS, hk]
    split
    · rename_i hw
      rw [if_pos hw] at h
      split
      · rename_i w' hr
        rw [hr] at h
        simp only at h
        split
        · rename_i v cs' hrec; rw [hrec] at h; exact ih' _ _ _ h
        · rename_i hrec; rw [hrec] at h; exact ih' _ _ _ h
      · rename_i r hne
        generalize hr : (execOp a.eval o).run P w = r' at h hne ⊢
        split at h
        · exact absurd rfl (hne _)
        · exact upon_mono (fun a' w' => ih' a' cs w') h
    · rename_i hw
      rw [if_neg hw] at h
      exact ih' _ _ _ h
theorem opS_of {ops : Array Oper} {Q : Exit → Act → List Frame → World → Prop} {o : Oper} {K : Act → List Frame → World → Prop} {a : Act} {cs : List Frame} {w : World} (h : opWp P ops (fun e a' w' => Q e a' cs w') o (fun a' w' => K a' cs w') a w) : opS P ops Q o K a cs w := by
  unfold opWp at h
  unfold opS
  split at h
  · rename_i hw
    rw [if_pos hw]
    unfold Oper.wp at h
    generalize (execOp a.eval o).run P w = r at h ⊢
    split
    · exact h.elim
    · exact h
  · rename_i hw
    rw [if_neg hw]
    exact h
theorem runOpsD_sound (hO : OpsOK P) (hOm : OpMono P) (hC : CallOK P call) (hM : CallMono call) {ops : Array Oper} : ∀ (l : List Oper) {f : Fr} {A : AS} {u : Option Value} {q : Dd}, Inv A → q.s.next ≤ q.s.next → runOpsD P call ops.toList l f A u = some q → AFr A q.s ∧
    ∀ (φ : Emb) (T : Nat → Prop) (w : World) (a : Act) (c₀ : Frame) (cs : List Frame) (m : FrameMode), FRel φ f a → UIn φ u m → Rel P φ T A w → Foot A q.s T → Fresh A q.s φ → ∀ (Q : Exit → Act → List Frame → World → Prop),
      (∀ φ' w' a' m', Post P φ T A q.s w w' φ' → FRel φ' q.f a' → UIn φ' q.u m' → Q .normal a' ({ c₀ with mode := m' } :: cs) w') → wpListS P ops Q l a ({ c₀ with mode := m } :: cs) w := by
  intro l
  induction l with
  | nil =>
    intro f A u q hi hn h
    have h' : some (⟨f, A, u⟩ : Dd) = some q := h
    injection h' with h'
    subst h'
    exact ⟨.refl hi, fun φ T w a c₀ cs m hf hu hr _ _ Q hQ => hQ φ w a m (.refl hr rfl rfl rfl rfl rfl rfl rfl) hf hu⟩
  | cons o l ih =>
    intro f A u q hi hn h
    rw [runOpsD_cons] at h
    unfold ddOp at h
    split at h
    · rename_i s hev
      split at h
      · rename_i hg
        unfold ddK at h
        split at h
        · rename_i g s' hon
          obtain ⟨hput, rfl⟩ := onward_on hon
          have hle := runOpsD_mono hOm hM l h
          have hs := hO f o A _ _ hi (Nat.le_refl _) hev
          obtain ⟨f2, r2⟩ := ih hs.fr.inv hn h
          refine ⟨hs.fr.trans f2, fun φ T w a c₀ cs m hf hu hr hT hfr Q hQ => ?_⟩
          obtain ⟨φ1, w1, hp, hnr⟩ := hs.run φ T w a hf hr (hT.left f2) (fresh_left hfr f2.next)
          show opS P ops Q o (wpListS P ops Q l) a _ w
          unfold opS
          rw [show Region.wanted o (yielded ops a.tmps) = true by unfold Region.wanted; rw [hg], if_pos rfl]
          generalize hres : (execOp a.eval o).run P w = res at hnr
          cases hnr
          simp only
          have go : ∀ v' m', VRel φ1 (u.getD .nilIface) v' → UIn φ1 none m' → wpListS P ops Q l (a.put o.dst v') ({ c₀ with mode := m' } :: cs) w1 := fun v' m' hv hm =>
            r2 φ1 _ w1 _ c₀ cs m' ((hf.mono hp.ext).put hput hv) hm hp.rel (foot_right hT) (fresh_right hfr hs.fr.next hp) Q fun φ2 w2 a2 m2 hp2 hf2 hm2 => hQ φ2 w2 a2 m2 (hp.trans hs.fr.next f2 hp2) hf2 hm2
          cases hu with
          | ret => exact go _ _ .nilIface .ret
          | panic v v' hv => exact go _ _ (hv.mono hp.ext) (.done v')
          | done v' => exact go _ _ .nilIface (.done v')
        · cases h
      · cases h
    · unfold ddK at h
      split at h
      · rename_i g s' hst
        have hle := runOpsD_mono hOm hM l h
        have hs := step_on hO hC hM hi (Nat.le_refl _) hst
        obtain ⟨f2, r2⟩ := ih hs.fr.inv hn h
        refine ⟨hs.fr.trans f2, fun φ T w a c₀ cs m hf hu hr hT hfr Q hQ => ?_⟩
        show opS P ops Q o (wpListS P ops Q l) a _ w
        refine opS_of (hs.run φ T w a hf hr (hT.left f2) (fresh_left hfr f2.next) _ _ fun φ1 w1 a1 hp hf1 => ?_)
        exact r2 φ1 _ w1 a1 c₀ cs m hf1 (hu.mono hp.ext) hp.rel (foot_right hT) (fresh_right hfr hs.fr.next hp) Q fun φ2 w2 a2 m2 hp2 hf2 hm2 => hQ φ2 w2 a2 m2 (hp.trans hs.fr.next f2 hp2) hf2 hm2
      · cases h
theorem deferOK (hE : Env P) (hO : OpsOK P) (hOm : OpMono P) (hC : CallOK P call) (hM : CallMono call) (hD : DrawOK P call) (hDm : DrawMono P call) : DeferOK P call := by
  intro d A u A' u' hi hn h
  unfold evalDeferred at h
  split at h
  case h_2 => cases h
  rename_i g cap htgt
  split at h
  case h_2 => cases h
  rename_i fn hfn
  obtain ⟨hb, h⟩ := boolSome h
  simp only [Bool.and_eq_true] at hb
  have b1 := Nat.le_of_ble_eq_true hb.1
  have b2 := Nat.le_of_ble_eq_true hb.2.1
  have b3 : fn.results.toList = [] := by simpa using hb.2.2
  unfold deferIn at h
  split at h
  case h_2 => cases h
  rename_i rid ops c hbody
  split at h
  case h_2 => cases h
  rename_i f1 B v1 hrun
  -- what the rest of the body does
  have key : ∃ x f2, evalCode P call c f1 B = some (x, f2, A') ∧ (x = .normal ∨ x = .ret) ∧ f2.defers = [] ∧ v1 = u' := by
    unfold endD at h
    split at h
    · rename_i f2 s2 he
      split at h
      · rename_i hd; injection h with h; injection h with h1 h2; subst h1; exact ⟨_, f2, he, .inl rfl, hd, h2⟩
      · cases h
    · rename_i f2 s2 he
      split at h
      · rename_i hd; injection h with h; injection h with h1 h2; subst h1; exact ⟨_, f2, he, .inr rfl, hd, h2⟩
      · cases h
    · cases h
  obtain ⟨x, f2, he, hx, hd2, rfl⟩ := key
  have m2 := evalCode_mono hOm hM hDm c _ _ _ _ _ he
  obtain ⟨fr1, r1⟩ := runOpsD_sound hO hOm hC hM ops.toList hi (Nat.le_refl _) hrun
  have s2 := evalCode_sound hO hOm hC hM hD hDm c _ _ _ _ _ fr1.inv hn he
  refine ⟨fr1.trans s2.fr, fun φ T w d' m hdr hu hr hT hfr => ?_⟩
  cases hdr with
  | mk g' cap0 cap' args0 args' hc ha =>
    have htgt' : Target.fn (.func g') cap0 = .fn (.func g) cap := htgt
    injection htgt' with e1 e2
    injection e1 with e1
    subst e1
    subst e2
    refine ⟨.func g', cap', g', args' ++ cap', rfl, ?_, ?_⟩
    · have := enter_run hE hfn hbody (args' ++ cap') w
      exact this
    · refine callsD_of_wpS hfn hbody fun c₀ cs hm => wpS_seq (wpS_region ?_)
      have hargs : VRels φ (args0 ++ cap0).toList (args' ++ cap').toList := by rw [Array.toList_append, Array.toList_append]; exact ha.append hc
      have hc0 : c₀ = { c₀ with mode := m } := by rw [← hm]
      rw [List.range_eq_range', ← Array.length_toList]
      refine wpOpsS_of_list ops.toList 0 _ _ w rfl ?_
      rw [hc0]
      refine r1 φ T w _ c₀ cs m (init_rel hargs b1 b2) hu.inn hr (hT.left s2.fr) (fresh_left hfr s2.fr.next) _ fun φ1 w1 a1 m1 hp hf1 hu1 => ?_
      refine wpS_of_wp (s2.run φ1 _ w1 a1 hf1 hp.rel (foot_right hT) (fresh_right hfr fr1.next hp) _ fun φ2 w2 a2 e hp2 hf2 hx2 => ?_)
      have hdef : a2.defers = [] := by
        have := hf2.defers
        rw [hd2] at this
        cases hh : a2.defers with
        | nil => rfl
        | cons y l => rw [hh] at this; cases this
      have hres : (results fn a2.tmps).run P w2 = .ok (resV []) w2 := by
        refine results_run ?_
        rw [b3]
        rfl
      have hend : bodyPostS P fn { c₀ with mode := m } cs (fun e m' w' => ∃ v φ', e = .returned v ∧ Post P φ T A A' w w' φ' ∧ URel φ' v1 (settle m')) .ret a2 ({ c₀ with mode := m1 } :: cs) w2 :=
        ⟨hdef, m1, rfl, _, hres, _, φ2, rfl, hp.trans fr1.next s2.fr hp2, (hu1.mono hp2.ext).settle⟩
      rcases hx with rfl | rfl
      · cases hx2; exact hend
      · cases hx2; exact hend
end
end Go.EvL

namespace Go.EvL
open Go
open Go.RowKit
/-- a package-level variable of plain data, as it lies -/
structure Laid where
  g : Nat
  cells : List Value
  e : Nat
noncomputable def laidHeap (l : List Laid) : Tr AObj := List.rec (motive := fun _ => Tr AObj) .nil (fun x _ ih => forceT ih fun ih => forceL x.cells fun cs => Tr.set (.row cs x.e x.g 0 true) 40 ih x.g) l
noncomputable def laidFz (l : List Laid) : Tr Nat := List.rec (motive := fun _ => Tr Nat) .nil (fun x _ ih => forceT ih fun ih => forceN x.cells.length fun n => Tr.set n 40 ih x.g) l
noncomputable def startOf (P : Program) (l : List Laid) : AS := forceN P.globals.size fun n => forceT (laidHeap l) fun h => forceT (laidFz l) fun z => ⟨h, n, .nil, z, 0, 0⟩
noncomputable def endsTrue (N : Nat) (r : Option (AEnd × AS)) : Bool := match r with
  | some (.ret (.bool true), A') => Nat.beq (Nat.mod A'.w (Nat.shiftLeft 1 N)) 0 && Nat.ble A'.next 274877906944
  | _ => false
noncomputable def closedOk (P : Program) (orc : Orc) (l : List Laid) (n : Nat) (g : FuncId) : Bool := endsTrue P.globals.size (evalCall P orc n g #[] (startOf P l))
section
variable {P : Program}
theorem callOK (hE : Env P) (hS : Tys P) (hm : P.follows .mixedOrders = true) {orc : Orc} (hQ : OrcOK P orc) (n : Nat) : CallOK P (evalCall P orc n) :=
  (evalCall_sound (fun call hC hM => by
    have hO := opsOK hE hS
    have hOm := opMono P
    have hD := drawOK hm hO hOm hC hM
    have hDm := drawMono (P := P) (call := call) hOm hM
    exact ⟨hD, hDm, deferOK hE hO hOm hC hM hD hDm, deferMono hOm hM hDm⟩) (opsOK hE hS) (opMono P) hQ n).1
theorem noOrcOK (P : Program) : OrcOK P noOrc := fun g args A r A' h => by cases h
theorem startOf_eq (l : List Laid) : startOf P l = ⟨laidHeap l, P.globals.size, .nil, laidFz l, 0, 0⟩ := by
  unfold startOf; simp only [forceN_eq, forceT_eq]
theorem laidHeap_cons (x : Laid) (l : List Laid) : laidHeap (x :: l) = Tr.set (.row x.cells x.e x.g 0 true) 40 (laidHeap l) x.g := by
  show (forceT (laidHeap l) fun ih => forceL x.cells fun cs => Tr.set (.row cs x.e x.g 0 true) 40 ih x.g) = _
  rw [forceT_eq, forceL_eq]
theorem laidFz_cons (x : Laid) (l : List Laid) : laidFz (x :: l) = Tr.set x.cells.length 40 (laidFz l) x.g := by
  show (forceT (laidFz l) fun ih => forceN x.cells.length fun n => Tr.set n 40 ih x.g) = _
  rw [forceT_eq, forceN_eq]
theorem laid_get (l : List Laid) (hl : ∀ x ∈ l, Fits x.g) (b : Nat) (o : AObj) (h : (laidHeap l).get b = some o) : ∃ x ∈ l, b = x.g ∧ o = .row x.cells x.e x.g 0 true ∧ (laidFz l).get b = some x.cells.length := by
  induction l with
  | nil => exact absurd h (by show (Tr.nil : Tr AObj).get b ≠ _; rw [Tr.get_nil]; simp)
  | cons x l ih =>
    rw [laidHeap_cons, Tr.get_set _ _ _ _ (hl x List.mem_cons_self)] at h
    rw [laidFz_cons, Tr.get_set _ _ _ _ (hl x List.mem_cons_self)]
    split at h
    · rename_i he
      injection h with h
      exact ⟨x, List.mem_cons_self, he, h.symm, if_pos he⟩
    · rename_i he
      obtain ⟨y, h1, h2, h3, h4⟩ := ih (fun y hy => hl y (List.mem_cons_of_mem _ hy)) h
      exact ⟨y, List.mem_cons_of_mem _ h1, h2, h3, by rw [if_neg he]; exact h4⟩
theorem laidFz_get (l : List Laid) (hl : ∀ x ∈ l, Fits x.g) (b k : Nat) (h : (laidFz l).get b = some k) : ∃ x ∈ l, b = x.g := by
  induction l with
  | nil => exact absurd h (by show (Tr.nil : Tr Nat).get b ≠ _; rw [Tr.get_nil]; simp)
  | cons x l ih =>
    rw [laidFz_cons, Tr.get_set _ _ _ _ (hl x List.mem_cons_self)] at h
    split at h
    · rename_i he; exact ⟨x, List.mem_cons_self, he⟩
    · obtain ⟨y, h1, h2⟩ := ih (fun y hy => hl y (List.mem_cons_of_mem _ hy)) h
      exact ⟨y, List.mem_cons_of_mem _ h1, h2⟩
def esAt (P : Program) (w : World) (b : Nat) : Nat := match w.heap[b]? with | some (.cells _ e _) => P.cellsOf e | _ => 0
def szAt (w : World) (b : Nat) : Nat := match w.heap[b]? with | some (.cells C _ _) => C.size | _ => 0
def phi0 (P : Program) (w : World) : Emb := fun b => if b < P.globals.size then some ⟨b, 0, szAt w b, esAt P w b, b, 0⟩ else none
theorem start_inv (l : List Laid) (hN : P.globals.size ≤ P.globals.size) (hl : ∀ x ∈ l, x.g < P.globals.size) : Inv (startOf P l) := by
  have hfit : ∀ x ∈ l, Fits x.g := fun x hx => fits (by have := hl x hx; omega)
  rw [startOf_eq]
  refine ⟨fun b o hb => ?_, fun b cells e c st hb => ?_, fun c l' x cells e c' st ok hm => ?_, fun b cells e c st ok hb => ?_, fun c l' x hm => ?_, fun c l' hm => ?_, fun c k hk => ?_⟩
  · obtain ⟨x, h1, rfl, rfl, _⟩ := laid_get l hfit b o hb
    exact ⟨hl x h1, hl x h1⟩
  · obtain ⟨x, h1, rfl, h3, _⟩ := laid_get l hfit b _ hb
    injection h3 with _ _ h3
    subst h3
    show x.g ∈ ((Tr.nil : Tr (List Nat)).get x.g).getD [x.g]
    rw [Tr.get_nil]
    simp
  · exact absurd hm (by show (Tr.nil : Tr (List Nat)).get c ≠ _; rw [Tr.get_nil]; simp)
  · obtain ⟨x, h1, rfl, h3, _⟩ := laid_get l hfit b _ hb
    injection h3 with _ _ h3
    subst h3
    exact ⟨_, _, _, _, hb⟩
  · exact absurd hm (by show (Tr.nil : Tr (List Nat)).get c ≠ _; rw [Tr.get_nil]; simp)
  · exact absurd hm (by show (Tr.nil : Tr (List Nat)).get c ≠ _; rw [Tr.get_nil]; simp)
  · obtain ⟨x, h1, h2⟩ := laidFz_get l hfit c k hk
    rw [h2]; exact hl x h1
theorem start_rel (l : List Laid) (hN : P.globals.size ≤ P.globals.size) (hl : ∀ x ∈ l, x.g < P.globals.size ∧ x.cells.all (plain 50) = true) {w : World} (hw : P.globals.size ≤ w.heap.size)
    (hlaid : ∀ x ∈ l, ∃ fz, w.heap[x.g]? = some (.cells x.cells.toArray x.e fz) ∧ fz.2 ≤ x.cells.length) : Rel P (phi0 P w) (fun _ => True) (startOf P l) w := by
  have hfit : ∀ x ∈ l, Fits x.g := fun x hx => fits (by have := (hl x hx).1; omega)
  rw [startOf_eq]
  have hphi : ∀ b i, phi0 P w b = some i → b < P.globals.size ∧ i = ⟨b, 0, szAt w b, esAt P w b, b, 0⟩ := fun b i h => by
    unfold phi0 at h
    split at h
    · rename_i hb; injection h with h; exact ⟨hb, h.symm⟩
    · cases h
  refine ⟨fun b i hb => ?_, fun b₁ b₂ i₁ i₂ h₁ h₂ he => ?_, fun b o hb _ _ => ?_, fun b i hb => ?_, fun g hg => ?_, fun b i hb _ => by obtain ⟨_, rfl⟩ := hphi b i hb; rfl⟩
  · obtain ⟨h1, rfl⟩ := hphi b i hb; exact Nat.lt_of_lt_of_le h1 hw
  · obtain ⟨_, rfl⟩ := hphi _ _ h₁
    obtain ⟨_, rfl⟩ := hphi _ _ h₂
    exact ⟨he, rfl⟩
  · obtain ⟨x, h1, rfl, rfl, h4⟩ := laid_get l hfit b o hb
    obtain ⟨fz, g1, g2⟩ := hlaid x h1
    refine ⟨⟨x.g, 0, szAt w x.g, esAt P w x.g, x.g, 0⟩, _, by unfold phi0; rw [if_pos (hl x h1).1], g1, ?_⟩
    refine .row _ _ _ _ _ _ rfl rfl (by simp [esAt, g1]) (by simp [szAt, g1]) (by simp) ?_ (.inr ⟨x.cells.length, h4, by simpa using g2⟩) _ (.inl ⟨rfl, Nat.dvd_zero _⟩)
    have : (x.cells.toArray.toList.drop 0).take x.cells.length = x.cells := by simp
    show VRels _ _ ((x.cells.toArray.toList.drop 0).take x.cells.length)
    rw [this]
    exact rels_self (plain_self _ 50) _ (hl x h1).2
  · trivial
  · exact ⟨_, by unfold phi0; rw [if_pos hg], rfl, rfl⟩
/-- a closed call that the kernel has reckoned -/
theorem closed_calls (hE : Env P) (hS : Tys P) (hm : P.follows .mixedOrders = true) {orc : Orc} (hQ : OrcOK P orc) (hN : P.globals.size ≤ P.globals.size) (l : List Laid) (hl : ∀ x ∈ l, x.g < P.globals.size ∧ x.cells.all (plain 50) = true) {n : Nat} {g : FuncId} (h : closedOk P orc l n g = true)
    (w : World) (hw : P.globals.size ≤ w.heap.size) (hlaid : ∀ x ∈ l, ∃ fz, w.heap[x.g]? = some (.cells x.cells.toArray x.e fz) ∧ fz.2 ≤ x.cells.length) :
    Calls P g #[] w fun e w' => e = .returned (.bool true) ∧ Below w.heap.size w w' := by
  unfold closedOk endsTrue at h
  split at h
  · rename_i A' hev
    simp only [Bool.and_eq_true] at h
    have h1 := Nat.eq_of_beq_eq_true h.1
    have hs := callOK hE hS hm hQ n g #[] (startOf P l) _ A' (start_inv l hN fun x hx => (hl x hx).1) (Nat.le_refl _) hev
    refine (hs.run (phi0 P w) (fun _ => True) w #[] .nil (start_rel l hN hl hw hlaid) (fun _ _ _ => trivial) fun b hb _ => ?_).mono ?_
    · rw [startOf_eq] at hb
      unfold phi0
      rw [if_neg (by have : P.globals.size ≤ b := hb; omega)]
    · rintro e w' ⟨φ', hp, he⟩
      refine ⟨?_, hp.os, hp.tape, hp.output, hp.size, fun k hk => hp.same k hk fun b i hb hi => ?_⟩
      · cases he with
        | ret _ v' hv => cases hv; rfl
      · unfold phi0 at hb
        split at hb
        · rename_i hlt
          injection hb with hb
          subst hb
          show A'.w.testBit b = false
          have h3 : A'.w % 2 ^ P.globals.size = 0 := by
            have e1 : Nat.shiftLeft 1 P.globals.size = 2 ^ P.globals.size := Nat.one_shiftLeft _
            rw [← e1]; exact h1
          have h4 : (A'.w % 2 ^ P.globals.size).testBit b = (decide (b < P.globals.size) && A'.w.testBit b) := Nat.testBit_mod_two_pow _ _ _
          rw [h3] at h4
          simp [hlt] at h4
          exact h4
        · cases hb
  · cases h
noncomputable def escAt (n : Nat) (l : List Func) : Nat → Bool := List.rec (motive := fun _ => Nat → Bool) (fun _ => true) (fun fn _ ih k => (!(fn.body.isNone && fn.name == "internal/abi.NoEscape") || Nat.beq k n) && ih (Nat.add k 1)) l
theorem escAt_ok {n : Nat} : ∀ (l : List Func) (k : Nat), escAt n l k = true → ∀ (i : Nat) (fn : Func), l[i]? = some fn → fn.body = none → (fn.name == "internal/abi.NoEscape") = true → k + i = n := by
  intro l
  induction l with
  | nil => intro k _ i fn h; simp at h
  | cons x l ih =>
    intro k h i fn hi hb hn
    have h' : ((!(x.body.isNone && x.name == "internal/abi.NoEscape") || Nat.beq k n) && escAt n l (k + 1)) = true := h
    rw [Bool.and_eq_true] at h'
    cases i with
    | zero =>
      simp at hi
      subst hi
      have h1 := h'.1
      rw [hb, hn] at h1
      exact Nat.eq_of_beq_eq_true (by simpa using h1)
    | succ i =>
      have := ih (k + 1) h'.2 i fn (by simpa using hi) hb hn
      omega
theorem env_of (n : Nat) (h1 : (P.funcs.toList.all fun fn => !(fn.name == "runtime.NumGoroutine")) = true) (h2 : escAt n P.funcs.toList 0 = true) (h3 : ∀ v w, (callFunc n #[v]).run P w = .ok (.value v) w) : Env P where
  num := fun g fn hg => by
    rw [List.all_eq_true] at h1
    have := h1 fn (by simpa using Array.mem_of_getElem? hg)
    simpa using this
  noesc := fun g fn hg hb hn v w => by
    have := escAt_ok _ 0 h2 g fn (by simpa using hg) hb hn
    rw [Nat.zero_add] at this
    subst this
    exact h3 v w
noncomputable def tysOk (P : Program) : Bool := (List.range P.types.size).all fun t => match P.underlying t with
  | some (.struct fs) => fs.toList.all fun fl => (szOf P fl.type).isSome
  | _ => true
theorem tys_of (h : tysOk P = true) : Tys P where
  fields := fun t fs ht hu fl hfl => by
    unfold tysOk at h
    rw [List.all_eq_true] at h
    have := h t (by simpa using ht)
    rw [hu] at this
    simp only [List.all_eq_true] at this
    exact Option.isSome_iff_exists.1 (this fl hfl)
end
end Go.EvL
namespace Go.EvL
open Go
open Go.RowKit
noncomputable def endBool (N : Nat) (r : Option (AEnd × AS)) : Option Bool := match r with
  | some (.ret (.bool b), A') => Bool.rec none (some b) (Nat.beq (Nat.mod A'.w (Nat.shiftLeft 1 N)) 0 && Nat.ble A'.next 274877906944)
  | _ => none
noncomputable def closedBool (P : Program) (orc : Orc) (l : List Laid) (n : Nat) (g : FuncId) (args : List Value) : Option Bool := Bool.rec none (endBool P.globals.size (evalCall P orc n g args.toArray (startOf P l))) (args.all (plain 50))
/-- a closed call that answers a bool -/
theorem closed_bool {P : Program} (hE : Env P) (hS : Tys P) (hm : P.follows .mixedOrders = true) {orc : Orc} (hQ : OrcOK P orc) (hN : P.globals.size ≤ P.globals.size) (l : List Laid) (hl : ∀ x ∈ l, x.g < P.globals.size ∧ x.cells.all (plain 50) = true) {n : Nat} {g : FuncId} {args : List Value} {b : Bool} (h : closedBool P orc l n g args = some b)
    (w : World) (hw : P.globals.size ≤ w.heap.size) (hlaid : ∀ x ∈ l, ∃ fz, w.heap[x.g]? = some (.cells x.cells.toArray x.e fz) ∧ fz.2 ≤ x.cells.length) :
    Calls P g args.toArray w fun e w' => e = .returned (.bool b) ∧ Below w.heap.size w w' := by
  unfold closedBool at h
  obtain ⟨hp, h⟩ := boolSome h
  unfold endBool at h
  split at h
  · rename_i b' A' hev
    obtain ⟨hc, h⟩ := boolSome h
    injection h with h
    subst h
    simp only [Bool.and_eq_true] at hc
    have h1 := Nat.eq_of_beq_eq_true hc.1
    have hs := callOK hE hS hm hQ n g args.toArray (startOf P l) _ A' (start_inv l hN fun x hx => (hl x hx).1) (Nat.le_refl _) hev
    refine (hs.run (phi0 P w) (fun _ => True) w args.toArray (by rw [List.toList_toArray]; exact rels_self (plain_self _ 50) _ hp) (start_rel l hN hl hw hlaid) (fun _ _ _ => trivial) fun b hb _ => ?_).mono ?_
    · rw [startOf_eq] at hb
      unfold phi0
      rw [if_neg (by have : P.globals.size ≤ b := hb; omega)]
    · rintro e w' ⟨φ', hp, he⟩
      refine ⟨?_, hp.os, hp.tape, hp.output, hp.size, fun k hk => hp.same k hk fun b i hb hi => ?_⟩
      · cases he with
        | ret _ v' hv => cases hv; rfl
      · unfold phi0 at hb
        split at hb
        · rename_i hlt
          injection hb with hb
          subst hb
          show A'.w.testBit b = false
          have h3 : A'.w % 2 ^ P.globals.size = 0 := by
            have e1 : Nat.shiftLeft 1 P.globals.size = 2 ^ P.globals.size := Nat.one_shiftLeft _
            rw [← e1]; exact h1
          have h4 : (A'.w % 2 ^ P.globals.size).testBit b = (decide (b < P.globals.size) && A'.w.testBit b) := Nat.testBit_mod_two_pow _ _ _
          rw [h3] at h4
          simp [hlt] at h4
          exact h4
        · cases hb
  · cases h
noncomputable def endVal (N : Nat) (r : Option (AEnd × AS)) : Option Value := match r with
  | some (.ret v, A') => Bool.rec none (some v) (plain 50 v && Nat.beq (Nat.mod A'.w (Nat.shiftLeft 1 N)) 0 && Nat.ble A'.next 274877906944)
  | _ => none
noncomputable def closedVal (P : Program) (orc : Orc) (l : List Laid) (n : Nat) (g : FuncId) (args : List Value) : Option Value := Bool.rec none (endVal P.globals.size (evalCall P orc n g args.toArray (startOf P l))) (args.all (plain 50))
/-- a closed call that answers a plain value -/
theorem closed_val {P : Program} (hE : Env P) (hS : Tys P) (hm : P.follows .mixedOrders = true) {orc : Orc} (hQ : OrcOK P orc) (hN : P.globals.size ≤ P.globals.size) (l : List Laid) (hl : ∀ x ∈ l, x.g < P.globals.size ∧ x.cells.all (plain 50) = true) {n : Nat} {g : FuncId} {args : List Value} {v : Value} (h : closedVal P orc l n g args = some v)
    (w : World) (hw : P.globals.size ≤ w.heap.size) (hlaid : ∀ x ∈ l, ∃ fz, w.heap[x.g]? = some (.cells x.cells.toArray x.e fz) ∧ fz.2 ≤ x.cells.length) :
    Calls P g args.toArray w fun e w' => e = .returned v ∧ Below w.heap.size w w' := by
  unfold closedVal at h
  obtain ⟨hp, h⟩ := boolSome h
  unfold endVal at h
  split at h
  · rename_i v' A' hev
    obtain ⟨hc, h⟩ := boolSome h
    injection h with h
    subst h
    simp only [Bool.and_eq_true] at hc
    have h1 := Nat.eq_of_beq_eq_true hc.1.2
    have hs := callOK hE hS hm hQ n g args.toArray (startOf P l) _ A' (start_inv l hN fun x hx => (hl x hx).1) (Nat.le_refl _) hev
    refine (hs.run (phi0 P w) (fun _ => True) w args.toArray (by rw [List.toList_toArray]; exact rels_self (plain_self _ 50) _ hp) (start_rel l hN hl hw hlaid) (fun _ _ _ => trivial) fun b hb _ => ?_).mono ?_
    · rw [startOf_eq] at hb
      unfold phi0
      rw [if_neg (by have : P.globals.size ≤ b := hb; omega)]
    · rintro e w' ⟨φ', hp, he⟩
      refine ⟨?_, hp.os, hp.tape, hp.output, hp.size, fun k hk => hp.same k hk fun b i hb hi => ?_⟩
      · cases he with
        | ret _ v' hv => rw [plain_eq _ 50 _ _ hc.1.1 hv]
      · unfold phi0 at hb
        split at hb
        · rename_i hlt
          injection hb with hb
          subst hb
          show A'.w.testBit b = false
          have h3 : A'.w % 2 ^ P.globals.size = 0 := by
            have e1 : Nat.shiftLeft 1 P.globals.size = 2 ^ P.globals.size := Nat.one_shiftLeft _
            rw [← e1]; exact h1
          have h4 : (A'.w % 2 ^ P.globals.size).testBit b = (decide (b < P.globals.size) && A'.w.testBit b) := Nat.testBit_mod_two_pow _ _ _
          rw [h3] at h4
          simp [hlt] at h4
          exact h4
        · cases hb
  · cases h
end Go.EvL

namespace Go.EvL
open Go
open Go.RowKit
/-- what is asked of the functions that are laid from outside -/
structure OrcCon (P : Program) (orc : Orc) : Prop where
  keys : ∀ g it t, orc.keys g = some (it, t) → ∀ (mb : Option Nat) (W : World), Calls P g #[.map mb] W fun e w' => e = .returned (.func (.func it) #[] #[.pointer (some ⟨W.heap.size, 0, none⟩)]) ∧ w' = W.alloc (.cells #[.map mb] t)
  one : ∀ g t, orc.sorted g = some t → P.cellsOf t = 1
  none_ : ∀ g t, orc.sorted g = some t → ∀ it, orc.iter it = true → ∀ (p b clock : Nat) (W : World), W.cell? ⟨p, 0, none⟩ = some (.map (some b)) → W.heap[b]? = some (.map #[] clock) →
    Calls P g #[.func (.func it) #[] #[.pointer (some ⟨p, 0, none⟩)]] W fun e w' => e = .returned (.slice none 0 0) ∧ Below W.heap.size W w'
  some_ : ∀ g t, orc.sorted g = some t → ∀ it, orc.iter it = true → ∀ (p b clock : Nat) (W : World) (k : ByteArray) (v : Value) (born : Nat), W.cell? ⟨p, 0, none⟩ = some (.map (some b)) → W.heap[b]? = some (.map #[⟨.string k, v, born⟩] clock) → born < clock → k.size ≤ 1048576 →
    Calls P g #[.func (.func it) #[] #[.pointer (some ⟨p, 0, none⟩)]] W fun e w' => ∃ (gb cap : Nat) (C : Array Value), e = .returned (.slice (some ⟨gb, 0, none⟩) 1 cap) ∧ W.heap.size ≤ gb ∧ w'.heap[gb]? = some (.cells C t (0, 0)) ∧ 1 ≤ cap ∧ C.size = cap ∧ C.toList.take 1 = [.string k] ∧ Below W.heap.size W w'
  two_ : ∀ g t, orc.sorted g = some t → ∀ it, orc.iter it = true → ∀ (p b clock : Nat) (W : World) (k : ByteArray) (v : Value) (born : Nat) (k2 : ByteArray) (v2 : Value) (born2 : Nat), W.cell? ⟨p, 0, none⟩ = some (.map (some b)) → W.heap[b]? = some (.map #[⟨.string k, v, born⟩, ⟨.string k2, v2, born2⟩] clock) →
    born < born2 → born2 < clock → k.size ≤ 1048576 → k2.size ≤ 1048576 → (bytesLt k.data.toList k2.data.toList || bytesLt k2.data.toList k.data.toList) = true →
    Calls P g #[.func (.func it) #[] #[.pointer (some ⟨p, 0, none⟩)]] W fun e w' => ∃ (gb cap : Nat) (C : Array Value), e = .returned (.slice (some ⟨gb, 0, none⟩) 2 cap) ∧ W.heap.size ≤ gb ∧ w'.heap[gb]? = some (.cells C t (0, 0)) ∧ 2 ≤ cap ∧ C.size = cap ∧ C.toList.take 2 = twoSorted k k2 ∧ Below W.heap.size W w'
  look : ∀ g off f, orc.look g = some (off, f) → ∀ n e v ok, f n e = some (v, ok) → ∀ (b o vb vo vc : Nat) (W : World), P.globals.size ≤ W.heap.size → W.cell? ⟨b, o + off, none⟩ = some (.slice (some ⟨vb, vo, none⟩) 1 vc) → W.cell? ⟨vb, vo, none⟩ = some (.string e) →
    Calls P g #[.pointer (some ⟨b, o, none⟩), .string n] W fun r w' => r = .returned (.tuple #[.string v, .bool ok]) ∧ Below W.heap.size W w'
  tab : ∀ g args v, orc.tab g args = some v → args.all (plain 50) = true ∧ plain 50 v = true ∧ ∀ (W : World), P.globals.size ≤ W.heap.size → Calls P g args.toArray W fun e w' => e = .returned v ∧ Below W.heap.size W w'
/-- a new row on both sides, whatever else the run has made -/
theorem Post.fresh {P : Program} {φ : Emb} {T : Nat → Prop} {A : AS} {w w' : World} {cells : List Value} {e gb : Nat} {C : Array Value} (hi : Inv A) (hn : A.next + 1 ≤ A.next + 1) (h : Rel P φ T A w) (hfr : φ A.next = none) (hb : Below w.heap.size w w') (hgb : w.heap.size ≤ gb)
    (hC : w'.heap[gb]? = some (.cells C e (0, 0))) (hl : cells.length ≤ C.size) (hv : VRels φ cells (C.toList.take cells.length)) :
    ∃ φ', φ' A.next = some ⟨gb, 0, C.size, P.cellsOf e, A.next, 0⟩ ∧ Post P φ T A (newRow A cells e) w w' φ' := by
  have hf : Fits A.next := fits (by omega)
  have hgl : gb < w'.heap.size := (Array.getElem?_eq_some_iff.1 hC).1
  have hext : Ext φ fun b => if b = A.next then some ⟨gb, 0, C.size, P.cellsOf e, A.next, 0⟩ else φ b := by
    intro b i hb
    show (if b = A.next then _ else _) = _
    rw [if_neg (by rintro rfl; rw [hfr] at hb; cases hb)]
    exact hb
  have hold : ∀ b i, φ b = some i → i.blk < w.heap.size := h.blk
  refine ⟨fun b => if b = A.next then some ⟨gb, 0, C.size, P.cellsOf e, A.next, 0⟩ else φ b, if_pos rfl, ?_⟩
  rw [newRow_eq, new_eq]
  refine ⟨hext, fun b hb' => ?_, ⟨fun b i hb' => ?_, fun b₁ b₂ i₁ i₂ h₁ h₂ he => ?_, fun b x hb' hlv hT => ?_, fun b i hb' => ?_, h.glob.mono hext, fun b i hb' hcl => ?_⟩, fun b i hb' hlt => ?_, hb.size, fun k hk _ => hb.block k hk, hb.os, hb.tape, hb.output⟩
  · have hb2 : b < A.next ∨ A.next + 1 ≤ b := hb'
    show (if b = A.next then _ else _) = _
    rw [if_neg (by omega)]
  · split at hb'
    · injection hb' with hb'; subst hb'; exact hgl
    · exact Nat.lt_of_lt_of_le (hold _ _ hb') hb.size
  · split at h₁ <;> split at h₂
    · injection h₁ with h₁; injection h₂ with h₂; subst h₁; subst h₂; exact ⟨rfl, rfl⟩
    · injection h₁ with h₁; subst h₁; have := hold _ _ h₂; simp only at he; omega
    · injection h₂ with h₂; subst h₂; have := hold _ _ h₁; simp only at he; omega
    · exact h.inj _ _ _ _ h₁ h₂ he
  · have hb2 : (Tr.set (AObj.row cells e A.next 0 true) 40 A.heap A.next).get b = some x := hb'
    rw [Tr.get_set _ _ _ _ hf] at hb2
    split at hb2
    · rename_i he; subst he
      injection hb2 with hb2; subst hb2
      refine ⟨_, _, if_pos rfl, hC, ?_⟩
      refine .row _ _ _ _ _ (0, 0) rfl rfl rfl (by simp) (by simpa using hl) ?_ (.inl rfl) _ (.inl ⟨rfl, Nat.dvd_zero _⟩)
      show VRels _ _ ((C.toList.drop 0).take _)
      rw [List.drop_zero]
      exact hv.mono hext
    · have hlt := (hi.lt _ _ hb2).2
      have hT' : T (clsOf b x) := by
        rcases hT with hT | ⟨h1, _⟩
        · exact hT
        · omega
      obtain ⟨i, y, e1, e2, e3⟩ := h.obj b x hb2 hlv hT'
      exact ⟨i, y, hext _ _ e1, by rw [hb.block _ (hold _ _ e1)]; exact e2, e3.mono hext fun h hh => ⟨h, hh, Nat.le_refl _⟩⟩
  · split at hb'
    · trivial
    · exact h.al _ _ hb'
  · split at hb'
    · injection hb' with hb'; subst hb'; rfl
    · exact h.root _ _ hb' hcl
  · split at hb'
    · injection hb' with hb'; subst hb'; simp only at hlt; omega
    · exact ⟨b, i, hb', rfl, rfl⟩
theorem Post.below {P : Program} {φ : Emb} {T : Nat → Prop} {A A' : AS} {w w' : World} (h : Rel P φ T A w) (h1 : A'.heap = A.heap) (h2 : A'.fz = A.fz) (h4 : A'.next = A.next) (hb : Below w.heap.size w w') : Post P φ T A A' w w' φ where
  ext := fun _ _ h => h
  out := fun _ _ => rfl
  rel := ⟨fun b i hb' => Nat.lt_of_lt_of_le (h.blk _ _ hb') hb.size, h.inj, fun b o hb' hl hT => by
    rw [h1] at hb'
    rw [h2]
    obtain ⟨i, o', e1, e2, e3⟩ := h.obj b o hb' hl (hT.elim id fun hc => by omega)
    exact ⟨i, o', e1, by rw [hb.block _ (h.blk _ _ e1)]; exact e2, e3⟩, h.al, h.glob, h.root⟩
  img := fun b i hb _ => ⟨b, i, hb, rfl, rfl⟩
  size := hb.size
  same := fun k hk _ => hb.block k hk
  os := hb.os
  tape := hb.tape
  output := hb.output
section
variable {P : Program} {orc : Orc}
theorem toList_one' {α : Type} {xs : Array α} {x : α} (h : xs.toList = [x]) : xs = #[x] := by cases xs; cases h; rfl
theorem orcKeys_ok {g it t : Nat} {args : Array Value} {A A' : AS} {r : AEnd} (hk : ∀ (mb : Option Nat) (W : World), Calls P g #[.map mb] W fun e w' => e = .returned (.func (.func it) #[] #[.pointer (some ⟨W.heap.size, 0, none⟩)]) ∧ w' = W.alloc (.cells #[.map mb] t))
    (h : orcKeys it t args.toList A = some (r, A')) : A.next ≤ A'.next ∧ (Inv A → A'.next ≤ A'.next → CallSound P g args A r A') := by
  unfold orcKeys at h
  split at h
  · rename_i b hargs
    have hargs := toList_one' hargs
    subst hargs
    injection h with h
    injection h with h1 h2
    subst h1
    subst h2
    rw [newRow_next]
    refine ⟨by omega, fun hi hn => ⟨newRow_fr hi hn _ _, fun φ T w args' hv hr _ hfr => ?_⟩⟩
    generalize hq : args'.toList = l at hv
    cases hv with
    | cons _ v' _ l' hv hs =>
      cases hs
      have hargs' := toList_one' hq
      subst hargs'
      cases hv with
      | map _ i hφ =>
        have hc : VRels φ [Value.map (some b)] [Value.map (some i.blk)] := .cons _ _ _ _ (.map b i hφ) .nil
        obtain ⟨φ', e1, e2⟩ := newRow_post hi (by rw [newRow_next]; exact hn) hr hfr hc
        refine (hk (some i.blk) w).mono ?_
        rintro e w' ⟨rfl, rfl⟩
        refine ⟨φ', e2, .ret _ _ (.func _ _ _ _ _ .nil (.cons _ _ _ _ (.ptr _ 0 _ e1) .nil))⟩
  · cases h
theorem sorted_ok (hC : OrcCon P orc) {g t : Nat} (hg : orc.sorted g = some t) {args : Array Value} {A A' : AS} {r : AEnd} (h : orcSorted orc t args.toList A = some (r, A')) : A.next ≤ A'.next ∧ (Inv A → A'.next ≤ A'.next → CallSound P g args A r A') := by
  unfold orcSorted at h
  split at h
  case h_2 => cases h
  rename_i it first cap hargs
  have hargs := toList_one' hargs
  subst hargs
  split at h
  case h_2 => cases h
  rename_i p hfirst hcap
  obtain ⟨hit, h⟩ := boolSome h
  unfold sortedAt at h
  split at h
  case h_2 => cases h
  rename_i b e c st hp
  obtain ⟨hcp, h0⟩ := boolSome h
  clear h
  have hcp := Nat.eq_of_beq_eq_true hcp
  subst hcp
  unfold sortedIn at h0
  split at h0
  case h_2 => cases h0
  rename_i es clock hb
  have hlog : ∀ (hi : Inv A), AFr A (logR (logR A c) b) := fun hi => by
    have h1 := logR_fr hi (hi.lt _ _ hp).2
    exact h1.trans (logR_fr h1.inv (by rw [logR_eq]; exact (hi.lt _ _ hb).1))
  have e1 : (logR (logR A c) b).heap = A.heap := by rw [logR_eq, logR_eq]
  have e2 : (logR (logR A c) b).fz = A.fz := by rw [logR_eq, logR_eq]
  have e3 : (logR (logR A c) b).next = A.next := by rw [logR_eq, logR_eq]
  -- what the run's world holds
  have look : ∀ (hi : Inv A) {A' : AS} (_ : AFr (logR (logR A c) b) A') {φ : Emb} {T : Nat → Prop} {w : World} {args' : Array Value}, VRels φ (#[Value.func (.func it) first cap] : Array Value).toList args'.toList → Rel P φ T A w → Foot A A' T →
      ∃ (i j : Inf) (es' : Array MapEntry), args' = #[.func (.func it) #[] #[.pointer (some ⟨i.blk, 0, none⟩)]] ∧ w.cell? ⟨i.blk, 0, none⟩ = some (.map (some j.blk)) ∧ w.heap[j.blk]? = some (.map es' clock) ∧ ERel φ es es'.toList := by
    intro hi A' fr φ T w args' hv hr hT
    have hTc : T c := hT c (hi.lt _ _ hp).2 (.inl (fr.r c (by rw [logR_eq, logR_eq, bit_or, bit_or]; simp)))
    have hTb : T b := hT b (hi.lt _ _ hb).1 (.inl (fr.r b (by rw [logR_eq, bit_or]; simp)))
    generalize hq : args'.toList = l at hv
    cases hv with
    | cons _ v' _ l' hv hs =>
      cases hs
      have hargs' := toList_one' hq
      subst hargs'
      cases hv with
      | func _ _ _ xs' ys' hx hy =>
        rw [hfirst] at hx
        rw [hcap] at hy
        generalize hxx : xs'.toList = X at hx
        generalize hyy : ys'.toList = Y at hy
        cases hx
        cases hy with
        | cons _ u _ _ hu hu2 =>
          cases hu2
          have hys := toList_one' hyy
          subst hys
          have hxs : xs' = #[] := by cases xs'; cases hxx; rfl
          subst hxs
          cases hu with
          | ptr _ _ i hφ =>
            obtain ⟨i', C, fz, _, k1, k2, k3, k4, k5, k6, k7, k8, k9, k10⟩ := hr.cells hp hTc
            obtain rfl : i = i' := by rw [hφ] at k1; injection k1
            have hsh : i.sh = 0 := hr.root _ _ hφ k3
            obtain ⟨j, o', m1, m2, m3⟩ := hr.obj b _ hb rfl hTb
            cases m3 with
            | map _ _ es' _ he =>
              refine ⟨i, j, es', by rw [hsh], ?_, m2, he⟩
              rw [hsh, List.drop_zero] at k8
              rw [Lib.cell_of_heap k2]
              generalize hD : C.toList.take 1 = D at k8
              cases k8 with
              | cons _ x _ _ hx hx2 =>
                cases hx2
                cases hx with
                | map _ j' hj' =>
                  rw [m1] at hj'
                  injection hj' with hj'
                  subst hj'
                  have : (C.toList.take 1)[0]? = some (.map (some j.blk)) := by rw [hD]; rfl
                  rw [List.getElem?_take] at this
                  simpa using this
  unfold sortedRow at h0
  split at h0
  · injection h0 with h0
    injection h0 with h1 h2
    subst h1
    subst h2
    refine ⟨by rw [e3]; exact Nat.le_refl _, fun hi hn => ⟨hlog hi, fun φ T w args' hv hr hT hfr => ?_⟩⟩
    obtain ⟨i, j, es', rfl, q1, q2, q3⟩ := look hi (.refl (hlog hi).inv) hv hr hT
    have hes : es' = #[] := by
      generalize hq : es'.toList = l at q3
      cases q3
      cases es'
      cases hq
      rfl
    subst hes
    refine (hC.none_ g t hg it hit i.blk j.blk clock w q1 q2).mono ?_
    rintro e w' ⟨rfl, hbw⟩
    exact ⟨φ, Post.below hr e1 e2 e3 hbw, .ret _ _ .nilSlice⟩
  · rename_i k v born
    obtain ⟨hc, h5⟩ := boolSome h0
    clear h0
    simp only [Bool.and_eq_true] at hc
    have c1 := Nat.le_of_ble_eq_true hc.1
    have c2 := Nat.le_of_ble_eq_true hc.2
    injection h5 with h5
    injection h5 with h1 h2
    subst h1
    subst h2
    rw [newRow_next, e3]
    refine ⟨by omega, fun hi hn => ?_⟩
    have fr2 := newRow_fr (hlog hi).inv (by rw [e3]; exact hn) [Value.string k] t
    refine ⟨(hlog hi).trans fr2, fun φ T w args' hv hr hT hfr => ?_⟩
    obtain ⟨i, j, es', rfl, q1, q2, q3⟩ := look hi fr2 hv hr hT
    have hes : ∃ v', es' = #[⟨.string k, v', born⟩] := by
      generalize hq : es'.toList = l at q3
      cases q3 with
      | cons _ _ v' _ _ l' hk hv hl =>
        cases hl
        exact ⟨v', by cases es'; cases hq; rfl⟩
    obtain ⟨v', rfl⟩ := hes
    refine (hC.some_ g t hg it hit i.blk j.blk clock w k v' born q1 q2 c1 c2).mono ?_
    rintro e w' ⟨gb, cap, C, rfl, g1, g2, g3, g4, g5, g6⟩
    have hr' : Rel P φ T (logR (logR A c) b) w := hr.heap e1 e2 rfl
    have hfr' : φ (logR (logR A c) b).next = none := by rw [e3]; exact hfr _ (Nat.le_refl _) (by rw [newRow_next, e3]; omega)
    obtain ⟨φ', m1, m2⟩ := Post.fresh (e := t) (cells := [Value.string k]) (hlog hi).inv (by rw [e3]; exact hn) hr' hfr' g6 g1 g2 (by rw [g4]; exact g3) (by
      show VRels φ [Value.string k] (C.toList.take 1)
      rw [g5]
      exact .cons _ _ _ _ (.string k) .nil)
    rw [e3] at m1
    refine ⟨φ', ?_, .ret _ _ ?_⟩
    · refine ⟨m2.ext, fun x hx => m2.out x (by rw [e3]; exact hx), m2.rel.sub fun x hx => ?_, m2.img, m2.size, m2.same, m2.os, m2.tape, m2.output⟩
      rw [e3]
      exact hx
    · have := VR.slice (φ := φ') A.next 0 1 1 cap ⟨gb, 0, none⟩ _ m1 (Nat.le_refl _) g3 (.inr rfl) (by show 0 + cap * P.cellsOf t ≤ C.size; rw [hC.one g t hg, g4]; omega)
      exact this
  · rename_i k v born k2 v2 born2
    obtain ⟨hc, h5⟩ := boolSome h0
    clear h0
    simp only [Bool.and_eq_true] at hc
    have c1 := Nat.le_of_ble_eq_true hc.1
    have c2 := Nat.le_of_ble_eq_true hc.2.1
    have c3 := Nat.le_of_ble_eq_true hc.2.2.1
    have c4 := Nat.le_of_ble_eq_true hc.2.2.2.1
    have c5 := hc.2.2.2.2
    injection h5 with h5
    injection h5 with h1 h2
    subst h1
    subst h2
    rw [newRow_next, e3]
    refine ⟨by omega, fun hi hn => ?_⟩
    have fr2 := newRow_fr (hlog hi).inv (by rw [e3]; exact hn) (twoSorted k k2) t
    refine ⟨(hlog hi).trans fr2, fun φ T w args' hv hr hT hfr => ?_⟩
    obtain ⟨i, j, es', rfl, q1, q2, q3⟩ := look hi fr2 hv hr hT
    have hes : ∃ v' v2', es' = #[⟨.string k, v', born⟩, ⟨.string k2, v2', born2⟩] := by
      generalize hq : es'.toList = l at q3
      cases q3 with
      | cons _ _ v' _ _ l' hk hv hl =>
        cases hl with
        | cons _ _ v2' _ _ l2 hk2 hv2 hl2 =>
          cases hl2
          exact ⟨v', v2', by cases es'; cases hq; rfl⟩
    obtain ⟨v', v2', rfl⟩ := hes
    refine (hC.two_ g t hg it hit i.blk j.blk clock w k v' born k2 v2' born2 q1 q2 c1 c2 c3 c4 c5).mono ?_
    rintro e w' ⟨gb, cap, C, rfl, g1, g2, g3, g4, g5, g6⟩
    have hr' : Rel P φ T (logR (logR A c) b) w := hr.heap e1 e2 rfl
    have hfr' : φ (logR (logR A c) b).next = none := by rw [e3]; exact hfr _ (Nat.le_refl _) (by rw [newRow_next, e3]; omega)
    have hl2 : (twoSorted k k2).length = 2 := by unfold twoSorted; cases bytesLt k.data.toList k2.data.toList <;> rfl
    have hself : VRels φ (twoSorted k k2) (twoSorted k k2) := by
      unfold twoSorted
      cases bytesLt k.data.toList k2.data.toList
      · exact .cons _ _ _ _ (.string _) (.cons _ _ _ _ (.string _) .nil)
      · exact .cons _ _ _ _ (.string _) (.cons _ _ _ _ (.string _) .nil)
    obtain ⟨φ', m1, m2⟩ := Post.fresh (e := t) (cells := twoSorted k k2) (hlog hi).inv (by rw [e3]; exact hn) hr' hfr' g6 g1 g2 (by rw [g4, hl2]; exact g3) (by
      rw [hl2, g5]
      exact hself)
    rw [e3] at m1
    refine ⟨φ', ?_, .ret _ _ ?_⟩
    · refine ⟨m2.ext, fun x hx => m2.out x (by rw [e3]; exact hx), m2.rel.sub fun x hx => ?_, m2.img, m2.size, m2.same, m2.os, m2.tape, m2.output⟩
      rw [e3]
      exact hx
    · have := VR.slice (φ := φ') A.next 0 2 2 cap ⟨gb, 0, none⟩ _ m1 (Nat.le_refl _) g3 (.inr rfl) (by show 0 + cap * P.cellsOf t ≤ C.size; rw [hC.one g t hg, g4]; omega)
      exact this
  · cases h0
theorem glob_size {φ : Emb} {T : Nat → Prop} {A : AS} {w : World} (hr : Rel P φ T A w) : P.globals.size ≤ w.heap.size := by
  rcases Nat.eq_zero_or_pos P.globals.size with h | h
  · omega
  · obtain ⟨i, e1, e2, _⟩ := hr.glob (P.globals.size - 1) (by omega)
    have := hr.blk _ _ e1
    omega
theorem look_ok (hC : OrcCon P orc) {g off : Nat} {f : ByteArray → ByteArray → Option (ByteArray × Bool)} (hg : orc.look g = some (off, f)) {args : Array Value} {A A' : AS} {r : AEnd} (h : orcLook off f args.toList A = some (r, A')) : A.next ≤ A'.next ∧ (Inv A → A'.next ≤ A'.next → CallSound P g args A r A') := by
  unfold orcLook at h
  split at h
  case h_2 => cases h
  rename_i b o n hargs
  have hargs : args = #[.pointer (some ⟨b, o, none⟩), .string n] := by cases args; cases hargs; rfl
  subst hargs
  unfold lookIn at h
  split at h
  case h_2 => cases h
  rename_i vb vo len cap s1 hl1
  obtain ⟨hlen, h2⟩ := boolSome h
  clear h
  have hlen := Nat.eq_of_beq_eq_true hlen
  subst hlen
  unfold lookEnd at h2
  split at h2
  case h_2 => cases h2
  rename_i e s2 hl2
  split at h2
  case h_2 => cases h2
  rename_i v ok hv
  injection h2 with h2
  injection h2 with h3 h4
  subst h3
  subst h4
  have e1 : s1.next = A.next ∧ s1.heap = A.heap ∧ s1.fz = A.fz := by obtain ⟨_, _, _, _, _, _, _, rfl⟩ := ld_spec hl1; rw [logR_eq]; exact ⟨rfl, rfl, rfl⟩
  have e2 : s2.next = s1.next ∧ s2.heap = s1.heap ∧ s2.fz = s1.fz := by obtain ⟨_, _, _, _, _, _, _, rfl⟩ := ld_spec hl2; rw [logR_eq]; exact ⟨rfl, rfl, rfl⟩
  refine ⟨by omega, fun hi hn => ?_⟩
  have fr1 := ld_fr hi hl1
  have fr2 := ld_fr fr1.inv hl2
  refine ⟨fr1.trans fr2, fun φ T w args' hva hr hT hfr => ?_⟩
  generalize hq : args'.toList = l at hva
  cases hva with
  | cons _ v' _ l' hva hs =>
    cases hs with
    | cons _ u' _ l'' hu hs =>
      cases hs
      cases hu
      cases hva with
      | ptr _ _ i hφ =>
        have hargs' : args' = #[.pointer (some ⟨i.blk, i.sh + o, none⟩), .string n] := by cases args'; cases hq; rfl
        subst hargs'
        have hT1 : Foot A s1 T := fun c hc h => hT c hc (h.elim (fun h => .inl (fr2.r c h)) fun h => .inr (fr2.w c h))
        obtain ⟨xs', g1, g2, _⟩ := ld_run hi hl1 hr hT1 hφ
        cases g1 with
        | cons _ u _ _ hu g1 =>
          cases g1
          cases hu with
          | slice _ _ _ _ cap' a' j hj c1 c2 c3 c4 =>
            have ha : a' = ⟨j.blk, j.sh + vo, none⟩ := by rcases c3 with c3 | c3; omega; exact c3
            subst ha
            have hr1 : Rel P φ T s1 w := hr.heap e1.2.1 e1.2.2 rfl
            have hT2 : Foot s1 s2 T := fun c hc h => by
              refine hT c (by rw [← e1.1]; exact hc) ?_
              rcases h with h | h
              · exact .inl h
              · exact .inr h
            obtain ⟨ys', k1, k2, _⟩ := ld_run fr1.inv hl2 hr1 hT2 hj
            cases k1 with
            | cons _ z _ _ hz k1 =>
              cases k1
              cases hz
              have q1 := g2 0 _ rfl
              have q2 := k2 0 _ rfl
              rw [add_addr] at q1 q2
              refine (hC.look g off f hg n e v ok hv i.blk (i.sh + o) j.blk (j.sh + vo) cap' w (glob_size hr) (by rw [Nat.add_assoc]; exact q1) q2).mono ?_
              rintro r w' ⟨rfl, hb⟩
              exact ⟨φ, Post.below hr (by rw [e2.2.1, e1.2.1]) (by rw [e2.2.2, e1.2.2]) (by rw [e2.1, e1.1]) hb, .ret _ _ (.tuple _ _ (.cons _ _ _ _ (.string v) (.cons _ _ _ _ (.bool ok) .nil)))⟩
theorem tab_ok (hC : OrcCon P orc) {g : Nat} {args : Array Value} {A : AS} {v : Value} (hg : orc.tab g args.toList = some v) : A.next ≤ A.next ∧ (Inv A → A.next ≤ A.next → CallSound P g args A (.ret v) A) := by
  obtain ⟨h1, h2, h3⟩ := hC.tab g _ v hg
  refine ⟨Nat.le_refl _, fun hi _ => ⟨.refl hi, fun φ T w args' hargs hr _ _ => ?_⟩⟩
  have : args'.toList = args.toList := rels_eq (plain_eq φ 50) _ _ h1 hargs
  have : args' = args.toList.toArray := by rw [← this]
  rw [this]
  refine (h3 w (glob_size hr)).mono ?_
  rintro e w' ⟨rfl, hb⟩
  exact ⟨φ, Post.below hr rfl rfl rfl hb, .ret _ _ (plain_self φ 50 _ h2)⟩
theorem valEq_eq {a b : Value} (h : valEq a b = true) : a = b := by
  unfold valEq at h
  split at h
  · rename_i x y
    rw [bytesEq_iff] at h
    have : x.data.toList = y.data.toList := by simpa using h
    obtain ⟨⟨x⟩⟩ := x
    obtain ⟨⟨y⟩⟩ := y
    simp only at this
    rw [this]
  · rw [Nat.eq_of_beq_eq_true h]
  · cases h
theorem argsEq_eq : ∀ {l r : List Value}, argsEq l r = true → l = r := by
  intro l
  induction l with
  | nil => intro r h; cases r with | nil => rfl | cons => cases h
  | cons a l ih =>
    intro r h
    cases r with
    | nil => cases h
    | cons b r =>
      have h' : (Bool.rec false (argsEq l r) (valEq a b) : Bool) = true := h
      cases hv : valEq a b with
      | false => rw [hv] at h'; cases h'
      | true => rw [hv] at h'; rw [valEq_eq hv, ih h']
theorem tabFind_in : ∀ {t : List (Nat × List Value × Value)} {g : Nat} {args : List Value} {v : Value}, tabFind t g args = some v → (g, args, v) ∈ t := by
  intro t
  induction t with
  | nil => intro g args v h; cases h
  | cons e t ih =>
    intro g args v h
    have h' : (Bool.rec (tabFind t g args) (Bool.rec (tabFind t g args) (some e.2.2) (argsEq e.2.1 args)) (Nat.beq e.1 g) : Option Value) = some v := h
    cases h1 : Nat.beq e.1 g with
    | false => rw [h1] at h'; exact List.mem_cons_of_mem _ (ih h')
    | true =>
      rw [h1] at h'
      cases h2 : argsEq e.2.1 args with
      | false => rw [h2] at h'; exact List.mem_cons_of_mem _ (ih h')
      | true =>
        rw [h2] at h'
        have e1 := Nat.eq_of_beq_eq_true h1
        have e2 := argsEq_eq h2
        have h3 : some e.2.2 = some v := h'
        injection h3 with h3
        rw [← e1, ← e2, ← h3]
        exact List.mem_cons_self
theorem orcOK (hC : OrcCon P orc) : OrcOK P orc := by
  intro g args A r A' h
  unfold orcCall at h
  split at h
  · rename_i v hv
    injection h with h
    injection h with h
    injection h with h1 h2
    subst h1; subst h2
    exact tab_ok hC hv
  split at h
  · rename_i it t hk
    injection h with h
    exact orcKeys_ok (hC.keys g it t hk) h
  · split at h
    · rename_i t hs
      injection h with h
      exact sorted_ok hC hs h
    · split at h
      · rename_i off f hl
        injection h with h
        exact look_ok hC hl h
      · cases h
end
end Go.EvL
