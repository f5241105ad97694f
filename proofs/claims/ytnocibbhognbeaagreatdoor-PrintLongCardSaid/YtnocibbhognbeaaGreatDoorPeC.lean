/- A run on values, and its soundness. No statement is proved here. -/
import Derived.Test.YtnocibbhognbeaaGreatDoorPeB
set_option linter.unusedSimpArgs false
set_option linter.unusedVariables false
namespace Go.PE
open Go Go.EvL
section
variable {P : Program}
theorem noCallOK : CallOK P (fun _ _ _ => none) := fun _ _ _ _ _ _ _ h => by cases h
theorem noCallMono : CallMono (fun _ _ _ => none) := fun _ _ _ _ _ h => by cases h
/-- a call, out of its body -/
theorem call_of (hP : Parts P) {g : FuncId} {fn : Func} {c : Code} (hfn : P.funcs[g]? = some fn) (hc : fn.body = some c) {args : Array Value} {A B A' : AS} {f : Fr} {x : AExit} {v : Value} (b1 : fn.ntmps ≤ 1000000) (b2 : args.toList.length ≤ fn.ntmps)
    (s1 : CSound P c (initFr fn args) A x f B) (hx : x = .normal ∨ x = .ret) (hd : f.defers = []) (hfin : finish P fn f B = some (.ret v, A')) : CallSound P g args A (.ret v) A' := by
  obtain ⟨_, _, hF, hFm⟩ := hP _ noCallOK noCallMono
  have h2 : leave P (fun _ _ _ => none) fn f f.defers B none = some (.ret v, A') := by rw [hd]; exact hfin
  obtain ⟨f2, r2⟩ := leave_sound hF hFm _ s1.fr.inv (Nat.le_refl _) h2
  refine ⟨s1.fr.trans f2, fun φ T w args' hargs hr hT hfr => calls_of_wp_defers hfn hc ?_⟩
  refine s1.run φ T w _ (init_rel hargs b1 b2) hr (hT.left f2) (fresh_left hfr f2.next) _ fun φ' w' a' e hp hf' he => ?_
  have key := r2 φ' _ w' a' a'.defers .returning hf' hf'.defers .ret hp.rel (foot_right hT) (fresh_right hfr s1.fr.next hp) (fun e w' => ∃ φ', Post P φ T A A' w w' φ' ∧ EndRel φ' (.ret v) e) fun φ2 w2 e hp2 he => ⟨φ2, hp.trans s1.fr.next f2 hp2, he⟩
  rcases hx with rfl | rfl
  · cases he; exact key
  · cases he; exact key
theorem oneRes_ok {A : AS} {β : Nat → Nat} {n : Nat} {us : List Value} {vs : List PV} (h : Rs A β n us vs) : R1 A β n (resV us) (oneRes vs) := by
  cases h with
  | nil => exact .tup _ _ .nil
  | cons u p l r h hs =>
    cases hs with
    | nil => exact h
    | cons u' p' l' r' h' hs' => exact .tup _ _ (.cons _ _ _ _ h (.cons _ _ _ _ h' hs'))
theorem Fw.low {A A' : AS} {β β' : Nat → Nat} {n n' lo lo' : Nat} (h : Fw A A' β β' n n' lo) (hl : lo' ≤ lo) : Fw A A' β β' n n' lo' :=
  ⟨h.le, h.next, h.eq, h.new, h.prot, h.keep, fun c hc hw => (h.w c hc hw).imp id fun ⟨k, a, b⟩ => ⟨k, by omega, b⟩⟩
theorem step_kp {pu : Nat → Bool} {call : PCallF} (hC : PCallOK P pu call) {i : PI} {p p' : PFr} {s s' : PS} (h : stepP P call i p s = some (p', s')) : Kp s s' := by
  unfold stepP at h
  split at h
  · simp only [Option.map_eq_some_iff] at h
    obtain ⟨⟨q, s1⟩, hact, he⟩ := h
    injection he with e1 e2; subst e2
    unfold actP at hact
    split at hact
    · unfold callP at hact
      split at hact
      · exact (hC _ _ _ _ _ hact).2.1
      · cases hact
    · exact op_kp hact
  · injection h with h; injection h with _ e2; subst e2; exact .refl s
  · cases h
theorem ops_kp {pu : Nat → Bool} {call : PCallF} (hC : PCallOK P pu call) : ∀ (l : List PI) {p p' : PFr} {s s' : PS}, opsP P call l p s = some (p', s') → Kp s s' := by
  intro l
  induction l with
  | nil => intro p p' s s' h; simp only [opsP] at h; injection h with h; injection h with _ e2; subst e2; exact .refl s
  | cons i l ih =>
    intro p p' s s' h
    simp only [opsP, Option.bind_eq_some_iff] at h
    obtain ⟨⟨p1, s1⟩, h1, h2⟩ := h
    exact (step_kp hC h1).trans (ih h2)
theorem draw_kp {pu : Nat → Bool} {call : PCallF} (hC : PCallOK P pu call) : ∀ (l : List (PI × List Nat × List Nat)) (j : Nat) (acc : List (Nat × Eff × Nat × Nat)) {p p' : PFr} {s s' : PS}, drawP P pu call l j acc p s = some (p', s') → Kp s s' := by
  intro l
  induction l with
  | nil => intro j acc p p' s s' h; simp only [drawP] at h; injection h with h; injection h with _ e2; subst e2; exact .refl s
  | cons i l ih =>
    intro j acc p p' s s' h
    obtain ⟨i, ls, un⟩ := i
    simp only [drawP, Option.bind_eq_some_iff] at h
    obtain ⟨⟨p1, s1⟩, h1, h2⟩ := h
    simp only at h2
    split at h2
    · exact (step_kp hC h1).trans (ih _ _ h2)
    · cases h2
theorem code_kp {pu : Nat → Bool} {call : PCallF} (hC : PCallOK P pu call) {L : Nat} : ∀ {c : PCode} {p p' : PFr} {s s' : PS} {x : PXt}, codeP P pu call L c p s = some (x, p', s') → Kp s s' := by
  have hloop : ∀ {b : PFr → PS → PEx}, (∀ {p p' : PFr} {s s' : PS} {x : PXt}, b p s = some (x, p', s') → Kp s s') → ∀ (n : Nat) {p p' : PFr} {s s' : PS} {x : PXt}, loopP b n p s = some (x, p', s') → Kp s s' := by
    intro b hb n
    induction n with
    | zero => intro p p' s s' x h; cases h
    | succ n ih =>
      intro p p' s s' x h
      simp only [loopP, seqP, Option.bind_eq_some_iff] at h
      obtain ⟨⟨x1, p1, s1⟩, h1, h2⟩ := h
      simp only at h2
      split at h2
      · exact (hb h1).trans (ih h2)
      · injection h2 with h2; injection h2 with _ e2; injection e2 with _ e3; subst e3; exact hb h1
  intro c
  induction c with
  | skip => intro p p' s s' x h; simp only [codeP] at h; injection h with h; injection h with _ e2; injection e2 with _ e3; subst e3; exact .refl s
  | reg l =>
    intro p p' s s' x h
    simp only [codeP, Option.map_eq_some_iff] at h
    obtain ⟨⟨p1, s1⟩, h1, he⟩ := h
    injection he with _ e2; injection e2 with _ e3; subst e3
    exact ops_kp hC l h1
  | draw l =>
    intro p p' s s' x h
    simp only [codeP, Option.map_eq_some_iff] at h
    obtain ⟨⟨p1, s1⟩, h1, he⟩ := h
    injection he with _ e2; injection e2 with _ e3; subst e3
    exact draw_kp hC l 0 [] h1
  | seq a b iha ihb =>
    intro p p' s s' x h
    simp only [codeP, seqP, Option.bind_eq_some_iff] at h
    obtain ⟨⟨x1, p1, s1⟩, h1, h2⟩ := h
    simp only at h2
    split at h2
    · exact (iha h1).trans (ihb h2)
    · injection h2 with h2; injection h2 with _ e2; injection e2 with _ e3; subst e3; exact iha h1
  | cond o a b iha ihb =>
    intro p p' s s' x h
    simp only [codeP] at h
    unfold condP at h
    split at h
    · exact iha h
    · exact ihb h
    · cases h
  | block id b ih =>
    intro p p' s s' x h
    simp only [codeP, blockP, Option.map_eq_some_iff] at h
    obtain ⟨⟨x1, p1, s1⟩, h1, h2⟩ := h
    have : s1 = s' := by
      simp only at h2
      split at h2
      · split at h2 <;> (injection h2 with _ e2; injection e2)
      · injection h2 with _ e2; injection e2
    subst this
    exact ih h1
  | loop b ih => intro p p' s s' x h; simp only [codeP] at h; exact hloop ih L h
  | exit id => intro p p' s s' x h; simp only [codeP] at h; injection h with h; injection h with _ e2; injection e2 with _ e3; subst e3; exact .refl s
  | ret => intro p p' s s' x h; simp only [codeP] at h; injection h with h; injection h with _ e2; injection e2 with _ e3; subst e3; exact .refl s
  | bad => intro p p' s s' x h; simp only [codeP] at h; cases h
/-- what is asked of the table of functions -/
def TabOK (P : Program) (Γ : Nat → Option PFn) : Prop := ∀ g pf, Γ g = some pf → ∃ fn keep, P.funcs[g]? = some fn ∧ compF P fn keep = some pf
theorem enter_ok (hE : Env P) (hO : OpsOK P) (hm : P.follows .mixedOrders = true) (hP : Parts P) {pu : Nat → Bool} {call : PCallF} (hC : PCallOK P pu call) {L g : Nat} {fn : Func} {pf : PFn} {keep : Bool} (hfn : P.funcs[g]? = some fn) (hpf : compF P fn keep = some pf) {args : List PV} {s s' : PS} {q : PV} (h : enterP P pu call L pf args s = some (q, s')) :
    (∃ fn c, P.funcs[g]? = some fn ∧ fn.body = some c) ∧ Kp s s' ∧
    ∀ (A : AS) (β : Nat → Nat) (vs : List Value), Inv A → RS A β s → Rs A β s.n vs args → ∃ u A' β', CallSound P g vs.toArray A (.ret u) A' ∧ Fw A A' β β' s.n s'.n s'.w ∧ RS A' β' s' ∧ R1 A' β' s'.n u q ∧ (pf.keep = false → ∀ c, c < A.next → A'.w.testBit c = true → A.w.testBit c = true) := by
  unfold compF at hpf
  split at hpf
  · rename_i c hc
    refine ⟨⟨fn, c, hfn, hc⟩, ?_⟩
    split at hpf
    · rename_i b r hb hr
      split at hpf
      · rename_i hnt
        injection hpf with hpf; subst hpf
        have b1 := Nat.le_of_ble_eq_true hnt
        unfold enterP at h
        split at h
        · rename_i hlen
          simp only [Option.bind_eq_some_iff] at h
          obtain ⟨⟨x, p1, s1⟩, h1, h2⟩ := h
          have hx : (x = .normal ∨ x = .ret) ∧ leaveP ⟨fn.ntmps, b, r, keep⟩ s p1 s1 = some (q, s') := by
            unfold endP at h2
            split at h2
            · rename_i hx; exact ⟨.inl hx, h2⟩
            · rename_i hx; exact ⟨.inr hx, h2⟩
            · cases h2
          obtain ⟨hx, hl⟩ := hx
          unfold leaveP at hl
          simp only [Option.bind_eq_some_iff] at hl
          obtain ⟨us', hres, hl⟩ := hl
          have key : ∀ (A : AS) (β : Nat → Nat) (vs : List Value), Inv A → RS A β s → Rs A β s.n vs args → Kp ⟨s.h, s.n, s.n⟩ s1 ∧ ∃ us A' β1, CallSound P g vs.toArray A (.ret (resV us)) A' ∧ Fw A A' β β1 s.n s1.n s1.w ∧ RS A' β1 s1 ∧ R1 A' β1 s1.n (resV us) (oneRes us') := by
            intro A β vs hi hs hvs
            obtain ⟨kp, f1, A1, β1, k1, k2, k3, k4⟩ := code_ok hE hO hm hC c b hb hi (s := ⟨s.h, s.n, s.n⟩) ⟨hs.blk, hs.inj, hs.lay⟩ (init_ok hvs b1 hlen) h1
            obtain ⟨us, A', m1, m2, m3, m4, m5, m6⟩ := res_ok k1.fr.inv k3 k4 fn.results.toList r us' hr hres
            have hfin : finish P fn f1 A1 = some (.ret (resV us), A') := by
              unfold finish
              rw [m1]
              cases us with
              | nil => rfl
              | cons u us => cases us <;> rfl
            have hcall : CallSound P g vs.toArray A (.ret (resV us)) A' := by
              refine call_of hP hfn hc b1 ?_ k1 ?_ k4.df hfin
              · rw [List.toList_toArray, hvs.len]; exact hlen
              · rcases hx with rfl | rfl
                · exact .inl rfl
                · exact .inr rfl
            have hw : Fw A1 A' β1 β1 s1.n s1.n s1.w := .heap β1 s1.n m2 m3 m4
            exact ⟨kp, us, A', β1, hcall, k2.trans hw (Nat.le_refl _), k3.same m2 m3 m4 m5, (oneRes_ok m6).mono hw⟩
          split at hl
          · rename_i hkeep
            injection hl with hl; injection hl with e1 e2; subst e1; subst e2
            have hkp : ∀ (_ : Kp ⟨s.h, s.n, s.n⟩ s1), Kp s ⟨s1.h, s1.n, min s.w s1.w⟩ := fun kp => ⟨Nat.min_le_left _ _, kp.n, fun k a b => kp.h k a (by
              have : k < min s.w s1.w := b
              omega)⟩
            refine ⟨hkp (code_kp hC h1), fun A β vs hi hs hvs => ?_⟩
            obtain ⟨kp, us, A', β1, q1, q2, q3, q4⟩ := key A β vs hi hs hvs
            exact ⟨_, A', β1, q1, q2.low (Nat.min_le_right _ _), ⟨q3.blk, q3.inj, q3.lay⟩, q4, fun hk => by rw [hkeep] at hk; cases hk⟩
          · split at hl
            · rename_i hsame
              simp only [Option.map_eq_some_iff] at hl
              obtain ⟨v, hv, he⟩ := hl
              injection he with e1 e2; subst e1; subst e2
              refine ⟨.refl s, fun A β vs hi hs hvs => ?_⟩
              obtain ⟨kp, us, A', β1, q1, q2, q3, q4⟩ := key A β vs hi hs hvs
              have hs' : Same s s1 := fun k hk => kp.h k hk (by omega)
              have hw : ∀ c, c < A.next → A'.w.testBit c = true → A.w.testBit c = true := fun c hc hb => by
                rcases q2.w c hc hb with h | ⟨k, a1, a2, _⟩
                · exact h
                · omega
              exact ⟨_, A', β1, q1, ⟨Nat.le_refl _, q2.next, q2.eq, fun k a b => by omega, q2.prot, q2.keep, fun c hc hb => .inl (hw c hc hb)⟩, q3.cut hs q2.le hs', frz_ok q3 q2.le q4 hv, fun _ => hw⟩
            · cases hl
        · cases h
      · cases hpf
    · cases hpf
  · cases hpf
theorem callN_ok (hE : Env P) (hO : OpsOK P) (hm : P.follows .mixedOrders = true) (hP : Parts P) {Γ : Nat → Option PFn} (hΓ : TabOK P Γ) {ext : PCallF} (hX : PCallOK P (puOf Γ) ext) : ∀ n, PCallOK P (puOf Γ) (callN P Γ ext n) := by
  intro n
  induction n with
  | zero => intro g args s q s' h; cases h
  | succ n ih =>
    intro g args s q s' h
    simp only [callN] at h
    split at h
    · rename_i pf hpf
      obtain ⟨fn, keep, h1, h2⟩ := hΓ g pf hpf
      obtain ⟨a1, a2, a3⟩ := enter_ok hE hO hm hP ih h1 h2 h
      refine ⟨a1, a2, fun A β vs hi hs hvs => ?_⟩
      obtain ⟨u, A', β', b1, b2, b3, b4, b5⟩ := a3 A β vs hi hs hvs
      refine ⟨u, A', β', b1, b2, b3, b4, fun hp => b5 ?_⟩
      unfold puOf at hp
      rw [hpf] at hp
      simpa using hp
    · exact hX g args s q s' h
end
def Le {α : Type} (a b : Option α) : Prop := ∀ x, a = some x → b = some x
theorem Le.refl {α : Type} (a : Option α) : Le a a := fun _ h => h
theorem Le.bind {α β : Type} {a b : Option α} {k l : α → Option β} (h : Le a b) (hk : ∀ x, Le (k x) (l x)) : Le (a.bind k) (b.bind l) := by
  intro x hx
  rw [Option.bind_eq_some_iff] at hx ⊢
  obtain ⟨y, h1, h2⟩ := hx
  exact ⟨y, h y h1, hk y x h2⟩
theorem Le.map {α β : Type} {a b : Option α} {k : α → β} (h : Le a b) : Le (a.map k) (b.map k) := by
  intro x hx
  rw [Option.map_eq_some_iff] at hx ⊢
  obtain ⟨y, h1, h2⟩ := hx
  exact ⟨y, h y h1, h2⟩
def LeC (c d : PCallF) : Prop := ∀ g args s, Le (c g args s) (d g args s)
section
variable {P : Program} {c d : PCallF}
theorem le_step (h : LeC c d) (i : PI) (f : PFr) (s : PS) : Le (stepP P c i f s) (stepP P d i f s) := by
  unfold stepP
  cases guardP f i.gd with
  | none => exact .refl _
  | some b =>
    cases b with
    | false => exact .refl _
    | true =>
      refine Le.map ?_
      unfold actP
      split
      · unfold callP
        split
        · exact h _ _ _
        · exact .refl _
      · exact .refl _
theorem le_ops (h : LeC c d) : ∀ (l : List PI) (f : PFr) (s : PS), Le (opsP P c l f s) (opsP P d l f s) := by
  intro l
  induction l with
  | nil => intro f s; exact .refl _
  | cons i l ih => intro f s; exact Le.bind (le_step h i f s) fun q => ih q.1 q.2
theorem le_seq {a b : PEx} {k l : PFr → PS → PEx} (h : Le a b) (hk : ∀ f s, Le (k f s) (l f s)) : Le (seqP a k) (seqP b l) := by
  refine Le.bind h fun q => ?_
  cases q.1 with
  | normal => exact hk _ _
  | _ => exact .refl _
theorem le_loop {a b : PFr → PS → PEx} (h : ∀ f s, Le (a f s) (b f s)) : ∀ (n m : Nat), n ≤ m → ∀ f s, Le (loopP a n f s) (loopP b m f s) := by
  intro n
  induction n with
  | zero => intro m _ f s x hx; cases hx
  | succ n ih =>
    intro m hm f s
    obtain ⟨m', rfl⟩ : ∃ m', m = m' + 1 := ⟨m - 1, by omega⟩
    exact le_seq (h f s) (ih m' (by omega))
theorem le_draw {pu : Nat → Bool} (h : LeC c d) : ∀ (l : List (PI × List Nat × List Nat)) (j : Nat) (acc : List (Nat × Eff × Nat × Nat)) (f : PFr) (s : PS), Le (drawP P pu c l j acc f s) (drawP P pu d l j acc f s) := by
  intro l
  induction l with
  | nil => intro j acc f s; exact .refl _
  | cons i l ih =>
    intro j acc f s
    obtain ⟨i, ls, un⟩ := i
    refine Le.bind (le_step h i _ s) fun q => ?_
    split
    · exact ih _ _ _ _
    · exact .refl _
theorem le_code {pu : Nat → Bool} (h : LeC c d) {n m : Nat} (hn : n ≤ m) : ∀ (pc : PCode) (f : PFr) (s : PS), Le (codeP P pu c n pc f s) (codeP P pu d m pc f s) := by
  intro pc
  induction pc with
  | skip => intro f s; exact .refl _
  | reg l => intro f s; exact Le.map (le_ops h l f s)
  | draw l => intro f s; exact Le.map (le_draw h l 0 [] f s)
  | seq a b iha ihb => intro f s; exact le_seq (iha f s) ihb
  | cond o a b iha ihb =>
    intro f s
    simp only [codeP]
    unfold condP
    cases asBool (pval f o) with
    | none => exact .refl _
    | some t => cases t; exact ihb f s; exact iha f s
  | block id b ih => intro f s; exact Le.map (ih f s)
  | loop b ih => intro f s; exact le_loop ih n m hn f s
  | exit id => intro f s; exact .refl _
  | ret => intro f s; exact .refl _
  | bad => intro f s; exact .refl _
theorem le_enter {pu : Nat → Bool} (h : LeC c d) {n m : Nat} (hn : n ≤ m) (fn : PFn) (args : List PV) (s : PS) : Le (enterP P pu c n fn args s) (enterP P pu d m fn args s) := by
  unfold enterP
  split
  · exact Le.bind (le_code h hn _ _ _) fun q => .refl _
  · exact .refl _
variable {Γ : Nat → Option PFn} {ext : PCallF}
theorem le_call : ∀ n, LeC (callN P Γ ext n) (callN P Γ ext (n + 1)) := by
  intro n
  induction n with
  | zero => intro g args s x hx; cases hx
  | succ n ih =>
    intro g args s
    simp only [callN]
    split
    · exact le_enter ih (Nat.le_succ n) _ _ _
    · exact .refl _
theorem le_calls {n m : Nat} (h : n ≤ m) : LeC (callN P Γ ext n) (callN P Γ ext m) := by
  induction m with
  | zero => rw [show n = 0 by omega]; exact fun _ _ _ => .refl _
  | succ m ih =>
    by_cases he : n = m + 1
    · rw [he]; exact fun _ _ _ => .refl _
    · exact fun g args s x hx => le_call m g args s x (ih (by omega) g args s x hx)
end
open Classical in
noncomputable def Lim {α : Type} (F : Nat → Option α) : Option α := if h : ∃ a n, F n = some a then some h.choose else none
def Mono {α : Type} (F : Nat → Option α) : Prop := ∀ n m, n ≤ m → Le (F n) (F m)
theorem lim_iff {α : Type} {F : Nat → Option α} (hF : Mono F) (a : α) : Lim F = some a ↔ ∃ n, F n = some a := by
  unfold Lim
  constructor
  · intro h
    split at h
    · rename_i hh
      injection h with h
      obtain ⟨n, hn⟩ := hh.choose_spec
      exact ⟨n, by rw [← h]; exact hn⟩
    · cases h
  · rintro ⟨n, hn⟩
    have hh : ∃ a n, F n = some a := ⟨a, n, hn⟩
    rw [dif_pos hh]
    obtain ⟨m, hm⟩ := hh.choose_spec
    have h1 := hF n (max n m) (by omega) _ hn
    have h2 := hF m (max n m) (by omega) _ hm
    rw [h1] at h2
    injection h2 with h2
    rw [← h2]
theorem lim_const {α : Type} (a : Option α) : Lim (fun _ => a) = a := by
  apply Option.ext
  intro x
  rw [lim_iff (fun _ _ _ => .refl _)]
  exact ⟨fun ⟨_, h⟩ => h, fun h => ⟨0, h⟩⟩
theorem lim_bind {α β : Type} {F : Nat → Option α} {G : Nat → α → Option β} (hF : Mono F) (hG : ∀ x, Mono fun n => G n x) : Lim (fun n => (F n).bind (G n)) = (Lim F).bind fun x => Lim fun n => G n x := by
  apply Option.ext
  intro x
  rw [lim_iff (fun n m h => Le.bind (hF n m h) fun y => hG y n m h), Option.bind_eq_some_iff]
  constructor
  · rintro ⟨n, h⟩
    rw [Option.bind_eq_some_iff] at h
    obtain ⟨y, h1, h2⟩ := h
    exact ⟨y, (lim_iff hF y).2 ⟨n, h1⟩, (lim_iff (hG y) x).2 ⟨n, h2⟩⟩
  · rintro ⟨y, h1, h2⟩
    obtain ⟨n, h1⟩ := (lim_iff hF y).1 h1
    obtain ⟨m, h2⟩ := (lim_iff (hG y) x).1 h2
    refine ⟨max n m, ?_⟩
    rw [Option.bind_eq_some_iff]
    exact ⟨y, hF n _ (by omega) _ h1, hG y m _ (by omega) _ h2⟩
theorem lim_map {α β : Type} {F : Nat → Option α} (hF : Mono F) (k : α → β) : Lim (fun n => (F n).map k) = (Lim F).map k := by
  apply Option.ext
  intro x
  rw [lim_iff (fun n m h => Le.map (hF n m h)), Option.map_eq_some_iff]
  constructor
  · rintro ⟨n, h⟩
    rw [Option.map_eq_some_iff] at h
    obtain ⟨y, h1, h2⟩ := h
    exact ⟨y, (lim_iff hF y).2 ⟨n, h1⟩, h2⟩
  · rintro ⟨y, h1, h2⟩
    obtain ⟨n, h1⟩ := (lim_iff hF y).1 h1
    exact ⟨n, by rw [Option.map_eq_some_iff]; exact ⟨y, h1, h2⟩⟩
theorem lim_succ {α : Type} {F : Nat → Option α} (hF : Mono F) : Lim (fun n => F (n + 1)) = Lim F := by
  apply Option.ext
  intro x
  rw [lim_iff (fun n m h => hF _ _ (by omega)), lim_iff hF]
  exact ⟨fun ⟨n, h⟩ => ⟨n + 1, h⟩, fun ⟨n, h⟩ => ⟨n, hF n _ (by omega) _ h⟩⟩
section
variable (P : Program) (Γ : Nat → Option PFn) (ext : PCallF)
noncomputable def pcall : PCallF := fun g args s => Lim fun n => callN P Γ ext n g args s
noncomputable def pstep (i : PI) (f : PFr) (s : PS) : Option (PFr × PS) := stepP P (pcall P Γ ext) i f s
noncomputable def pops (l : List PI) (f : PFr) (s : PS) : Option (PFr × PS) := opsP P (pcall P Γ ext) l f s
noncomputable def pcode (c : PCode) (f : PFr) (s : PS) : PEx := Lim fun n => codeP P (puOf Γ) (callN P Γ ext n) n c f s
end
section
variable {P : Program} {Γ : Nat → Option PFn} {ext : PCallF}
theorem mono_call (g : Nat) (args : List PV) (s : PS) : Mono fun n => callN P Γ ext n g args s := fun _ _ h => le_calls h g args s
theorem mono_code (c : PCode) (f : PFr) (s : PS) : Mono fun n => codeP P (puOf Γ) (callN P Γ ext n) n c f s := fun _ _ h => le_code (le_calls h) h c f s
theorem mono_step (i : PI) (f : PFr) (s : PS) : Mono fun n => stepP P (callN P Γ ext n) i f s := fun _ _ h => le_step (le_calls h) i f s
theorem mono_ops (l : List PI) (f : PFr) (s : PS) : Mono fun n => opsP P (callN P Γ ext n) l f s := fun _ _ h => le_ops (le_calls h) l f s
theorem lim_step (i : PI) (f : PFr) (s : PS) : Lim (fun n => stepP P (callN P Γ ext n) i f s) = pstep P Γ ext i f s := by
  unfold pstep stepP
  cases guardP f i.gd with
  | none => exact lim_const _
  | some b =>
    cases b with
    | false => exact lim_const _
    | true =>
      simp only
      rw [lim_map]
      · congr 1
        unfold actP
        split
        · unfold callP
          split
          · rfl
          · exact lim_const _
        · exact lim_const _
      · intro n m h
        unfold actP
        split
        · unfold callP
          split
          · exact le_calls h _ _ _
          · exact .refl _
        · exact .refl _
theorem lim_ops : ∀ (l : List PI) (f : PFr) (s : PS), Lim (fun n => opsP P (callN P Γ ext n) l f s) = pops P Γ ext l f s := by
  intro l
  induction l with
  | nil => intro f s; exact lim_const _
  | cons i l ih =>
    intro f s
    have h := lim_bind (F := fun n => stepP P (callN P Γ ext n) i f s) (G := fun n q => opsP P (callN P Γ ext n) l q.1 q.2) (mono_step i f s) (fun q => mono_ops l q.1 q.2)
    rw [lim_step] at h
    show Lim (fun n => (stepP P (callN P Γ ext n) i f s).bind fun q => opsP P (callN P Γ ext n) l q.1 q.2) = (pstep P Γ ext i f s).bind fun q => pops P Γ ext l q.1 q.2
    rw [h]
    congr 1
    funext q
    exact ih q.1 q.2
theorem pcode_reg (l : List PI) (f : PFr) (s : PS) : pcode P Γ ext (.reg l) f s = (pops P Γ ext l f s).map fun q => (.normal, q.1, q.2) := by
  rw [← lim_ops]
  exact lim_map (mono_ops l f s) _
theorem pcall_ok (hE : Env P) (hO : OpsOK P) (hm : P.follows .mixedOrders = true) (hP : Parts P) (hΓ : TabOK P Γ) (hX : PCallOK P (puOf Γ) ext) : PCallOK P (puOf Γ) (pcall P Γ ext) := by
  intro g args s q s' h
  obtain ⟨n, hn⟩ := (lim_iff (mono_call g args s) (q, s')).1 h
  exact callN_ok hE hO hm hP hΓ hX n g args s q s' hn
end
end Go.PE
namespace Go.PE
open Go Go.EvL
abbrev KX := Nat → List PV → PS → (Value → PS → Prop) → Prop
def XA (K : KX) (f : PFr) (s : PS) (U : Value → PS → Prop) (o : POp) : Prop := match o with
  | .pan x => match pval f x with
    | .sc (.iface t v) => sok (.iface t v) = true ∧ U (.iface t v) s
    | _ => False
  | .call x args => match pval f x with
    | .fn g first cap => K g (first ++ (args.map (pval f) ++ cap)) s U
    | _ => False
  | _ => False
abbrev XU := Value → PFr → PS → Prop
section
variable (P : Program) (Γ : Nat → Option PFn) (ext : PCallF)
def XO (K : KX) : List PI → PFr → PS → XU → Prop
  | [], _, _, _ => False
  | i :: l, f, s, U => (guardP f i.gd = some true ∧ XA K f s (fun v s' => U v f s') i.op) ∨ ∃ q, pstep P Γ ext i f s = some q ∧ XO K l q.1 q.2 U
def XD (K : KX) : List (PI × List Nat × List Nat) → Nat → List (Nat × Eff × Nat × Nat) → PFr → PS → XU → Prop
  | [], _, _, _, _, _ => False
  | (i, ls, un) :: l, j, acc, f, s, U => i.gd = none ∧ ((barP un j l = true ∧ XA K f s (fun v s' => U v f s') i.op) ∨
      ∃ q, pstep P Γ ext i (onlyP ls f) s = some q ∧ (pureI (puOf Γ) (onlyP ls f) i = true ∨ barP un j l = true) ∧ OkAll un (effI (onlyP ls f) i) acc ∧ XD K l (j + 1) ((j, effI (onlyP ls f) i, s.n, q.2.n) :: acc) (setG f i.dst q.1) q.2 U)
inductive XL (B : PFr → PS → Prop) (N : PFr → PS → PEx) : PFr → PS → Prop
  | here (f : PFr) (s : PS) (h : B f s) : XL B N f s
  | next (f : PFr) (s : PS) (f1 : PFr) (s1 : PS) (h : N f s = some (.normal, f1, s1)) (k : XL B N f1 s1) : XL B N f s
def XC (K : KX) : PCode → PFr → PS → XU → Prop
  | .reg l, f, s, U => XO P Γ ext K l f s U
  | .draw l, f, s, U => XD P Γ ext K l 0 [] f s U
  | .seq a b, f, s, U => XC K a f s U ∨ ∃ f1 s1, pcode P Γ ext a f s = some (.normal, f1, s1) ∧ XC K b f1 s1 U
  | .cond c a b, f, s, U => (asBool (pval f c) = some true ∧ XC K a f s U) ∨ (asBool (pval f c) = some false ∧ XC K b f s U)
  | .block _ b, f, s, U => XC K b f s U
  | .loop b, f, s, U => XL (fun f s => XC K b f s U) (pcode P Γ ext b) f s
  | _, _, _, _ => False
def XKn : Nat → KX
  | 0 => fun _ _ _ _ => False
  | n + 1 => fun g args s U => ∃ fn, Γ g = some fn ∧ args.length ≤ fn.nt ∧ XC P Γ ext (XKn n) fn.body (initP args 0) ⟨s.h, s.n, s.n⟩ (fun v _ s1 => (fn.keep = true ∧ U v ⟨s1.h, s1.n, min s.w s1.w⟩) ∨ (fn.keep = false ∧ s.n ≤ s1.w ∧ U v s))
def XK : KX := fun g args s U => ∃ n, XKn P Γ ext n g args s U
end
/-- a value that a panic carries -/
def PanV (v : Value) : Prop := (∃ t u, v = .iface t u) ∧ sok v = true
section
variable {ds : List Deferred} {P : Program}
theorem stepUp_pan (hO : OpsOK P) {ops : Array Oper} {o : Oper} {f : Fr} {A : AS} {v : Value} (hi : Inv A) (hw : wantedA ops.toList f o.guard = some true) (hev : evalOp P f o A = some (.panic v, A)) : StepUp P ops o f A v A := by
  have hs := hO f o A _ _ hi (Nat.le_refl _) hev
  refine ⟨hs.fr, fun φ T w a hf hr hT hfr K Q hK => ?_⟩
  unfold opWp
  rw [wanted_ok hf hw, if_pos rfl]
  obtain ⟨φ', w', hp, hnr⟩ := hs.run φ T w a hf hr hT hfr
  unfold Oper.wp
  generalize hres : (execOp a.eval o).run P w = res at hnr
  cases hnr with
  | panic _ v' hv => exact hK φ' w' _ hp hv
theorem stepUp_call {ops : Array Oper} {o : Oper} {f : Fr} {A B A' : AS} {g : FuncId} {args : Array Value} {v : Value} (hw : wantedA ops.toList f o.guard = some true) (hs : Sound P f A o (.enter g args) B) (hcs : CallSound P g args B (.panic v) A') : StepUp P ops o f A v A' := by
  refine ⟨hs.fr.trans hcs.fr, fun φ T w a hf hr hT hfr K Q hK => ?_⟩
  unfold opWp
  rw [wanted_ok hf hw, if_pos rfl]
  obtain ⟨φ', w', hp, hnr⟩ := hs.run φ T w a hf hr (hT.left hcs.fr) (fun b h1 h2 => hfr b h1 (Nat.lt_of_lt_of_le h2 hcs.fr.next))
  unfold Oper.wp
  generalize hres : (execOp a.eval o).run P w = res at hnr
  cases hnr with
  | enter _ _ args' hargs =>
    refine (hcs.run φ' _ w' args' hargs hp.rel ?_ ?_).mono ?_
    · intro c hc' hh
      by_cases hlt : c < A.next
      · exact .inl (hT c hlt hh)
      · exact .inr ⟨by omega, hc'⟩
    · intro b h3 h4
      rw [hp.out b (.inr h3)]
      exact hfr b (Nat.le_trans hs.fr.next h3) h4
    · rintro e2 w2 ⟨φ2, hp2, he2⟩
      cases he2 with
      | panic _ v' hv => exact hK φ2 w2 _ (hp.trans hs.fr.next hcs.fr hp2) hv
def KOK (P : Program) (K : KX) : Prop := ∀ g args s U, K g args s U → ∃ v s', U v s' ∧ PanV v ∧ (∃ fn c, P.funcs[g]? = some fn ∧ fn.body = some c) ∧ Kp s s' ∧
  ∀ (A : AS) (β : Nat → Nat) (vs : List Value), Inv A → RS A β s → Rs A β s.n vs args → ∃ A' β', CallSound P g vs.toArray A (.panic v) A' ∧ Fw A A' β β' s.n s'.n s'.w ∧ RS A' β' s'
theorem comp_pan {op : Op} {x : Operand} (h : compOp P op = some (.pan x)) : op = .panic x ∧ okX x = true := by
  cases op with
  | panic y => obtain ⟨h1, h2⟩ := gd_some h; injection h2 with h2; subst h2; exact ⟨rfl, h1⟩
  | call cc =>
    exfalso
    obtain ⟨callee, cargs, tys⟩ := cc
    simp only [compOp] at h
    split at h
    · split at h
      · obtain ⟨_, h2⟩ := gd_some h; cases h2
      · unfold compBodyless at h
        split at h
        · obtain ⟨_, h2⟩ := gd_some h; cases h2
        · obtain ⟨_, h2⟩ := gd_some h; cases h2
        · cases h
    · unfold compBuiltin at h
      repeat' split at h
      all_goals first | (cases h; done) | (obtain ⟨_, h2⟩ := gd_some h; cases h2; done)
    · cases h
  | slice t x lo hi' mx =>
    exfalso
    cases mx with
    | some m =>
      cases lo with
      | some lo => cases hi' <;> cases h
      | none =>
        cases hi' with
        | none => cases h
        | some y =>
          simp only [compOp] at h
          repeat' split at h
          all_goals first | (cases h; done) | (obtain ⟨_, h2⟩ := gd_some h; cases h2; done)
    | none =>
      simp only [compOp] at h
      repeat' split at h
      all_goals first | (cases h; done) | (obtain ⟨_, h2⟩ := gd_some h; cases h2; done)
  | makeFunc fn a b =>
    exfalso
    cases fn with
    | func g => obtain ⟨_, h2⟩ := gd_some h; cases h2
    | _ => cases h
  | typeAssert x xt a ok =>
    exfalso
    cases ok with
    | false => cases h
    | true =>
      simp only [compOp] at h
      repeat' split at h
      all_goals first | (cases h; done) | (obtain ⟨_, h2⟩ := gd_some h; cases h2; done)
  | _ =>
    exfalso
    simp only [compOp] at h
    repeat' split at h
    all_goals first | (cases h; done) | (obtain ⟨_, h2⟩ := gd_some h; cases h2; done)
theorem getD_pan {op : Op} {x : Operand} (h : (compOp P op).getD .bad = .pan x) : compOp P op = some (.pan x) := by
  cases hc : compOp P op with
  | none => rw [hc] at h; cases h
  | some q => rw [hc] at h; exact congrArg some h
theorem xa_ok (hE : Env P) (hO : OpsOK P) {K : KX} (hK : KOK P K) {ops : Array Oper} {o : Oper} {i : PI} {nt : Nat} (hc : compI P nt ops.toList o = some i) {p : PFr} {s : PS} {U : Value → PS → Prop} (hg : guardP p i.gd = some true) (h : XA K p s U i.op) :
    ∃ v s', U v s' ∧ PanV v ∧ Kp s s' ∧ ∀ (A : AS) (β : Nat → Nat) (f : Fr), Inv A → RS A β s → RF ds A β s.n nt f p → ∃ A' β', StepUp P ops o f A v A' ∧ Fw A A' β β' s.n s'.n s'.w ∧ RS A' β' s' := by
  unfold compI at hc
  split at hc
  · rename_i g' hg'
    split at hc
    · rename_i hd
      injection hc with hc; subst hc
      simp only at h hg
      generalize hpq : (compOp P o.op).getD .bad = po at h
      unfold XA at h
      split at h
      · rename_i x
        obtain ⟨hop, hx⟩ := comp_pan (getD_pan hpq)
        split at h
        · rename_i t u hpx
          obtain ⟨d, op, ty, pos, af, gu⟩ := o
          simp only at hop
          subst hop
          obtain ⟨hsok, h⟩ := h
          refine ⟨_, _, h, ⟨⟨t, u, rfl⟩, hsok⟩, .refl s, fun A β f hi hs hf => ⟨A, β, stepUp_pan hO hi (guard_ok hf hg' hg) ?_, .refl A β s.n _, hs⟩⟩
          obtain ⟨vx, x1, x2⟩ := okX_eval hf hx
          rw [hpx] at x2
          obtain ⟨rfl, _⟩ := x2.sc
          show panicA (f.eval x) A = _
          rw [x1]
          rfl
        · exact h.elim
      · rename_i x args
        obtain ⟨cargs, tys, hop, rfl, h1, h2⟩ := comp_call (getD_call hpq)
        split at h
        · rename_i g first cap hx
          obtain ⟨v, s', hu, hpv, ⟨fn, c, hfn, hbody⟩, hkp, hcall⟩ := hK _ _ _ _ h
          refine ⟨v, s', hu, hpv, hkp, fun A β f hi hs hf => ?_⟩
          obtain ⟨vs, vas, xs, ys, k1, k2, rfl, k3⟩ := call_args hf h1 h2 hx
          obtain ⟨d, op, ty, pos, af, gu⟩ := o
          simp only at hop
          subst hop
          obtain ⟨A', β', c1, c2, c3⟩ := hcall A β _ hi hs k3
          have hsd := call_enter (d := d) (ty := ty) (pos := pos) (af := af) (gu := gu) (tys := tys) hE hi k1 k2 hfn hbody
          exact ⟨A', β', stepUp_call (guard_ok hf hg' hg) hsd c1, c2, c3⟩
        · exact h.elim
      · exact h.elim
    · cases hc
  · cases hc
/-- the operations of a region in order, of which one panics -/
theorem xo_ok (hE : Env P) (hO : OpsOK P) {Γ : Nat → Option PFn} {ext : PCallF} (hC : PCallOK P (puOf Γ) (pcall P Γ ext)) {K : KX} (hK : KOK P K) {ops : Array Oper} {nt : Nat} {U : XU} : ∀ (lo : List Oper) (l : List PI), compL P nt ops.toList lo = some l → ∀ {p : PFr} {s : PS}, XO P Γ ext K l p s U →
    ∃ v p' s', U v p' s' ∧ PanV v ∧ Kp s s' ∧ ∀ (A : AS) (β : Nat → Nat) (f : Fr), Inv A → RS A β s → RF ds A β s.n nt f p → ∃ f' A' β', OpsSound P ops lo f A (.panic v) f' A' ∧ Fw A A' β β' s.n s'.n s'.w ∧ RS A' β' s' ∧ RF ds A' β' s'.n nt f' p' := by
  intro lo
  induction lo with
  | nil => intro l hl p s h; simp only [compL] at hl; injection hl with hl; subst hl; exact h.elim
  | cons o lo ih =>
    intro l hl p s h
    simp only [compL] at hl
    split at hl
    · rename_i i l' hi' hl'
      injection hl with hl; subst hl
      rcases h with ⟨hg, h⟩ | ⟨q, h1, h2⟩
      · obtain ⟨v, s', hu, hpv, hkp, hk⟩ := xa_ok hE hO hK hi' hg h
        refine ⟨v, p, s', hu, hpv, hkp, fun A β f hi hs hf => ?_⟩
        obtain ⟨A', β', c1, c2, c3⟩ := hk A β f hi hs hf
        refine ⟨f, A', β', ⟨c1.fr, fun φ T w a hfr hr hT hfs Q hQ => wpList_of_op ?_⟩, c2, c3, hf.mono c2⟩
        exact c1.run φ T w a hfr hr hT hfs _ Q fun φ' w' v' hp hv => hQ φ' w' a _ hp (hfr.mono hp.ext) (.panic _ _ hv)
      · obtain ⟨v, p', s', hu, hpv, hkp, hk⟩ := ih l' hl' h2
        obtain ⟨q1, q2⟩ := q
        have hstep : stepP P (pcall P Γ ext) i p s = some (q1, q2) := h1
        refine ⟨v, p', s', hu, hpv, (step_kp hC hstep).trans hkp, fun A β f hi hs hf => ?_⟩
        obtain ⟨_, f1, A1, β1, k1, k2, k3, k4, _⟩ := step_ok hE hO hC hi' hi hs hf hstep
        obtain ⟨f2, A2, β2, m1, m2, m3, m4⟩ := hk A1 β1 f1 k1.fr.inv k3 k4
        refine ⟨f2, A2, β2, ⟨k1.fr.trans m1.fr, fun φ T w a hfr hr hT hfs Q hQ => wpList_of_op ?_⟩, k2.trans m2 hkp.w, m3, m4⟩
        refine k1.run φ T w a hfr hr (hT.left m1.fr) (fresh_left hfs m1.fr.next) _ Q fun φ' w' a' hp hf' => ?_
        refine m1.run φ' _ w' a' hf' hp.rel (foot_right hT) (fresh_right hfs k1.fr.next hp) Q fun φ2 w2 a2 e hp2 hf2 hx2 => ?_
        exact hQ φ2 w2 a2 e (hp.trans k1.fr.next m1.fr hp2) hf2 hx2
    · cases hl
end
end Go.PE
namespace Go.PE
open Go Go.EvL
section
variable {P : Program}
theorem wp_monoQ {o : Oper} {a : Act} {w : World} {K K' : Act → World → Prop} {Q Q' : Exit → Act → World → Prop} (h : ∀ a w, K a w → K' a w) (hq : ∀ e a w, e ≠ .normal → Q e a w → Q' e a w) (hh : o.wp P a w K Q) : o.wp P a w K' Q' := by
  unfold Oper.wp at *
  generalize (execOp a.eval o).run P w = r at *
  cases r with
  | ok n w' =>
    cases n <;> simp only [Oper.upon] at hh ⊢ <;>
      first
        | exact h _ _ hh
        | exact Calls.mono hh (fun e w'' he => by
            cases e with
            | returned v => exact h _ _ he
            | panicked c => exact hq _ _ _ (by simp) he
            | outgrown => obtain ⟨a, w, he⟩ := he; exact ⟨a, w, hq _ _ _ (by simp) he⟩)
        | exact Rows.mono hh (fun _ _ he => h _ _ he)
  | halt x w' =>
    cases x <;> simp only [Oper.upon] at hh ⊢
    exact hq _ _ _ (by simp) hh
theorem wanted_none {ops : Array Oper} {o : Oper} {a : Act} (h : o.guard = none) : Region.wanted o (yielded ops a.tmps) = true := by
  unfold Region.wanted; rw [h]
/-- one step of the whole region, while the prefix runs -/
theorem bar_step {ops ops1 : Array Oper} {m : Nat} {o : Oper} (hsz : ops1.size = m) (h1 : ∀ i, i < m → ops1[i]? = ops[i]?) (hm : ops[m]? = some o)
    (low : ∀ i o, i ≤ m → ops[i]? = some o → ∀ e ∈ o.after, Region.binds .any e = true → e.on < i) (hbef : ∀ L, Closed ops1 L → (∀ e ∈ o.after, Region.binds .any e = true → L e.on) → ∀ i, i < m → L i)
    (haft : ∀ k o', m < k → ops[k]? = some o' → ∃ e ∈ o'.after, Region.binds .any e = true ∧ m ≤ e.on) {Q : Exit → Act → World → Prop} {listed listed' : Array Bool} {a : Act} {w : World} {n : Nat} (hs : listed.size = m) (hs' : listed'.size = ops.size) (hl : ∀ j, On listed' j ↔ On listed j) (hcl : Closed ops1 (On listed))
    (hdone : Region.ready .any ops1 listed = [] → ∀ K, opWp P ops Q o K a w) (hon : ∀ i o', i ∈ Region.ready .any ops1 listed → ops1[i]? = some o' → wpOp P ops Q i (wpAny P .any ops Q n (listed'.setIfInBounds i true)) a w) : wpAny P .any ops Q (n + 1) listed' a w := by
  have hmlt : m < ops.size := op_lt hm
  have hnm : ∀ j, On listed j → j < m := fun j hj => by
    rcases Nat.lt_or_ge j m with h | h
    · exact h
    · exfalso
      unfold On at hj
      rw [Array.getD_eq_getD_getElem?, Array.getElem?_eq_none (by omega)] at hj
      cases hj
  refine ⟨fun hr => ?_, fun i hi => ?_⟩
  · exfalso
    have all : ∀ i, i ≤ m → On listed' i := by
      intro i
      induction i using Nat.strongRecOn with
      | _ i ih =>
        intro hi
        obtain ⟨oi, hoi⟩ := op_at (ops := ops) (show i < ops.size by omega)
        by_cases hon : On listed' i
        · exact hon
        · exfalso
          have : i ∈ Region.ready .any ops listed' := by
            rw [mem_ready]
            exact ⟨(not_on (by omega)).2 hon, oi, hoi, fun e he hb => ih e.on (low i oi hi hoi e he hb) (by have := low i oi hi hoi e he hb; omega)⟩
          rw [hr] at this
          cases this
    have := hnm m ((hl m).1 (all m (Nat.le_refl _)))
    omega
  · obtain ⟨h0, oi, hoi, hall⟩ := mem_ready.1 hi
    have hilt := op_lt hoi
    have hnot := (not_on (by omega)).1 h0
    rcases Nat.lt_trichotomy i m with him | rfl | him
    · have ho1 : ops1[i]? = some oi := (h1 i him).trans hoi
      refine hon i oi ?_ ho1
      rw [mem_ready]
      exact ⟨(not_on (by omega)).2 fun hh => hnot ((hl i).2 hh), oi, ho1, fun e he hb => (hl _).1 (hall e he hb)⟩
    · rw [hm] at hoi
      injection hoi with hoi
      subst hoi
      have hallL : ∀ k, k < i → On listed k := hbef _ hcl fun e he hb => (hl _).1 (hall e he hb)
      have hr1 : Region.ready .any ops1 listed = [] := by
        cases hr : Region.ready .any ops1 listed with
        | nil => rfl
        | cons k l =>
          have hk : k ∈ Region.ready .any ops1 listed := by rw [hr]; exact List.mem_cons_self
          obtain ⟨g0, ok, hok, _⟩ := mem_ready.1 hk
          have hkm : k < i := by rw [← hsz]; exact op_lt hok
          exact absurd (hallL k hkm) ((not_on (by omega)).1 g0)
      have key := hdone hr1 (wpAny P .any ops Q n (listed'.setIfInBounds i true))
      unfold wpOp
      rw [hm]
      unfold opWp at key
      split at key
      · rename_i hw; simp only [hw, if_true]; exact .inl key
      · rename_i hw; simp only [hw]; exact key
    · exfalso
      obtain ⟨e, he, hb, hle⟩ := haft i oi him hoi
      have := hnm _ ((hl _).1 (hall e he hb))
      omega
theorem wpAny_bar {ops ops1 : Array Oper} {m : Nat} {o : Oper} (hsz : ops1.size = m) (h1 : ∀ i, i < m → ops1[i]? = ops[i]?) (hm : ops[m]? = some o) (hg : ∀ (i : Nat) (o : Oper), ops1[i]? = some o → o.guard = none)
    (low : ∀ i o, i ≤ m → ops[i]? = some o → ∀ e ∈ o.after, Region.binds .any e = true → e.on < i) (hbef : ∀ L, Closed ops1 L → (∀ e ∈ o.after, Region.binds .any e = true → L e.on) → ∀ i, i < m → L i)
    (haft : ∀ k o', m < k → ops[k]? = some o' → ∃ e ∈ o'.after, Region.binds .any e = true ∧ m ≤ e.on) {Q Q' : Exit → Act → World → Prop} (hQ : ∀ a w, Q' .normal a w → ∀ K, opWp P ops Q o K a w) (hQ2 : ∀ e a w, e ≠ .normal → Q' e a w → Q e a w) :
    ∀ (fuel : Nat) (listed listed' : Array Bool) (a : Act) (w : World), listed.size = m → listed'.size = ops.size → (∀ j, On listed' j ↔ On listed j) → Closed ops1 (On listed) → wpAny P .any ops1 Q' fuel listed a w → ∀ n, fuel < n → wpAny P .any ops Q n listed' a w := by
  intro fuel
  induction fuel with
  | zero =>
    intro listed listed' a w hs hs' hl hcl h n hn
    obtain ⟨n, rfl⟩ : ∃ n', n = n' + 1 := ⟨n - 1, by omega⟩
    obtain ⟨hr0, hqn⟩ := h
    exact bar_step hsz h1 hm low hbef haft hs hs' hl hcl (fun _ => hQ _ _ hqn) (fun i o' hi _ => by rw [hr0] at hi; cases hi)
  | succ fuel ih =>
    intro listed listed' a w hs hs' hl hcl h n hn
    obtain ⟨n, rfl⟩ : ∃ n', n = n' + 1 := ⟨n - 1, by omega⟩
    obtain ⟨hd, hstep⟩ := h
    refine bar_step hsz h1 hm low hbef haft hs hs' hl hcl (fun hr => hQ _ _ (hd hr)) (fun i o' hi ho' => ?_)
    have hk := hstep i hi
    obtain ⟨g0, oi, hoi, hall⟩ := mem_ready.1 hi
    rw [ho'] at hoi
    injection hoi with hoi
    subst hoi
    have him : i < m := by rw [← hsz]; exact op_lt ho'
    have hig := hg i _ ho'
    have hoo : ops[i]? = some o' := (h1 i him).symm.trans ho'
    have hnext : ∀ a w, wpAny P .any ops1 Q' fuel (listed.setIfInBounds i true) a w → wpAny P .any ops Q n (listed'.setIfInBounds i true) a w := fun a w hh => by
      refine ih (listed.setIfInBounds i true) (listed'.setIfInBounds i true) a w (by simpa using hs) (by simpa using hs') (fun j => ?_) ?_ hh n (by omega)
      · rw [on_set (by have := op_lt hoo; omega), on_set (by omega), hl]
      · intro j oj hoj hj e he hb
        have hj' := (on_set (listed := listed) (by omega) j).1 hj
        refine (on_set (listed := listed) (by omega) e.on).2 (.inl ?_)
        rcases hj' with hj' | rfl
        · exact hcl j oj hoj hj' e he hb
        · rw [ho'] at hoj
          injection hoj with hoj
          subst hoj
          exact hall e he hb
    unfold wpOp at hk ⊢
    simp only [ho'] at hk
    simp only [hoo]
    simp only [wanted_none hig, if_true] at hk ⊢
    refine hk.imp (wp_monoQ hnext hQ2) fun ⟨h1, h2⟩ => ⟨h1, ?_⟩
    obtain ⟨a', w', h2⟩ := h2
    exact ⟨a', w', hQ2 _ _ _ (by simp) h2⟩
end
end Go.PE
namespace Go.PE
open Go Go.EvL
section
variable {ds : List Deferred} {P : Program}
theorem zipD_in : ∀ {l : List PI} {r : List (List Nat × List Nat)} {x : PI × List Nat × List Nat}, x ∈ zipD l r → x.2 ∈ r
  | [], _, _, h => by simp [zipD] at h
  | _ :: _, [], _, h => by simp [zipD] at h
  | i :: l, y :: r, x, h => by
    rcases List.mem_cons.1 h with rfl | h
    · exact List.mem_cons_self
    · exact List.mem_cons_of_mem _ (zipD_in h)
theorem barP_iff {un : List Nat} {j : Nat} {l : List (PI × List Nat × List Nat)} : barP un j l = true ↔ un = [] ∧ ∀ x ∈ l, j ∉ x.2.2 := by
  unfold barP
  simp [List.all_eq_true]
noncomputable def bsL : List Oper → Nat → Tr Nat → Tr Nat
  | [], _, bs => bs
  | o :: l, j, bs => bsL l (j + 1) (Tr.set (befOf bs o.after.toList) 40 bs j)
def BsLow (bs : Tr Nat) : Prop := ∀ m b, bs.get m = some b → ∀ x, b.testBit x = true → x < m
theorem low_of {j : Nat} {o : Oper} (h : edgesLow j o.after.toList = true) : ∀ e ∈ o.after, Region.binds .any e = true → e.on < j := fun e he hb => by
  unfold edgesLow at h
  rw [List.all_eq_true] at h
  have := h e (by simpa using he)
  rw [hb] at this
  exact Nat.le_of_ble_eq_true (by simpa using this)
theorem BsLow.set {bs : Tr Nat} (h : BsLow bs) {j : Nat} {o : Oper} (hl : edgesLow j o.after.toList = true) : BsLow (Tr.set (befOf bs o.after.toList) 40 bs j) := by
  intro m b hb x hx
  rw [Tr.get_set _ _ _ _ trivial] at hb
  split at hb
  · rename_i hm
    injection hb with hb
    subst hb; subst hm
    obtain ⟨e, he, hbi, h3⟩ := befOf_bit hx
    have h1 := low_of hl e (by simpa using he) hbi
    rcases h3 with rfl | h3
    · exact h1
    · cases hg : bs.get e.on with
      | none => rw [hg] at h3; simp at h3
      | some b => rw [hg] at h3; have := h e.on b hg x h3; omega
  · exact h m b hb x hx
theorem guard_none {ops : List Oper} {o : Oper} {i : PI} {nt : Nat} (h : compI P nt ops o = some i) (hi : i.gd = none) : o.guard = none := by
  unfold compI at h
  split at h
  · rename_i g hg
    split at h
    · injection h with h; subst h
      simp only at hi
      subst hi
      unfold compGd at hg
      split at hg
      · rename_i hh; exact hh
      · split at hg
        · injection hg with hg; cases hg
        · cases hg
    · cases h
  · cases h
theorem after_ok {nt : Nat} {ops : Array Oper} {m : Nat} : ∀ (lo : List Oper) (j : Nat) (bs : Tr Nat) (sacc : List (Nat × List Nat × Option Nat)) (r : List (List Nat × List Nat)), drawSt nt ops lo j bs sacc = some r → BsLow bs → (∃ ls d, (m, ls, d) ∈ sacc) → (∀ x ∈ r, m ∉ x.2) → ∀ o ∈ lo, ∃ e ∈ o.after, Region.binds .any e = true ∧ m ≤ e.on := by
  intro lo
  induction lo with
  | nil => intro j bs sacc r _ _ _ _ o ho; cases ho
  | cons o lo ih =>
    intro j bs sacc r hr hbs hm hx o' ho'
    simp only [drawSt] at hr
    split at hr
    · rename_i hst
      simp only [Bool.and_eq_true] at hst
      split at hr
      · rename_i r' hr'
        injection hr with hr; subst hr
        rcases List.mem_cons.1 ho' with rfl | ho'
        · have hn := hx _ List.mem_cons_self
          obtain ⟨ls, d, hmm⟩ := hm
          cases hb : (befOf bs o'.after.toList).testBit m with
          | false => exact absurd (List.mem_map.2 ⟨_, List.mem_filter.2 ⟨hmm, by simp only [hb]; rfl⟩, rfl⟩) hn
          | true =>
            obtain ⟨e, he, hbi, h3⟩ := befOf_bit hb
            refine ⟨e, by simpa using he, hbi, ?_⟩
            rcases h3 with rfl | h3
            · exact Nat.le_refl _
            · cases hg : bs.get e.on with
              | none => rw [hg] at h3; simp at h3
              | some b => rw [hg] at h3; exact Nat.le_of_lt (hbs e.on b hg m h3)
        · obtain ⟨ls, d, hmm⟩ := hm
          exact ih (j + 1) _ _ r' hr' (hbs.set hst.1) ⟨ls, d, List.mem_cons_of_mem _ hmm⟩ (fun x hx' => hx x (List.mem_cons_of_mem _ hx')) o' ho'
      · cases hr
    · cases hr
/-- a drawn region, cut where it panics -/
theorem xd_split {Γ : Nat → Option PFn} {ext : PCallF} {K : KX} {ops : Array Oper} {nt : Nat} {U : XU} : ∀ (lo : List Oper) (l : List PI) (r : List (List Nat × List Nat)) (j : Nat) (bs : Tr Nat) (sacc : List (Nat × List Nat × Option Nat)) (pacc : List (Nat × Eff × Nat × Nat)) {p : PFr} {s : PS},
    compL P nt ops.toList lo = some l → drawSt nt ops lo j bs sacc = some r → XD P Γ ext K (zipD l r) j pacc p s U → (∀ i, i < j → ∃ ls d, (i, ls, d) ∈ sacc) → BsLow bs →
    ∃ lo1 o lo2 l1 r1 p1 s1 i, lo = lo1 ++ o :: lo2 ∧ (∀ x ∈ lo1, x.guard = none) ∧ o.guard = none ∧ compL P nt ops.toList lo1 = some l1 ∧ drawSt nt ops lo1 j bs sacc = some r1 ∧ (∀ x ∈ r1, x ∈ r) ∧ drawP P (puOf Γ) (pcall P Γ ext) (zipD l1 r1) j pacc p s = some (p1, s1) ∧ compI P nt ops.toList o = some i ∧ guardP p1 i.gd = some true ∧
      XA K p1 s1 (fun v s' => U v p1 s') i.op ∧ edgesLow (j + lo1.length) o.after.toList = true ∧ (∀ x, x < j + lo1.length → (befOf (bsL lo1 j bs) o.after.toList).testBit x = true) ∧ ∀ o' ∈ lo2, ∃ e ∈ o'.after, Region.binds .any e = true ∧ j + lo1.length ≤ e.on := by
  intro lo
  induction lo with
  | nil =>
    intro l r j bs sacc pacc p s hl hr h
    simp only [compL] at hl
    injection hl with hl; subst hl
    simp only [drawSt] at hr
    injection hr with hr; subst hr
    exact h.elim
  | cons o lo ih =>
    intro l r j bs sacc pacc p s hl hr h hsacc hbs
    have hr0 := hr
    simp only [compL] at hl
    split at hl
    · rename_i i l' hi' hl'
      injection hl with hl; subst hl
      simp only [drawSt] at hr
      split at hr
      · rename_i hst
        have hst0 := hst
        simp only [Bool.and_eq_true] at hst
        split at hr
        · rename_i r' hr'
          injection hr with hr; subst hr
          have hlen : l'.length = r'.length := (compL_len hl').trans (drawSt_len hr').symm
          obtain ⟨hgd, h⟩ := h
          have hog := guard_none hi' hgd
          rcases h with ⟨hbar, hxa⟩ | ⟨q, h1, h2, h3, h4⟩
          · rw [barP_iff] at hbar
            obtain ⟨b1, b2⟩ := hbar
            have hnj : ∀ x ∈ r', j ∉ x.2 := fun x hx => by
              obtain ⟨i', hi2⟩ := zipD_mem hlen x hx
              exact b2 _ hi2
            refine ⟨[], o, lo, [], [], p, s, i, rfl, (fun x hx => by cases hx), hog, rfl, rfl, (fun x hx => by cases hx), rfl, hi', (by rw [hgd]; rfl), hxa, hst.1, fun x hx => ?_, ?_⟩
            · obtain ⟨ls, d, hm⟩ := hsacc x hx
              cases hb : (befOf bs o.after.toList).testBit x with
              | true => exact hb
              | false =>
                have : x ∈ (sacc.filter fun p => !((befOf bs o.after.toList).testBit p.1)).map (·.1) := List.mem_map.2 ⟨_, List.mem_filter.2 ⟨hm, by simp only [hb]; rfl⟩, rfl⟩
                have b1' : (sacc.filter fun p => !((befOf bs o.after.toList).testBit p.1)).map (·.1) = [] := b1
                rw [b1'] at this
                cases this
            · exact after_ok lo (j + 1) _ _ r' hr' (hbs.set hst.1) ⟨_, _, List.mem_cons_self⟩ hnj
          · obtain ⟨q1, q2⟩ := q
            obtain ⟨lo1, o1, lo2, l1, r1, p1, s1, i1, e1, e2, e3, e4, e5, e6, e7, e8, e9, e10, e11, e12, e13⟩ := ih l' r' (j + 1) _ _ _ hl' hr' h4 (fun x hx => by
              by_cases hxj : x = j
              · subst hxj; exact ⟨_, _, List.mem_cons_self⟩
              · obtain ⟨ls, d, hm⟩ := hsacc x (by omega)
                exact ⟨ls, d, List.mem_cons_of_mem _ hm⟩) (hbs.set hst.1)
            refine ⟨o :: lo1, o1, lo2, i :: l1, (o.looksAt ops, (sacc.filter fun p => !((befOf bs o.after.toList).testBit p.1)).map (·.1)) :: r1, p1, s1, i1, by rw [e1]; rfl, fun x hx => ?_, e3, by simp only [compL, hi', e4], ?_, fun x hx => ?_, ?_, e8, e9, e10, by rw [List.length_cons, show j + (lo1.length + 1) = j + 1 + lo1.length by omega]; exact e11, fun x hx => ?_, fun o' ho' => ?_⟩
            · rcases List.mem_cons.1 hx with rfl | hx
              · exact hog
              · exact e2 x hx
            · simp only [drawSt]
              rw [if_pos hst0, e5]
            · rcases List.mem_cons.1 hx with rfl | hx
              · exact List.mem_cons_self
              · exact List.mem_cons_of_mem _ (e6 x hx)
            · have hstep : stepP P (pcall P Γ ext) i (onlyP (o.looksAt ops) p) s = some (q1, q2) := h1
              have hbb : barP ((sacc.filter fun p => !((befOf bs o.after.toList).testBit p.1)).map (·.1)) j (zipD l' r') = true → barP ((sacc.filter fun p => !((befOf bs o.after.toList).testBit p.1)).map (·.1)) j (zipD l1 r1) = true := fun hb => by
                rw [barP_iff] at hb ⊢
                refine ⟨hb.1, fun x hx => ?_⟩
                obtain ⟨i', hi2⟩ := zipD_mem hlen x.2 (e6 _ (zipD_in hx))
                exact hb.2 (i', x.2.1, x.2.2) hi2
              simp only [zipD, drawP, hstep, Option.bind_some]
              rw [if_pos ⟨h2.imp id hbb, h3⟩]
              exact e7
            · rw [List.length_cons] at hx
              exact e12 x (by omega)
            · rw [List.length_cons, show j + (lo1.length + 1) = j + 1 + lo1.length by omega]
              exact e13 o' ho'
        · cases hr
      · cases hr
    · cases hl
theorem looks_none {ops ops1 : Array Oper} {o : Oper} (h : o.guard = none) : o.looksAt ops = o.looksAt ops1 := by
  unfold Oper.looksAt; rw [h]
theorem compL_none {nt : Nat} {ops ops1 : List Oper} : ∀ (lo : List Oper), (∀ x ∈ lo, x.guard = none) → compL P nt ops lo = compL P nt ops1 lo := by
  intro lo
  induction lo with
  | nil => intro _; rfl
  | cons o lo ih =>
    intro h
    have h1 : compI P nt ops o = compI P nt ops1 o := by
      unfold compI
      rw [h o List.mem_cons_self]
      rfl
    simp only [compL, h1, ih fun x hx => h x (List.mem_cons_of_mem _ hx)]
theorem drawSt_none {nt : Nat} {ops ops1 : Array Oper} : ∀ (lo : List Oper) (j : Nat) (bs : Tr Nat) (acc : List (Nat × List Nat × Option Nat)), (∀ x ∈ lo, x.guard = none) → drawSt nt ops lo j bs acc = drawSt nt ops1 lo j bs acc := by
  intro lo
  induction lo with
  | nil => intro j bs acc _; rfl
  | cons o lo ih =>
    intro j bs acc h
    simp only [drawSt, looks_none (ops := ops) (ops1 := ops1) (h o List.mem_cons_self), ih _ _ _ fun x hx => h x (List.mem_cons_of_mem _ hx)]
theorem xd_ok (hE : Env P) (hO : OpsOK P) (hm : P.follows .mixedOrders = true) {Γ : Nat → Option PFn} {ext : PCallF} (hC : PCallOK P (puOf Γ) (pcall P Γ ext)) {K : KX} (hK : KOK P K) {ops : Array Oper} {nt : Nat} {U : XU} (id : Nat) {l : List PI} {r : List (List Nat × List Nat)} (hl : compL P nt ops.toList ops.toList = some l) (hr : drawSt nt ops ops.toList 0 .nil [] = some r) {p : PFr} {s : PS} (h : XD P Γ ext K (zipD l r) 0 [] p s U) :
    ∃ v p' s', U v p' s' ∧ PanV v ∧ Kp s s' ∧ ∀ (A : AS) (β : Nat → Nat) (f : Fr), Inv A → RS A β s → RF ds A β s.n nt f p → ∃ f' A' β', CSound P (.region id ops true) f A (.panic v) f' A' ∧ Fw A A' β β' s.n s'.n s'.w ∧ RS A' β' s' ∧ RF ds A' β' s'.n nt f' p' := by
  obtain ⟨lo1, o, lo2, l1, r1, p1, s1, i, e1, e2, e3, e4, e5, e6, e7, e8, e9, e10, e11, e12, e13⟩ := xd_split ops.toList l r 0 .nil [] [] hl hr h (fun i hi => absurd hi (Nat.not_lt_zero _)) (fun m b hb => by rw [Tr.get_nil] at hb; cases hb)
  simp only [Nat.zero_add] at e11 e12 e13
  obtain ⟨v, s', hu, hpv, hkp, hk⟩ := xa_ok hE hO hK e8 e9 e10
  have kpd : Kp s s1 := draw_kp hC (zipD l1 r1) 0 [] e7
  refine ⟨v, p1, s', hu, hpv, kpd.trans hkp, fun A β f hi hs hf => ?_⟩
  have hl1 : compL P nt lo1.toArray.toList lo1.toArray.toList = some l1 := by
    rw [← compL_none (ops := ops.toList) (ops1 := lo1.toArray.toList) _ (by simpa using e2)]
    simpa using e4
  have hr1 : drawSt nt lo1.toArray lo1.toArray.toList 0 .nil [] = some r1 := by
    rw [← drawSt_none (ops := ops) (ops1 := lo1.toArray) _ _ _ _ (by simpa using e2)]
    simpa using e5
  obtain ⟨_, X, x1, x2, x3, x4, x7, β1, w1, w2, w3⟩ := draw_trace hE hO hC lo1.toArray.toList l1 r1 0 .nil [] [] [] hl1 hr1 e7 hi hs hf (fun e he => by cases he)
  simp only [Nat.zero_add, Array.length_toList] at x7 w1 w2 w3
  have hsz1 : lo1.toArray.size = lo1.length := by simp
  have W : EvL.Way P (fun _ _ _ => none) lo1.toArray X := ⟨x3, x4, fun i o ho => (x7 i o (by simpa using ho)).1⟩
  have H : EvL.Path P lo1.toArray X := ⟨fun i hi => by
    obtain ⟨o, ho⟩ := op_at hi
    exact (x7 i o (by simpa using ho)).2.fr, fun i o ho => (x7 i o (by simpa using ho)).2⟩
  have hX0 : Inv (X 0).s := by rw [x2]; exact hi
  have hall := H.all W hX0 lo1.toArray.size (Nat.le_refl _)
  obtain ⟨A', β', c1, c2, c3⟩ := hk (X lo1.toArray.size).s β1 (X lo1.toArray.size).f hall.inv w2 w3
  refine ⟨(X lo1.toArray.size).f, A', β', ⟨by rw [← x2]; exact hall.trans c1.fr, fun φ T w a hfr hrr hT hfs Q hQ => ?_⟩, w1.trans c2 hkp.w, c3, w3.mono c2⟩
  rw [← x1] at hfr
  rw [← x2] at hrr hT hfs hQ
  have hfr0 : FRel φ (X 0).f a := hfr
  have hops : ∀ k, k < lo1.length → lo1.toArray[k]? = ops[k]? := fun k hk => by
    have : ops.toList[k]? = lo1[k]? := by rw [e1, List.getElem?_append_left hk]
    simpa using this.symm
  have hom : ops[lo1.length]? = some o := by
    have : ops.toList[lo1.length]? = some o := by rw [e1, List.getElem?_append_right (Nat.le_refl _)]; simp
    simpa using this
  have hbs : ∀ (lo : List Oper) (j : Nat), (∀ i o, lo[i]? = some o → (X (j + i + 1)).bs = Tr.set (befOf (X (j + i)).bs o.after.toList) 40 (X (j + i)).bs (j + i)) → (X (j + lo.length)).bs = bsL lo j (X j).bs := by
    intro lo
    induction lo with
    | nil => intro j _; rfl
    | cons o lo ih =>
      intro j hh
      have h0 := hh 0 o rfl
      have := ih (j + 1) fun i o' ho' => by
        have := hh (i + 1) o' ho'
        rw [show j + (i + 1) = j + 1 + i by omega] at this
        exact this
      rw [List.length_cons, show j + (lo.length + 1) = j + 1 + lo.length by omega, this]
      show bsL lo (j + 1) (X (j + 1)).bs = bsL lo (j + 1) _
      rw [show j + 1 = j + 0 + 1 from rfl, h0]
      rfl
  have hbsm : (X lo1.length).bs = bsL lo1 0 .nil := by
    have := hbs lo1 0 fun i o ho => by
      rw [Nat.zero_add]
      exact (x7 i o (by simpa using ho)).1.bs
    rw [Nat.zero_add, x3] at this
    exact this
  refine wp_region_any hm (wpAny_bar (ops1 := lo1.toArray) (m := lo1.length) (o := o) hsz1 hops hom (fun i o' ho' => e2 o' ?_) (fun i o' hi ho' => ?_) (fun L hL hLe x hx => ?_) (fun k o' hk ho' => ?_) (Q' := fun e a w' => e = .normal ∧ ∃ φ', Post P φ T (X 0).s (X lo1.toArray.size).s w w' φ' ∧ FRel φ' (X lo1.toArray.size).f a) ?_ ?_ lo1.length (Array.replicate lo1.length false) _ a _ (by simp) (by simp) (fun j => ?_) (fun j oj _ hj => ?_) ?_ _ (op_lt hom))
  · have : lo1[i]? = some o' := by simpa using ho'
    exact List.mem_of_getElem? this
  · rcases Nat.lt_or_eq_of_le hi with hi | rfl
    · have := (x7 i o' (by have := (hops i hi).trans ho'; simpa using this)).1.low
      exact low_of this
    · rw [hom] at ho'
      injection ho' with ho'
      subst ho'
      exact low_of e11
  · have hb := e12 x hx
    rw [← hbsm] at hb
    obtain ⟨e, he, hbi, h3⟩ := befOf_bit hb
    have hLeo := hLe e (by simpa using he) hbi
    rcases h3 with rfl | h3
    · exact hLeo
    · cases hg : (X lo1.length).bs.get e.on with
      | none => rw [hg] at h3; simp at h3
      | some b =>
        obtain ⟨o', k1, k2, k3⟩ := W.bsAt lo1.length (by simp) e.on (by rw [hg]; rfl)
        rw [k3] at h3
        exact W.before hL e.on o' k1 hLeo x h3
  · refine e13 o' ?_
    have h1 : ops.toList[k]? = some o' := by simpa using ho'
    rw [e1, List.getElem?_append_right (Nat.le_of_lt hk)] at h1
    obtain ⟨k', hk'⟩ : ∃ k', k - lo1.length = k' + 1 := ⟨k - lo1.length - 1, by omega⟩
    rw [hk'] at h1
    exact List.mem_of_getElem? h1
  · rintro a' w' ⟨_, φ', hp, hf'⟩ K'
    refine c1.run φ' (fun c => T c ∨ ((X 0).s.next ≤ c ∧ c < (X lo1.toArray.size).s.next)) w' a' hf' hp.rel (foot_right hT) (fresh_right hfs hall.next hp) K' Q fun φ2 w2 v2 hp2 hv2 => ?_
    exact hQ φ2 w2 a' _ (hp.trans hall.next c1.fr hp2) (hf'.mono hp2.ext) (.panic _ _ hv2)
  · rintro e a' w' hne ⟨he, _⟩
    exact absurd he hne
  · have h1 : ∀ n j, On (Array.replicate n false) j ↔ False := fun n j => by
      unfold On
      rw [Array.getD_eq_getD_getElem?, Array.getElem?_replicate]
      split <;> simp
    rw [h1, h1]
  · exfalso
    unfold On at hj
    rw [Array.getD_eq_getD_getElem?, Array.getElem?_replicate] at hj
    split at hj <;> simp at hj
  · have hT1 : Foot (X 0).s (X lo1.toArray.size).s T := hT.left c1.fr
    have hfs1 := fresh_left hfs c1.fr.next
    refine wpAny_of W H hfr0.few hT1 hfs1 (w₀ := w) (fun φ' w' a' hp hf' => ⟨rfl, φ', hp, hf'⟩) lo1.length _ φ a _ (fun _ => False) (by simp) (fun j => ?_) (fun _ _ _ hh => hh.elim) ?_ (Mix.start W H hX0 hfr0 hrr)
    · unfold On
      refine ⟨fun h => h.elim, fun h => ?_⟩
      simp only [Array.getD_eq_getD_getElem?, Array.getElem?_replicate] at h
      split at h <;> simp at h
    · have : ∀ (p : Nat → Bool) n, EvL.cnt p n ≤ n := by
        intro p n
        induction n with
        | zero => exact Nat.le_refl _
        | succ n ih => simp only [EvL.cnt]; split <;> omega
      have := this (fun j => !(Array.replicate lo1.length false).getD j false) lo1.toArray.size
      rw [hsz1] at this ⊢
      exact this
end
end Go.PE
namespace Go.PE
open Go Go.EvL
section
variable {ds : List Deferred} {P : Program}
theorem pcode_ok (hE : Env P) (hO : OpsOK P) (hm : P.follows .mixedOrders = true) (hP : Parts P) {Γ : Nat → Option PFn} (hΓ : TabOK P Γ) {ext : PCallF} (hX : PCallOK P (puOf Γ) ext) {nt : Nat} {c : Code} {pc : PCode} (hc : comp P nt c = some pc) : CodeOK P nt c (pcode P Γ ext pc) := by
  intro ds A β f p p' s s' x hi hs hf h
  obtain ⟨n, hn⟩ := (lim_iff (mono_code pc p s) _).1 h
  exact code_ok hE hO hm (callN_ok hE hO hm hP hΓ hX n) c pc hc hi hs hf hn
theorem pcode_kp (hE : Env P) (hO : OpsOK P) (hm : P.follows .mixedOrders = true) (hP : Parts P) {Γ : Nat → Option PFn} (hΓ : TabOK P Γ) {ext : PCallF} (hX : PCallOK P (puOf Γ) ext) {pc : PCode} {p p' : PFr} {s s' : PS} {x : PXt} (h : pcode P Γ ext pc p s = some (x, p', s')) : Kp s s' := by
  obtain ⟨n, hn⟩ := (lim_iff (mono_code pc p s) _).1 h
  exact code_kp (callN_ok hE hO hm hP hΓ hX n) hn
/-- code that panics -/
theorem xc_ok (hE : Env P) (hO : OpsOK P) (hm : P.follows .mixedOrders = true) (hP : Parts P) {Γ : Nat → Option PFn} (hΓ : TabOK P Γ) {ext : PCallF} (hX : PCallOK P (puOf Γ) ext) {K : KX} (hK : KOK P K) {nt : Nat} {U : XU} : ∀ (c : Code) (pc : PCode), comp P nt c = some pc → ∀ {p : PFr} {s : PS}, XC P Γ ext K pc p s U →
    ∃ v p' s', U v p' s' ∧ PanV v ∧ Kp s s' ∧ ∀ (A : AS) (β : Nat → Nat) (f : Fr), Inv A → RS A β s → RF ds A β s.n nt f p → ∃ f' A' β', CSound P c f A (.panic v) f' A' ∧ Fw A A' β β' s.n s'.n s'.w ∧ RS A' β' s' ∧ RF ds A' β' s'.n nt f' p' := by
  have hC := pcall_ok hE hO hm hP hΓ hX
  intro c
  induction c with
  | region id ops draw =>
    intro pc hc p s h
    cases draw with
    | true =>
      simp only [comp] at hc
      split at hc
      · rename_i l r h1 h2
        injection hc with hc; subst hc
        exact xd_ok hE hO hm hC hK id h1 h2 h
      · cases hc
    | false =>
      simp only [comp, Option.map_eq_some_iff] at hc
      obtain ⟨r, h1, rfl⟩ := hc
      obtain ⟨v, p', s', hu, hpv, hkp, hk⟩ := xo_ok hE hO hC hK _ _ h1 h
      refine ⟨v, p', s', hu, hpv, hkp, fun A β f hi hs hf => ?_⟩
      obtain ⟨f', A', β', k1, k2⟩ := hk A β f hi hs hf
      exact ⟨f', A', β', ⟨k1.fr, fun φ T w a hf hr hT hfr Q hQ => wp_region_list (k1.run φ T w a hf hr hT hfr Q hQ)⟩, k2⟩
  | seq a b iha ihb =>
    intro pc hc p s h
    simp only [comp] at hc
    split at hc
    · rename_i pa pb ha hb
      injection hc with hc; subst hc
      rcases h with h | ⟨p1, s1, h1, h2⟩
      · obtain ⟨v, p', s', hu, hpv, hkp, hk⟩ := iha pa ha h
        refine ⟨v, p', s', hu, hpv, hkp, fun A β f hi hs hf => ?_⟩
        obtain ⟨f', A', β', k1, k2⟩ := hk A β f hi hs hf
        refine ⟨f', A', β', ⟨k1.fr, fun φ T w a hf hr hT hfr Q hQ => wp_seq ?_⟩, k2⟩
        refine k1.run φ T w a hf hr hT hfr _ fun φ' w' a' e hp hf' he => ?_
        have := hQ φ' w' a' e hp hf' he
        cases he
        exact this
      · obtain ⟨v, p', s', hu, hpv, hkp, hk⟩ := ihb pb hb h2
        refine ⟨v, p', s', hu, hpv, (pcode_kp hE hO hm hP hΓ hX h1).trans hkp, fun A β f hi hs hf => ?_⟩
        obtain ⟨_, f1, A1, β1, k1, k2, k3, k4⟩ := pcode_ok hE hO hm hP hΓ hX ha hi hs hf h1
        obtain ⟨f2, A2, β2, m1, m2, m3, m4⟩ := hk A1 β1 f1 k1.fr.inv k3 k4
        refine ⟨f2, A2, β2, ⟨k1.fr.trans m1.fr, fun φ T w a hf hr hT hfr Q hQ => wp_seq ?_⟩, k2.trans m2 hkp.w, m3, m4⟩
        refine k1.run φ T w a hf hr (hT.left m1.fr) (fresh_left hfr m1.fr.next) _ fun φ' w' a' e hp hf' he => ?_
        cases he
        exact m1.run φ' _ w' a' hf' hp.rel (foot_right hT) (fresh_right hfr k1.fr.next hp) Q fun φ2 w2 a2 e hp2 hf2 hx2 => hQ φ2 w2 a2 e (hp.trans k1.fr.next m1.fr hp2) hf2 hx2
    · cases hc
  | cond o a b iha ihb =>
    intro pc hc p s h
    simp only [comp] at hc
    split at hc
    · rename_i pa pb ho ha hb
      injection hc with hc; subst hc
      rcases h with ⟨h0, h⟩ | ⟨h0, h⟩
      · obtain ⟨v, p', s', hu, hpv, hkp, hk⟩ := iha pa ha h
        refine ⟨v, p', s', hu, hpv, hkp, fun A β f hi hs hf => ?_⟩
        obtain ⟨f', A', β', k1, k2⟩ := hk A β f hi hs hf
        obtain ⟨vx, v1, v2⟩ := okX_eval hf ho
        have := asBool_ok v2 h0
        subst this
        refine ⟨f', A', β', ⟨k1.fr, fun φ T w a hf hr hT hfr Q hQ => ?_⟩, k2⟩
        have hv := hf.eval v1
        generalize hq : a.eval o = q at hv
        cases hv
        exact wp_cond_true hq (k1.run φ T w a hf hr hT hfr Q hQ)
      · obtain ⟨v, p', s', hu, hpv, hkp, hk⟩ := ihb pb hb h
        refine ⟨v, p', s', hu, hpv, hkp, fun A β f hi hs hf => ?_⟩
        obtain ⟨f', A', β', k1, k2⟩ := hk A β f hi hs hf
        obtain ⟨vx, v1, v2⟩ := okX_eval hf ho
        have := asBool_ok v2 h0
        subst this
        refine ⟨f', A', β', ⟨k1.fr, fun φ T w a hf hr hT hfr Q hQ => ?_⟩, k2⟩
        have hv := hf.eval v1
        generalize hq : a.eval o = q at hv
        cases hv
        exact wp_cond_false hq (k1.run φ T w a hf hr hT hfr Q hQ)
    · cases hc
  | block id b ih =>
    intro pc hc p s h
    simp only [comp, Option.map_eq_some_iff] at hc
    obtain ⟨pb, hb, rfl⟩ := hc
    obtain ⟨v, p', s', hu, hpv, hkp, hk⟩ := ih pb hb h
    refine ⟨v, p', s', hu, hpv, hkp, fun A β f hi hs hf => ?_⟩
    obtain ⟨f', A', β', k1, k2⟩ := hk A β f hi hs hf
    refine ⟨f', A', β', ⟨k1.fr, fun φ T w a hf hr hT hfr Q hQ => wp_block ?_⟩, k2⟩
    refine k1.run φ T w a hf hr hT hfr _ fun φ' w' a' e hp hf' he => ?_
    have := hQ φ' w' a' e hp hf' he
    cases he
    exact this
  | loop b ih =>
    intro pc hc p s h
    simp only [comp, Option.map_eq_some_iff] at hc
    obtain ⟨pb, hb, rfl⟩ := hc
    replace h : XL (fun f s => XC P Γ ext K pb f s U) (pcode P Γ ext pb) p s := h
    have key : ∃ (L : Nat) (v : Value) (p' : PFr) (s' : PS), U v p' s' ∧ PanV v ∧ Kp s s' ∧ ∀ (A : AS) (β : Nat → Nat) (f : Fr), Inv A → RS A β s → RF ds A β s.n nt f p → ∃ f' A' β', (AFr A A' ∧ ∀ (φ : Emb) (T : Nat → Prop) (w : World) (a : Act), FRel φ f a → Rel P φ T A w → Foot A A' T → Fresh A A' φ → ∀ (Q : Exit → Act → World → Prop),
        (∀ φ' w' a' e, Post P φ T A A' w w' φ' → FRel φ' f' a' → XRel φ' (.panic v) e → Q e a' w') → Code.rounds P b Q L a w) ∧ Fw A A' β β' s.n s'.n s'.w ∧ RS A' β' s' ∧ RF ds A' β' s'.n nt f' p' := by
      induction h with
      | here p s h =>
        obtain ⟨v, p', s', hu, hpv, hkp, hk⟩ := ih pb hb h
        refine ⟨1, v, p', s', hu, hpv, hkp, fun A β f hi hs hf => ?_⟩
        obtain ⟨f', A', β', k1, k2⟩ := hk A β f hi hs hf
        refine ⟨f', A', β', ⟨k1.fr, fun φ T w a hf hr hT hfr Q hQ => ?_⟩, k2⟩
        rw [rounds_succ]
        refine k1.run φ T w a hf hr hT hfr _ fun φ' w' a' e hp hf' he => ?_
        have := hQ φ' w' a' e hp hf' he
        cases he
        exact this
      | next p s p1 s1 h1 _ k =>
        obtain ⟨L, v, p', s', hu, hpv, hkp, hk⟩ := k
        refine ⟨L + 1, v, p', s', hu, hpv, (pcode_kp hE hO hm hP hΓ hX h1).trans hkp, fun A β f hi hs hf => ?_⟩
        obtain ⟨_, f1, A1, β1, k1, k2, k3, k4⟩ := pcode_ok hE hO hm hP hΓ hX hb hi hs hf h1
        obtain ⟨f2, A2, β2, ⟨m0, m1⟩, m2, m3, m4⟩ := hk A1 β1 f1 k1.fr.inv k3 k4
        refine ⟨f2, A2, β2, ⟨k1.fr.trans m0, fun φ T w a hf hr hT hfr Q hQ => ?_⟩, k2.trans m2 hkp.w, m3, m4⟩
        rw [rounds_succ]
        refine k1.run φ T w a hf hr (hT.left m0) (fresh_left hfr m0.next) _ fun φ' w' a' e hp hf' he => ?_
        cases he
        exact m1 φ' _ w' a' hf' hp.rel (foot_right hT) (fresh_right hfr k1.fr.next hp) Q fun φ2 w2 a2 e hp2 hf2 hx2 => hQ φ2 w2 a2 e (hp.trans k1.fr.next m0 hp2) hf2 hx2
    obtain ⟨L, v, p', s', hu, hpv, hkp, hk⟩ := key
    refine ⟨v, p', s', hu, hpv, hkp, fun A β f hi hs hf => ?_⟩
    obtain ⟨f', A', β', ⟨k0, k1⟩, k2⟩ := hk A β f hi hs hf
    exact ⟨f', A', β', ⟨k0, fun φ T w a hf hr hT hfr Q hQ => wp_loop_rounds L (k1 φ T w a hf hr hT hfr Q hQ)⟩, k2⟩
  | skip => intro pc hc p s h; simp only [comp] at hc; injection hc with hc; subst hc; exact h.elim
  | exit id => intro pc hc p s h; simp only [comp] at hc; injection hc with hc; subst hc; exact h.elim
  | ret => intro pc hc p s h; simp only [comp] at hc; injection hc with hc; subst hc; exact h.elim
  | _ => intro pc hc p s h; simp only [comp] at hc; injection hc with hc; subst hc; exact h.elim
/-- a call that panics, out of its body -/
theorem callU_of (hP : Parts P) {g : FuncId} {fn : Func} {c : Code} (hfn : P.funcs[g]? = some fn) (hc : fn.body = some c) {args : Array Value} {A A' : AS} {f : Fr} {v : Value} (b1 : fn.ntmps ≤ 1000000) (b2 : args.toList.length ≤ fn.ntmps)
    (s1 : CSound P c (initFr fn args) A (.panic v) f A') (hd : f.defers = []) : CallSound P g args A (.panic v) A' := by
  obtain ⟨_, _, hF, hFm⟩ := hP _ noCallOK noCallMono
  have h2 : leave P (fun _ _ _ => none) fn f f.defers A' (some v) = some (.panic v, A') := by rw [hd]; rfl
  obtain ⟨f2, r2⟩ := leave_sound hF hFm _ s1.fr.inv (Nat.le_refl _) h2
  refine ⟨s1.fr.trans f2, fun φ T w args' hargs hr hT hfr => calls_of_wp_defers hfn hc ?_⟩
  refine s1.run φ T w _ (init_rel hargs b1 b2) hr (hT.left f2) (fresh_left hfr f2.next) _ fun φ' w' a' e hp hf' he => ?_
  cases he with
  | panic _ v' hv =>
    exact r2 φ' _ w' a' a'.defers _ hf' hf'.defers (.panic _ _ hv) hp.rel (foot_right hT) (fresh_right hfr s1.fr.next hp) (fun e w' => ∃ φ', Post P φ T A A' w w' φ' ∧ EndRel φ' (.panic v) e) fun φ2 w2 e hp2 he => ⟨φ2, hp.trans s1.fr.next f2 hp2, he⟩
theorem xkn_ok (hE : Env P) (hO : OpsOK P) (hm : P.follows .mixedOrders = true) (hP : Parts P) {Γ : Nat → Option PFn} (hΓ : TabOK P Γ) {ext : PCallF} (hX : PCallOK P (puOf Γ) ext) : ∀ n, KOK P (XKn P Γ ext n) := by
  intro n
  induction n with
  | zero => intro g args s U h; exact h.elim
  | succ n ih =>
    intro g args s U h
    obtain ⟨pf, hpf, hlen, h⟩ := h
    obtain ⟨fn, keep, hfn, hcf⟩ := hΓ g pf hpf
    unfold compF at hcf
    split at hcf
    · rename_i c hc
      split at hcf
      · rename_i b r hb hr
        split at hcf
        · rename_i hnt
          injection hcf with hcf; subst hcf
          have b1 := Nat.le_of_ble_eq_true hnt
          obtain ⟨v, p1, s1, hu, hpv, hkp, hk⟩ := xc_ok hE hO hm hP hΓ hX ih c b hb h
          have key : ∀ (A : AS) (β : Nat → Nat) (vs : List Value), Inv A → RS A β s → Rs A β s.n vs args → ∃ A' β', CallSound P g vs.toArray A (.panic v) A' ∧ Fw A A' β β' s.n s1.n s1.w ∧ RS A' β' s1 := by
            intro A β vs hi hs hvs
            obtain ⟨f1, A1, β1, k1, k2, k3, k4⟩ := hk A β _ hi (⟨hs.blk, hs.inj, hs.lay⟩ : RS A β ⟨s.h, s.n, s.n⟩) (init_ok hvs b1 hlen)
            refine ⟨A1, β1, callU_of hP hfn hc b1 ?_ k1 k4.df, k2, k3⟩
            rw [List.toList_toArray, hvs.len]; exact hlen
          rcases hu with ⟨hke, hu⟩ | ⟨hke, hw, hu⟩
          · refine ⟨v, _, hu, hpv, ⟨fn, c, hfn, hc⟩, ⟨Nat.min_le_left _ _, hkp.n, fun k a b => hkp.h k a (by
              have : k < min s.w s1.w := b
              omega)⟩, fun A β vs hi hs hvs => ?_⟩
            obtain ⟨A', β', q1, q2, q3⟩ := key A β vs hi hs hvs
            exact ⟨A', β', q1, q2.low (Nat.min_le_right _ _), ⟨q3.blk, q3.inj, q3.lay⟩⟩
          · refine ⟨v, s, hu, hpv, ⟨fn, c, hfn, hc⟩, .refl s, fun A β vs hi hs hvs => ?_⟩
            obtain ⟨A', β', q1, q2, q3⟩ := key A β vs hi hs hvs
            have hs' : Same s s1 := fun k hk => hkp.h k hk (by omega)
            have hw' : ∀ c, c < A.next → A'.w.testBit c = true → A.w.testBit c = true := fun c hc hb => by
              rcases q2.w c hc hb with h | ⟨k, a1, a2, _⟩
              · exact h
              · omega
            exact ⟨A', β', q1, ⟨Nat.le_refl _, q2.next, q2.eq, fun k a b => by omega, q2.prot, q2.keep, fun c hc hb => .inl (hw' c hc hb)⟩, q3.cut hs q2.le hs'⟩
        · cases hcf
      · cases hcf
    · cases hcf
theorem xk_ok (hE : Env P) (hO : OpsOK P) (hm : P.follows .mixedOrders = true) (hP : Parts P) {Γ : Nat → Option PFn} (hΓ : TabOK P Γ) {ext : PCallF} (hX : PCallOK P (puOf Γ) ext) : KOK P (XK P Γ ext) := by
  rintro g args s U ⟨n, h⟩
  exact xkn_ok hE hO hm hP hΓ hX n g args s U h
end
end Go.PE
namespace Go.PE
open Go Go.EvL
structure PDf where
  nt : Nat
  l1 : List PI
  l2 : List PI
  x : Operand
  rest : PCode
  res : List PRes
  nt2 : Nat
  d2 : Nat
  l3 : List PI
  c3 : PCode
noncomputable def compDl (P : Program) (nt : Nat) (all : List Oper) : List Oper → Option (List PI × Operand)
  | [] => none
  | [o] => match o.op, o.dst, o.guard with
    | .defer ⟨.value x, args, _⟩, none, none => if okX x && args.toList.isEmpty then some ([], x) else none
    | _, _, _ => none
  | o :: o2 :: l => match compI P nt all o, compDl P nt all (o2 :: l) with
    | some i, some (r, x) => some (i :: r, x)
    | _, _ => none
noncomputable def compDf (P : Program) (fn2 : Func) : Option (Nat × Nat × List PI × PCode) := match fn2.body with
  | some (.seq (.region _ ops false) c) => match ops.toList with
    | ⟨some d, .call ⟨.builtin .recover, _, _⟩, _, _, _, none⟩ :: lo => match compL P fn2.ntmps ops.toList lo, comp P fn2.ntmps c with
      | some l3, some p3 => if Nat.ble fn2.ntmps 1000000 && (fn2.results.toList.isEmpty && Nat.ble (Nat.succ d) fn2.ntmps) then some (fn2.ntmps, d, l3, p3) else none
      | _, _ => none
    | _ => none
  | _ => none
noncomputable def compD (P : Program) (fn fn2 : Func) : Option PDf := match fn.body with
  | some (.seq (.region _ ops1 false) (.seq (.region _ ops2 false) rest)) => match compL P fn.ntmps ops1.toList ops1.toList, compDl P fn.ntmps ops2.toList ops2.toList, comp P fn.ntmps rest, fn.results.toList.mapM (compRes P), compDf P fn2 with
    | some l1, some (l2, x), some pr, some rs, some (nt2, d2, l3, c3) => if Nat.ble fn.ntmps 1000000 then some ⟨fn.ntmps, l1, l2, x, pr, rs, nt2, d2, l3, c3⟩ else none
    | _, _, _, _, _ => none
  | _ => none
/-- the deferred call, and the results -/
def DAfter (P : Program) (Γ : Nat → Option PFn) (ext : PCallF) (d : PDf) (caps : List PV) (n : Nat) (v : PV) (u : Value) (f2 : PFr) (s2 : PS) : Prop :=
  caps.length ≤ d.nt2 ∧ ∃ fd1 s3 x3 fd2 s4 vs, pops P Γ ext d.l3 (PFr.set (initP caps 0) d.d2 (.sc u)) s2 = some (fd1, s3) ∧ pcode P Γ ext d.c3 fd1 s3 = some (x3, fd2, s4) ∧ (x3 = .normal ∨ x3 = .ret) ∧ resP f2 s4 d.res = some vs ∧ n ≤ s4.w ∧ frz n s4 (oneRes vs) = some v
def DRun (P : Program) (Γ : Nat → Option PFn) (ext : PCallF) (d : PDf) (g2 : Nat) (args : List PV) (s : PS) (v : PV) : Prop :=
  args.length ≤ d.nt ∧ ∃ f0 s0 f1 s1 caps, pops P Γ ext d.l1 (initP args 0) ⟨s.h, s.n, s.n⟩ = some (f0, s0) ∧ pops P Γ ext d.l2 f0 s0 = some (f1, s1) ∧ pval f1 d.x = .fn g2 [] caps ∧
    ((∃ x f2 s2, pcode P Γ ext d.rest f1 s1 = some (x, f2, s2) ∧ (x = .normal ∨ x = .ret) ∧ DAfter P Γ ext d caps s.n v .nilIface f2 s2) ∨ XC P Γ ext (XK P Γ ext) d.rest f1 s1 (DAfter P Γ ext d caps s.n v))
section
variable {P : Program}
theorem wpListS_of {ops : Array Oper} {Q : Exit → Act → World → Prop} {QS : Exit → Act → List Frame → World → Prop} {cs : List Frame} (hno : ∀ a w, ¬ Q .outgrown a w) (hQ : ∀ e a w, Q e a w → QS e a cs w) : ∀ (l : List Oper) (a : Act) (w : World), wpList P ops Q l a w → wpListS P ops QS l a cs w := by
  intro l
  induction l with
  | nil => intro a w h; exact hQ _ _ _ h
  | cons o l ih =>
    intro a w h
    unfold wpList at h
    refine opS_of ?_
    unfold opWp
    split at h
    · rename_i hw
      rw [if_pos hw]
      rcases h with h | ⟨_, a', w', h⟩
      · exact wp_monoQ ih (fun e a w _ => hQ e a w) h
      · exact absurd h (hno _ _)
    · rename_i hw
      rw [if_neg hw]
      exact ih _ _ h
/-- how a panic, or none, is seen by the deferred function -/
inductive UOK : Option Value → Value → Prop
  | none : UOK none .nilIface
  | some (v : Value) (h : PanV v) : UOK (some v) v
theorem dcall_ok (hE : Env P) (hO : OpsOK P) (hm : P.follows .mixedOrders = true) (hP : Parts P) {Γ : Nat → Option PFn} (hΓ : TabOK P Γ) {ext : PCallF} (hX : PCallOK P (puOf Γ) ext) {g2 : Nat} {fn2 : Func} {nt2 d2 : Nat} {l3 : List PI} {c3 : PCode} (hfn2 : P.funcs[g2]? = some fn2) (hc : compDf P fn2 = some (nt2, d2, l3, c3))
    {caps : List PV} (hcap : caps.length ≤ nt2) {u : Value} {uo : Option Value} (hu : UOK uo u) {s2 s3 s4 : PS} {fd1 fd2 : PFr} {x3 : PXt} (h1 : pops P Γ ext l3 (PFr.set (initP caps 0) d2 (.sc u)) s2 = some (fd1, s3)) (h2 : pcode P Γ ext c3 fd1 s3 = some (x3, fd2, s4)) (hx3 : x3 = .normal ∨ x3 = .ret) :
    Kp s2 s4 ∧ ∀ (A : AS) (β : Nat → Nat) (ys : Array Value), Inv A → RS A β s2 → Rs A β s2.n ys.toList caps → ∃ A' β', AFr A A' ∧ Fw A A' β β' s2.n s4.n s4.w ∧ RS A' β' s4 ∧
      ∀ (φ : Emb) (T : Nat → Prop) (w : World) (d' : Deferred) (m : FrameMode), DRel φ ⟨.fn (.func g2) ys, #[]⟩ d' → URel φ uo m → Rel P φ T A w → Foot A A' T → Fresh A A' φ →
        ∃ fv cap g args, d'.target = .fn fv cap ∧ (invoke d'.target d'.args).run P w = .ok (.enter g args) w ∧ CallsD P g args m w fun e m' w' => ∃ v φ', e = .returned v ∧ Post P φ T A A' w w' φ' ∧ URel φ' none (settle m') := by
  have hC := pcall_ok hE hO hm hP hΓ hX
  unfold compDf at hc
  split at hc
  case h_2 => cases hc
  rename_i rid ops c hbody
  split at hc
  case h_2 => cases hc
  rename_i d q1 q2 q3 q4 q5 lo hops
  split at hc
  case h_2 => cases hc
  rename_i l3' p3 hl3 hp3
  split at hc
  case isFalse => cases hc
  rename_i hb
  simp only [Bool.and_eq_true, List.isEmpty_iff] at hb
  obtain ⟨b1, b3, b4⟩ := hb
  have b1 := Nat.le_of_ble_eq_true b1
  injection hc with hc
  injection hc with e1 hc
  injection hc with e2 hc
  injection hc with e3 e4
  subst e1; subst e2; subst e3; subst e4
  have kp1 : Kp s2 s3 := ops_kp hC l3' h1
  have kp2 : Kp s3 s4 := pcode_kp hE hO hm hP hΓ hX h2
  refine ⟨kp1.trans kp2, fun A β ys hi hs hys => ?_⟩
  -- the frame after recover
  have hf0 : RF [] A β s2.n fn2.ntmps (initFr fn2 ys.toList.toArray) (initP caps 0) := init_ok hys b1 hcap
  have hur : R1 A β s2.n u (.sc u) := by
    cases hu with
    | none => exact .cl _ _ (.sc _ rfl)
    | some v h => exact .cl _ _ (.sc _ h.2)
  obtain ⟨f0, hput, hf1⟩ := hf0.set (d := some d) b4 hur
  obtain ⟨_, f1, A1, β1, k1, k2, k3, k4⟩ := ops_ok hE hO hC lo l3' hl3 hi hs hf1 h1
  obtain ⟨_, f2, A2, β2, m1, m2, m3, m4⟩ := pcode_ok hE hO hm hP hΓ hX hp3 k1.fr.inv k3 k4 h2
  refine ⟨A2, β2, k1.fr.trans m1.fr, k2.trans m2 kp2.w, m3, fun φ T w d' m hdr hu' hr hT hfr => ?_⟩
  cases hdr with
  | mk g' cap0 cap' args0 args' hc' ha =>
    refine ⟨.func g2, cap', g2, args' ++ cap', rfl, enter_run hE hfn2 hbody (args' ++ cap') w, ?_⟩
    refine callsD_of_wpS hfn2 hbody fun c₀ cs hm' => wpS_seq (wpS_region ?_)
    have hargs : VRels φ ys.toList.toArray.toList (args' ++ cap').toList := by
      have h0 : args'.toList = [] := by
        generalize hq : args'.toList = q at ha
        cases ha
        rfl
      rw [Array.toList_append, h0]
      simpa using hc'
    have hc0 : c₀ = { c₀ with mode := m } := by rw [← hm']
    rw [List.range_eq_range', ← Array.length_toList]
    refine wpOpsS_of_list ops.toList 0 _ _ w rfl ?_
    rw [hc0, hops]
    have hir := init_rel hargs b1 (by rw [List.toList_toArray, hys.len]; exact hcap)
    -- recover
    show opS P ops _ _ (wpListS P ops _ lo) _ _ w
    unfold opS
    rw [if_pos (by rfl)]
    have hev : evalOp P (initFr fn2 ys.toList.toArray) ⟨some d, .call ⟨.builtin .recover, q1, q2⟩, q3, q4, q5, none⟩ A = some (.recover, A) := rfl
    have hsd := hO _ _ A _ _ hi (Nat.le_refl _) hev
    obtain ⟨φ1, w1, hp, hnr⟩ := hsd.run φ T w _ hir hr (fun c hc hh => hT c hc (hh.elim (fun h => .inl ((k1.fr.trans m1.fr).r c h)) fun h => .inr ((k1.fr.trans m1.fr).w c h))) (fun b h3 h4 => by omega)
    generalize hres : (execOp (Act.eval { tmps := args' ++ cap' ++ Array.replicate (fn2.ntmps - (args' ++ cap').size) undef, defers := [] }) (⟨some d, .call ⟨.builtin .recover, q1, q2⟩, q3, q4, q5, none⟩ : Oper)).run P w = res at hnr
    cases hnr
    simp only
    have go : ∀ (QQ : Exit → Act → List Frame → World → Prop), (∀ φ' w' a' m', Post P φ T A A1 w w' φ' → FRel φ' f1 a' → UIn φ' none m' → QQ .normal a' ({ c₀ with mode := m' } :: cs) w') → ∀ v' m', VRel φ1 u v' → UIn φ1 none m' →
        wpListS P ops QQ lo (({ tmps := args' ++ cap' ++ Array.replicate (fn2.ntmps - (args' ++ cap').size) undef, defers := [] } : Act).put (some d) v') ({ c₀ with mode := m' } :: cs) w1 := by
      intro QQ hQQ v' m' hv hm2
      have hfr1 := (hir.mono hp.ext).put hput hv
      refine wpListS_of (Q := fun e a' w' => e = .normal ∧ ∃ φ', Post P φ T A A1 w w' φ' ∧ FRel φ' f1 a' ∧ UIn φ' none m') (fun a w h => by cases h.1) (fun e a' w' h => ?_) lo _ _ (k1.run φ1 _ w1 _ hfr1 hp.rel (foot_right (hT.left m1.fr)) (fresh_right (fresh_left hfr m1.fr.next) (Nat.le_refl _) hp) _ fun φ' w' a' e hp' hf' hx' => ?_)
      · obtain ⟨rfl, φ', g1, g2, g3⟩ := h
        exact hQQ φ' w' a' m' g1 g2 g3
      · cases hx'
        exact ⟨rfl, φ', hp.trans (Nat.le_refl _) k1.fr hp', hf', hm2.mono hp'.ext⟩
    have fin : ∀ v' m', VRel φ1 u v' → UIn φ1 none m' → wpListS P ops (Exit.thenS (c.wpS P (bodyPostS P fn2 { c₀ with mode := m } cs fun e m' w' => ∃ v φ', e = .returned v ∧ Post P φ T A A2 w w' φ' ∧ URel φ' none (settle m'))) (bodyPostS P fn2 { c₀ with mode := m } cs fun e m' w' => ∃ v φ', e = .returned v ∧ Post P φ T A A2 w w' φ' ∧ URel φ' none (settle m'))) lo (({ tmps := args' ++ cap' ++ Array.replicate (fn2.ntmps - (args' ++ cap').size) undef, defers := [] } : Act).put (some d) v') ({ c₀ with mode := m' } :: cs) w1 := by
      refine go _ fun φ2 w2 a2 m2 hp2 hf2 hu2 => ?_
      refine wpS_of_wp (m1.run φ2 _ w2 a2 hf2 hp2.rel (foot_right hT) (fresh_right hfr k1.fr.next hp2) _ fun φ3 w3 a3 e hp3 hf3 hx2 => ?_)
      have hdef : a3.defers = [] := by
        have := hf3.defers
        rw [m4.df] at this
        cases hh : a3.defers with
        | nil => rfl
        | cons y l => rw [hh] at this; cases this
      have hres : (results fn2 a3.tmps).run P w3 = .ok (resV []) w3 := by
        refine results_run ?_
        rw [b3]
        rfl
      have hend : bodyPostS P fn2 { c₀ with mode := m } cs (fun e m' w' => ∃ v φ', e = .returned v ∧ Post P φ T A A2 w w' φ' ∧ URel φ' none (settle m')) .ret a3 ({ c₀ with mode := m2 } :: cs) w3 :=
        ⟨hdef, m2, rfl, _, hres, _, φ3, rfl, hp2.trans k1.fr.next m1.fr hp3, (hu2.mono hp3.ext).settle⟩
      rcases hx3 with rfl | rfl
      · cases hx2; exact hend
      · cases hx2; exact hend
    cases hu' with
    | ret =>
      cases hu
      exact fin _ _ .nilIface .ret
    | panic v v' hv =>
      cases hu
      exact fin _ _ (hv.mono hp.ext) (.done v')
/-- the region that ends in the deferral -/
theorem dl_ok (hE : Env P) (hO : OpsOK P) {Γ : Nat → Option PFn} {ext : PCallF} (hC : PCallOK P (puOf Γ) (pcall P Γ ext)) {ops : Array Oper} {nt : Nat} : ∀ (lo : List Oper) (l : List PI) (x : Operand), compDl P nt ops.toList lo = some (l, x) → ∀ {A : AS} {β : Nat → Nat} {f : Fr} {p p' : PFr} {s s' : PS} {g2 : Nat} {caps : List PV}, Inv A → RS A β s → RF [] A β s.n nt f p →
    pops P Γ ext l p s = some (p', s') → pval p' x = .fn g2 [] caps → Kp s s' ∧ ∃ f' A' β' ys, OpsSound P ops lo f A .normal f' A' ∧ Fw A A' β β' s.n s'.n s'.w ∧ RS A' β' s' ∧ RF [⟨.fn (.func g2) ys, #[]⟩] A' β' s'.n nt f' p' ∧ Rs A' β' s'.n ys.toList caps := by
  intro lo
  induction lo with
  | nil => intro l x h; cases h
  | cons o lo ih =>
    intro l x hl A β f p p' s s' g2 caps hi hs hf h hx
    cases lo with
    | nil =>
      simp only [compDl] at hl
      split at hl
      · rename_i y args tys hop hdst hgd
        split at hl
        · rename_i hok
          rw [Bool.and_eq_true, List.isEmpty_iff] at hok
          obtain ⟨hok, hargs⟩ := hok
          injection hl with hl; injection hl with e1 e2; subst e1; subst e2
          have h' : some (p, s) = some (p', s') := h
          injection h' with h'; injection h' with e1 e2; subst e1; subst e2
          obtain ⟨vx, x1, x2⟩ := okX_eval hf hok
          rw [hx] at x2
          obtain ⟨xs, ys, rfl, r1, r2⟩ : ∃ xs ys, vx = .func (.func g2) xs ys ∧ Rs A β s.n xs.toList [] ∧ Rs A β s.n ys.toList caps := by
            cases x2 with
            | cl _ _ h => cases h with | fn g => exact ⟨_, _, rfl, .nil, .nil⟩
            | fn _ xs ys _ _ h h' => exact ⟨xs, ys, rfl, h, h'⟩
          have hxs : xs = #[] := by
            generalize hq : xs.toList = q at r1
            cases r1
            cases xs; simp only at hq; rw [hq]
          subst hxs
          obtain ⟨od, oop, ty, pos, af, gu⟩ := o
          simp only at hop hdst hgd
          subst hop; subst hdst; subst hgd
          have ha : args = #[] := by cases args; simp only at hargs; rw [hargs]
          subst ha
          have hon : StepOn P ops ⟨none, .defer ⟨.value y, #[], tys⟩, ty, pos, af, none⟩ f A ⟨f.tmps, f.n, ⟨.fn (.func g2) ys, #[]⟩ :: f.defers⟩ A := by
            refine step_on (call := fun _ _ _ => none) hO noCallOK noCallMono hi (Nat.le_refl _) ?_
            have hev : evalOp P f ⟨none, .defer ⟨.value y, #[], tys⟩, ty, pos, af, none⟩ A = some (.dfr ⟨.fn (.func g2) ys, #[]⟩, A) := by
              show deferA f ⟨.value y, #[], tys⟩ A = _
              unfold deferA
              simp only [x1]
              rfl
            show afterOp _ f none (evalOp P f _ A) = _
            rw [hev]
            rfl
          refine ⟨.refl s, (⟨f.tmps, f.n, ⟨.fn (.func g2) ys, #[]⟩ :: f.defers⟩ : Fr), A, β, ys, ⟨hon.fr, fun φ T w a hfr hr hT hfs Q hQ => wpList_of_op ?_⟩, .refl A β s.n _, hs, ⟨hf.num, hf.few, by show _ :: f.defers = _; rw [hf.df], hf.tmp⟩, r2⟩
          exact hon.run φ T w a hfr hr hT hfs _ Q fun φ' w' a' hp hf' => hQ φ' w' a' _ hp hf' .normal
        · cases hl
      · cases hl
    | cons o2 lo =>
      simp only [compDl] at hl
      split at hl
      · rename_i i r y hi' hr'
        injection hl with hl; injection hl with e1 e2; subst e1; subst e2
        have h' : (pstep P Γ ext i p s).bind (fun q => pops P Γ ext r q.1 q.2) = some (p', s') := h
        rw [Option.bind_eq_some_iff] at h'
        obtain ⟨⟨p1, s1⟩, h1, h2⟩ := h'
        obtain ⟨kp1, f1, A1, β1, k1, k2, k3, k4, _⟩ := step_ok hE hO hC hi' hi hs hf h1
        obtain ⟨kp2, f2, A2, β2, ys, m1, m2, m3, m4, m5⟩ := ih r y hr' k1.fr.inv k3 k4 h2 hx
        refine ⟨kp1.trans kp2, f2, A2, β2, ys, ⟨k1.fr.trans m1.fr, fun φ T w a hfr hr hT hfs Q hQ => wpList_of_op ?_⟩, k2.trans m2 kp2.w, m3, m4, m5⟩
        refine k1.run φ T w a hfr hr (hT.left m1.fr) (fresh_left hfs m1.fr.next) _ Q fun φ' w' a' hp hf' => ?_
        refine m1.run φ' _ w' a' hf' hp.rel (foot_right hT) (fresh_right hfs k1.fr.next hp) Q fun φ2 w2 a2 e hp2 hf2 hx2 => ?_
        exact hQ φ2 w2 a2 e (hp.trans k1.fr.next m1.fr hp2) hf2 hx2
      · cases hl
/-- a call with a deferred one: what it answers -/
theorem dfr_ok (hE : Env P) (hO : OpsOK P) (hm : P.follows .mixedOrders = true) (hP : Parts P) {Γ : Nat → Option PFn} (hΓ : TabOK P Γ) {ext : PCallF} (hX : PCallOK P (puOf Γ) ext) {g g2 : Nat} {fn fn2 : Func} {d : PDf} (hfn : P.funcs[g]? = some fn) (hfn2 : P.funcs[g2]? = some fn2) (hc : compD P fn fn2 = some d)
    {args : List PV} {s : PS} {v : PV} (h : DRun P Γ ext d g2 args s v) : (∃ fn c, P.funcs[g]? = some fn ∧ fn.body = some c) ∧ ∀ (A : AS) (β : Nat → Nat) (vs : List Value), Inv A → RS A β s → Rs A β s.n vs args →
      ∃ u A' β', CallSound P g vs.toArray A (.ret u) A' ∧ Fw A A' β β' s.n s.n s.w ∧ RS A' β' s ∧ R1 A' β' s.n u v ∧ ∀ c, c < A.next → A'.w.testBit c = true → A.w.testBit c = true := by
  have hC := pcall_ok hE hO hm hP hΓ hX
  have hK := xk_ok hE hO hm hP hΓ hX
  unfold compD at hc
  split at hc
  case h_2 => cases hc
  rename_i i1 ops1 i2 ops2 rest hbody
  split at hc
  case h_2 => cases hc
  rename_i l1 l2 x pr rs nt2 d2 l3 c3 hl1 hl2 hpr hrs hd2
  split at hc
  case isFalse => cases hc
  rename_i hnt
  have b1 := Nat.le_of_ble_eq_true hnt
  injection hc with hc
  subst hc
  obtain ⟨hlen, f0, s0, f1, s1, caps, r1, r2, r3, hrun⟩ := h
  simp only at hlen r1 r2 r3 hrun
  refine ⟨⟨fn, _, hfn, hbody⟩, fun A β vs hi hs hvs => ?_⟩
  have hs' : RS A β ⟨s.h, s.n, s.n⟩ := ⟨hs.blk, hs.inj, hs.lay⟩
  obtain ⟨kp0, F0, A0, β0, a1, a2, a3, a4⟩ := ops_ok (ds := []) hE hO hC ops1.toList l1 hl1 hi hs' (init_ok hvs b1 hlen) r1
  obtain ⟨kp1, F1, A1, β1, ys, c1, c2, c3', c4, c5⟩ := dl_ok hE hO hC ops2.toList l2 x hl2 a1.fr.inv a3 a4 r2 r3
  -- the rest of the body, and the deferred call
  have key : ∃ (X : AExit) (uo : Option Value) (u : Value) (f2 : PFr) (s2 : PS), ((X = .normal ∨ X = .ret) ∧ uo = none ∨ ∃ w, X = .panic w ∧ uo = some w) ∧ UOK uo u ∧ DAfter P Γ ext ⟨fn.ntmps, l1, l2, x, pr, rs, nt2, d2, l3, c3⟩ caps s.n v u f2 s2 ∧ Kp s1 s2 ∧
      ∃ F2 A2 β2, CSound P rest F1 A1 X F2 A2 ∧ Fw A1 A2 β1 β2 s1.n s2.n s2.w ∧ RS A2 β2 s2 ∧ RF [⟨.fn (.func g2) ys, #[]⟩] A2 β2 s2.n fn.ntmps F2 f2 := by
    rcases hrun with ⟨X, f2, s2, e1, e2, e3⟩ | hx
    · obtain ⟨kp, F2, A2, β2, k1, k2, k3, k4⟩ := pcode_ok hE hO hm hP hΓ hX hpr c1.fr.inv c3' c4 e1
      exact ⟨xt X, none, _, f2, s2, .inl ⟨by rcases e2 with rfl | rfl <;> simp [xt], rfl⟩, .none, e3, kp, F2, A2, β2, k1, k2, k3, k4⟩
    · obtain ⟨w, f2, s2, hu, hpv, hkp, hk⟩ := xc_ok (ds := [⟨.fn (.func g2) ys, #[]⟩]) hE hO hm hP hΓ hX hK rest pr hpr hx
      obtain ⟨F2, A2, β2, k1, k2, k3, k4⟩ := hk A1 β1 F1 c1.fr.inv c3' c4
      exact ⟨.panic w, some w, w, f2, s2, .inr ⟨w, rfl, rfl⟩, .some w hpv, hu, hkp, F2, A2, β2, k1, k2, k3, k4⟩
  obtain ⟨X, uo, u, f2, s2, hX2, hUO, ⟨hcap, fd1, s3, x3, fd2, s4, us, t1, t2, t3, t4, t5, t6⟩, kp2, F2, A2, β2, k1, k2, k3, k4⟩ := key
  simp only at hcap t1 t2 t4
  obtain ⟨kp3, hd⟩ := dcall_ok hE hO hm hP hΓ hX hfn2 hd2 hcap hUO t1 t2 t3
  obtain ⟨A3, β3, d1, d2', d3, drun⟩ := hd A2 β2 ys k1.fr.inv k3 (c5.mono k2)
  have k4' := k4.mono d2'
  obtain ⟨us', A4, n1, n2, n3, n4, n5, n6⟩ := res_ok d1.inv d3 k4' fn.results.toList rs us hrs t4
  obtain ⟨frs, rrun⟩ := resultsA_run F2 fn.results.toList d1.inv n1
  -- the whole body
  have hbodyC : CSound P (.seq (.region i1 ops1 false) (.seq (.region i2 ops2 false) rest)) (initFr fn vs.toArray) A X F2 A2 := by
    refine ⟨a1.fr.trans (c1.fr.trans k1.fr), fun φ T w a hfr hr hT hfs Q hQ => wp_seq (wp_region_list ?_)⟩
    have fr2 := c1.fr.trans k1.fr
    refine a1.run φ T w a hfr hr (hT.left fr2) (fresh_left hfs fr2.next) _ fun φ1 w1 a1' e hp hf1 he => ?_
    cases he
    refine wp_seq (wp_region_list ?_)
    have hT1 := foot_right (A := A) (B := A0) hT
    have hfs1 := fresh_right hfs a1.fr.next hp
    refine c1.run φ1 _ w1 a1' hf1 hp.rel (hT1.left k1.fr) (fresh_left hfs1 k1.fr.next) _ fun φ2 w2 a2' e hp2 hf2 he2 => ?_
    cases he2
    refine k1.run φ2 _ w2 a2' hf2 hp2.rel (foot_right hT1) (fresh_right hfs1 c1.fr.next hp2) _ fun φ3 w3 a3' e hp3 hf3 he3 => ?_
    exact hQ φ3 w3 a3' e (hp.trans a1.fr.next fr2 (hp2.trans c1.fr.next k1.fr hp3)) hf3 he3
  have kpAll : Kp ⟨s.h, s.n, s.n⟩ s4 := kp0.trans (kp1.trans (kp2.trans kp3))
  have hfw : Fw A A4 β β3 s.n s4.n s4.w := (a2.trans (c2.trans (k2.trans d2' kp3.w) (kp2.trans kp3).w) (kp1.trans (kp2.trans kp3)).w).trans (.heap β3 s4.n n2 n3 n4) (Nat.le_refl _)
  have hs4 : RS A4 β3 s4 := d3.same n2 n3 n4 n5
  have hw : ∀ c, c < A.next → A4.w.testBit c = true → A.w.testBit c = true := fun c hc hb => by
    rcases hfw.w c hc hb with h | ⟨k, q1, q2, _⟩
    · exact h
    · omega
  have hsame : Same s s4 := fun k hk => kpAll.h k hk (by omega)
  refine ⟨resV us', A4, β3, ?_, ⟨Nat.le_refl _, hfw.next, hfw.eq, fun k a b => by omega, hfw.prot, hfw.keep, fun c hc hb => .inl (hw c hc hb)⟩, hs4.cut hs hfw.le hsame, frz_ok hs4 hfw.le (oneRes_ok (RV.mono (.heap (lo := 0) β3 s4.n n2 n3 n4) (show Rs A3 β3 s4.n us' us from n6))) t6, hw⟩
  refine ⟨hbodyC.fr.trans (d1.trans frs), fun φ T w args' hargs hr hT hfs => calls_of_wp_defers hfn hbody ?_⟩
  have frt := d1.trans frs
  have b2 : vs.toArray.toList.length ≤ fn.ntmps := by rw [List.toList_toArray, hvs.len]; exact hlen
  refine hbodyC.run φ T w _ (init_rel hargs b1 b2) hr (hT.left frt) (fresh_left hfs frt.next) _ fun φ1 w1 a1' e hp hf1 he => ?_
  have leave : ∀ m, m ≠ .run → URel φ1 uo m → Leaves P fn a1'.tmps (fun e w' => ∃ φ', Post P φ T A A4 w w' φ' ∧ EndRel φ' (.ret (resV us')) e) a1'.defers m w1 := by
    intro m hm1 hum
    have hdf := hf1.defers
    rw [k4.df] at hdf
    generalize hq : a1'.defers = ds' at hdf
    cases hdf with
    | cons _ d' _ ds'' hdd hdl =>
      cases hdl
      have hT1 := foot_right (A := A) (B := A2) hT
      have hfs1 := fresh_right hfs hbodyC.fr.next hp
      obtain ⟨fv, cap, g', args2, e1, e2, e3⟩ := drun φ1 _ w1 d' m hdd hum hp.rel (hT1.left frs) (fresh_left hfs1 frs.next)
      refine ⟨hm1, fv, cap, g', args2, e1, e2, e3.mono ?_⟩
      rintro e m' w' ⟨v', φ', rfl, hp', hu'⟩
      have hf2 := hf1.mono hp'.ext
      obtain ⟨vs', g1, g2', g3⟩ := rrun φ' _ w' a1' hf2 hp'.rel (foot_right hT1)
      generalize hq2 : settle m' = m2 at hu'
      cases hu'
      show Leaves P fn a1'.tmps _ [] (settle m') w'
      rw [hq2]
      refine ⟨resV vs', results_run g2', φ', hp.trans hbodyC.fr.next frt (hp'.trans d1.next frs g3), .ret _ _ ?_⟩
      cases g1 with
      | nil => exact .tuple _ _ .nil
      | cons v v' l l' hv hs2 =>
        cases hs2 with
        | nil => exact hv
        | cons u u' m m' hu hm => exact .tuple _ _ (.cons _ _ _ _ hv (.cons _ _ _ _ hu hm))
  rcases hX2 with ⟨hX2, rfl⟩ | ⟨w2, rfl, rfl⟩
  · rcases hX2 with rfl | rfl
    · cases he; exact leave _ (by simp) .ret
    · cases he; exact leave _ (by simp) .ret
  · cases he with
    | panic _ v' hv => exact leave _ (by simp) (.panic _ _ hv)
end
end Go.PE
