/- A run on values, and its soundness. No statement is proved here. -/
import Derived.Test.YtnocibbhognbeaaGreatDoorPeA
set_option linter.unusedSimpArgs false
set_option linter.unusedVariables false
namespace Go.PE
open Go Go.EvL
section
variable {ds : List Deferred} {P : Program} {A : AS} {β : Nat → Nat} {nt : Nat} {f : Fr} {p : PFr} {s s' : PS} {q : PV} {E : Eff} {d : Option Tmp} {ty : TypeId} {pos : String} {af : Array Edge} {gu : Option (Nat × Bool)}
theorem mnx_ok (hO : OpsOK P) (hi : Inv A) (hs : RS A β s) (hf : RF ds A β s.n nt f p) {mx : Bool} {x y : Operand} {tys : Array TypeId} (hx : okX x = true) (hy : okX y = true) (h : opP P p s (.mnx mx x y) = some (q, s')) :
    Res1 P A β s f ⟨d, .call ⟨.builtin (if mx then .max else .min), #[x, y], tys⟩, ty, pos, af, gu⟩ q s' E := by
  obtain ⟨vx, x1, x2⟩ := okX_eval hf hx
  obtain ⟨vy, y1, y2⟩ := okX_eval hf hy
  simp only [opP] at h
  split at h
  · rename_i k a k' b h1 h2
    injection h with h; injection h with e1 e2; subst e1; subst e2
    rw [h1] at x2
    rw [h2] at y2
    obtain ⟨rfl, _⟩ := x2.sc
    obtain ⟨rfl, _⟩ := y2.sc
    refine res_same hO hi hs ?_ (.cl _ _ (.sc _ rfl))
    cases mx with
    | true =>
      show purely P f ⟨d, .call ⟨.builtin .max, #[x, y], tys⟩, ty, pos, af, gu⟩ A = _
      unfold purely
      have hp : ((⟨d, .call ⟨.builtin .max, #[x, y], tys⟩, ty, pos, af, gu⟩ : Oper).op.operands.toList.all (plainAt f)) = true := by
        show (([x, y] : List Operand).all (plainAt f)) = true
        simp only [List.all_cons, List.all_nil, plainAt, x1, y1]
        rfl
      rw [hp]
      have he : pureRun P (execOp (fun z => (f.eval z).getD undef) ⟨d, .call ⟨.builtin .max, #[x, y], tys⟩, ty, pos, af, gu⟩) = some (.value (.int k (mnxI true a b))) := by
        show pureRun P (do let d ← resolve (fun z => (f.eval z).getD undef) ⟨.builtin .max, #[x, y], tys⟩ ty; invoke d.target d.args) = _
        simp only [resolve, x1, y1, Option.getD_some, List.map_toArray, List.map_cons, List.map_nil]
        rfl
      rw [he]
      rfl
    | false =>
      show purely P f ⟨d, .call ⟨.builtin .min, #[x, y], tys⟩, ty, pos, af, gu⟩ A = _
      unfold purely
      have hp : ((⟨d, .call ⟨.builtin .min, #[x, y], tys⟩, ty, pos, af, gu⟩ : Oper).op.operands.toList.all (plainAt f)) = true := by
        show (([x, y] : List Operand).all (plainAt f)) = true
        simp only [List.all_cons, List.all_nil, plainAt, x1, y1]
        rfl
      rw [hp]
      have he : pureRun P (execOp (fun z => (f.eval z).getD undef) ⟨d, .call ⟨.builtin .min, #[x, y], tys⟩, ty, pos, af, gu⟩) = some (.value (.int k (mnxI false a b))) := by
        show pureRun P (do let d ← resolve (fun z => (f.eval z).getD undef) ⟨.builtin .min, #[x, y], tys⟩ ty; invoke d.target d.args) = _
        simp only [resolve, x1, y1, Option.getD_some, List.map_toArray, List.map_cons, List.map_nil]
        rfl
      rw [he]
      rfl
  · cases h
theorem nck_ok (hO : OpsOK P) (hi : Inv A) (hs : RS A β s) (hf : RF ds A β s.n nt f p) {x : Operand} (hx : okX x = true) (h : opP P p s (.nck x) = some (q, s')) : Res1 P A β s f ⟨d, .nilCheck x, ty, pos, af, gu⟩ q s' E := by
  obtain ⟨vx, x1, x2⟩ := okX_eval hf hx
  simp only [opP] at h
  have ev : ∀ a, vx = .pointer (some a) → evalOp P f ⟨d, .nilCheck x, ty, pos, af, gu⟩ A = some (.val vx, A) := fun a ha => by
    show nilCheckA P f _ (f.eval x) A = _
    rw [x1, ha]
    rfl
  split at h
  · rename_i k o fin hp
    injection h with h; injection h with e1 e2; subst e1; subst e2
    rw [hp] at x2
    refine res_same hO hi hs (u := vx) ?_ x2
    cases x2 with
    | cl _ _ h => cases h
    | ptr => exact ev _ rfl
  · rename_i cs hp
    injection h with h; injection h with e1 e2; subst e1; subst e2
    rw [hp] at x2
    refine res_same hO hi hs (u := vx) ?_ x2
    have x3 := x2.litp
    cases x3 with
    | litp => exact ev _ rfl
  · cases h
theorem made_rs {n : Nat} {z : Value} (hz : okZ z = true) (hp : plain 50 z = true) (es m : Nat) (hl : z.cells.toList.length = es) : Rs A β n (madeC z.cells.toList es (m * es)) (madeP z.cells.toList es m) := by
  have h0 := zcells' (A := A) (β := β) (n := n) hz
  unfold madeC madeP
  have key : ∀ l : List Nat, (∀ k ∈ l, 0 < es) → Rs A β n (l.map fun k => z.cells.toList.getD (Nat.mod k es) undef) (l.map fun k => PV.sc (z.cells.toList.getD (k % es) undef)) := by
    intro l
    induction l with
    | nil => intro _; exact .nil
    | cons k l ih =>
      intro hk
      refine .cons _ _ _ _ ?_ (ih fun j hj => hk j (List.mem_cons_of_mem _ hj))
      have hm : k % es < z.cells.toList.length := by rw [hl]; exact Nat.mod_lt _ (hk k (List.mem_cons_self ..))
      obtain ⟨u, h1, h2⟩ := Rs.get h0 (i := k % es) (v := .sc (z.cells.toList[k % es])) (by rw [List.getElem?_map, List.getElem?_eq_getElem hm]; rfl)
      have e1 : z.cells.toList.getD (k % es) undef = z.cells.toList[k % es] := by rw [List.getD_eq_getElem?_getD, List.getElem?_eq_getElem hm]; rfl
      rw [List.getElem?_eq_getElem hm] at h1
      injection h1 with h1
      show R1 A β n (z.cells.toList.getD (k % es) undef) (.sc (z.cells.toList.getD (k % es) undef))
      rw [e1]
      rw [← h1] at h2
      exact h2
  refine key _ fun k hk => ?_
  have := List.mem_range.1 hk
  cases es with
  | zero => simp at this
  | succ es => exact Nat.succ_pos _
theorem mks_ok (hO : OpsOK P) (hi : Inv A) (hs : RS A β s) (hf : RF ds A β s.n nt f p) {t e : Nat} {i : TypeInfo} {z : Value} {l c : Operand} (hl : okX l = true) (hc : okX c = true) (hz1 : okZ z = true) (hz2 : plain 50 z = true) (hz3 : Nat.beq z.cells.toList.length i.size = true) (ht : P.underlying t = some (.slice e)) (hin : P.info? e = some i) (hz : i.zero = some z)
    (h : opP P p s (.mks e i.size i.bytes z.cells.toList l c) = some (q, s')) : Res1 P A β s f ⟨d, .makeSlice t l c, ty, pos, af, gu⟩ q s' E := by
  obtain ⟨vl, l1, l2⟩ := okX_eval hf hl
  obtain ⟨vc, c1, c2⟩ := okX_eval hf hc
  simp only [opP] at h
  split at h
  · rename_i a b ha hb
    split at h
    · rename_i hh
      obtain ⟨rfl, k1, k2⟩ := hh
      injection h with h; injection h with e1 e2; subst e1; subst e2
      obtain ⟨n1, _⟩ := natP_ok l2 ha
      obtain ⟨n2, _⟩ := natP_ok c2 hb
      refine res_row hO hi hs (cells := madeC z.cells.toList i.size (a * i.size)) ?_ (made_rs hz1 hz2 i.size a (Nat.eq_of_beq_eq_true hz3))
      show makeA P t (f.eval l) (f.eval c) A = _
      unfold makeA
      rw [l1, c1, ht]
      simp only [Option.bind_some, n1, n2, hin, hz]
      unfold makeIn
      rw [show Nat.ble a a = true from Nat.ble_eq_true_of_le (Nat.le_refl _), show Nat.ble (Nat.mul i.bytes a) 281474976710656 = true from Nat.ble_eq_true_of_le k1, show Nat.ble a 1073741824 = true from Nat.ble_eq_true_of_le k2, hz2, hz3]
      rfl
    · cases h
  · cases h
theorem cpy_ok (hO : OpsOK P) (hi : Inv A) (hs : RS A β s) (hf : RF ds A β s.n nt f p) {t u e e2 es : Nat} {x y : Operand} (hx : okX x = true) (hy : okX y = true) (ht : P.underlying t = some (.slice e)) (hu : P.underlying u = some (.slice e2)) (hsz : szOf P e = some es)
    (h : opP P p s (.cpy es x y) = some (q, s')) : Res1 P A β s f ⟨d, .call ⟨.builtin .copy, #[x, y], #[t, u]⟩, ty, pos, af, gu⟩ q s' (effO p (.cpy es x y)) := by
  obtain ⟨vx, x1, x2⟩ := okX_eval hf hx
  obtain ⟨vy, y1, y2⟩ := okX_eval hf hy
  simp only [opP, Option.bind_eq_some_iff] at h
  obtain ⟨⟨ys, n⟩, hel, h⟩ := h
  obtain ⟨i, hin, hsi⟩ : ∃ i, P.info? e = some i ∧ i.size = es := by
    unfold szOf at hsz
    cases hq : P.info? e with
    | none => rw [hq] at hsz; cases hsz
    | some i => rw [hq] at hsz; injection hsz with hsz; exact ⟨i, rfl, hsz⟩
  obtain ⟨xs, A1, hca, hxs, hA1⟩ := elems_ok (e2 := e2) hs y2 hsz hel
  have hh1 : A1.heap = A.heap ∧ A1.next = A.next ∧ A1.w = A.w ∧ A1.fz = A.fz := by
    rcases hA1 with rfl | ⟨c, rfl, _⟩
    · exact ⟨rfl, rfl, rfl, rfl⟩
    · rw [logR_eq]; exact ⟨rfl, rfl, rfl, rfl⟩
  have hi1 : Inv A1 := by
    rcases hA1 with rfl | ⟨c, rfl, _⟩
    · exact hi
    · rw [logR_eq]; exact ⟨hi.lt, hi.mem, hi.memc, hi.root, hi.ml, hi.old, hi.fz⟩
  have hw1 : ∀ lo, Fw A A1 β β s.n s.n lo := fun lo => .heap β s.n hh1.1 hh1.2.1 hh1.2.2.1
  have hs1 : RS A1 β s := hs.same hh1.1 hh1.2.1 hh1.2.2.1 hh1.2.2.2
  have hsub : ∀ c, ((∃ k ∈ (effA (pval p y)).rd, k < s.n ∧ β k = c) ∨ ((effA (pval p y)).li = true ∧ Prot A β s.n c)) → ((∃ k ∈ (effO p (.cpy es x y)).rd, k < s.n ∧ β k = c) ∨ ((effO p (.cpy es x y)).li = true ∧ Prot A β s.n c)) := by
    intro c hc
    have e1 : ∀ k ∈ (effA (pval p y)).rd, k ∈ (effO p (.cpy es x y)).rd := fun k hk => by
      simp only [effO]; split
      · exact List.mem_cons_of_mem _ hk
      · exact hk
    have e2 : (effA (pval p y)).li = true → (effO p (.cpy es x y)).li = true := fun hl => by
      simp only [effO]; split
      · exact hl
      · exact hl
    rcases hc with ⟨k, h1, h2⟩ | ⟨h1, h2⟩
    · exact .inl ⟨k, e1 k h1, h2⟩
    · exact .inr ⟨e2 h1, h2⟩
  have hA2 : A1 = A ∨ ∃ c, A1 = logR A c ∧ c < A.next ∧ ((∃ k ∈ (effO p (.cpy es x y)).rd, k < s.n ∧ β k = c) ∨ ((effO p (.cpy es x y)).li = true ∧ Prot A β s.n c)) := hA1.imp id fun ⟨c, h1, h2, h3⟩ => ⟨c, h1, h2, hsub c h3⟩
  have zero : ∀ base len cap, vx = .slice base len cap → n = 0 → Res1 P A β s f ⟨d, .call ⟨.builtin .copy, #[x, y], #[t, u]⟩, ty, pos, af, gu⟩ (.sc (.int .i64 0)) s (effO p (.cpy es x y)) := by
    rintro base len cap rfl rfl
    have hx0 : xs.length = 0 := by
      unfold elemsP at hel
      split at hel
      · injection hel with hel; injection hel with h1 h2; subst h1; exact hxs.len
      · split at hel
        · rename_i hc
          injection hel with hel; injection hel with h1 h2; subst h1; subst h2; rw [hxs.len, hc, Nat.zero_mul]
        · cases hel
      · split at hel
        · rename_i hc
          injection hel with hel; injection hel with h1 h2; subst h1; subst h2; rw [hxs.len, Nat.zero_mul, List.take_zero]; rfl
        · cases hel
      · cases hel
    have hxn : xs = [] := List.eq_nil_of_length_eq_zero hx0
    have ev : evalOp P f ⟨d, .call ⟨.builtin .copy, #[x, y], #[t, u]⟩, ty, pos, af, gu⟩ A = some (.val (.int .i64 0), A1) := by
      show copyA P (P.underlying t) (P.underlying u) (f.eval x) (f.eval y) A = _
      rw [ht, hu, x1, y1]
      unfold copyA
      simp only [hca, hin]
      rw [hxn]
      simp only [Nat.mul_eq, Nat.zero_mul, List.length_nil, List.all_nil]
      rfl
    rcases hA2 with rfl | ⟨c, rfl, h1, h2⟩
    · exact res_same hO hi hs ev (.cl _ _ (.sc _ rfl))
    · exact res_read hO hi hs ev (.cl _ _ (.sc _ rfl)) h1 h2
  split at h
  · rename_i k off m fin hp
    rw [hp] at x2
    cases x2 with
    | cl _ _ h => cases h
    | own b o _ _ _ _ cap e' cells st ok hk hg ho hf' hm =>
      split at h
      · rename_i h0
        injection h with h; injection h with e1 e2; subst e1; subst e2
        exact zero _ _ _ rfl h0
      · rename_i h0
        split at h
        · rename_i hc
          obtain ⟨c1, c2⟩ := hc
          simp only [Option.map_eq_some_iff] at h
          obtain ⟨s1, hst, he⟩ := h
          injection he with e1 e2; subst e1; subst e2
          unfold stP at hst
          simp only at hst
          split at hst
          · rename_i hc
            injection hst with hst
            obtain ⟨d1, d2, d3⟩ := hc
            have xs1 := hxs.mono (hw1 0)
            have he : effO p (.cpy es x y) = ⟨k :: (effA (pval p y)).rd, [k], (effA (pval p y)).li, false⟩ := by simp only [effO, hp]
            obtain ⟨A', hA', k1, k2, k3⟩ := stc_ok (E := effO p (.cpy es x y)) hi1 hs1 hk (by rw [hh1.1]; exact hg) ho hf' xs1 d1 d2 d3 (by rw [he]; simp) (by rw [he]; simp)
            have hone := ones_ok xs1 d3
            have ev : evalOp P f ⟨d, .call ⟨.builtin .copy, #[x, y], #[t, u]⟩, ty, pos, af, gu⟩ A = some (.val (.int .i64 (n : Int)), A') := by
              show copyA P (P.underlying t) (P.underlying u) (f.eval x) (f.eval y) A = _
              rw [ht, hu, x1, y1]
              unfold copyA
              simp only [hca, hin]
              rw [show Nat.ble n m = true from Nat.ble_eq_true_of_le c1, show Nat.beq xs.length (Nat.mul n i.size) = true by rw [hxs.len, c2, hsi]; exact Nat.beq_refl _, hone]
              cases n with
              | zero => exact absurd rfl h0
              | succ n =>
                show (match stc A1 b o xs with
                  | some s => some (ANext.val (.int .i64 (.ofNat (Nat.add n 1))), s)
                  | none => none) = _
                rw [hA']
                rfl
            refine ⟨_, A', β, hO f _ A _ _ hi (Nat.le_refl _) ev, ?_, ?_, .cl _ _ (.sc _ rfl), by rw [← hst]; exact Msk.comp hA2 k3⟩
            · rw [← hst]
              exact (hw1 _).trans k1 (Nat.le_refl _)
            · rw [← hst]
              exact k2
          · cases hst
        · cases h
  · rename_i hp
    rw [hp] at x2
    obtain ⟨rfl, _⟩ := x2.sc
    split at h
    · rename_i h0
      injection h with h; injection h with e1 e2; subst e1; subst e2
      exact zero _ _ _ rfl h0
    · cases h
  · cases h
end
end Go.PE
namespace Go.PE
open Go Go.EvL
section
variable {ds : List Deferred} {P : Program} {A : AS} {β : Nat → Nat} {nt : Nat} {f : Fr} {p : PFr} {s s' : PS} {q : PV} {E : Eff} {d : Option Tmp} {ty : TypeId} {pos : String} {af : Array Edge} {gu : Option (Nat × Bool)}
theorem scalar_plainN (n : Nat) {v : Value} (h : scalar v = true) : plain n v = true := by
  cases n <;> cases v <;> first | (cases h; done) | rfl
theorem inP_cells {xs : Array Value} (h : xs.toList.all scalar = true) : xs.toList.all sok = true := by
  rw [List.all_eq_true] at h ⊢
  exact fun v hv => (scalar_plain (h v hv)).2
theorem inP_rel {n : Nat} {v : Value} (h : inP v = true) : R1 A β n v (pvOf v) := by
  cases v with
  | agg cs => exact .cl _ _ (.agg _ _ (plain_cells _ (inP_cells h)))
  | bool b => exact .cl _ _ (.sc _ rfl)
  | int k n => exact .cl _ _ (.sc _ rfl)
  | string b => exact .cl _ _ (.sc _ rfl)
  | _ => cases h
theorem eq_ptr {t e k : Nat} (ht : P.underlying t = some (.pointer e)) (w : World) : (Op.equalIn (k + 1) t (.pointer none) (.pointer none)).run P w = .ok true w := by
  simp only [Op.equalIn, Sem.run_bind, run_underlying ht, Result.andThen]
  rfl
theorem eq_ifc {t k : Nat} (ht : ∃ d, P.underlying t = some d ∧ (∃ a, d = .interface a)) (w : World) : (Op.equalIn (k + 1) t .nilIface .nilIface).run P w = .ok true w := by
  obtain ⟨_, ht, a, rfl⟩ := ht
  simp only [Op.equalIn, Sem.run_bind, run_underlying ht, Result.andThen]
  rfl
theorem eq_runP {op : BinOp} {ne : Bool} (hop : eqOp op = some ne) {t e : Nat} (ht : P.underlying t = some (.pointer e)) {x y : Operand} {w : World} : (do eqGuard op t x y (.pointer none) (.pointer none); binOp op t (.pointer none) (.pointer none) : Sem Value).run P w = .ok (.bool (true != ne)) w := by
  have h' : (Op.equal t (.pointer none) (.pointer none)).run P w = .ok true w := eq_ptr (k := 9999) ht w
  cases op <;> first | (cases hop; done) | skip
  · injection hop with hop; subst hop
    rw [Sem.run_bind, show (eqGuard .eql t x y (.pointer none) (.pointer none)).run P w = .ok () w from rfl]
    show (do pure (.bool (← Op.equal t (.pointer none) (.pointer none))) : Sem Value).run P w = _
    rw [Sem.run_bind, h']; rfl
  · injection hop with hop; subst hop
    rw [Sem.run_bind, show (eqGuard .neq t x y (.pointer none) (.pointer none)).run P w = .ok () w from rfl]
    show (do pure (.bool !(← Op.equal t (.pointer none) (.pointer none))) : Sem Value).run P w = _
    rw [Sem.run_bind, h']; rfl
theorem eq_runI {op : BinOp} {ne : Bool} (hop : eqOp op = some ne) {t : Nat} (ht : ∃ d, P.underlying t = some d ∧ ∃ a, d = .interface a) {x : Operand} {w : World} : (do eqGuard op t x (.const .nilIface) .nilIface .nilIface; binOp op t .nilIface .nilIface : Sem Value).run P w = .ok (.bool (true != ne)) w := by
  have h' : (Op.equal t .nilIface .nilIface).run P w = .ok true w := eq_ifc (k := 9999) ht w
  have hg : ∀ b : Bool, (b || true) = true := fun b => by cases b <;> rfl
  cases op <;> first | (cases hop; done) | skip
  · injection hop with hop; subst hop
    have e : (eqGuard .eql t x (.const .nilIface) .nilIface .nilIface).run P w = .ok () w := by
      cases x <;> rfl
    rw [Sem.run_bind, e]
    show (do pure (.bool (← Op.equal t .nilIface .nilIface)) : Sem Value).run P w = _
    rw [Sem.run_bind, h']; rfl
  · injection hop with hop; subst hop
    have e : (eqGuard .neq t x (.const .nilIface) .nilIface .nilIface).run P w = .ok () w := by
      cases x <;> rfl
    rw [Sem.run_bind, e]
    show (do pure (.bool !(← Op.equal t .nilIface .nilIface)) : Sem Value).run P w = _
    rw [Sem.run_bind, h']; rfl
theorem zero_rel {n : Nat} {z : Value} (h : okZ z = true) : R1 A β n z (pvOf z) := by
  cases z with
  | agg cs => exact .cl _ _ (.agg _ _ (plain_cells _ h))
  | func fn a b => cases h
  | _ => exact .cl _ _ (.sc _ h)
theorem eqOp_eq {op : BinOp} {ne : Bool} (h : eqOp op = some ne) (b : Bool) (B : AS) : cmpR op b B = some (.val (.bool (b != ne)), B) ∧ (op = .eql ∨ op = .neq) := by
  cases op <;> first | (cases h; done) | (injection h with h; subst h; cases b <;> exact ⟨rfl, by simp⟩)
theorem peq_ok (hO : OpsOK P) (hi : Inv A) (hs : RS A β s) (hf : RF ds A β s.n nt f p) {t u e m : Nat} {op : BinOp} {ne : Bool} {x y : Operand} (hx : okX x = true) (hy : okX y = true) (ht : P.underlying t = some (.pointer e)) (hop : eqOp op = some ne) (hsz : szOf P e = some (m + 1))
    (h : opP P p s (.peq ne t x y) = some (q, s')) : Res1 P A β s f ⟨d, .binOp op t x y u, ty, pos, af, gu⟩ q s' E := by
  obtain ⟨vx, x1, x2⟩ := okX_eval hf hx
  obtain ⟨vy, y1, y2⟩ := okX_eval hf hy
  simp only [opP, Option.map_eq_some_iff] at h
  obtain ⟨b, hb, he⟩ := h
  injection he with e1 e2; subst e1; subst e2
  have hev : ∀ b, fastBin op vx vy = none → slowBin P f ⟨d, .binOp op t x y u, ty, pos, af, gu⟩ op t vx vy A = cmpR op b A → evalOp P f ⟨d, .binOp op t x y u, ty, pos, af, gu⟩ A = some (.val (.bool (b != ne)), A) := fun b h1 h2 => by
    show binA P f _ op t (f.eval x) (f.eval y) A = _
    rw [x1, y1]
    unfold binA
    simp only [h1]
    rw [h2, (eqOp_eq hop b A).1]
  unfold peqP at hb
  split at hb
  · rename_i k o fin hpx hpy
    injection hb with hb; subst hb
    rw [hpx] at x2
    rw [hpy] at y2
    obtain ⟨rfl, _⟩ := y2.sc
    cases x2 with
    | cl _ _ h => cases h
    | ptr b o' _ _ _ e' cells st ok hk hg ho hf' =>
      exact res_same hO hi hs (hev false rfl (by unfold slowBin; simp only [ht])) (.cl _ _ (.sc _ rfl))
  · rename_i k o fin k' o' fin' hpx hpy
    split at hb
    · rename_i hc
      obtain ⟨rfl, c1, rfl⟩ := hc
      injection hb with hb; subst hb
      rw [hpx] at x2
      rw [hpy] at y2
      cases x2 with
      | cl _ _ h => cases h
      | ptr b oo _ _ _ e1 cells st ok hk hg ho hf1 =>
        cases y2 with
        | cl _ _ h => cases h
        | ptr b' oo' _ _ _ e2 cells' st' ok' hk' hg' ho' hf2 =>
          have hb1 := hs.blk k hk
          obtain ⟨_, l1, _⟩ := hb1.all _ _ _ _ _ hg
          obtain ⟨_, l2, _⟩ := hb1.all _ _ _ _ _ hg'
          have := hb1.uni _ _ _ _ _ _ _ _ _ _ hg hg' (by omega) (by omega)
          subst this
          have z1 := hb1.z _ _ _ _ _ hg
          have z2 := hb1.z _ _ _ _ _ hg'
          subst z1; subst z2
          obtain rfl : oo = o := by omega
          obtain rfl : oo' = o' := by omega
          refine res_same hO hi hs (hev (oo == oo') rfl ?_) (.cl _ _ (.sc _ rfl))
          unfold slowBin
          simp only [ht]
          unfold samePtr
          simp only [hsz]
          rw [Nat.beq_refl]
          show cmpR op (Nat.beq oo oo') A = _
          rw [show Nat.beq oo oo' = (oo == oo') by rw [Bool.eq_iff_iff]; simp]
    · cases hb
  · rename_i hpx hpy
    injection hb with hb; subst hb
    rw [hpx] at x2
    rw [hpy] at y2
    obtain ⟨rfl, _⟩ := x2.sc
    obtain ⟨rfl, _⟩ := y2.sc
    refine res_sound hs (sound_same hi fun φ w a hf' => ?_) (.cl _ _ (.sc _ rfl))
    have ex : a.eval x = .pointer none := plain_eq φ 50 _ _ rfl (hf'.eval x1)
    have ey : a.eval y = .pointer none := plain_eq φ 50 _ _ rfl (hf'.eval y1)
    have e : (execOp a.eval ⟨d, .binOp op t x y u, ty, pos, af, gu⟩).run P w = .ok (.value (.bool (true != ne))) w := by
      refine run_v (s := do eqGuard op t x y (a.eval x) (a.eval y); binOp op t (a.eval x) (a.eval y)) ?_
      rw [ex, ey]
      exact eq_runP hop ht
    rw [e]
    exact .val _ _ (.bool _)
  · cases hb
theorem inq_ok (hO : OpsOK P) (hi : Inv A) (hs : RS A β s) (hf : RF ds A β s.n nt f p) {t u : Nat} {op : BinOp} {ne : Bool} {x : Operand} (hx : okX x = true) (ht : ∃ d, P.underlying t = some d ∧ ∃ a, d = .interface a) (hop : eqOp op = some ne)
    (h : opP P p s (.inq ne t x) = some (q, s')) : Res1 P A β s f ⟨d, .binOp op t x (.const .nilIface) u, ty, pos, af, gu⟩ q s' E := by
  obtain ⟨vx, x1, x2⟩ := okX_eval hf hx
  simp only [opP, Option.map_eq_some_iff] at h
  obtain ⟨b, hb, he⟩ := h
  injection he with e1 e2; subst e1; subst e2
  obtain ⟨_, ht', ia, rfl⟩ := ht
  unfold inqP at hb
  split at hb
  · rename_i tt v hpx
    injection hb with hb; subst hb
    rw [hpx] at x2
    obtain ⟨rfl, _⟩ := x2.sc
    have hev : evalOp P f ⟨d, .binOp op t x (.const .nilIface) u, ty, pos, af, gu⟩ A = some (.val (.bool (false != ne)), A) := by
      show binA P f _ op t (f.eval x) (some .nilIface) A = _
      rw [x1]
      unfold binA
      simp only [show fastBin op (.iface tt v) .nilIface = none from rfl]
      unfold slowBin
      simp only [ht']
      exact (eqOp_eq hop false A).1
    exact res_same hO hi hs hev (.cl _ _ (.sc _ rfl))
  · rename_i hpx
    injection hb with hb; subst hb
    rw [hpx] at x2
    obtain ⟨rfl, _⟩ := x2.sc
    refine res_sound hs (sound_same hi fun φ w a hf' => ?_) (.cl _ _ (.sc _ rfl))
    have ex : a.eval x = .nilIface := plain_eq φ 50 _ _ rfl (hf'.eval x1)
    have e : (execOp a.eval ⟨d, .binOp op t x (.const .nilIface) u, ty, pos, af, gu⟩).run P w = .ok (.value (.bool (true != ne))) w := by
      refine run_v (s := do eqGuard op t x (.const .nilIface) (a.eval x) .nilIface; binOp op t (a.eval x) .nilIface) ?_
      rw [ex]
      exact eq_runI hop ⟨_, ht', ia, rfl⟩
    rw [e]
    exact .val _ _ (.bool _)
  · cases hb
theorem bytes_cells {n : Nat} : ∀ {cs : List PV} {l : List UInt8} {xs : List Value}, bytesP cs = some l → Rs A β n xs cs → bytesOfCells xs = some l := by
  intro cs
  induction cs with
  | nil => intro l xs h hr; injection h with h; subst h; cases hr; rfl
  | cons c cs ih =>
    intro l xs h hr
    cases hr with
    | cons v _ l' _ h1 h2 =>
      unfold bytesP at h
      split at h
      · rename_i hh; cases hh
      · rename_i z r hh
        injection hh with hh1 hh2
        subst hh1; subst hh2
        rw [Option.map_eq_some_iff] at h
        obtain ⟨m, hm, rfl⟩ := h
        obtain ⟨rfl, _⟩ := R1.sc h1
        show (bytesOfCells l').map (UInt8.ofNat z.toNat :: ·) = _
        rw [ih hm h2]; rfl
      · cases h
theorem bts_ok (hO : OpsOK P) (hi : Inv A) (hs : RS A β s) (hf : RF ds A β s.n nt f p) {t u e : Nat} {x : Operand} (hx : okX x = true) (ht : P.underlying t = some (.slice e)) (hu : P.underlying u = some .string) (he' : P.underlying e = some (.int .u8)) (hsz : szOf P e = some 1)
    (h : opP P p s (.bts x) = some (q, s')) : Res1 P A β s f ⟨d, .convert t u x, ty, pos, af, gu⟩ q s' (effO p (.bts x)) := by
  obtain ⟨vx, x1, x2⟩ := okX_eval hf hx
  simp only [opP, Option.bind_eq_some_iff, Option.map_eq_some_iff] at h
  obtain ⟨⟨cs, n⟩, hel, l, hl, he⟩ := h
  injection he with e1 e2; subst e1; subst e2
  by_cases hnil : pval p x = .sc (.slice none 0 0)
  · rw [hnil] at hel x2
    obtain ⟨rfl, _⟩ := x2.sc
    injection hel with hel; injection hel with h1 h2; subst h1; subst h2
    injection hl with hl; subst hl
    refine res_sound hs (sound_same hi fun φ w a hf' => ?_) (.cl _ _ (.sc _ rfl))
    have ex : a.eval x = .slice none 0 0 := plain_eq φ 50 _ _ rfl (hf'.eval x1)
    have e : (execOp a.eval ⟨d, .convert t u x, ty, pos, af, gu⟩).run P w = .ok (.value (.string ⟨#[]⟩)) w := by
      refine run_v (s := convert t u (a.eval x)) ?_
      rw [ex]
      simp only [convert, Sem.run_bind, run_underlying ht, run_underlying hu, Result.andThen, run_underlying he']
      rfl
    rw [e]
    exact .val _ _ (.string _)
  · obtain ⟨xs, A1, hca, hxs, hA1⟩ := elems_ok (e2 := e) hs x2 hsz hel
    have hev : evalOp P f ⟨d, .convert t u x, ty, pos, af, gu⟩ A = some (.val (.string ⟨⟨l⟩⟩), A1) := by
      show convA P f _ t u (f.eval x) A = _
      rw [x1]
      have hb := bytes_cells hl hxs
      unfold cellsOfArg at hca
      simp only [hsz] at hca
      split at hca
      · rename_i hh; cases hh
      · rename_i cap hh
        exfalso
        cases hq : pval p x with
        | sc v =>
          rw [hq] at x2 hel
          obtain ⟨hv, _⟩ := x2.sc
          unfold elemsP at hel
          split at hel
          · rename_i hh2; exact hnil (hq.trans hh2)
          all_goals first | cases hel | (rename_i hh2; cases hh2)
        | lit a b c => rw [hq] at x2; have x3 := x2.lit; cases x3
        | own a b c d => rw [hq] at x2; cases x2 with | cl _ _ h => cases h
        | _ => rw [hq] at hel; cases hel
      · rename_i b off m cp e3 hh
        simp only [convA, ht, hu, he']
        unfold bytesStr
        cases m with
        | zero =>
          injection hca with hca; injection hca with h1 h2; injection h2 with h2 h3
          subst h1; subst h3
          injection hb with hb; subst hb
          rfl
        | succ m =>
          simp only [Option.map_eq_some_iff] at hca
          obtain ⟨⟨ys, B⟩, hld, hh2⟩ := hca
          injection hh2 with h1 h2; injection h2 with h2 h3
          subst h1; subst h3
          rw [show Nat.mul (m + 1) 1 = m + 1 from Nat.mul_one _] at hld
          simp only [hld, hb, forceL_eq]
      · cases hca
    have hq : R1 A β s.n (.string ⟨⟨l⟩⟩) (.sc (.string ⟨⟨l⟩⟩)) := .cl _ _ (.sc _ rfl)
    rcases hA1 with rfl | ⟨c, rfl, h1, h2⟩
    · exact res_same hO hi hs hev hq
    · exact res_read hO hi hs hev hq h1 h2
end
end Go.PE
namespace Go.PE
open Go Go.EvL
section
variable {ds : List Deferred} {P : Program} {A : AS} {β : Nat → Nat} {nt : Nat} {f : Fr} {p : PFr} {s s' : PS} {q : PV} {E : Eff} {d : Option Tmp} {ty : TypeId} {pos : String} {af : Array Edge} {gu : Option (Nat × Bool)}
theorem bytePV_rel {n : Nat} : ∀ l : List UInt8, Rs A β n (l.map fun c => .int .u8 (.ofNat c.toNat)) (bytePV l)
  | [] => .nil
  | c :: l => .cons _ _ _ _ (.cl _ _ (.sc _ rfl)) (bytePV_rel l)
theorem apps_ok (hO : OpsOK P) (hi : Inv A) (hs : RS A β s) (hf : RF ds A β s.n nt f p) {t u e : Nat} {i : TypeInfo} {z : Value} {x y : Operand} (hx : okX x = true) (hy : okX y = true) (ht : P.underlying t = some (.slice e)) (hu : P.underlying u = some .string) (hin : P.info? e = some i) (hz : i.zero = some z) (hok : appsOk i z = true)
    (h : opP P p s (.apps e x y) = some (q, s')) : Res1 P A β s f ⟨d, .call ⟨.builtin .append, #[x, y], #[t, u]⟩, ty, pos, af, gu⟩ q s' (effO p (.apps e x y)) := by
  obtain ⟨vx, x1, x2⟩ := okX_eval hf hx
  obtain ⟨vy, y1, y2⟩ := okX_eval hf hy
  unfold appsOk at hok
  simp only [Bool.and_eq_true] at hok
  obtain ⟨hzs, k1, k2⟩ := hok
  have k1 := Nat.eq_of_beq_eq_true k1
  have k2 := Nat.eq_of_beq_eq_true k2
  simp only [opP] at h
  split at h
  · rename_i b hpy
    rw [hpy] at y2
    obtain ⟨rfl, _⟩ := y2.sc
    have hsz : szOf P e = some 1 := by unfold szOf; rw [hin, ← k1]; rfl
    have hbs : b.size = b.data.toList.length := by rw [Array.length_toList]; rfl
    refine app_core (n := b.data.toList.length) (A1 := A) hO hi hs hf x1 x2 y1 ht hu hin hz hzs ?_ (bytePV_rel b.data.toList) (.inl rfl) (fun k off m fin hp => ?_) (fun e' m cs hp => ?_) ?_
    · unfold cellsOfArg
      simp only [hsz, hbs]
    · simp only [effO, hp]; exact ⟨List.mem_cons_self, List.mem_cons_self⟩
    · simp only [effO, hp]
    · rw [k1, k2]; exact h
  · cases h
theorem toU_ok (hO : OpsOK P) (hi : Inv A) (hs : RS A β s) (hf : RF ds A β s.n nt f p) {t u e m : Nat} {x : Operand} (hx : okX x = true) (ht : P.underlying t = some (.pointer e)) (hu : P.underlying u = some .unsafePointer) (hsz : szOf P e = some (m + 1))
    (h : opP P p s (.toU x) = some (q, s')) : Res1 P A β s f ⟨d, .convert t u x, ty, pos, af, gu⟩ q s' (effO p (.toU x)) := by
  obtain ⟨vx, x1, x2⟩ := okX_eval hf hx
  simp only [opP, Option.map_eq_some_iff] at h
  obtain ⟨v, hv, he⟩ := h
  injection he with e1 e2; subst e1; subst e2
  unfold toUP at hv
  split at hv
  · rename_i k o fin hp
    split at hv
    · rename_i hc
      injection hv with hv; subst hv
      rw [hp] at x2
      cases x2 with
      | cl _ _ h => cases h
      | ptr b oo _ _ _ e1 cells st ok hk hg ho hf1 =>
        have hb := hs.blk k hk
        obtain ⟨_, l1, l2⟩ := hb.all _ _ _ _ _ hg
        obtain ⟨rfl, _⟩ := l2 (by omega)
        have z1 := hb.z _ _ _ _ _ hg
        subst z1
        refine res_read (c := β k) hO hi hs ?_ (.ptr b oo k o fin e1 cells 0 true hk hg ho hf1) hb.lt (.inl ⟨k, by simp [effO, effA, hp], hk, rfl⟩)
        show convA P f _ t u (f.eval x) A = _
        rw [x1]
        simp only [convA, ptrConv, ht, hu]
        unfold toUnsafe
        simp only [hsz, hg]
        rw [show Nat.ble (Nat.succ oo) cells.length = true from Nat.ble_eq_true_of_le (by omega)]
    · cases hv
  · cases hv
theorem frU_ok (hO : OpsOK P) (hi : Inv A) (hs : RS A β s) (hf : RF ds A β s.n nt f p) {t u e m : Nat} {x : Operand} (hx : okX x = true) (ht : P.underlying t = some .unsafePointer) (hu : P.underlying u = some (.pointer e)) (hsz : szOf P e = some (m + 1))
    (h : opP P p s (.frU e m x) = some (q, s')) : Res1 P A β s f ⟨d, .convert t u x, ty, pos, af, gu⟩ q s' (effO p (.frU e m x)) := by
  obtain ⟨vx, x1, x2⟩ := okX_eval hf hx
  simp only [opP, Option.map_eq_some_iff] at h
  obtain ⟨v, hv, he⟩ := h
  injection he with e1 e2; subst e1; subst e2
  unfold frUP at hv
  split at hv
  · rename_i k o fin hp
    split at hv
    · rename_i hc
      obtain ⟨c1, c2, c3, c4⟩ := hc
      injection hv with hv; subst hv
      rw [hp] at x2
      cases x2 with
      | cl _ _ h => cases h
      | ptr b oo _ _ _ e1 cells st ok hk hg ho hf1 =>
        have hb := hs.blk k hk
        obtain ⟨g1, l1, l2⟩ := hb.all _ _ _ _ _ hg
        obtain ⟨rfl, _⟩ := l2 (by omega)
        have z1 := hb.z _ _ _ _ _ hg
        subst z1
        obtain rfl : oo = o := by omega
        obtain rfl : fin = cells.length := by omega
        refine res_read (c := β k) hO hi hs ?_ (.ptr b oo k oo cells.length e1 cells 0 true hk hg ho hf1) hb.lt (.inl ⟨k, by simp [effO, effA, hp], hk, rfl⟩)
        show convA P f _ t u (f.eval x) A = _
        rw [x1]
        simp only [convA, ptrConv, ht, hu]
        unfold fromUnsafe
        simp only [hsz, hg]
        rw [g1, c4, show fzSmall A (β k) = true by unfold fzSmall; rw [hb.fz (by omega)]]
        rfl
    · cases hv
  · cases hv
theorem sdata_ok (hO : OpsOK P) (hi : Inv A) (hs : RS A β s) (hf : RF ds A β s.n nt f p) {tys : Array TypeId} {x : Operand} (hx : okX x = true)
    (h : opP P p s (.sdata x) = some (q, s')) : Res1 P A β s f ⟨d, .call ⟨.builtin .unsafeSliceData, #[x], tys⟩, ty, pos, af, gu⟩ q s' E := by
  obtain ⟨vx, x1, x2⟩ := okX_eval hf hx
  simp only [opP, Option.map_eq_some_iff] at h
  obtain ⟨v, hv, he⟩ := h
  injection he with e1 e2; subst e1; subst e2
  unfold sdataP at hv
  split at hv
  · rename_i k off m fin hp
    injection hv with hv; subst hv
    rw [hp] at x2
    cases x2 with
    | cl _ _ h => cases h
    | own b o _ _ _ _ cap e1 cells st ok hk hg ho hf1 hm =>
      refine res_same hO hi hs ?_ (.ptr b o k off fin e1 cells st ok hk hg ho hf1)
      show dataA P f _ (f.eval x) A = _
      rw [x1]
      rfl
  · rename_i hp
    injection hv with hv; subst hv
    rw [hp] at x2
    obtain ⟨rfl, _⟩ := x2.sc
    refine res_sound hs (sound_same hi fun φ w a hf' => ?_) (.cl _ _ (.sc _ rfl))
    have ex : a.eval x = .slice none 0 0 := plain_eq φ 50 _ _ rfl (hf'.eval x1)
    have e : (execOp a.eval ⟨d, .call ⟨.builtin .unsafeSliceData, #[x], tys⟩, ty, pos, af, gu⟩).run P w = .ok (.value (.pointer none)) w := by
      refine run_v (s := Builtin.unsafeSliceData_ tys ty (#[x].map a.eval)) ?_
      have hm : (#[x].map a.eval) = #[a.eval x] := by simp
      rw [hm, ex]
      rfl
    rw [e]
    exact .val _ _ .nilPtr
  · cases hv
end
end Go.PE
namespace Go.PE
open Go Go.EvL
section
variable {ds : List Deferred} {P : Program} {A : AS} {β : Nat → Nat} {nt : Nat} {f : Fr} {p : PFr} {s s' : PS} {q : PV} {E : Eff} {d : Option Tmp} {ty : TypeId} {pos : String} {af : Array Edge} {gu : Option (Nat × Bool)}
theorem bytesP_len : ∀ {cs : List PV} {l : List UInt8}, bytesP cs = some l → l.length = cs.length := by
  intro cs
  induction cs with
  | nil => intro l h; injection h with h; subst h; rfl
  | cons c cs ih =>
    intro l h
    unfold bytesP at h
    split at h
    · rename_i hh; cases hh
    · rename_i z r hh
      injection hh with hh1 hh2
      subst hh1; subst hh2
      rw [Option.map_eq_some_iff] at h
      obtain ⟨m, hm, rfl⟩ := h
      simp [ih hm]
    · cases h
/-- the class of a block is frozen -/
theorem freeze_ok (hs : RS A β s) {k : Nat} (hk : k < s.n) {m e : Nat} (he1 : k ∈ E.rd) (he2 : k ∈ E.wr) :
    Fw A (logW (logR (setFz A (β k) m) (β k)) (β k)) β β s.n s.n (min s.w k) ∧ RS (logW (logR (setFz A (β k) m) (β k)) (β k)) β (s.put k ⟨(s.h k).cells ++ [.sc undef], (s.h k).cells.length + 2, (s.h k).e⟩) ∧ Msk A (logW (logR (setFz A (β k) m) (β k)) (β k)) β β s.n s.n E := by
  have hb := hs.blk k hk
  have hlt := hb.lt
  rw [logW_eq, logR_eq, setFz_eq]
  have hfw : Fw A ⟨A.heap, A.next, A.mem, Tr.set m 40 A.fz (β k), A.r ||| (1 <<< β k), A.w ||| (1 <<< β k)⟩ β β s.n s.n (min s.w k) := by
    refine ⟨Nat.le_refl _, Nat.le_refl _, fun _ _ => rfl, fun _ h h' => by omega, fun b cells e c st hh _ => hh, fun b cells e st ok j _ hh => ⟨cells, ok, hh, rfl⟩, fun c hc hw => ?_⟩
    rcases bit_in hw with h | h
    · exact .inl h
    · exact .inr ⟨k, Nat.min_le_right _ _, hk, h⟩
  refine ⟨hfw, ⟨fun j hj => ?_, hs.inj, hs.lay.mono hfw fun c hc => (Tr.get_set _ _ _ _ trivial).trans (if_neg fun h => hc.2 k hk h.symm)⟩, ⟨fun c hc => ?_, fun c hc => ?_, fun _ c h1 h2 => ⟨fun hc => ?_, fun hc => ?_⟩⟩⟩
  · have hj' : j < s.n := hj
    by_cases hjk : j = k
    · subst hjk
      show RB _ β s.n (β j) (if j = j then _ else s.h j)
      rw [if_pos rfl]
      have hl : ∀ x cells e st ok, A.heap.get x = some (.row cells e (β j) st ok) → st + cells.length ≤ (s.h j).cells.length := fun x cells e st ok hg => (hb.all _ _ _ _ _ hg).2.1
      refine ⟨fun h => absurd h ?_, fun x cells e' st ok hg => ⟨(hb.all _ _ _ _ _ hg).1, ?_, fun h => absurd h ?_⟩, fun x y cells e' st ok cells' e2 st' ok' h1 h2 h3 h4 => absurd h3 ?_, fun _ x cells e' st ok hg => ?_, fun h => absurd h ?_, hb.lt, hb.z⟩
      · show ¬ ((s.h j).cells.length + 2 ≤ ((s.h j).cells ++ [PV.sc undef]).length); simp
      · have := hl _ _ _ _ _ hg; show _ ≤ ((s.h j).cells ++ [PV.sc undef]).length; simp; omega
      · have := hl _ _ _ _ _ hg; show ¬ ((s.h j).cells.length + 2 ≤ _); omega
      · have := hl _ _ _ _ _ h1; show ¬ (_ = ((s.h j).cells ++ [PV.sc undef]).length); simp; omega
      · have := hl _ _ _ _ _ hg; show _ < ((s.h j).cells ++ [PV.sc undef]).length; simp; omega
      · show ¬ ((s.h j).cells.length + 2 ≤ ((s.h j).cells ++ [PV.sc undef]).length); simp
    · show RB _ β s.n (β j) (if j = k then _ else s.h j)
      rw [if_neg hjk]
      have hne : β j ≠ β k := fun e => hjk (hs.inj j k hj' hk e)
      refine (hs.blk j hj').mono hfw (fun _ _ _ _ _ => Iff.rfl) ?_
      show (Tr.set m 40 A.fz (β k)).get (β j) = _
      rw [Tr.get_set _ _ _ _ trivial, if_neg hne]
  · rcases bit_in hc with h | rfl
    · exact .inl h
    · exact .inr (.inl ⟨k, he1, hk, rfl⟩)
  · rcases bit_in hc with h | rfl
    · exact .inl h
    · exact .inr (.inl ⟨k, he2, hk, rfl⟩)
  · rcases bit_in hc with h | rfl
    · exact .inl h
    · omega
  · rcases bit_in hc with h | rfl
    · exact .inl h
    · omega
theorem ustr_ok (hO : OpsOK P) (hi : Inv A) (hs : RS A β s) (hf : RF ds A β s.n nt f p) {t u e : Nat} {x y : Operand} (hx : okX x = true) (hy : okX y = true) (ht : P.underlying t = some (.pointer e)) (hsz : szOf P e = some 1)
    (h : opP P p s (.ustr e x y) = some (q, s')) : Res1 P A β s f ⟨d, .call ⟨.builtin .unsafeString, #[x, y], #[t, u]⟩, ty, pos, af, gu⟩ q s' (effO p (.ustr e x y)) := by
  obtain ⟨vx, x1, x2⟩ := okX_eval hf hx
  obtain ⟨vy, y1, y2⟩ := okX_eval hf hy
  simp only [opP] at h
  unfold ustrP at h
  split at h
  · rename_i k o fin z hpx hpy
    split at h
    · rename_i hc
      obtain ⟨c1, c2, c3, c4, c5, c6⟩ := hc
      rw [Option.map_eq_some_iff] at h
      obtain ⟨l, hl, he⟩ := h
      injection he with e1 e2; subst e1; subst e2
      rw [hpx] at x2
      rw [hpy] at y2
      obtain ⟨rfl, _⟩ := y2.sc
      obtain ⟨n, rfl⟩ : ∃ n : Nat, z = Int.ofNat (n + 1) := ⟨z.toNat - 1, by
        show z = ((z.toNat - 1 + 1 : Nat) : Int); omega⟩
      have hz : (Int.ofNat (n + 1)).toNat = n + 1 := rfl
      rw [hz] at c4 c5 hl
      cases x2 with
      | cl _ _ h => cases h
      | ptr b oo _ _ _ e1 cells st ok hk hg ho hf1 =>
        have hb := hs.blk k hk
        obtain ⟨g1, l1, l2⟩ := hb.all _ _ _ _ _ hg
        obtain ⟨rfl, hr⟩ := l2 (by omega)
        have z1 := hb.z _ _ _ _ _ hg
        subst z1
        obtain rfl : oo = o := by omega
        rw [List.drop_zero] at hr
        have hbc : bytesOfCells ((cells.drop oo).take (n + 1)) = some l := by
          refine bytes_cells (A := A) (β := β) (n := s.n) hl ?_
          have h1 := (Rs.drop hr oo).take (n + 1)
          rw [List.drop_take, List.take_take, Nat.min_eq_left (by omega)] at h1
          exact h1
        have hll : l.length = n + 1 := by rw [bytesP_len hl, List.length_take, List.length_drop]; omega
        obtain ⟨r1, r2, r3⟩ := freeze_ok (E := effO p (.ustr e x y)) (m := max ((A.fz.get (β k)).getD 0) (0 + oo + (n + 1))) (e := e) hs hk (by simp [effO, hpx]) (by simp [effO, hpx])
        have c6' : e1 = e := g1.trans c6
        subst c6'
        refine ⟨_, _, β, hO f _ A _ _ hi (Nat.le_refl _) (?_ : evalOp P f _ A = some (.val (.string ⟨⟨l⟩⟩), _)), r1, by rw [c6] at r2; exact r2, .cl _ _ (.sc _ rfl), r3⟩
        show ustrA P f _ [t, u] (f.eval x) (f.eval y) A = _
        rw [x1, y1]
        show ustrRow P [t, u] (A.heap.get b) oo (n + 1) A = _
        unfold ustrRow
        simp only [hg, ht, hsz]
        rw [Nat.beq_refl, show Nat.ble (n + 1) 1073741824 = true from Nat.ble_eq_true_of_le c5, show fzSmall A (β k) = true by unfold fzSmall; rw [hb.fz (by omega)]]
        show ustrIn cells (β k) 0 oo (n + 1) A = _
        unfold ustrIn
        simp only [hbc, forceL_eq]
        rw [hll, Nat.beq_refl]
    · cases h
  · rename_i hpx hpy
    injection h with h; injection h with e1 e2; subst e1; subst e2
    rw [hpx] at x2
    rw [hpy] at y2
    obtain ⟨rfl, _⟩ := x2.sc
    obtain ⟨rfl, _⟩ := y2.sc
    refine res_sound hs (sound_same hi fun φ w a hf' => ?_) (.cl _ _ (.sc _ rfl))
    have ex : a.eval x = .pointer none := plain_eq φ 50 _ _ rfl (hf'.eval x1)
    have ey : a.eval y = .int .i64 0 := plain_eq φ 50 _ _ rfl (hf'.eval y1)
    have e : (execOp a.eval ⟨d, .call ⟨.builtin .unsafeString, #[x, y], #[t, u]⟩, ty, pos, af, gu⟩).run P w = .ok (.value (.string ⟨#[]⟩)) w := by
      refine run_v (s := Builtin.unsafeString_ #[t, u] ty (#[x, y].map a.eval)) ?_
      have hm : (#[x, y].map a.eval) = #[a.eval x, a.eval y] := by simp
      rw [hm, ex, ey]
      rfl
    rw [e]
    exact .val _ _ (.string _)
  · cases h
theorem pcl_ok (hE : Env P) (hi : Inv A) (hs : RS A β s) (hf : RF ds A β s.n nt f p) {g : Nat} {tys : Array TypeId} {args : Array Operand} {fn : Func} (hx : args.toList.all okX = true) (hfn : P.funcs[g]? = some fn) (hb : fn.body = none) (hne : (fn.name == "internal/abi.NoEscape") = false)
    (h : opP P p s (.pcl g args.toList) = some (q, s')) : Res1 P A β s f ⟨d, .call ⟨.value (.func g), args, tys⟩, ty, pos, af, gu⟩ q s' E := by
  simp only [opP, Option.map_eq_some_iff] at h
  obtain ⟨v, hv, he⟩ := h
  injection he with e1 e2; subst e1; subst e2
  unfold pclP at hv
  split at hv
  · rename_i l hl
    split at hv
    · rename_i u hu
      split at hv
      · rename_i hsu
        injection hv with hv; subst hv
        obtain ⟨vas, a1, a2⟩ := evals_ok hf _ hx
        obtain ⟨rfl, hall⟩ := scs_eq hl a2
        refine res_sound hs (callV_sound hE hi (.func g) args tys ?_) (.cl _ _ (.sc _ (scalar_plain hsu).2))
        show callV P (some (.func (.func g) #[] #[])) (evals f args.toList) A = _
        rw [a1]
        show callA P g (#[].toList ++ (vas ++ #[].toList)) A = _
        rw [show (#[] : Array Value).toList ++ (vas ++ (#[] : Array Value).toList) = vas by simp]
        unfold callA
        simp only [hfn, hb, hne]
        have hp : vas.all (plain 50) = true := by
          rw [List.all_eq_true] at hall ⊢
          exact fun v hv => (scalar_plain (hall v hv)).1
        rw [hp]
        simp only [hu]
        unfold valOfNext
        simp only [(scalar_plain hsu).1]
      · cases hv
    · cases hv
  · cases hv
theorem noesc_ok (hE : Env P) (hi : Inv A) (hs : RS A β s) (hf : RF ds A β s.n nt f p) {g : Nat} {tys : Array TypeId} {x : Operand} {fn : Func} (hx : okX x = true) (hfn : P.funcs[g]? = some fn) (hb : fn.body = none) (hne : (fn.name == "internal/abi.NoEscape") = true) : Res1 P A β s f ⟨d, .call ⟨.value (.func g), #[x], tys⟩, ty, pos, af, gu⟩ (pval p x) s E := by
  obtain ⟨vx, x1, x2⟩ := okX_eval hf hx
  refine res_sound hs (callV_sound hE hi (.func g) #[x] tys ?_) x2
  have a1 : evals f [x] = some [vx] := by
    show (match f.eval x with | some v => (match evals f [] with | some vs => some (v :: vs) | none => none) | none => none) = _
    rw [x1]; rfl
  show callV P (some (.func (.func g) #[] #[])) (evals f [x]) A = _
  rw [a1]
  show callA P g [vx] A = _
  unfold callA
  simp only [hfn, hb, hne]
theorem plain_iface (n : Nat) (t : Nat) (v : Value) : plain (n + 1) (.iface t v) = plain n v := rfl
theorem plain_agg (n : Nat) (cs : Array Value) : plain (n + 1) (.agg cs) = cs.toList.all (plain n) := rfl
theorem sok_iface {t : Nat} {v : Value} (h : ∀ n, plain n v = true) : sok (.iface t v) = true := (plain_iface 49 t v).trans (h 49)
theorem agg_plainN {vs : List Value} (hall : vs.all scalar = true) {k : Nat} : plain (k + 1) (.agg vs.toArray) = true := by
  rw [plain_agg, List.toList_toArray, List.all_eq_true]
  rw [List.all_eq_true] at hall
  exact fun v hv => scalar_plainN k (hall v hv)
theorem sok_if (t : Nat) (v : Value) : sok (.iface t v) = plain 50 (.iface t v) := rfl
theorem plain_if50 (t : Nat) (v : Value) : plain 50 (.iface t v) = plain 49 v := plain_iface 49 t v
theorem sok_ifagg {t : Nat} {vs : List Value} (hall : vs.all scalar = true) : sok (.iface t (.agg vs.toArray)) = true := by
  rw [sok_if, plain_if50]
  exact agg_plainN hall (k := 48)
theorem mkif_ok (hO : OpsOK P) (hi : Inv A) (hs : RS A β s) (hf : RF ds A β s.n nt f p) {t : Nat} {dd : TypeDesc} {x : Operand} (hx : okX x = true) (ht : P.underlying t = some dd) (hd : ∀ a, dd ≠ .interface a) (h : opP P p s (.mkif t x) = some (q, s')) : Res1 P A β s f ⟨d, .makeInterface t x, ty, pos, af, gu⟩ q s' E := by
  obtain ⟨vx, x1, x2⟩ := okX_eval hf hx
  simp only [opP, Option.map_eq_some_iff] at h
  obtain ⟨v, hv, he⟩ := h
  injection he with e1 e2; subst e1; subst e2
  have hev : evalOp P f ⟨d, .makeInterface t x, ty, pos, af, gu⟩ A = some (.val (.iface t vx), A) := by
    show ifaceA P t (f.eval x) A = _
    rw [x1]
    unfold ifaceA
    rw [ht]
    cases dd <;> first | rfl | exact absurd rfl (hd _)
  unfold ifP at hv
  split at hv
  · rename_i u hp
    split at hv
    · rename_i hsu
      injection hv with hv; subst hv
      rw [hp] at x2
      obtain ⟨rfl, _⟩ := x2.sc
      exact res_same hO hi hs hev (.cl _ _ (.sc _ (sok_iface fun n => scalar_plainN n hsu)))
    · cases hv
  · rename_i cs hp
    rw [Option.map_eq_some_iff] at hv
    obtain ⟨vs, hvs, rfl⟩ := hv
    rw [hp] at x2
    have hall : vs.all scalar = true := by
      cases x2 with
      | cl _ _ h => cases h with | agg xs _ h => exact (scs_eq hvs (Cs.up h)).2
      | agg xs _ h => exact (scs_eq hvs h).2
    obtain ⟨rfl, _⟩ := scs_agg hvs x2
    exact res_same hO hi hs hev (.cl _ _ (.sc _ (sok_ifagg hall)))
  · cases hv
theorem asr_ok (hO : OpsOK P) (hi : Inv A) (hs : RS A β s) (hf : RF ds A β s.n nt f p) {t xt : Nat} {dd : TypeDesc} {z : Value} {x : Operand} (hx : okX x = true) (ht : P.underlying t = some dd) (hd : ∀ a, dd ≠ .interface a) (hz : zeroOf P t = some z) (hzo : okZ z = true) (h : opP P p s (.asr t z x) = some (q, s')) : Res1 P A β s f ⟨d, .typeAssert x xt t true, ty, pos, af, gu⟩ q s' E := by
  obtain ⟨vx, x1, x2⟩ := okX_eval hf hx
  simp only [opP, Option.map_eq_some_iff] at h
  obtain ⟨v, hv, he⟩ := h
  injection he with e1 e2; subst e1; subst e2
  unfold asrP at hv
  split at hv
  · rename_i t' w hp
    split at hv
    · rename_i hin
      injection hv with hv; subst hv
      rw [hp] at x2
      obtain ⟨rfl, _⟩ := x2.sc
      have hev : evalOp P f ⟨d, .typeAssert x xt t true, ty, pos, af, gu⟩ A = some (.val (.tuple #[if t' = t then w else z, .bool (t' == t)]), A) := by
        show assertA P (f.eval x) t true A = _
        rw [x1]
        unfold assertA
        simp only [ht]
        have key : ∀ b, Nat.beq t' t = b → (Bool.rec (match zeroOf P t with | some z => some (ANext.val (.tuple #[z, .bool false]), A) | none => none) (some (ANext.val (.tuple #[w, .bool true]), A)) (Nat.beq t' t) : Res) = some (.val (.tuple #[if t' = t then w else z, .bool (t' == t)]), A) := by
          intro b hb
          rw [hb]
          cases b with
          | true =>
            have : t' = t := Nat.eq_of_beq_eq_true hb
            subst this
            simp
          | false =>
            have hn : ¬ t' = t := fun e => by subst e; rw [Nat.beq_refl] at hb; cases hb
            simp [hz, hn]
        cases dd <;> first | exact absurd rfl (hd _) | exact key _ rfl
      refine res_same hO hi hs hev (.tup _ _ (.cons _ _ _ _ ?_ (.cons _ _ _ _ (.cl _ _ (.sc _ rfl)) .nil)))
      split
      · exact inP_rel hin
      · exact zero_rel hzo
    · cases hv
  · cases hv
end
end Go.PE
namespace Go.PE
open Go Go.EvL
section
variable {ds : List Deferred} {P : Program}
/-- every operation but a call -/
theorem op_ok (hE : Env P) (hO : OpsOK P) {A : AS} {β : Nat → Nat} {nt : Nat} {f : Fr} {p : PFr} {s s' : PS} {q : PV} {o : Oper} {po : POp} (hc : compOp P o.op = some po) (hi : Inv A) (hs : RS A β s) (hf : RF ds A β s.n nt f p) (h : opP P p s po = some (q, s')) : Res1 P A β s f o q s' (effO p po) := by
  obtain ⟨d, op, ty, pos, af, gu⟩ := o
  simp only at hc
  cases op with
  | move x =>
    obtain ⟨h1, rfl⟩ := gd_some hc
    simp only [opP] at h; injection h with h; injection h with e1 e2; subst e1; subst e2
    exact mv_ok hO hi hs hf h1
  | assign x =>
    obtain ⟨h1, rfl⟩ := gd_some hc
    simp only [opP] at h; injection h with h; injection h with e1 e2; subst e1; subst e2
    exact as_ok hO hi hs hf h1
  | pick c a b =>
    obtain ⟨h1, rfl⟩ := gd_some hc
    simp only [Bool.and_eq_true] at h1
    exact pick_ok hO hi hs hf h1.1.1 h1.1.2 h1.2 h
  | alloc e =>
    simp only [compOp] at hc
    split at hc
    · rename_i z hz
      obtain ⟨h1, rfl⟩ := gd_some hc
      simp only [opP] at h; injection h with h; injection h with e1 e2; subst e1; subst e2
      exact alloc_ok hO hi hs hz h1
    · cases hc
  | box e x =>
    obtain ⟨h1, rfl⟩ := gd_some hc
    simp only [opP] at h; injection h with h; injection h with e1 e2; subst e1; subst e2
    exact box_ok hO hi hs hf h1
  | build t ps =>
    simp only [compOp] at hc
    split at hc
    · rename_i z fs hz hu
      split at hc
      · rename_i l hl
        obtain ⟨h1, rfl⟩ := gd_some hc
        rw [Bool.and_eq_true] at h1
        simp only [opP, Option.map_eq_some_iff] at h
        obtain ⟨cs, hcs, he⟩ := h
        injection he with e1 e2; subst e1; subst e2
        exact build_ok hO hi hs hf hz hu hl h1.1 h1.2 hcs
      · cases hc
    · cases hc
  | buildSlice t len ps =>
    simp only [compOp] at hc
    split at hc
    · rename_i e hu
      split at hc
      · rename_i z n hz hn
        split at hc
        · rename_i l hl
          obtain ⟨h1, rfl⟩ := gd_some hc
          simp only [Bool.and_eq_true] at h1
          simp only [opP, Option.map_eq_some_iff] at h
          obtain ⟨cs, hcs, he⟩ := h
          injection he with e1 e2; subst e1; subst e2
          exact bslice_ok hO hi hs hf hu hz hn hl h1.1.1 h1.1.2 h1.2 hcs
        · cases hc
      · cases hc
    · cases hc
  | load t a =>
    simp only [compOp] at hc
    split at hc
    · rename_i dd hd
      split at hc
      · rename_i hag
        split at hc
        · rename_i n hn
          obtain ⟨h1, rfl⟩ := gd_some hc
          exact load_ok hO hi hs hf h1 hd hag (by simpa using hn) h
        · cases hc
      · rename_i hag
        obtain ⟨h1, rfl⟩ := gd_some hc
        exact load_ok hO hi hs hf h1 hd (by simpa using hag) (by simp) h
    · cases hc
  | store t a x =>
    simp only [compOp] at hc
    split at hc
    · rename_i n hn
      obtain ⟨h1, rfl⟩ := gd_some hc
      rw [Bool.and_eq_true] at h1
      exact store_ok hO hi hs hf h1.1 h1.2 hn h
    · cases hc
  | fieldAddr t x i =>
    simp only [compOp] at hc
    split at hc
    · rename_i fs hfs
      split at hc
      · rename_i fl hfl
        split at hc
        · rename_i m hm
          obtain ⟨h1, rfl⟩ := gd_some hc
          exact faddr_ok hO hi hs hf h1 hfs hfl hm h
        · cases hc
      · cases hc
    · cases hc
  | field t x i =>
    simp only [compOp] at hc
    split at hc
    · rename_i fs hfs
      split at hc
      · rename_i fl hfl
        split at hc
        · rename_i dd hd
          split at hc
          · rename_i hag
            split at hc
            · rename_i n hn
              obtain ⟨h1, rfl⟩ := gd_some hc
              exact fld_ok hO hi hs hf h1 hfs hfl hd hag (by simpa using hn) h
            · cases hc
          · rename_i hag
            obtain ⟨h1, rfl⟩ := gd_some hc
            exact fld_ok hO hi hs hf h1 hfs hfl hd (by simpa using hag) (by simp) h
        · cases hc
      · cases hc
    · cases hc
  | indexAddr t x i =>
    simp only [compOp] at hc
    split at hc
    · rename_i e hu
      split at hc
      · rename_i n hn
        obtain ⟨h1, rfl⟩ := gd_some hc
        rw [Bool.and_eq_true] at h1
        exact iaddr_ok hO hi hs hf h1.1 h1.2 hu hn h
      · cases hc
    · cases hc
  | index t x i =>
    simp only [compOp] at hc
    split at hc
    · rename_i hu
      obtain ⟨h1, rfl⟩ := gd_some hc
      rw [Bool.and_eq_true] at h1
      exact sidx_ok hO hi hs hf h1.1 h1.2 hu h
    · cases hc
  | binOp op t x y u =>
    simp only [compOp] at hc
    split at hc
    · rename_i e ht
      split at hc
      · rename_i ne m hne hm
        obtain ⟨h1, rfl⟩ := gd_some hc
        rw [Bool.and_eq_true] at h1
        exact peq_ok hO hi hs hf h1.1 h1.2 ht hne hm h
      · cases hc
    · rename_i ia ht
      split at hc
      · rename_i ne hne
        obtain ⟨h1, rfl⟩ := gd_some hc
        exact inq_ok hO hi hs hf h1 ⟨_, ht, ia, rfl⟩ hne h
      · cases hc
    · obtain ⟨h1, rfl⟩ := gd_some hc
      rw [Bool.and_eq_true] at h1
      exact bin_ok hi hs hf h1.1 h1.2 h
  | unOp op t x =>
    obtain ⟨h1, rfl⟩ := gd_some hc
    exact un_ok hi hs hf h1 h
  | convert a b x =>
    simp only [compOp] at hc
    split at hc
    · rename_i k' k ha hb
      obtain ⟨h1, rfl⟩ := gd_some hc
      exact conv_ok hi hs hf h1 ha hb h
    · rename_i e ha hb
      split at hc
      · rename_i hu hz
        obtain ⟨h1, rfl⟩ := gd_some hc
        exact bts_ok hO hi hs hf h1 ha hb hu hz h
      · cases hc
    · rename_i t ha hb
      split at hc
      · rename_i m hz
        obtain ⟨h1, rfl⟩ := gd_some hc
        exact toU_ok hO hi hs hf h1 ha hb hz h
      · cases hc
    · rename_i u ha hb
      split at hc
      · rename_i m hz
        obtain ⟨h1, rfl⟩ := gd_some hc
        exact frU_ok hO hi hs hf h1 ha hb hz h
      · cases hc
    · cases hc
  | slice t x lo hi' mx =>
    cases mx with
    | some m =>
      cases lo with
      | some lo => cases hi' <;> cases hc
      | none =>
        cases hi' with
        | none => cases hc
        | some y =>
          simp only [compOp] at hc
          split at hc
          · rename_i e hu
            split at hc
            · rename_i n hn
              obtain ⟨h1, rfl⟩ := gd_some hc
              simp only [Bool.and_eq_true] at h1
              exact slc3_ok hO hi hs hf h1.1 h1.2.1 h1.2.2 hu hn h
            · cases hc
          · cases hc
    | none =>
      simp only [compOp] at hc
      split at hc
      · rename_i e hu
        split at hc
        · rename_i n hn
          obtain ⟨h1, rfl⟩ := gd_some hc
          simp only [Bool.and_eq_true] at h1
          exact slc_ok hO hi hs hf h1.1.1 h1.1.2 h1.2 hu hn h
        · cases hc
      · rename_i hu
        obtain ⟨h1, rfl⟩ := gd_some hc
        simp only [Bool.and_eq_true] at h1
        exact sslc_ok hO hi hs hf h1.1.1 h1.1.2 h1.2 hu h
      · cases hc
  | makeFunc fn a b =>
    cases fn with
    | func g =>
      obtain ⟨h1, rfl⟩ := gd_some hc
      rw [Bool.and_eq_true] at h1
      simp only [opP] at h; injection h with h; injection h with e1 e2; subst e1; subst e2
      exact mkfn_ok hO hi hs hf h1.1 h1.2
    | _ => cases hc
  | extract t i =>
    obtain ⟨h1, rfl⟩ := gd_some hc
    exact ext_ok hO hi hs hf h1 h
  | call c =>
    obtain ⟨callee, args, tys⟩ := c
    simp only [compOp] at hc
    split at hc
    · rename_i x'
      split at hc
      · obtain ⟨h1, rfl⟩ := gd_some hc
        cases h
      · rename_i ne hnb
        unfold noBody at hnb
        split at hnb
        · rename_i g
          split at hnb
          · rename_i fn hfn
            split at hnb
            · cases hnb
            · rename_i hbody
              injection hnb with hnb
              unfold compBodyless at hc
              split at hc
              · rename_i a hargs
                have ea : args = #[a] := by cases args; simp only at hargs; rw [hargs]
                subst ea
                obtain ⟨h1, rfl⟩ := gd_some hc
                simp only [opP] at h; injection h with h; injection h with e1 e2; subst e1; subst e2
                exact noesc_ok hE hi hs hf h1 hfn hbody hnb
              · rename_i g' hg'
                injection hg' with hg'
                subst hg'
                obtain ⟨h1, rfl⟩ := gd_some hc
                exact pcl_ok hE hi hs hf h1 hfn hbody hnb h
              · cases hc
          · cases hnb
        · cases hnb
    · rename_i b
      unfold compBuiltin at hc
      split at hc
      · rename_i x t ha ht
        have ea : args = #[x] := by cases args; simp only at ha; rw [ha]
        have et : tys = #[t] := by cases tys; simp only at ht; rw [ht]
        subst ea; subst et
        split at hc
        · rename_i e hu
          obtain ⟨h1, rfl⟩ := gd_some hc
          exact len_ok hO hi hs hf h1 hu (.inl ⟨rfl, e, rfl⟩) h
        · rename_i hu
          obtain ⟨h1, rfl⟩ := gd_some hc
          exact len_ok hO hi hs hf h1 hu (.inr ⟨rfl, rfl⟩) h
        · cases hc
      · rename_i x y t u ha ht
        have ea : args = #[x, y] := by cases args; simp only at ha; rw [ha]
        have et : tys = #[t, u] := by cases tys; simp only at ht; rw [ht]
        subst ea; subst et
        split at hc
        · rename_i e e2 ht hu
          split at hc
          · rename_i i hin
            split at hc
            · rename_i z hz
              obtain ⟨h1, rfl⟩ := gd_some hc
              simp only [Bool.and_eq_true] at h1
              exact app_ok hO hi hs hf h1.1.1 h1.1.2 ht hu hin hz h1.2 h
            · cases hc
          · cases hc
        · rename_i e ht hu
          split at hc
          · rename_i i hin
            split at hc
            · rename_i z hz
              obtain ⟨h1, rfl⟩ := gd_some hc
              simp only [Bool.and_eq_true] at h1
              exact apps_ok hO hi hs hf h1.1.1 h1.1.2 ht hu hin hz h1.2 h
            · cases hc
          · cases hc
        · cases hc
      · rename_i x ha
        have ea : args = #[x] := by cases args; simp only at ha; rw [ha]
        subst ea
        obtain ⟨h1, rfl⟩ := gd_some hc
        exact sdata_ok hO hi hs hf h1 h
      · rename_i x y t u ha ht
        have ea : args = #[x, y] := by cases args; simp only at ha; rw [ha]
        have et : tys = #[t, u] := by cases tys; simp only at ht; rw [ht]
        subst ea; subst et
        split at hc
        · rename_i e ht
          split at hc
          · rename_i hz
            obtain ⟨h1, rfl⟩ := gd_some hc
            rw [Bool.and_eq_true] at h1
            exact ustr_ok hO hi hs hf h1.1 h1.2 ht hz h
          · cases hc
        · cases hc
      · rename_i x y ha
        have ea : args = #[x, y] := by cases args; simp only at ha; rw [ha]
        subst ea
        obtain ⟨h1, rfl⟩ := gd_some hc
        rw [Bool.and_eq_true] at h1
        exact mnx_ok (mx := true) hO hi hs hf h1.1 h1.2 h
      · rename_i x y ha
        have ea : args = #[x, y] := by cases args; simp only at ha; rw [ha]
        subst ea
        obtain ⟨h1, rfl⟩ := gd_some hc
        rw [Bool.and_eq_true] at h1
        exact mnx_ok (mx := false) hO hi hs hf h1.1 h1.2 h
      · rename_i x y t u ha ht
        have ea : args = #[x, y] := by cases args; simp only at ha; rw [ha]
        have et : tys = #[t, u] := by cases tys; simp only at ht; rw [ht]
        subst ea; subst et
        split at hc
        · rename_i e e2 ht hu
          split at hc
          · rename_i n hn
            obtain ⟨h1, rfl⟩ := gd_some hc
            rw [Bool.and_eq_true] at h1
            exact cpy_ok hO hi hs hf h1.1 h1.2 ht hu hn h
          · cases hc
        · cases hc
      · cases hc
    · cases hc
  | nilCheck x =>
    obtain ⟨h1, rfl⟩ := gd_some hc
    exact nck_ok hO hi hs hf h1 h
  | makeSlice t l c =>
    simp only [compOp] at hc
    split at hc
    · rename_i e ht
      split at hc
      · rename_i i hin
        split at hc
        · rename_i z hz
          obtain ⟨h1, rfl⟩ := gd_some hc
          simp only [Bool.and_eq_true] at h1
          exact mks_ok hO hi hs hf h1.1 h1.2.1 h1.2.2.1 h1.2.2.2.1 h1.2.2.2.2 ht hin hz h
        · cases hc
      · cases hc
    · cases hc
  | makeInterface t x =>
    simp only [compOp] at hc
    split at hc
    · cases hc
    · rename_i dd hne ht
      obtain ⟨h1, rfl⟩ := gd_some hc
      exact mkif_ok hO hi hs hf h1 ht (fun a e => hne a (e ▸ rfl)) h
    · cases hc
  | typeAssert x xt a ok =>
    cases ok with
    | false => cases hc
    | true =>
      simp only [compOp] at hc
      split at hc
      · cases hc
      · rename_i dd z hne ht hz
        obtain ⟨h1, rfl⟩ := gd_some hc
        rw [Bool.and_eq_true] at h1
        exact asr_ok hO hi hs hf h1.1 ht (fun a e => hne a (e ▸ rfl)) hz h1.2 h
      · cases hc
  | panic x =>
    obtain ⟨h1, rfl⟩ := gd_some hc
    cases h
  | _ => cases hc
/-- what was not written is as before -/
structure Kp (s s' : PS) : Prop where
  w : s'.w ≤ s.w
  n : s.n ≤ s'.n
  h : ∀ k, k < s.n → k < s'.w → s'.h k = s.h k
theorem Kp.refl (s : PS) : Kp s s := ⟨Nat.le_refl _, Nat.le_refl _, fun _ _ _ => rfl⟩
theorem Kp.trans {s t u : PS} (h : Kp s t) (k : Kp t u) : Kp s u :=
  ⟨Nat.le_trans k.w h.w, Nat.le_trans h.n k.n, fun x h1 h2 => (k.h x (Nat.lt_of_lt_of_le h1 h.n) h2).trans (h.h x h1 (Nat.lt_of_lt_of_le h2 k.w))⟩
theorem Kp.new (s : PS) (b : Blk) : Kp s (s.new b) := ⟨Nat.le_refl _, Nat.le_succ _, fun k h1 _ => if_neg (by omega)⟩
theorem Kp.put (s : PS) (k : Nat) (b : Blk) : Kp s (s.put k b) := ⟨Nat.min_le_left _ _, Nat.le_refl _, fun j _ h2 => if_neg (by
  have : j < min s.w k := h2
  omega)⟩
theorem op_kp {p : PFr} {s s' : PS} {o : POp} {q : PV} (h : opP P p s o = some (q, s')) : Kp s s' := by
  have same : ∀ {α : Type} {x : Option α} {k : α → PV}, (x.map fun v => (k v, s)) = some (q, s') → Kp s s' := fun h => by
    rw [Option.map_eq_some_iff] at h
    obtain ⟨v, _, he⟩ := h
    injection he with _ e2; subst e2; exact .refl s
  cases o with
  | mv x => simp only [opP] at h; injection h with h; injection h with _ e2; subst e2; exact .refl s
  | pick c a b => simp only [opP] at h; split at h <;> first | (injection h with h; injection h with _ e2; subst e2; exact .refl s) | cases h
  | alloc e z => simp only [opP] at h; injection h with h; injection h with _ e2; subst e2; exact .new s _
  | box e x => simp only [opP] at h; injection h with h; injection h with _ e2; subst e2; exact .new s _
  | build z ps => simp only [opP] at h; exact same h
  | bslice e n z ps =>
    simp only [opP, Option.map_eq_some_iff] at h
    obtain ⟨v, _, he⟩ := h
    injection he with _ e2; subst e2; exact .new s _
  | load t ag sz x =>
    simp only [opP, Option.bind_eq_some_iff] at h
    obtain ⟨cs, _, h⟩ := h
    exact same h
  | store t sz x y =>
    simp only [opP] at h
    split at h
    · simp only [Option.map_eq_some_iff] at h
      obtain ⟨s1, h1, he⟩ := h
      injection he with _ e2; subst e2
      unfold stP at h1
      split at h1
      · split at h1
        · injection h1 with h1; subst h1; exact .put s _ _
        · cases h1
      · cases h1
    · cases h
  | faddr off x =>
    simp only [opP] at h
    split at h
    · injection h with h; injection h with _ e2; subst e2; exact .refl s
    · split at h
      · injection h with h; injection h with _ e2; subst e2; exact .refl s
      · cases h
    · cases h
  | fld ag off sz x =>
    simp only [opP] at h
    split at h
    · split at h
      · exact same h
      · cases h
    · cases h
  | iaddr es x i =>
    simp only [opP] at h
    split at h
    · split at h
      · injection h with h; injection h with _ e2; subst e2; exact .refl s
      · cases h
    · split at h
      · injection h with h; injection h with _ e2; subst e2; exact .refl s
      · cases h
    · split at h
      · injection h with h; injection h with _ e2; subst e2; exact .refl s
      · cases h
    · split at h
      · injection h with h; injection h with _ e2; subst e2; exact .refl s
      · cases h
    · cases h
  | sidx x i =>
    simp only [opP] at h
    split at h
    · split at h
      · injection h with h; injection h with _ e2; subst e2; exact .refl s
      · cases h
    · cases h
  | bin op t x y => simp only [opP] at h; exact same h
  | un op x => simp only [opP] at h; exact same h
  | len str x => simp only [opP] at h; exact same h
  | app e es bytes x y =>
    simp only [opP, Option.bind_eq_some_iff] at h
    obtain ⟨v, _, h⟩ := h
    unfold appP at h
    split at h
    · split at h
      · injection h with h; injection h with _ e2; subst e2; exact .refl s
      · cases h
    · split at h
      · split at h
        · injection h with h; injection h with _ e2; subst e2; exact .new s _
        · cases h
      · split at h
        · injection h with h; injection h with _ e2; subst e2; exact .put s _ _
        · cases h
      · split at h
        · injection h with h; injection h with _ e2; subst e2; exact .new s _
        · cases h
      · cases h
  | slc3 e es x y z =>
    simp only [opP] at h
    split at h
    · split at h
      · injection h with h; injection h with _ e2; subst e2; exact .refl s
      · cases h
    · injection h with h; injection h with _ e2; subst e2; exact .refl s
    · split at h
      · injection h with h; injection h with _ e2; subst e2; exact .refl s
      · cases h
    · cases h
  | slc e es x lo hi =>
    simp only [opP] at h
    split at h
    · exact same h
    · cases h
  | sslc x lo hi =>
    simp only [opP] at h
    split at h
    · exact same h
    · cases h
  | mkfn g a b => simp only [opP] at h; injection h with h; injection h with _ e2; subst e2; exact .refl s
  | ext x i =>
    simp only [opP] at h
    split at h
    · exact same (k := fun v => v) h
    · cases h
  | conv k x => simp only [opP] at h; exact same h
  | call x a => cases h
  | mnx mx x y => simp only [opP] at h; split at h <;> first | (injection h with h; injection h with _ e2; subst e2; exact .refl s) | cases h
  | nck x => simp only [opP] at h; split at h <;> first | (injection h with h; injection h with _ e2; subst e2; exact .refl s) | cases h
  | mks e es by' z l c =>
    simp only [opP] at h
    split at h
    · split at h
      · injection h with h; injection h with _ e2; subst e2; exact .new s _
      · cases h
    · cases h
  | cpy es x y =>
    simp only [opP, Option.bind_eq_some_iff] at h
    obtain ⟨v, _, h⟩ := h
    split at h
    · split at h
      · injection h with h; injection h with _ e2; subst e2; exact .refl s
      · split at h
        · rw [Option.map_eq_some_iff] at h
          obtain ⟨s1, hst, he⟩ := h
          injection he with _ e2; subst e2
          unfold stP at hst
          simp only at hst
          split at hst
          · injection hst with hst; subst hst; exact .put s _ _
          · cases hst
        · cases h
    · split at h
      · injection h with h; injection h with _ e2; subst e2; exact .refl s
      · cases h
    · cases h
  | peq ne t x y => simp only [opP] at h; exact same h
  | inq ne t x => simp only [opP] at h; exact same h
  | bts x =>
    simp only [opP, Option.bind_eq_some_iff] at h
    obtain ⟨v, _, h⟩ := h
    exact same h
  | apps e x y =>
    simp only [opP] at h
    split at h
    · unfold appP at h
      split at h
      · split at h
        · injection h with h; injection h with _ e2; subst e2; exact .refl s
        · cases h
      · split at h
        · split at h
          · injection h with h; injection h with _ e2; subst e2; exact .new s _
          · cases h
        · split at h
          · injection h with h; injection h with _ e2; subst e2; exact .put s _ _
          · cases h
        · split at h
          · injection h with h; injection h with _ e2; subst e2; exact .new s _
          · cases h
        · cases h
    · cases h
  | toU x => simp only [opP] at h; exact same (k := fun v => v) h
  | frU u n x => simp only [opP] at h; exact same (k := fun v => v) h
  | sdata x => simp only [opP] at h; exact same (k := fun v => v) h
  | ustr e x y =>
    simp only [opP] at h
    unfold ustrP at h
    split at h
    · split at h
      · rw [Option.map_eq_some_iff] at h
        obtain ⟨l, _, he⟩ := h
        injection he with _ e2; subst e2; exact .put s _ _
      · cases h
    · injection h with h; injection h with _ e2; subst e2; exact .refl s
    · cases h
  | pcl g args => simp only [opP] at h; exact same (k := fun v => v) h
  | mkif t x => simp only [opP] at h; exact same h
  | asr t z x => simp only [opP] at h; exact same (k := fun v => v) h
  | pan x => cases h
  | bad => cases h
/-- what is asked of calls -/
def PCallOK (P : Program) (pu : Nat → Bool) (call : PCallF) : Prop := ∀ g args s q s', call g args s = some (q, s') → (∃ fn c, P.funcs[g]? = some fn ∧ fn.body = some c) ∧ Kp s s' ∧
  ∀ (A : AS) (β : Nat → Nat) (vs : List Value), Inv A → RS A β s → Rs A β s.n vs args → ∃ u A' β', CallSound P g vs.toArray A (.ret u) A' ∧ Fw A A' β β' s.n s'.n s'.w ∧ RS A' β' s' ∧ R1 A' β' s'.n u q ∧
    (pu g = true → ∀ c, c < A.next → A'.w.testBit c = true → A.w.testBit c = true)
theorem stepOn_val {ops : Array Oper} {o : Oper} {f f' : Fr} {A A' : AS} {u : Value} (hw : wantedA ops.toList f o.guard = some true) (hs : Sound P f A o (.val u) A') (hp : f.put o.dst u = some f') : StepOn P ops o f A f' A' := by
  refine ⟨hs.fr, fun φ T w a hf hr hT hfr K Q hK => ?_⟩
  unfold opWp
  rw [wanted_ok hf hw, if_pos rfl]
  obtain ⟨φ', w', hpp, hnr⟩ := hs.run φ T w a hf hr hT hfr
  unfold Oper.wp
  generalize hres : (execOp a.eval o).run P w = res at hnr
  cases hnr with
  | val _ v' hv => exact hK φ' w' _ hpp ((hf.mono hpp.ext).put hp hv)
  | skip => exact hK φ' w' _ hpp ((hf.mono hpp.ext).put hp (undef_rel _))
theorem stepOn_skip {ops : Array Oper} {o : Oper} {f f' : Fr} {A : AS} (hi : Inv A) (hw : wantedA ops.toList f o.guard = some false) (hp : f.put o.dst undef = some f') : StepOn P ops o f A f' A := by
  refine ⟨.refl hi, fun φ T w a hf hr hT hfr K Q hK => ?_⟩
  unfold opWp
  rw [wanted_ok hf hw]
  exact hK φ w _ (.refl hr rfl rfl rfl rfl rfl rfl rfl) (hf.put hp (undef_rel _))
theorem stepOn_call {ops : Array Oper} {o : Oper} {f f' : Fr} {A B A' : AS} {g : FuncId} {args : Array Value} {v : Value} (hw : wantedA ops.toList f o.guard = some true) (hs : Sound P f A o (.enter g args) B) (hcs : CallSound P g args B (.ret v) A') (hp : f.put o.dst v = some f') : StepOn P ops o f A f' A' := by
  refine ⟨hs.fr.trans hcs.fr, fun φ T w a hf hr hT hfr K Q hK => ?_⟩
  unfold opWp
  rw [wanted_ok hf hw, if_pos rfl]
  obtain ⟨φ', w', hpp, hnr⟩ := hs.run φ T w a hf hr (hT.left hcs.fr) (fun b h1 h2 => hfr b h1 (Nat.lt_of_lt_of_le h2 hcs.fr.next))
  unfold Oper.wp
  generalize hres : (execOp a.eval o).run P w = res at hnr
  cases hnr with
  | enter _ _ args' hargs =>
    refine (hcs.run φ' _ w' args' hargs hpp.rel ?_ ?_).mono ?_
    · intro c hc' hh
      by_cases hlt : c < A.next
      · exact .inl (hT c hlt hh)
      · exact .inr ⟨by omega, hc'⟩
    · intro b h3 h4
      rw [hpp.out b (.inr h3)]
      exact hfr b (Nat.le_trans hs.fr.next h3) h4
    · rintro e2 w2 ⟨φ2, hp2, he2⟩
      cases he2 with
      | ret _ v' hv => exact hK φ2 w2 _ (hpp.trans hs.fr.next hcs.fr hp2) (((hf.mono hpp.ext).mono hp2.ext).put hp hv)
theorem guard_ok {A : AS} {β : Nat → Nat} {n nt : Nat} {f : Fr} {p : PFr} (hf : RF ds A β n nt f p) {ops : List Oper} {g : Option (Nat × Bool)} {g' : Option (Nat × Bool)} (hg : compGd ops g = some g') {b : Bool} (h : guardP p g' = some b) : wantedA ops f g = some b := by
  unfold compGd at hg
  split at hg
  · injection hg with hg; subst hg
    simp only [guardP] at h
    exact h
  · rename_i j want
    split at hg
    · rename_i dd hd
      injection hg with hg; subst hg
      show guardA ops f j want = some b
      unfold guardA
      rw [hd]
      have ht := hf.tmp dd
      simp only [guardP] at h
      split at h
      · rename_i c hc
        rw [hc] at ht
        obtain ⟨e, _⟩ := ht.sc
        simp only [e, sameB]
        exact h
      · rename_i xs hc
        rw [hc] at ht
        obtain ⟨e, _⟩ := ht.sc
        simp only [e, sameB]
        exact h
      · cases h
    · cases hg
theorem comp_call {op : Op} {x : Operand} {args : List Operand} (h : compOp P op = some (.call x args)) : ∃ cargs tys, op = .call ⟨.value x, cargs, tys⟩ ∧ args = cargs.toList ∧ okX x = true ∧ cargs.toList.all okX = true := by
  cases op with
  | call cc =>
    obtain ⟨callee, cargs, tys⟩ := cc
    simp only [compOp] at h
    split at h
    · rename_i x'
      split at h
      · obtain ⟨h1, h2⟩ := gd_some h
        injection h2 with h2 h3
        subst h2; subst h3
        rw [Bool.and_eq_true] at h1
        exact ⟨cargs, tys, rfl, rfl, h1.1, h1.2⟩
      · exfalso
        unfold compBodyless at h
        split at h
        · obtain ⟨_, h2⟩ := gd_some h; cases h2
        · obtain ⟨_, h2⟩ := gd_some h; cases h2
        · cases h
    · exfalso
      unfold compBuiltin at h
      repeat' split at h
      all_goals first | (cases h; done) | (obtain ⟨_, h2⟩ := gd_some h; cases h2; done)
    · cases h
  | slice t x lo hi' mx =>
    exfalso
    cases mx with
    | some m =>
      cases lo with
      | some lo => cases hi' <;> cases h
      | none =>
        cases hi' with
        | none => cases h
        | some y =>
          simp only [compOp] at h
          repeat' split at h
          all_goals first | (cases h; done) | (obtain ⟨_, h2⟩ := gd_some h; cases h2; done)
    | none =>
      simp only [compOp] at h
      repeat' split at h
      all_goals first | (cases h; done) | (obtain ⟨_, h2⟩ := gd_some h; cases h2; done)
  | makeFunc fn a b =>
    exfalso
    cases fn with
    | func g => obtain ⟨_, h2⟩ := gd_some h; cases h2
    | _ => cases h
  | typeAssert x xt a ok =>
    exfalso
    cases ok with
    | false => cases h
    | true =>
      simp only [compOp] at h
      repeat' split at h
      all_goals first | (cases h; done) | (obtain ⟨_, h2⟩ := gd_some h; cases h2; done)
  | _ =>
    exfalso
    simp only [compOp] at h
    repeat' split at h
    all_goals first | (cases h; done) | (obtain ⟨_, h2⟩ := gd_some h; cases h2; done)
theorem getD_call {op : Op} {x : Operand} {args : List Operand} (h : (compOp P op).getD .bad = .call x args) : compOp P op = some (.call x args) := by
  cases hc : compOp P op with
  | none => rw [hc] at h; cases h
  | some q => rw [hc] at h; exact congrArg some h
/-- a call's operands -/
theorem call_args {A : AS} {β : Nat → Nat} {nt : Nat} {f : Fr} {p : PFr} {n : Nat} (hf : RF ds A β n nt f p) {x : Operand} {args : Array Operand} (h1 : okX x = true) (h2 : args.toList.all okX = true) {g : Nat} {first cap : List PV} (hx : pval p x = .fn g first cap) :
    ∃ vs vas xs ys, f.eval x = some (.func (.func g) xs ys) ∧ evals f args.toList = some vas ∧ vs = xs.toList ++ (vas ++ ys.toList) ∧ Rs A β n vs (first ++ (args.toList.map (pval p) ++ cap)) := by
  obtain ⟨vf, f1, f2⟩ := okX_eval hf h1
  obtain ⟨vas, a1, a2⟩ := evals_ok hf _ h2
  rw [hx] at f2
  obtain ⟨xs, ys, rfl, r1, r2⟩ : ∃ xs ys, vf = .func (.func g) xs ys ∧ Rs A β n xs.toList first ∧ Rs A β n ys.toList cap := by
    cases f2 with
    | cl _ _ h => cases h with | fn g => exact ⟨_, _, rfl, .nil, .nil⟩
    | fn _ xs ys _ _ h h' => exact ⟨xs, ys, rfl, h, h'⟩
  exact ⟨_, vas, xs, ys, f1, a1, rfl, r1.app (a2.app r2)⟩
theorem call_enter (hE : Env P) {A : AS} {f : Fr} {d : Option Tmp} {ty : TypeId} {pos : String} {af : Array Edge} {gu : Option (Nat × Bool)} (hi : Inv A) {x : Operand} {args tys} {g : Nat} {xs ys : Array Value} {vas : List Value} {fn : Func} {c : Code} (h1 : f.eval x = some (.func (.func g) xs ys)) (h2 : evals f args.toList = some vas) (hfn : P.funcs[g]? = some fn) (hbody : fn.body = some c) :
    Sound P f A ⟨d, .call ⟨.value x, args, tys⟩, ty, pos, af, gu⟩ (.enter g (xs.toList ++ (vas ++ ys.toList)).toArray) A := by
  refine callV_sound hE hi x args tys ?_
  rw [h1, h2]
  show callA P g (xs.toList ++ (vas ++ ys.toList)) A = _
  unfold callA
  rw [hfn]
  simp only [hbody]
theorem step_ok (hE : Env P) (hO : OpsOK P) {pu : Nat → Bool} {call : PCallF} (hC : PCallOK P pu call) {ops : Array Oper} {o : Oper} {i : PI} {nt : Nat} (hc : compI P nt ops.toList o = some i) {A : AS} {β : Nat → Nat} {f : Fr} {p p' : PFr} {s s' : PS} (hi : Inv A) (hs : RS A β s) (hf : RF ds A β s.n nt f p)
    (h : stepP P call i p s = some (p', s')) : Kp s s' ∧ ∃ f' A' β', StepOn P ops o f A f' A' ∧ Fw A A' β β' s.n s'.n s'.w ∧ RS A' β' s' ∧ RF ds A' β' s'.n nt f' p' ∧ (pureI pu p i = true → Msk A A' β β' s.n s'.n (effI p i)) ∧ (wantedA ops.toList f o.guard = some false ∨ ∀ cs b, o.op ≠ .select cs b) := by
  unfold compI at hc
  split at hc
  · rename_i g' hg
    split at hc
    · rename_i hd
      injection hc with hc; subst hc
      unfold stepP at h
      simp only at h
      split at h
      · rename_i hgd
        have hw := guard_ok hf hg hgd
        simp only [Option.map_eq_some_iff] at h
        obtain ⟨⟨q, s1⟩, hact, he⟩ := h
        injection he with e1 e2; subst e1; subst e2
        generalize hpq : (compOp P o.op).getD .bad = po at hact ⊢
        unfold actP at hact
        split at hact
        · rename_i x args
          have hpo := getD_call hpq
          unfold callP at hact
          split at hact
          · rename_i g first cap hx
            obtain ⟨⟨fn, c, hfn, hbody⟩, hkp, hcall⟩ := hC _ _ _ _ _ hact
            refine ⟨hkp, ?_⟩
            obtain ⟨cargs, tys, hop, rfl, h1, h2⟩ := comp_call hpo
            obtain ⟨vs, vas, xs, ys, k1, k2, rfl, k3⟩ := call_args hf h1 h2 hx
            obtain ⟨d, op, ty, pos, af, gu⟩ := o
            simp only at hop
            subst hop
            obtain ⟨u, A', β', c1, c2, c3, c4, c5⟩ := hcall A β _ hi hs k3
            have hsd := call_enter (d := d) (ty := ty) (pos := pos) (af := af) (gu := gu) (tys := tys) hE hi k1 k2 hfn hbody
            obtain ⟨f', m1, m2⟩ := (hf.mono c2).set hd c4
            refine ⟨f', A', β', stepOn_call hw hsd c1 m1, c2, c3, m2, fun hpu => ?_, .inr fun cs b he => by cases he⟩
            have hp' : pu g = true := by simpa only [pureI, hx] using hpu
            have he : effI p ⟨d, .call x cargs.toList, g'⟩ = ⟨[], [], false, true⟩ := by simp only [effI, hgd, effO]
            rw [he]
            refine ⟨fun c hc => ?_, fun c hc => ?_, fun hca => by cases hca⟩
            · exact (c1.fr.rb c hc).imp id fun h => .inr (.inr (.inr ⟨rfl, h⟩))
            · rcases c1.fr.wb c hc with h | h
              · exact .inl h
              · by_cases hlt : c < A.next
                · exact .inl (c5 hp' c hlt hc)
                · exact .inr (.inr ⟨by omega, h⟩)
          · cases hact
        · rename_i hnc
          cases hpo : compOp P o.op with
          | none => rw [hpo] at hpq; subst hpq; cases hact
          | some po' =>
            rw [hpo] at hpq
            have hpq : po' = po := hpq
            subst hpq
            obtain ⟨u, A', β', k1, k2, k3, k4, k5⟩ := op_ok hE hO hpo hi hs hf hact
            obtain ⟨f', m1, m2⟩ := (hf.mono k2).set hd k4
            refine ⟨op_kp hact, f', A', β', stepOn_val hw k1 m1, k2, k3, m2, fun _ => ?_, .inr fun cs b he => ?_⟩
            · have he : effI p ⟨o.dst, po', g'⟩ = effO p po' := by simp only [effI, hgd]
              rw [he]; exact k5
            · rw [he] at hpo; cases hpo
      · rename_i hgd
        have hw := guard_ok hf hg hgd
        injection h with h; injection h with e1 e2; subst e1; subst e2
        obtain ⟨f', m1, m2⟩ := hf.set hd (v := undef) (q := .sc undef) (.cl _ _ (.sc _ rfl))
        refine ⟨.refl s, f', A, β, stepOn_skip hi hw m1, .refl A β s.n _, hs, m2, fun _ => .same A β s.n _, .inl hw⟩
      · cases h
    · cases hc
  · cases hc
end
end Go.PE
namespace Go.PE
open Go Go.EvL
section
variable {ds : List Deferred} {P : Program}
theorem ops_ok (hE : Env P) (hO : OpsOK P) {pu : Nat → Bool} {call : PCallF} (hC : PCallOK P pu call) {ops : Array Oper} {nt : Nat} : ∀ (l : List Oper) (r : List PI), compL P nt ops.toList l = some r → ∀ {A : AS} {β : Nat → Nat} {f : Fr} {p p' : PFr} {s s' : PS}, Inv A → RS A β s → RF ds A β s.n nt f p →
    opsP P call r p s = some (p', s') → Kp s s' ∧ ∃ f' A' β', OpsSound P ops l f A .normal f' A' ∧ Fw A A' β β' s.n s'.n s'.w ∧ RS A' β' s' ∧ RF ds A' β' s'.n nt f' p' := by
  intro l
  induction l with
  | nil =>
    intro r hr A β f p p' s s' hi hs hf h
    simp only [compL] at hr
    injection hr with hr; subst hr
    simp only [opsP] at h
    injection h with h; injection h with e1 e2; subst e1; subst e2
    exact ⟨.refl s, f, A, β, ⟨.refl hi, fun φ T w a hf hr _ _ Q hQ => hQ φ w a .normal (.refl hr rfl rfl rfl rfl rfl rfl rfl) hf .normal⟩, .refl A β s.n _, hs, hf⟩
  | cons o l ih =>
    intro r hr A β f p p' s s' hi hs hf h
    simp only [compL] at hr
    split at hr
    · rename_i i r' hi' hr'
      injection hr with hr; subst hr
      simp only [opsP, Option.bind_eq_some_iff] at h
      obtain ⟨⟨p1, s1⟩, h1, h2⟩ := h
      obtain ⟨kp1, f1, A1, β1, k1, k2, k3, k4, _⟩ := step_ok hE hO hC hi' hi hs hf h1
      obtain ⟨kp2, f2, A2, β2, m1, m2, m3, m4⟩ := ih r' hr' k1.fr.inv k3 k4 h2
      refine ⟨kp1.trans kp2, f2, A2, β2, ⟨k1.fr.trans m1.fr, fun φ T w a hf hr hT hfr Q hQ => wpList_of_op ?_⟩, k2.trans m2 kp2.w, m3, m4⟩
      refine k1.run φ T w a hf hr (hT.left m1.fr) (fresh_left hfr m1.fr.next) _ Q fun φ' w' a' hp hf' => ?_
      refine m1.run φ' _ w' a' hf' hp.rel (foot_right hT) (fresh_right hfr k1.fr.next hp) Q fun φ2 w2 a2 e hp2 hf2 hx2 => ?_
      exact hQ φ2 w2 a2 e (hp.trans k1.fr.next m1.fr hp2) hf2 hx2
    · cases hr
def xt : PXt → AExit
  | .normal => .normal
  | .exit id => .exit id
  | .ret => .ret
/-- what is asked of a piece of code -/
def CodeOK (P : Program) (nt : Nat) (c : Code) (r : PFr → PS → PEx) : Prop := ∀ {ds : List Deferred} {A : AS} {β : Nat → Nat} {f : Fr} {p p' : PFr} {s s' : PS} {x : PXt}, Inv A → RS A β s → RF ds A β s.n nt f p → r p s = some (x, p', s') →
  Kp s s' ∧ ∃ f' A' β', CSound P c f A (xt x) f' A' ∧ Fw A A' β β' s.n s'.n s'.w ∧ RS A' β' s' ∧ RF ds A' β' s'.n nt f' p'
theorem seq_ok {nt : Nat} {a b : Code} {ra rb : PFr → PS → PEx} (ha : CodeOK P nt a ra) (hb : CodeOK P nt b rb) : CodeOK P nt (.seq a b) (fun f s => seqP (ra f s) rb) := by
  intro ds A β f p p' s s' x hi hs hf h
  simp only [seqP, Option.bind_eq_some_iff] at h
  obtain ⟨⟨x1, p1, s1⟩, h1, h2⟩ := h
  obtain ⟨kp1, f1, A1, β1, k1, k2, k3, k4⟩ := ha hi hs hf h1
  simp only at h2
  split at h2
  · obtain ⟨kp2, f2, A2, β2, m1, m2, m3, m4⟩ := hb k1.fr.inv k3 k4 h2
    refine ⟨kp1.trans kp2, f2, A2, β2, ⟨k1.fr.trans m1.fr, fun φ T w a hf hr hT hfr Q hQ => wp_seq ?_⟩, k2.trans m2 kp2.w, m3, m4⟩
    refine k1.run φ T w a hf hr (hT.left m1.fr) (fresh_left hfr m1.fr.next) _ fun φ' w' a' e hp hf' he => ?_
    cases he
    exact m1.run φ' _ w' a' hf' hp.rel (foot_right hT) (fresh_right hfr k1.fr.next hp) Q fun φ2 w2 a2 e hp2 hf2 hx2 => hQ φ2 w2 a2 e (hp.trans k1.fr.next m1.fr hp2) hf2 hx2
  · rename_i hne
    injection h2 with h2; injection h2 with e1 e2; injection e2 with e2 e3
    subst e1; subst e2; subst e3
    refine ⟨kp1, f1, A1, β1, ⟨k1.fr, fun φ T w a hf hr hT hfr Q hQ => wp_seq ?_⟩, k2, k3, k4⟩
    refine k1.run φ T w a hf hr hT hfr _ fun φ' w' a' e hp hf' he => ?_
    have := hQ φ' w' a' e hp hf' he
    cases x1 with
    | normal => exact absurd rfl hne
    | exit id => cases he; exact this
    | ret => cases he; exact this
theorem cond_ok {nt : Nat} {o : Operand} (ho : okX o = true) {a b : Code} {ra rb : PFr → PS → PEx} (ha : CodeOK P nt a ra) (hb : CodeOK P nt b rb) : CodeOK P nt (.cond o a b) (fun f s => condP (asBool (pval f o)) (ra f s) (rb f s)) := by
  intro ds A β f p p' s s' x hi hs hf h
  obtain ⟨v, v1, v2⟩ := okX_eval hf ho
  have h : condP (asBool (pval p o)) (ra p s) (rb p s) = some (x, p', s') := h
  unfold condP at h
  split at h
  · rename_i hb'
    have := asBool_ok v2 hb'
    subst this
    obtain ⟨kp1, f1, A1, β1, k1, k2⟩ := ha hi hs hf h
    refine ⟨kp1, f1, A1, β1, ⟨k1.fr, fun φ T w a hf hr hT hfr Q hQ => ?_⟩, k2⟩
    have hv := hf.eval v1
    generalize hq : a.eval o = q at hv
    cases hv
    exact wp_cond_true hq (k1.run φ T w a hf hr hT hfr Q hQ)
  · rename_i hb'
    have := asBool_ok v2 hb'
    subst this
    obtain ⟨kp1, f1, A1, β1, k1, k2⟩ := hb hi hs hf h
    refine ⟨kp1, f1, A1, β1, ⟨k1.fr, fun φ T w a hf hr hT hfr Q hQ => ?_⟩, k2⟩
    have hv := hf.eval v1
    generalize hq : a.eval o = q at hv
    cases hv
    exact wp_cond_false hq (k1.run φ T w a hf hr hT hfr Q hQ)
  · cases h
theorem block_ok {nt id : Nat} {b : Code} {rb : PFr → PS → PEx} (hb : CodeOK P nt b rb) : CodeOK P nt (.block id b) (fun f s => blockP id (rb f s)) := by
  intro ds A β f p p' s s' x hi hs hf h
  simp only [blockP, Option.map_eq_some_iff] at h
  obtain ⟨⟨x1, p1, s1⟩, h1, h2⟩ := h
  obtain ⟨kp1, f1, A1, β1, k1, k2⟩ := hb hi hs hf h1
  cases x1 with
  | exit i =>
    simp only at h2
    split at h2
    · rename_i hid
      subst hid
      injection h2 with e1 e2; injection e2 with e2 e3
      subst e1; subst e2; subst e3
      refine ⟨kp1, f1, A1, β1, ⟨k1.fr, fun φ T w a hf hr hT hfr Q hQ => wp_block ?_⟩, k2⟩
      refine k1.run φ T w a hf hr hT hfr _ fun φ' w' a' e hp hf' he => ?_
      cases he
      show (if i = i then Q .normal a' w' else _)
      rw [if_pos rfl]
      exact hQ φ' w' a' _ hp hf' .normal
    · rename_i hid
      injection h2 with e1 e2; injection e2 with e2 e3
      subst e1; subst e2; subst e3
      refine ⟨kp1, f1, A1, β1, ⟨k1.fr, fun φ T w a hf hr hT hfr Q hQ => wp_block ?_⟩, k2⟩
      refine k1.run φ T w a hf hr hT hfr _ fun φ' w' a' e hp hf' he => ?_
      have := hQ φ' w' a' e hp hf' he
      cases he
      show (if i = id then _ else Q (.exit i) a' w')
      rw [if_neg hid]
      exact this
  | normal =>
    injection h2 with e1 e2; injection e2 with e2 e3
    subst e1; subst e2; subst e3
    refine ⟨kp1, f1, A1, β1, ⟨k1.fr, fun φ T w a hf hr hT hfr Q hQ => wp_block ?_⟩, k2⟩
    refine k1.run φ T w a hf hr hT hfr _ fun φ' w' a' e hp hf' he => ?_
    have := hQ φ' w' a' e hp hf' he
    cases he
    exact this
  | ret =>
    injection h2 with e1 e2; injection e2 with e2 e3
    subst e1; subst e2; subst e3
    refine ⟨kp1, f1, A1, β1, ⟨k1.fr, fun φ T w a hf hr hT hfr Q hQ => wp_block ?_⟩, k2⟩
    refine k1.run φ T w a hf hr hT hfr _ fun φ' w' a' e hp hf' he => ?_
    have := hQ φ' w' a' e hp hf' he
    cases he
    exact this
theorem loop_ok {nt : Nat} {b : Code} {rb : PFr → PS → PEx} (hb : CodeOK P nt b rb) : ∀ (L : Nat) {A : AS} {β : Nat → Nat} {f : Fr} {p p' : PFr} {s s' : PS} {x : PXt}, Inv A → RS A β s → RF ds A β s.n nt f p → loopP rb L p s = some (x, p', s') →
    Kp s s' ∧ ∃ f' A' β', (AFr A A' ∧ ∀ (φ : Emb) (T : Nat → Prop) (w : World) (a : Act), FRel φ f a → Rel P φ T A w → Foot A A' T → Fresh A A' φ → ∀ (Q : Exit → Act → World → Prop),
        (∀ φ' w' a' e, Post P φ T A A' w w' φ' → FRel φ' f' a' → XRel φ' (xt x) e → Q e a' w') → Code.rounds P b Q L a w) ∧ Fw A A' β β' s.n s'.n s'.w ∧ RS A' β' s' ∧ RF ds A' β' s'.n nt f' p' := by
  intro L
  induction L with
  | zero => intro A β f p p' s s' x _ _ _ h; cases h
  | succ L ih =>
    intro A β f p p' s s' x hi hs hf h
    simp only [loopP, seqP, Option.bind_eq_some_iff] at h
    obtain ⟨⟨x1, p1, s1⟩, h1, h2⟩ := h
    obtain ⟨kp1, f1, A1, β1, k1, k2, k3, k4⟩ := hb hi hs hf h1
    simp only at h2
    split at h2
    · obtain ⟨kp2, f2, A2, β2, ⟨m0, m1⟩, m2, m3, m4⟩ := ih k1.fr.inv k3 k4 h2
      refine ⟨kp1.trans kp2, f2, A2, β2, ⟨k1.fr.trans m0, fun φ T w a hf hr hT hfr Q hQ => ?_⟩, k2.trans m2 kp2.w, m3, m4⟩
      rw [rounds_succ]
      refine k1.run φ T w a hf hr (hT.left m0) (fresh_left hfr m0.next) _ fun φ' w' a' e hp hf' he => ?_
      cases he
      exact m1 φ' _ w' a' hf' hp.rel (foot_right hT) (fresh_right hfr k1.fr.next hp) Q fun φ2 w2 a2 e hp2 hf2 hx2 => hQ φ2 w2 a2 e (hp.trans k1.fr.next m0 hp2) hf2 hx2
    · rename_i hne
      injection h2 with h2; injection h2 with e1 e2; injection e2 with e2 e3
      subst e1; subst e2; subst e3
      refine ⟨kp1, f1, A1, β1, ⟨k1.fr, fun φ T w a hf hr hT hfr Q hQ => ?_⟩, k2, k3, k4⟩
      rw [rounds_succ]
      refine k1.run φ T w a hf hr hT hfr _ fun φ' w' a' e hp hf' he => ?_
      have := hQ φ' w' a' e hp hf' he
      cases x1 with
      | normal => exact absurd rfl hne
      | exit id => cases he; exact this
      | ret => cases he; exact this
theorem slotMask_in {l : List Tmp} {t : Nat} (h : (slotMask l).testBit t = true) : t ∈ l := by
  induction l with
  | nil => rw [show slotMask [] = 0 from rfl, Nat.zero_testBit] at h; cases h
  | cons x l ih =>
    have h' : (slotMask l ||| (1 <<< x)).testBit t = true := h
    rcases bit_in h' with h | rfl
    · exact List.mem_cons_of_mem _ (ih h)
    · exact List.mem_cons_self
theorem comb_bit (n c l x : Nat) : (combM n c l).testBit x = true ↔ (n ≤ x ∧ c.testBit (x - n) = true) ∨ l.testBit x = true := by
  have e : combM n c l = (c <<< n) ||| l := rfl
  rw [e, Nat.testBit_or, Nat.testBit_shiftLeft, Bool.or_eq_true, Bool.and_eq_true, decide_eq_true_iff]
theorem land_zero {a b : Nat} (h : ∀ x, a.testBit x = true → b.testBit x = true → False) : Nat.beq (Nat.land a b) 0 = true := by
  have : Nat.land a b = 0 := by
    apply Nat.eq_of_testBit_eq
    intro x
    show (a &&& b).testBit x = _
    rw [Nat.testBit_and, Nat.zero_testBit]
    cases h1 : a.testBit x with
    | false => rfl
    | true => cases h2 : b.testBit x with
      | false => rfl
      | true => exact (h x h1 h2).elim
  rw [this]; rfl
theorem apart_ok {r w r' w' : Nat} (h1 : ∀ x, w.testBit x = true → r'.testBit x = true → False) (h2 : ∀ x, w.testBit x = true → w'.testBit x = true → False) (h3 : ∀ x, w'.testBit x = true → r.testBit x = true → False) : apartM r w r' w' = true := by
  unfold apartM
  rw [Bool.and_eq_true]
  refine ⟨land_zero fun x a b => ?_, land_zero h3⟩
  have b' : (r' ||| w').testBit x = true := b
  rw [Nat.testBit_or, Bool.or_eq_true] at b'
  exact b'.elim (h1 x a) (h2 x a)
/-- what an earlier operation of a region has looked at -/
structure Ent (β : Nat → Nat) (n next : Nat) (E : Eff) (a b lo hi cr cw : Nat) : Prop where
  ab : a ≤ b
  bn : b ≤ n
  lh : lo ≤ hi
  hn : hi ≤ next
  r : ∀ c, cr.testBit c = true → (∃ k ∈ E.rd, k < a ∧ β k = c) ∨ (E.li = true ∧ c < lo ∧ ∀ k, k < a → β k ≠ c) ∨ (lo ≤ c ∧ c < hi) ∨ (E.ca = true ∧ c < hi)
  w : ∀ c, cw.testBit c = true → (∃ k ∈ E.wr, k < a ∧ β k = c) ∨ (lo ≤ c ∧ c < hi)
  new : E.ca = false → ∀ c, lo ≤ c → c < hi → cr.testBit c = true ∨ cw.testBit c = true → ∃ k, a ≤ k ∧ k < b ∧ β k = c
  low : ∀ k, k < a → β k < lo
  mid : ∀ k, a ≤ k → k < b → lo ≤ β k ∧ β k < hi
  top : ∀ k, b ≤ k → k < n → hi ≤ β k
theorem Ent.mono {β β' : Nat → Nat} {n n' next next' : Nat} {E : Eff} {a b lo hi cr cw : Nat} (h : Ent β n next E a b lo hi cr cw) (he : ∀ k, k < n → β' k = β k) (hn : n ≤ n') (hx : next ≤ next') (hnew : ∀ k, n ≤ k → k < n' → next ≤ β' k) : Ent β' n' next' E a b lo hi cr cw := by
  have hab := h.ab
  have hbn := h.bn
  have hhn := h.hn
  refine ⟨h.ab, by omega, h.lh, by omega, fun c hc => ?_, fun c hc => ?_, fun hca c c1 c2 hc => ?_, fun k hk => ?_, fun k h1 h2 => ?_, fun k h1 h2 => ?_⟩
  · rcases h.r c hc with ⟨k, k1, k2, k3⟩ | ⟨h1, h2, h3⟩ | h1
    · exact .inl ⟨k, k1, k2, by rw [he k (by omega)]; exact k3⟩
    · exact .inr (.inl ⟨h1, h2, fun k hk => by rw [he k (by omega)]; exact h3 k hk⟩)
    · exact .inr (.inr h1)
  · rcases h.w c hc with ⟨k, k1, k2, k3⟩ | h1
    · exact .inl ⟨k, k1, k2, by rw [he k (by omega)]; exact k3⟩
    · exact .inr h1
  · obtain ⟨k, k1, k2, k3⟩ := h.new hca c c1 c2 hc
    exact ⟨k, k1, k2, by rw [he k (by omega)]; exact k3⟩
  · rw [he k (by omega)]; exact h.low k hk
  · rw [he k (by omega)]; exact h.mid k h1 h2
  · by_cases hk : k < n
    · rw [he k hk]; exact h.top k h1 hk
    · have := hnew k (by omega) h2; omega
theorem ent_apart {A B : AS} {β β' : Nat → Nat} {n n' : Nat} {E F : Eff} {a b lo hi cr cw : Nat} (h : Ent β n A.next E a b lo hi cr cw) (m : Msk (clearRW A) B β β' n n' F) (hlt : ∀ k, k < n → β k < A.next) (hinj : ∀ j k, j < n → k < n → β j = β k → j = k) (hp : OkPair E a b F) (c : Nat) :
    (cw.testBit c = true → B.r.testBit c = true → False) ∧ (cw.testBit c = true → B.w.testBit c = true → False) ∧ (B.w.testBit c = true → cr.testBit c = true → False) := by
  obtain ⟨p1, p2, p3, p4, p5, p6, p7⟩ := hp
  have hab := h.ab
  have hbn := h.bn
  have hhn := h.hn
  have hnx : (clearRW A).next = A.next := clearRW_next A
  have hr0 : (clearRW A).r = 0 := by rw [clearRW_eq]
  have hw0 : (clearRW A).w = 0 := by rw [clearRW_eq]
  have Br : ∀ c, B.r.testBit c = true → (∃ k ∈ F.rd, k < n ∧ β k = c) ∨ (F.li = true ∧ c < A.next ∧ ∀ k, k < n → β k ≠ c) ∨ A.next ≤ c ∨ F.ca = true := fun c hc => by
    rcases m.r c hc with h | h | ⟨h1, h2⟩ | ⟨h1, _⟩ | ⟨h1, _⟩
    · rw [hr0, Nat.zero_testBit] at h; cases h
    · exact .inl h
    · exact .inr (.inl ⟨h1, by rw [← hnx]; exact h2.1, h2.2⟩)
    · exact .inr (.inr (.inl (by omega)))
    · exact .inr (.inr (.inr h1))
  have Bw : ∀ c, B.w.testBit c = true → (∃ k ∈ F.wr, k < n ∧ β k = c) ∨ A.next ≤ c := fun c hc => by
    rcases m.w c hc with h | h | ⟨h1, _⟩
    · rw [hw0, Nat.zero_testBit] at h; cases h
    · exact .inl h
    · exact .inr (by omega)
  have off : ∀ k, k < n → (k < a ∨ b ≤ k) → ¬ (lo ≤ β k ∧ β k < hi) := fun k hk hh hc => by
    rcases hh with h1 | h1
    · have := h.low k h1; omega
    · have := h.top k h1 hk; omega
  refine ⟨fun hc hr => ?_, fun hc hw => ?_, fun hw hc => ?_⟩
  · rcases h.w c hc with ⟨k, k1, k2, rfl⟩ | ⟨c1, c2⟩
    · rcases Br _ hr with ⟨k', j1, j2, j3⟩ | ⟨_, _, j⟩ | j | j
      · have := hinj k' k j2 (by omega) j3; subst this; exact (p1 _ k1).1 j1
      · exact j k (by omega) rfl
      · have := hlt k (by omega); omega
      · rw [(p6 j).1] at k1; cases k1
    · rcases Br _ hr with ⟨k', j1, j2, rfl⟩ | ⟨j0, _, j⟩ | j | j
      · exact off k' j2 (p2 _ j1) ⟨c1, c2⟩
      · cases hca : E.ca with
        | true => exact p4 ⟨hca, j0⟩
        | false =>
          obtain ⟨k, k1, k2, k3⟩ := h.new hca c c1 c2 (.inr hc)
          exact j k (by omega) k3
      · omega
      · obtain ⟨_, q2, q3⟩ := p6 j
        obtain ⟨k, k1, k2, _⟩ := h.new q3 c c1 c2 (.inr hc)
        omega
  · rcases h.w c hc with ⟨k, k1, k2, rfl⟩ | ⟨c1, c2⟩
    · rcases Bw _ hw with ⟨k', j1, j2, j3⟩ | j
      · have := hinj k' k j2 (by omega) j3; subst this; exact (p1 _ k1).2 j1
      · have := hlt k (by omega); omega
    · rcases Bw _ hw with ⟨k', j1, j2, rfl⟩ | j
      · exact off k' j2 (p3 _ j1) ⟨c1, c2⟩
      · omega
  · rcases Bw _ hw with ⟨k', j1, j2, rfl⟩ | j
    · rcases h.r _ hc with ⟨k, k1, k2, k3⟩ | ⟨_, q1, q2⟩ | ⟨c1, c2⟩ | ⟨q1, q2⟩
      · have := hinj k k' (by omega) j2 k3; subst this; exact p5 _ j1 k1
      · rcases Nat.lt_or_ge k' a with hk | hk
        · exact q2 k' hk rfl
        · rcases Nat.lt_or_ge k' b with hk2 | hk2
          · have := (h.mid k' hk hk2).1; omega
          · have h1 := h.top k' hk2 j2
            have h2 := h.lh
            omega
      · exact off k' j2 (p3 _ j1) ⟨c1, c2⟩
      · have := h.top k' (p7 q1 k' j1) j2; omega
    · rcases h.r _ hc with ⟨k, k1, k2, k3⟩ | ⟨_, q1, q2⟩ | ⟨c1, c2⟩ | ⟨q1, q2⟩
      · have := hlt k (by omega); omega
      · have := h.lh; omega
      · omega
      · omega
theorem onlyFr_get {f : Fr} {ls : List Nat} (t : Nat) : ((onlyFr ls f).tmps.get t) = if t ∈ ls then f.tmps.get t else none := by
  obtain ⟨tm, n, ds⟩ := f
  have : (onlyFr ls ⟨tm, n, ds⟩).tmps = onlyT tm ls := by
    show (forceT (onlyT tm ls) fun t => (⟨t, n, []⟩ : Fr)).tmps = _
    rw [forceT_eq]
  rw [this]
  exact onlyT_get tm ls (fun _ _ => .inl trivial) t
theorem only_ok {A : AS} {β : Nat → Nat} {n nt : Nat} {f : Fr} {p : PFr} (h : RF ds A β n nt f p) (ls : List Nat) : RF [] A β n nt (onlyFr ls f) (onlyP ls p) := by
  have hn : (onlyFr ls f).n = f.n ∧ (onlyFr ls f).defers = [] := by
    obtain ⟨tm, n, ds⟩ := f
    show (forceT (onlyT tm ls) fun t => (⟨t, n, []⟩ : Fr)).n = n ∧ (forceT (onlyT tm ls) fun t => (⟨t, n, []⟩ : Fr)).defers = []
    rw [forceT_eq]; exact ⟨rfl, rfl⟩
  refine ⟨hn.1.trans h.num, h.few, hn.2, fun j => ?_⟩
  rw [onlyFr_get]
  unfold onlyP
  by_cases hj : j ∈ ls
  · rw [if_pos hj, if_pos hj]; exact h.tmp j
  · rw [if_neg hj, if_neg hj]; exact .cl _ _ (.sc _ rfl)
theorem RC.hp {A A' : AS} {β : Nat → Nat} {n : Nat} (h1 : A'.heap = A.heap) (h2 : A'.next = A.next) {x : Value × PV ⊕ List Value × List PV} (h : RC A β n x) : RC A' β n x := by
  have hp : ∀ c, Prot A β n c → Prot A' β n c := fun c hc => ⟨by rw [h2]; exact hc.1, hc.2⟩
  induction h with
  | sc v h => exact .sc v h
  | fn g => exact .fn g
  | lit b off m' cap e cs cells c st hg hpr hl hm' _ ih => exact .lit b off m' cap e cs cells c st (by rw [h1]; exact hg) (hp _ hpr) hl hm' ih
  | litp b off e cs cells c st hg hpr hl _ ih => exact .litp b off e cs cells c st (by rw [h1]; exact hg) (hp _ hpr) hl ih
  | litx b off m' e cs cells c st hg hpr hl _ ih => exact .litx b off m' e cs cells c st (by rw [h1]; exact hg) (hp _ hpr) hl ih
  | agg xs cs _ ih => exact .agg xs cs ih
  | nil => exact .nil
  | cons v p l r _ _ ih ihs => exact .cons v p l r ih ihs
theorem RV.hp {A A' : AS} {β : Nat → Nat} {n : Nat} (h1 : A'.heap = A.heap) (h2 : A'.next = A.next) {x : Value × PV ⊕ List Value × List PV} (h : RV A β n x) : RV A' β n x := by
  induction h with
  | cl v p h => exact .cl v p (h.hp h1 h2)
  | fn g xs ys as bs _ _ h h' => exact .fn g xs ys as bs h h'
  | agg xs cs _ ih => exact .agg xs cs ih
  | tup xs cs _ ih => exact .tup xs cs ih
  | own b o k off m fin cap e cells st ok hk hg ho hf hm => exact .own b o k off m fin cap e cells st ok hk (by rw [h1]; exact hg) ho hf hm
  | ptr b o k off fin e cells st ok hk hg ho hf => exact .ptr b o k off fin e cells st ok hk (by rw [h1]; exact hg) ho hf
  | ownx b o k off m fin e cells st ok hk hg ho hf => exact .ownx b o k off m fin e cells st ok hk (by rw [h1]; exact hg) ho hf
  | nil => exact .nil
  | cons v p l r _ _ ih ihs => exact .cons v p l r ih ihs
theorem RS.hp {A A' : AS} {β : Nat → Nat} {s : PS} (h1 : A'.heap = A.heap) (h2 : A'.next = A.next) (h3 : A'.fz = A.fz) (h : RS A β s) : RS A' β s := by
  refine ⟨fun k hk => ?_, h.inj, fun x hx => by rw [h1, h3]; exact ⟨(h.lay x hx).1, ⟨by rw [h2]; exact (h.lay x hx).2.1.1, (h.lay x hx).2.1.2⟩, (h.lay x hx).2.2⟩⟩
  have hb := h.blk k hk
  exact ⟨by rw [h1]; exact hb.cur, fun x cells e st ok hg => by
    rw [h1] at hg
    obtain ⟨a1, a2, a3⟩ := hb.all x cells e st ok hg
    exact ⟨a1, a2, fun hl => ⟨(a3 hl).1, (a3 hl).2.hp h1 h2⟩⟩, by rw [h1]; exact hb.uni, by rw [h1]; exact hb.low, by rw [h3]; exact hb.fz, by rw [h2]; exact hb.lt, by rw [h1]; exact hb.z⟩
theorem RF.hp {A A' : AS} {β : Nat → Nat} {n nt : Nat} {f : Fr} {p : PFr} (h1 : A'.heap = A.heap) (h2 : A'.next = A.next) (h : RF ds A β n nt f p) : RF ds A' β n nt f p := ⟨h.num, h.few, h.df, fun j => (h.tmp j).hp h1 h2⟩
theorem clear_rs {A : AS} {β : Nat → Nat} {s : PS} (h : RS A β s) : RS (clearRW A) β s := h.hp (by rw [clearRW_eq]) (by rw [clearRW_eq]) (by rw [clearRW_eq])
theorem join_fw {A B : AS} {β β' : Nat → Nat} {n n' lo : Nat} (h : Fw (clearRW A) B β β' n n' lo) : Fw A (joinRW A B) β β' n n' lo := by
  rw [clearRW_eq] at h
  rw [joinRW_eq]
  refine ⟨h.le, h.next, h.eq, h.new, h.prot, h.keep, fun c hc hw => ?_⟩
  rw [Nat.testBit_or, Bool.or_eq_true] at hw
  rcases hw with hw | hw
  · rcases h.w c hc hw with h1 | h1
    · simp only [Nat.zero_testBit] at h1; cases h1
    · exact .inr h1
  · exact .inl hw
theorem join_rs {A B : AS} {β : Nat → Nat} {s : PS} (h : RS B β s) : RS (joinRW A B) β s := h.hp (by rw [joinRW_eq]) (by rw [joinRW_eq]) (by rw [joinRW_eq])
def AccRel (nt : Nat) (sacc : List (Nat × List Nat × Option Nat)) (pacc : List (Nat × Eff × Nat × Nat)) (β : Nat → Nat) (n next : Nat) (rest : List (List Nat × List Nat)) (acc : List Fp) : Prop :=
  ∀ e ∈ acc, (∃ ls d, (e.j, ls, d) ∈ sacc ∧ ∀ x ∈ rest, e.j ∉ x.2) ∨ ∃ ls d E a b lo hi cr cw, (e.j, ls, d) ∈ sacc ∧ (e.j, E, a, b) ∈ pacc ∧ e.r = combM nt cr (slotMask ls) ∧ e.w = combM nt cw (slotMask d.toList) ∧ (∀ t ∈ ls, t < nt) ∧ (∀ t ∈ d.toList, t < nt) ∧ Ent β n next E a b lo hi cr cw
theorem zipD_mem : ∀ {l : List PI} {r : List (List Nat × List Nat)}, l.length = r.length → ∀ x ∈ r, ∃ i, (i, x.1, x.2) ∈ zipD l r
  | [], [], _, x, hx => by cases hx
  | [], _ :: _, h, _, _ => by cases h
  | _ :: _, [], h, _, _ => by cases h
  | i :: l, y :: r, h, x, hx => by
    rcases List.mem_cons.1 hx with rfl | hx
    · exact ⟨i, List.mem_cons_self⟩
    · obtain ⟨i', hi'⟩ := zipD_mem (l := l) (r := r) (by simpa using h) x hx
      exact ⟨i', List.mem_cons_of_mem _ hi'⟩
theorem compL_len {nt : Nat} {ops : List Oper} : ∀ {lo : List Oper} {l : List PI}, compL P nt ops lo = some l → l.length = lo.length := by
  intro lo
  induction lo with
  | nil => intro l h; simp only [compL] at h; injection h with h; subst h; rfl
  | cons o lo ih =>
    intro l h
    simp only [compL] at h
    split at h
    · rename_i i r h1 h2
      injection h with h; subst h
      simp [ih h2]
    · cases h
theorem drawSt_len {nt : Nat} {ops : Array Oper} : ∀ {lo : List Oper} {j : Nat} {bs : Tr Nat} {acc : List (Nat × List Nat × Option Nat)} {r : List (List Nat × List Nat)}, drawSt nt ops lo j bs acc = some r → r.length = lo.length := by
  intro lo
  induction lo with
  | nil => intro j bs acc r h; simp only [drawSt] at h; injection h with h; subst h; rfl
  | cons o lo ih =>
    intro j bs acc r h
    simp only [drawSt] at h
    split at h
    · split at h
      · rename_i r' h2
        injection h with h; subst h
        simp [ih h2]
      · cases h
    · cases h
theorem draw_trace (hE : Env P) (hO : OpsOK P) {pu : Nat → Bool} {call : PCallF} (hC : PCallOK P pu call) {ops : Array Oper} {nt : Nat} : ∀ (lo : List Oper) (l : List PI) (r : List (List Nat × List Nat)) (j : Nat) (bs : Tr Nat) (sacc : List (Nat × List Nat × Option Nat)) (pacc : List (Nat × Eff × Nat × Nat)) (acc : List Fp) {f : Fr} {A : AS} {β : Nat → Nat} {p p' : PFr} {s s' : PS},
    compL P nt ops.toList lo = some l → drawSt nt ops lo j bs sacc = some r → drawP P pu call (zipD l r) j pacc p s = some (p', s') → Inv A → RS A β s → RF ds A β s.n nt f p → AccRel nt sacc pacc β s.n A.next r acc →
    Kp s s' ∧ ∃ X : Nat → Stp, (X j).f = f ∧ (X j).s = A ∧ (X j).bs = bs ∧ (X j).acc = acc ∧ (∀ i o, lo[i]? = some o → EvL.Good P (fun _ _ _ => none) ops X (j + i) o ∧ StepOn P ops o (onlyFr (o.looksAt ops) (X (j + i)).f) (clearRW (X (j + i)).s) (X (j + i)).g (X (j + i)).B) ∧
      ∃ β', Fw A (X (j + lo.length)).s β β' s.n s'.n s'.w ∧ RS (X (j + lo.length)).s β' s' ∧ RF ds (X (j + lo.length)).s β' s'.n nt (X (j + lo.length)).f p' := by
  intro lo
  induction lo with
  | nil =>
    intro l r j bs sacc pacc acc f A β p p' s s' hl hr h hi hs hf hacc
    simp only [compL] at hl
    injection hl with hl; subst hl
    simp only [drawSt] at hr
    injection hr with hr; subst hr
    simp only [zipD, drawP] at h
    injection h with h; injection h with e1 e2; subst e1; subst e2
    exact ⟨.refl s, fun _ => ⟨f, A, f, A, bs, acc⟩, rfl, rfl, rfl, rfl, fun i o hh => by simp at hh, β, .refl A β s.n _, hs, hf⟩
  | cons o lo ih =>
    intro l r j bs sacc pacc acc f A β p p' s s' hl hr h hi hs hf hacc
    simp only [compL] at hl
    split at hl
    · rename_i i l' hi' hl'
      injection hl with hl; subst hl
      simp only [drawSt] at hr
      split at hr
      · rename_i hst
        simp only [Bool.and_eq_true] at hst
        obtain ⟨t1, t2, t3, t4, t5⟩ := hst
        split at hr
        · rename_i r' hr'
          injection hr with hr; subst hr
          simp only [zipD, drawP, Option.bind_eq_some_iff] at h
          obtain ⟨⟨g, s1⟩, h1, h2⟩ := h
          simp only at h2
          split at h2
          · rename_i hok
            obtain ⟨hpu, hall⟩ := hok
            obtain ⟨kp1, gf, B, β1, k1, k2, k3, k4, k5, k6⟩ := step_ok hE hO hC hi' (inv_clear hi) (clear_rs hs) ((only_ok hf (o.looksAt ops)).hp (A' := clearRW A) (by rw [clearRW_eq]) (by rw [clearRW_eq])) h1
            have hlen : l'.length = r'.length := (compL_len hl').trans (drawSt_len hr').symm
            have hcase : pureI pu (onlyP (o.looksAt ops) p) i = true ∨ ((sacc.filter fun p => !((befOf bs o.after.toList).testBit p.1)).map (·.1) = [] ∧ ∀ x ∈ r', j ∉ x.2) := by
              refine hpu.imp id fun hb => ?_
              unfold barP at hb
              simp only [Bool.and_eq_true, List.isEmpty_iff, List.all_eq_true, Bool.not_eq_true', List.contains_eq_mem, decide_eq_false_iff_not] at hb
              refine ⟨hb.1, fun x hx => ?_⟩
              obtain ⟨i', hi'⟩ := zipD_mem hlen x hx
              exact hb.2 _ hi'
            have hdst : i.dst = o.dst := by
              unfold compI at hi'
              split at hi'
              · split at hi'
                · injection hi' with hi'; rw [← hi']
                · cases hi'
              · cases hi'
            have hdn : dstOk nt o.dst = true := by
              unfold compI at hi'
              split at hi'
              · split at hi'
                · assumption
                · cases hi'
              · cases hi'
            have hfB : RF ds B β1 s1.n nt f p := ((hf.hp (A' := clearRW A) (by rw [clearRW_eq]) (by rw [clearRW_eq])).mono k2)
            obtain ⟨f1, m1, m2⟩ : ∃ f1, drawPut f o.dst gf = some f1 ∧ RF ds B β1 s1.n nt f1 (setG p i.dst g) := by
              unfold drawPut
              rw [k4.df]
              simp only
              cases hd : o.dst with
              | none =>
                refine ⟨f, rfl, ?_⟩
                rw [hdst, hd]
                exact hfB
              | some d =>
                rw [hd] at hdn
                obtain ⟨f1, q1, q2⟩ := hfB.set (d := some d) hdn (k4.tmp d)
                refine ⟨f1, q1, ?_⟩
                rw [hdst, hd]
                exact q2
            have hnx : (clearRW A).next = A.next := clearRW_next A
            have hjn : (joinRW A B).next = B.next := joinRW_next A B
            have hlt : ∀ k, k < s.n → β k < A.next := fun k hk => (hs.blk k hk).lt
            have t4' : ∀ t ∈ o.looksAt ops, t < nt := fun t ht => by
              rw [List.all_eq_true] at t4
              exact Nat.lt_of_succ_le (Nat.le_of_ble_eq_true (t4 t ht))
            have hdt : ∀ t ∈ o.dst.toList, t < nt := fun t ht => by
              cases hd : o.dst with
              | none => rw [hd] at ht; cases ht
              | some d =>
                rw [hd] at ht hdn
                simp only [Option.toList_some, List.mem_singleton] at ht
                subst ht
                exact Nat.lt_of_succ_le (Nat.le_of_ble_eq_true hdn)
            have hclear : clearOf (befOf bs o.after.toList) (combM f1.n B.r (slotMask (o.looksAt ops))) (combM f1.n B.w (slotMask o.dst.toList)) acc = true := by
              unfold clearOf
              rw [List.all_eq_true]
              intro e he
              rw [Bool.or_eq_true]
              cases hb : (befOf bs o.after.toList).testBit e.j with
              | true => exact .inr rfl
              | false =>
                left
                have hin : ∀ ls dd, (e.j, ls, dd) ∈ sacc → e.j ∈ (sacc.filter fun p => !((befOf bs o.after.toList).testBit p.1)).map (·.1) := fun ls dd x1 => List.mem_map.2 ⟨_, List.mem_filter.2 ⟨x1, by simp only [hb]; rfl⟩, rfl⟩
                rcases hacc e he with ⟨ls, dd, x1, x2⟩ | ⟨ls, dd, E, a, b, lo', hi2, cr, cw, x1, x2, x3, x4, x5, x6, x7⟩
                · exact absurd (hin _ _ x1) (x2 _ List.mem_cons_self)
                have hpur : pureI pu (onlyP (o.looksAt ops) p) i = true := hcase.resolve_right fun h => by have := hin _ _ x1; rw [h.1] at this; cases this
                have k5' := k5 hpur
                have hmem : (e.j, ls, dd) ∈ sacc.filter fun p => !((befOf bs o.after.toList).testBit p.1) := List.mem_filter.2 ⟨x1, by simp only [hb]; rfl⟩
                have hsl := (List.all_eq_true.1 t5) _ hmem
                unfold slotsApart at hsl
                simp only [Bool.and_eq_true, List.all_eq_true, Bool.not_eq_true', List.contains_eq_mem, decide_eq_false_iff_not] at hsl
                have hop : OkPair E a b (effI (onlyP (o.looksAt ops) p) i) := hall _ x2 (List.mem_map.2 ⟨_, hmem, rfl⟩)
                have hap := ent_apart x7 k5' hlt hs.inj hop
                rw [x3, x4, m2.num]
                refine apart_ok (fun x a1 a2 => ?_) (fun x a1 a2 => ?_) (fun x a1 a2 => ?_)
                · rw [comb_bit] at a1 a2
                  rcases a1 with ⟨b1, b2⟩ | b1 <;> rcases a2 with ⟨c1, c2⟩ | c1
                  · exact (hap (x - nt)).1 b2 c2
                  · exact Nat.lt_irrefl _ (Nat.lt_of_lt_of_le (t4' x (slotMask_in c1)) b1)
                  · exact Nat.lt_irrefl _ (Nat.lt_of_lt_of_le (x6 x (slotMask_in b1)) c1)
                  · exact (hsl.1 x (slotMask_in b1)).1 (slotMask_in c1)
                · rw [comb_bit] at a1 a2
                  rcases a1 with ⟨b1, b2⟩ | b1 <;> rcases a2 with ⟨c1, c2⟩ | c1
                  · exact (hap (x - nt)).2.1 b2 c2
                  · exact Nat.lt_irrefl _ (Nat.lt_of_lt_of_le (hdt x (slotMask_in c1)) b1)
                  · exact Nat.lt_irrefl _ (Nat.lt_of_lt_of_le (x6 x (slotMask_in b1)) c1)
                  · exact (hsl.1 x (slotMask_in b1)).2 (slotMask_in c1)
                · rw [comb_bit] at a1 a2
                  rcases a1 with ⟨b1, b2⟩ | b1 <;> rcases a2 with ⟨c1, c2⟩ | c1
                  · exact (hap (x - nt)).2.2 b2 c2
                  · exact Nat.lt_irrefl _ (Nat.lt_of_lt_of_le (x5 x (slotMask_in c1)) b1)
                  · exact Nat.lt_irrefl _ (Nat.lt_of_lt_of_le (hdt x (slotMask_in b1)) c1)
                  · exact hsl.2 x (slotMask_in b1) (slotMask_in c1)
            have hacc' : AccRel nt ((j, o.looksAt ops, o.dst) :: sacc) ((j, effI (onlyP (o.looksAt ops) p) i, s.n, s1.n) :: pacc) β1 s1.n (joinRW A B).next r' (⟨j, combM f1.n B.r (slotMask (o.looksAt ops)), combM f1.n B.w (slotMask o.dst.toList)⟩ :: acc) := by
              intro e he
              rcases List.mem_cons.1 he with rfl | he
              · rcases hcase with hpur | ⟨_, hbar⟩
                case inr => exact .inl ⟨_, _, List.mem_cons_self, hbar⟩
                have k5' := k5 hpur
                refine .inr ⟨o.looksAt ops, o.dst, _, s.n, s1.n, A.next, B.next, B.r, B.w, List.mem_cons_self, List.mem_cons_self, by rw [m2.num], by rw [m2.num], t4', hdt, ?_⟩
                have hr0 : (clearRW A).r = 0 := by rw [clearRW_eq]
                have hw0 : (clearRW A).w = 0 := by rw [clearRW_eq]
                refine ⟨k2.le, Nat.le_refl _, by have := k2.next; omega, by omega, fun c hc => ?_, fun c hc => ?_, fun hca c c1 c2 hc => ?_, fun k hk => ?_, fun k b1 b2 => ⟨?_, ?_⟩, fun k b1 b2 => by omega⟩
                · rcases k5'.r c hc with h | ⟨k, y1, y2, y3⟩ | ⟨y1, y2⟩ | ⟨y1, y2⟩ | ⟨y1, y2⟩
                  · rw [hr0, Nat.zero_testBit] at h; cases h
                  · exact .inl ⟨k, y1, y2, by rw [k2.eq k y2]; exact y3⟩
                  · exact .inr (.inl ⟨y1, by have := y2.1; omega, fun k hk => by rw [k2.eq k hk]; exact y2.2 k hk⟩)
                  · exact .inr (.inr (.inl ⟨by omega, y2⟩))
                  · exact .inr (.inr (.inr ⟨y1, y2⟩))
                · rcases k5'.w c hc with h | ⟨k, y1, y2, y3⟩ | ⟨y1, y2⟩
                  · rw [hw0, Nat.zero_testBit] at h; cases h
                  · exact .inl ⟨k, y1, y2, by rw [k2.eq k y2]; exact y3⟩
                  · exact .inr ⟨by omega, y2⟩
                · obtain ⟨n1, n2⟩ := k5'.new hca c (by omega) c2
                  rcases hc with hc | hc
                  · rcases n1 hc with h | h
                    · rw [hr0, Nat.zero_testBit] at h; cases h
                    · exact h
                  · rcases n2 hc with h | h
                    · rw [hw0, Nat.zero_testBit] at h; cases h
                    · exact h
                · rw [k2.eq k hk]; exact hlt k hk
                · have := k2.new k b1 b2; omega
                · exact (k3.blk k b2).lt
              · rcases hacc e he with ⟨ls, dd, x1, x2⟩ | ⟨ls, dd, E, a, b, lo', hi2, cr, cw, x1, x2, x3, x4, x5, x6, x7⟩
                · exact .inl ⟨ls, dd, List.mem_cons_of_mem _ x1, fun x hx => x2 x (List.mem_cons_of_mem _ hx)⟩
                exact .inr ⟨ls, dd, E, a, b, lo', hi2, cr, cw, List.mem_cons_of_mem _ x1, List.mem_cons_of_mem _ x2, x3, x4, x5, x6, x7.mono k2.eq k2.le (by have := k2.next; omega) (fun k b1 b2 => by have := k2.new k b1 b2; omega)⟩
            have hinvJ : Inv (joinRW A B) := (join_fr k1.fr).inv
            have hfJ : RF ds (joinRW A B) β1 s1.n nt f1 (setG p i.dst g) := m2.hp (by rw [joinRW_eq]) (by rw [joinRW_eq])
            obtain ⟨kp2, X, e1, e2, e3, e4, e7, β', w1, w2, w3⟩ := ih l' r' (j + 1) _ _ _ (⟨j, combM f1.n B.r (slotMask (o.looksAt ops)), combM f1.n B.w (slotMask o.dst.toList)⟩ :: acc) hl' hr' h2 hinvJ (join_rs k3) hfJ hacc'
            obtain ⟨Y, hYj, hY⟩ : ∃ Y : Nat → Stp, Y j = ⟨f, A, gf, B, bs, acc⟩ ∧ ∀ i, Y (j + 1 + i) = X (j + 1 + i) :=
              ⟨fun n => if n = j then ⟨f, A, gf, B, bs, acc⟩ else X n, if_pos rfl, fun i => if_neg (by omega)⟩
            have hlast : Y (j + (o :: lo).length) = X (j + 1 + lo.length) := by rw [List.length_cons, show j + (lo.length + 1) = j + 1 + lo.length by omega, hY]
            refine ⟨kp1.trans kp2, Y, by rw [hYj], by rw [hYj], by rw [hYj], by rw [hYj], fun i' o' hi'' => ?_, β', ?_, ?_, ?_⟩
            · cases i' with
              | zero =>
                simp at hi''
                subst hi''
                have h0 : Y (j + 1) = X (j + 1) := hY 0
                rw [Nat.add_zero]
                refine ⟨⟨?_, ?_, ?_, t1, Nat.lt_of_succ_le (Nat.le_of_ble_eq_true t2), t3, ?_, ?_, ?_⟩, ?_⟩
                · rw [hYj]; exact .inr ⟨k1, k6⟩
                · rw [hYj, h0, e1]; exact m1
                · rw [hYj, h0, e2]
                · rw [hYj, h0, e3]
                · rw [hYj, h0, e4, e1]
                · rw [hYj, h0, e1]; exact hclear
                · rw [hYj]; exact k1
              | succ i' =>
                obtain ⟨hg, hso⟩ := e7 i' o' (by simpa using hi'')
                have h0 := hY i'
                have h1 := hY (i' + 1)
                rw [show j + (i' + 1) = j + 1 + i' by omega]
                obtain ⟨a1, a2, a3, a4, a5, a9, a6, a7, a8⟩ := hg
                rw [show j + 1 + (i' + 1) = j + 1 + i' + 1 by omega] at h1
                refine ⟨⟨?_, ?_, ?_, a4, a5, a9, ?_, ?_, ?_⟩, ?_⟩ <;> simp only [h0, h1] <;> assumption
            · rw [hlast]; exact (join_fw k2).trans w1 kp2.w
            · rw [hlast]; exact w2
            · rw [hlast]; exact w3
          · cases h2
        · cases hr
      · cases hr
    · cases hl
theorem draw_ok (hE : Env P) (hO : OpsOK P) (hm : P.follows .mixedOrders = true) {pu : Nat → Bool} {call : PCallF} (hC : PCallOK P pu call) {ops : Array Oper} {nt : Nat} (id : Nat) {l : List PI} {r : List (List Nat × List Nat)} (hl : compL P nt ops.toList ops.toList = some l) (hr : drawSt nt ops ops.toList 0 .nil [] = some r)
    {f : Fr} {A : AS} {β : Nat → Nat} {p p' : PFr} {s s' : PS} (hi : Inv A) (hs : RS A β s) (hf : RF ds A β s.n nt f p) (h : drawP P pu call (zipD l r) 0 [] p s = some (p', s')) :
    Kp s s' ∧ ∃ f' A' β', CSound P (.region id ops true) f A (xt .normal) f' A' ∧ Fw A A' β β' s.n s'.n s'.w ∧ RS A' β' s' ∧ RF ds A' β' s'.n nt f' p' := by
  obtain ⟨kp, X, e1, e2, e3, e4, e7, β', w1, w2, w3⟩ := draw_trace hE hO hC ops.toList l r 0 .nil [] [] [] hl hr h hi hs hf (fun e he => by cases he)
  simp only [Nat.zero_add, Array.length_toList] at e7 w1 w2 w3
  have W : EvL.Way P (fun _ _ _ => none) ops X := ⟨e3, e4, fun i o ho => (e7 i o (by simpa using ho)).1⟩
  have H : EvL.Path P ops X := ⟨fun i hi => by
    obtain ⟨o, ho⟩ := op_at hi
    exact (e7 i o (by simpa using ho)).2.fr, fun i o ho => (e7 i o (by simpa using ho)).2⟩
  have hc := drawC hm W H (by rw [e2]; exact hi) id
  rw [e1, e2] at hc
  exact ⟨kp, _, _, β', hc, w1, w2, w3⟩
theorem code_ok (hE : Env P) (hO : OpsOK P) (hm : P.follows .mixedOrders = true) {pu : Nat → Bool} {call : PCallF} (hC : PCallOK P pu call) {L nt : Nat} : ∀ (c : Code) (pc : PCode), comp P nt c = some pc → CodeOK P nt c (codeP P pu call L pc) := by
  intro c
  induction c with
  | skip =>
    intro pc h ds A β f p p' s s' x hi hs hf hr
    simp only [comp] at h
    injection h with h; subst h
    simp only [codeP] at hr
    injection hr with hr; injection hr with e1 e2; injection e2 with e2 e3; subst e1; subst e2; subst e3
    exact ⟨.refl s, f, A, β, csound_same hi fun φ a w Q hQ => wp_skip (hQ _ .normal), .refl A β s.n _, hs, hf⟩
  | region id ops draw =>
    intro pc h ds A β f p p' s s' x hi hs hf hr
    cases draw with
    | true =>
      simp only [comp] at h
      split at h
      · rename_i l r h1 h2
        injection h with h; subst h
        simp only [codeP, Option.map_eq_some_iff] at hr
        obtain ⟨⟨p1, s1⟩, h3, he⟩ := hr
        injection he with e1 e2; injection e2 with e2 e3; subst e1; subst e2; subst e3
        exact draw_ok hE hO hm hC id h1 h2 hi hs hf h3
      · cases h
    | false =>
      simp only [comp, Option.map_eq_some_iff] at h
      obtain ⟨r, h1, rfl⟩ := h
      simp only [codeP, Option.map_eq_some_iff] at hr
      obtain ⟨⟨p1, s1⟩, h2, he⟩ := hr
      injection he with e1 e2; injection e2 with e2 e3; subst e1; subst e2; subst e3
      obtain ⟨kp, f', A', β', k1, k2⟩ := ops_ok hE hO hC _ _ h1 hi hs hf h2
      exact ⟨kp, f', A', β', ⟨k1.fr, fun φ T w a hf hr hT hfr Q hQ => wp_region_list (k1.run φ T w a hf hr hT hfr Q hQ)⟩, k2⟩
  | seq a b iha ihb =>
    intro pc h
    simp only [comp] at h
    split at h
    · rename_i pa pb ha hb
      injection h with h; subst h
      exact seq_ok (iha pa ha) (ihb pb hb)
    · cases h
  | cond o a b iha ihb =>
    intro pc h
    simp only [comp] at h
    split at h
    · rename_i pa pb ho ha hb
      injection h with h; subst h
      exact cond_ok ho (iha pa ha) (ihb pb hb)
    · cases h
  | block id b ih =>
    intro pc h
    simp only [comp, Option.map_eq_some_iff] at h
    obtain ⟨pb, hb, rfl⟩ := h
    exact block_ok (ih pb hb)
  | loop b ih =>
    intro pc h ds A β f p p' s s' x hi hs hf hr
    simp only [comp, Option.map_eq_some_iff] at h
    obtain ⟨pb, hb, rfl⟩ := h
    simp only [codeP] at hr
    obtain ⟨kp, f', A', β', ⟨k0, k1⟩, k2⟩ := loop_ok (ih pb hb) L hi hs hf hr
    exact ⟨kp, f', A', β', ⟨k0, fun φ T w a hf hr hT hfr Q hQ => wp_loop_rounds L (k1 φ T w a hf hr hT hfr Q hQ)⟩, k2⟩
  | exit id =>
    intro pc h ds A β f p p' s s' x hi hs hf hr
    simp only [comp] at h
    injection h with h; subst h
    simp only [codeP] at hr
    injection hr with hr; injection hr with e1 e2; injection e2 with e2 e3; subst e1; subst e2; subst e3
    exact ⟨.refl s, f, A, β, csound_same hi fun φ a w Q hQ => wp_exit (hQ _ (.exit id)), .refl A β s.n _, hs, hf⟩
  | ret =>
    intro pc h ds A β f p p' s s' x hi hs hf hr
    simp only [comp] at h
    injection h with h; subst h
    simp only [codeP] at hr
    injection hr with hr; injection hr with e1 e2; injection e2 with e2 e3; subst e1; subst e2; subst e3
    exact ⟨.refl s, f, A, β, csound_same hi fun φ a w Q hQ => wp_ret (hQ _ .ret), .refl A β s.n _, hs, hf⟩
  | _ =>
    intro pc h ds A β f p p' s s' x hi hs hf hr
    simp only [comp] at h
    injection h with h; subst h
    simp only [codeP] at hr
    cases hr
end
end Go.PE
namespace Go.PE
open Go Go.EvL
section
variable {ds : List Deferred} {P : Program}
theorem initP_at : ∀ (l : List PV) (i j : Nat), initP l i j = if i ≤ j ∧ j < i + l.length then l.getD (j - i) (.sc undef) else .sc undef := by
  intro l
  induction l with
  | nil => intro i j; rw [if_neg (by simp)]; rfl
  | cons v l ih =>
    intro i j
    show (if j = i then v else initP l (i + 1) j) = _
    simp only [List.length_cons]
    by_cases hj : j = i
    · subst hj
      rw [if_pos rfl, if_pos (by omega), Nat.sub_self]
      rfl
    · rw [if_neg hj, ih]
      by_cases h1 : i + 1 ≤ j ∧ j < i + 1 + l.length
      · rw [if_pos h1, if_pos (by omega), show j - i = (j - (i + 1)) + 1 by omega]
        rfl
      · rw [if_neg h1, if_neg (by omega)]
theorem init_ok {A : AS} {β : Nat → Nat} {n : Nat} {fn : Func} {vs : List Value} {args : List PV} (h : Rs A β n vs args) (h1 : fn.ntmps ≤ 1000000) (h2 : args.length ≤ fn.ntmps) : RF [] A β n fn.ntmps (initFr fn vs.toArray) (initP args 0) := by
  refine ⟨rfl, h1, rfl, fun j => ?_⟩
  have hl := h.len
  show R1 A β n (((setAll vs.toArray.toList 0 .nil).get j).getD undef) _
  rw [setAll_get _ _ _ (by simp; omega), initP_at]
  simp only [List.toList_toArray, Nat.zero_le, true_and, Nat.zero_add, Nat.sub_zero]
  by_cases hj : j < vs.length
  · rw [if_pos hj, if_pos (by omega)]
    have hr : args[j]? = some (args[j]'(by omega)) := List.getElem?_eq_getElem (by omega)
    obtain ⟨u, k1, k2⟩ := h.get hr
    rw [k1, Option.getD_some, List.getD_eq_getElem?_getD, hr, Option.getD_some]
    exact k2
  · rw [if_neg hj, if_neg (by omega), Tr.get_nil]
    exact .cl _ _ (.sc _ rfl)
theorem RC.cut {A : AS} {β : Nat → Nat} {n m : Nat} (hm : m ≤ n) {x : Value × PV ⊕ List Value × List PV} (h : RC A β n x) : RC A β m x := by
  have hp : ∀ c, Prot A β n c → Prot A β m c := fun c hc => ⟨hc.1, fun k hk => hc.2 k (Nat.lt_of_lt_of_le hk hm)⟩
  induction h with
  | sc v h => exact .sc v h
  | fn g => exact .fn g
  | lit b off m' cap e cs cells c st hg hpr hl hm' _ ih => exact .lit b off m' cap e cs cells c st hg (hp _ hpr) hl hm' ih
  | litp b off e cs cells c st hg hpr hl _ ih => exact .litp b off e cs cells c st hg (hp _ hpr) hl ih
  | litx b off m' e cs cells c st hg hpr hl _ ih => exact .litx b off m' e cs cells c st hg (hp _ hpr) hl ih
  | agg xs cs _ ih => exact .agg xs cs ih
  | nil => exact .nil
  | cons v p l r _ _ ih ihs => exact .cons v p l r ih ihs
/-- what stood for a value without the later blocks does so still -/
theorem RV.cut {A A₀ : AS} {β β₀ : Nat → Nat} {n m : Nat} (hm : m ≤ n) {x : Value × PV ⊕ List Value × List PV} (h : RV A β n x) :
    (∀ v p, x = .inl (v, p) → (∃ u, R1 A₀ β₀ m u p) → R1 A β m v p) ∧ (∀ l r, x = .inr (l, r) → (∃ us, Rs A₀ β₀ m us r) → Rs A β m l r) := by
  induction h with
  | cl v p h => exact ⟨fun v' p' e _ => by injection e with e; injection e with e1 e2; subst e1; subst e2; exact .cl _ _ (h.cut hm), fun l r e => by cases e⟩
  | fn g xs ys as bs _ _ ih ih' =>
    refine ⟨fun v' p' e hu => ?_, fun l r e => by cases e⟩
    injection e with e; injection e with e1 e2; subst e1; subst e2
    obtain ⟨u, hu⟩ := hu
    have key : (∃ us, Rs A₀ β₀ m us as) ∧ ∃ us, Rs A₀ β₀ m us bs := by
      cases hu with
      | cl _ _ h => cases h; exact ⟨⟨[], .nil⟩, ⟨[], .nil⟩⟩
      | fn _ xs' ys' _ _ h h' => exact ⟨⟨_, h⟩, ⟨_, h'⟩⟩
    exact .fn g xs ys as bs (ih.2 _ _ rfl key.1) (ih'.2 _ _ rfl key.2)
  | agg xs cs _ ih =>
    refine ⟨fun v' p' e hu => ?_, fun l r e => by cases e⟩
    injection e with e; injection e with e1 e2; subst e1; subst e2
    obtain ⟨u, hu⟩ := hu
    have key : ∃ us, Rs A₀ β₀ m us cs := by
      cases hu with
      | cl _ _ h => cases h with | agg xs _ h => exact ⟨_, Cs.up h⟩
      | agg xs _ h => exact ⟨_, h⟩
    exact .agg xs cs (ih.2 _ _ rfl key)
  | tup xs cs _ ih =>
    refine ⟨fun v' p' e hu => ?_, fun l r e => by cases e⟩
    injection e with e; injection e with e1 e2; subst e1; subst e2
    obtain ⟨u, hu⟩ := hu
    have key : ∃ us, Rs A₀ β₀ m us cs := by
      cases hu with
      | cl _ _ h => cases h
      | tup xs _ h => exact ⟨_, h⟩
    exact .tup xs cs (ih.2 _ _ rfl key)
  | own b o k off m' fin cap e cells st ok hk hg ho hf hm' =>
    refine ⟨fun v' p' e hu => ?_, fun l r e => by cases e⟩
    injection e with e; injection e with e1 e2; subst e1; subst e2
    obtain ⟨u, hu⟩ := hu
    have hkm : k < m := by
      cases hu with
      | cl _ _ h => cases h
      | own _ _ _ _ _ _ _ _ _ _ _ hk' => exact hk'
    exact .own b o k off m' fin cap _ cells st ok hkm hg ho hf hm'
  | ptr b o k off fin e cells st ok hk hg ho hf =>
    refine ⟨fun v' p' e hu => ?_, fun l r e => by cases e⟩
    injection e with e; injection e with e1 e2; subst e1; subst e2
    obtain ⟨u, hu⟩ := hu
    have hkm : k < m := by
      cases hu with
      | cl _ _ h => cases h
      | ptr _ _ _ _ _ _ _ _ _ hk' => exact hk'
    exact .ptr b o k off fin _ cells st ok hkm hg ho hf
  | ownx b o k off m' fin e cells st ok hk hg ho hf =>
    refine ⟨fun v' p' e hu => ?_, fun l r e => by cases e⟩
    injection e with e; injection e with e1 e2; subst e1; subst e2
    obtain ⟨u, hu⟩ := hu
    have hkm : k < m := by
      cases hu with
      | cl _ _ h => cases h
      | ownx _ _ _ _ _ _ _ _ _ _ hk' => exact hk'
    exact .ownx b o k off m' fin _ cells st ok hkm hg ho hf
  | nil => exact ⟨fun v p e => (by cases e), fun l r e _ => by injection e with e; injection e with e1 e2; subst e1; subst e2; exact .nil⟩
  | cons v p l r _ _ ih ihs =>
    refine ⟨fun v' p' e => (by cases e), fun l' r' e hu => ?_⟩
    injection e with e; injection e with e1 e2; subst e1; subst e2
    obtain ⟨us, hu⟩ := hu
    cases hu with
    | cons u _ us _ h hs => exact .cons _ _ _ _ (ih.1 _ _ rfl ⟨_, h⟩) (ihs.2 _ _ rfl ⟨_, hs⟩)
def Same (s s' : PS) : Prop := ∀ k, k < s.n → s'.h k = s.h k
theorem RS.cut {A A₀ : AS} {β β₀ : Nat → Nat} {s s' : PS} (h : RS A β s') (h0 : RS A₀ β₀ s) (hn : s.n ≤ s'.n) (he : Same s s') : RS A β s := by
  refine ⟨fun k hk => ?_, fun j k hj hk e => h.inj j k (by omega) (by omega) e, fun x hx => ⟨(h.lay x hx).1, ⟨(h.lay x hx).2.1.1, fun k hk => (h.lay x hx).2.1.2 k (by omega)⟩, (h.lay x hx).2.2⟩⟩
  have hb := h.blk k (by omega)
  rw [he k hk] at hb
  refine ⟨hb.cur, fun x cells e st ok hg => ?_, hb.uni, hb.low, hb.fz, hb.lt, hb.z⟩
  obtain ⟨h1, h2, h3⟩ := hb.all x cells e st ok hg
  refine ⟨h1, h2, fun hl => ⟨(h3 hl).1, ((h3 hl).2.cut (A₀ := A₀) (β₀ := β₀) hn).2 _ _ rfl ?_⟩⟩
  have hlow : (s.h k).low ≤ (s.h k).cells.length := by omega
  obtain ⟨x0, cells0, st0, g1, g2⟩ := (h0.blk k hk).cur hlow
  have hz := (h0.blk k hk).z _ _ _ _ _ g1
  subst hz
  obtain ⟨_, _, g3⟩ := (h0.blk k hk).all _ _ _ _ _ g1
  have h4 := (g3 (by omega)).2
  rw [List.drop_zero, List.take_of_length_le (by omega)] at h4
  exact ⟨_, (h4.drop st).take cells.length⟩
theorem clean_ok {A : AS} {β : Nat → Nat} {n : Nat} {v : Value} {p : PV} (h : R1 A β n v p) (hc : clean1 p = true) : C1 A β n v p := by
  cases h with
  | cl _ _ h => exact h
  | fn g xs ys as bs h h' =>
    simp only [clean1, Bool.and_eq_true, List.isEmpty_iff] at hc
    obtain ⟨rfl, rfl⟩ := hc
    have e1 : xs = #[] := by generalize hx : xs.toList = l at h; cases h; cases xs; simp only at hx; rw [hx]
    have e2 : ys = #[] := by generalize hx : ys.toList = l at h'; cases h'; cases ys; simp only at hx; rw [hx]
    subst e1; subst e2
    exact .fn g
  | agg => cases hc
  | tup => cases hc
  | own => cases hc
  | ptr => cases hc
  | ownx => cases hc
theorem cleans_ok {A : AS} {β : Nat → Nat} {n : Nat} {l : List Value} {r : List PV} (h : Rs A β n l r) (hc : r.all clean1 = true) : Cs A β n l r := by
  induction r generalizing l with
  | nil => cases h; exact .nil
  | cons p r ih =>
    rw [List.all_cons, Bool.and_eq_true] at hc
    cases h with
    | cons v _ l _ h hs => exact .cons _ _ _ _ (clean_ok h hc.1) (ih hs hc.2)
theorem frz1_ok {A : AS} {β : Nat → Nat} {m : Nat} {s : PS} (hs : RS A β s) (hm : m ≤ s.n) {v : Value} {p p' : PV} (h : R1 A β s.n v p) (hf : frz1 m s p = some p') : R1 A β m v p' := by
  have hcl : ∀ {v p}, R1 A β s.n v p → clean1 p = true → R1 A β m v p := fun h hc => .cl _ _ ((clean_ok h hc).cut hm)
  unfold frz1 at hf
  split at hf
  · rename_i k off n fin
    split at hf
    · rename_i hk
      injection hf with hf; subst hf
      cases h with
      | cl _ _ h => cases h
      | own b o _ _ _ _ cap e cells st ok hk' hg ho hf hm' => exact .own b o k off n fin cap e cells st ok hk hg ho hf hm'
    · rename_i hk
      split at hf
      · rename_i hc
        injection hf with hf; subst hf
        obtain ⟨c1, c2, c3, c4⟩ := hc
        cases h with
        | cl _ _ h => cases h
        | own b o _ _ _ _ cap e cells st ok hk' hg ho hf hm' =>
          have hb := hs.blk k hk'
          obtain ⟨g1, g2, g3⟩ := hb.all _ _ _ _ _ hg
          obtain ⟨rfl, hr⟩ := g3 (by omega)
          have hlen : ((((s.h k).cells.drop off).take (fin - off))).length = fin - off := by rw [List.length_take, List.length_drop]; omega
          refine .cl _ _ ?_
          rw [← g1]
          refine .lit b o n cap e _ cells (β k) st hg ⟨hb.lt, fun j hj => fun he => ?_⟩ (by rw [hlen]; omega) hm' ?_
          · have := hs.inj j k (by omega) hk' he; omega
          · rw [hlen]
            have h1 := (hr.drop o).take (fin - off)
            rw [List.drop_take, List.take_take, List.drop_drop, ho, Nat.min_eq_left (by omega)] at h1
            exact (cleans_ok h1 c4).cut hm
      · cases hf
  · rename_i k off fin
    split at hf
    · rename_i hk
      injection hf with hf; subst hf
      cases h with
      | cl _ _ h => cases h
      | ptr b o _ _ _ e cells st ok hk' hg ho hf => exact .ptr b o k off fin e cells st ok hk hg ho hf
    · cases hf
  · rename_i k off m' fin
    split at hf
    · rename_i hk
      injection hf with hf; subst hf
      cases h with
      | cl _ _ h => cases h
      | ownx b o _ _ _ _ e cells st ok hk' hg ho hf => exact .ownx b o k off m' fin e cells st ok hk hg ho hf
    · cases hf
  · injection hf with hf; subst hf; exact hcl h rfl
  · injection hf with hf; subst hf; exact hcl h rfl
  · injection hf with hf; subst hf; exact hcl h rfl
  · injection hf with hf; subst hf; exact hcl h rfl
  · injection hf with hf; subst hf; exact hcl h rfl
  · cases hf
theorem frzL_ok {A : AS} {β : Nat → Nat} {m : Nat} {s : PS} (hs : RS A β s) (hm : m ≤ s.n) : ∀ {l : List Value} {r r' : List PV}, Rs A β s.n l r → frzL m s r = some r' → Rs A β m l r' := by
  intro l r
  induction r generalizing l with
  | nil => intro r' h hf; cases h; simp only [frzL] at hf; injection hf with hf; subst hf; exact .nil
  | cons p r ih =>
    intro r' h hf
    simp only [frzL, Option.bind_eq_some_iff, Option.map_eq_some_iff] at hf
    obtain ⟨p', h1, r1, h2, rfl⟩ := hf
    cases h with
    | cons v _ l _ h hn => exact .cons _ _ _ _ (frz1_ok hs hm h h1) (ih hn h2)
theorem frz2_ok {A : AS} {β : Nat → Nat} {m : Nat} {s : PS} (hs : RS A β s) (hm : m ≤ s.n) {v : Value} {p p' : PV} (h : R1 A β s.n v p) (hf : frz2 m s p = some p') : R1 A β m v p' := by
  unfold frz2 at hf
  split at hf
  · rename_i cs
    simp only [Option.map_eq_some_iff] at hf
    obtain ⟨r, h1, rfl⟩ := hf
    cases h with
    | cl _ _ h => cases h with | agg xs _ h => exact .agg xs _ (frzL_ok hs hm (Cs.up h) h1)
    | agg xs _ h => exact .agg xs _ (frzL_ok hs hm h h1)
  · exact frz1_ok hs hm h hf
theorem frzT_ok {A : AS} {β : Nat → Nat} {m : Nat} {s : PS} (hs : RS A β s) (hm : m ≤ s.n) : ∀ {l : List Value} {r r' : List PV}, Rs A β s.n l r → frzT m s r = some r' → Rs A β m l r' := by
  intro l r
  induction r generalizing l with
  | nil => intro r' h hf; cases h; simp only [frzT] at hf; injection hf with hf; subst hf; exact .nil
  | cons p r ih =>
    intro r' h hf
    simp only [frzT, Option.bind_eq_some_iff, Option.map_eq_some_iff] at hf
    obtain ⟨p', h1, r1, h2, rfl⟩ := hf
    cases h with
    | cons v _ l _ h hn => exact .cons _ _ _ _ (frz2_ok hs hm h h1) (ih hn h2)
theorem frz_ok {A : AS} {β : Nat → Nat} {m : Nat} {s : PS} (hs : RS A β s) (hm : m ≤ s.n) {v : Value} {p p' : PV} (h : R1 A β s.n v p) (hf : frz m s p = some p') : R1 A β m v p' := by
  unfold frz at hf
  split at hf
  · rename_i cs
    simp only [Option.map_eq_some_iff] at hf
    obtain ⟨r, h1, rfl⟩ := hf
    cases h with
    | cl _ _ h => cases h
    | tup xs _ h => exact .tup xs _ (frzT_ok hs hm h h1)
  · exact frz2_ok hs hm h hf
/-- the results -/
theorem res_ok {A : AS} {β : Nat → Nat} {s : PS} {nt : Nat} {f : Fr} {p : PFr} (hi : Inv A) (hs : RS A β s) (hf : RF ds A β s.n nt f p) : ∀ (l : List ResultVar) (l' : List PRes) (vs : List PV), l.mapM (compRes P) = some l' → resP p s l' = some vs →
    ∃ us A', resultsA P f l A = some (us, A') ∧ A'.heap = A.heap ∧ A'.next = A.next ∧ A'.w = A.w ∧ A'.fz = A.fz ∧ Rs A β s.n us vs := by
  intro l
  induction l generalizing A with
  | nil =>
    intro l' vs h1 h2
    simp only [List.mapM_nil] at h1
    injection h1 with h1; subst h1
    simp only [resP] at h2
    injection h2 with h2; subst h2
    exact ⟨[], A, rfl, rfl, rfl, rfl, rfl, .nil⟩
  | cons rv l ih =>
    intro l' vs h1 h2
    simp only [List.mapM_cons, Option.bind_eq_bind, Option.bind_eq_some_iff, Option.pure_def, Option.some.injEq] at h1
    obtain ⟨r, hr, l1, hl1, rfl⟩ := h1
    cases rv with
    | tmp t =>
      simp only [compRes] at hr
      injection hr with hr; subst hr
      simp only [resP, Option.map_eq_some_iff] at h2
      obtain ⟨vs', hv, rfl⟩ := h2
      obtain ⟨us, A', k1, k2, k3, k4, k5, k6⟩ := ih hi hs hf l1 vs' hl1 hv
      refine ⟨(f.tmps.get t).getD undef :: us, A', ?_, k2, k3, k4, k5, .cons _ _ _ _ (hf.tmp t) k6⟩
      rw [resultsA_cons]
      simp only [k1]
    | cell a t =>
      have hcr : ∃ dd ag sz, P.underlying t = some dd ∧ isAggD (some dd) = ag ∧ (if ag then szOf P t = some sz else sz = 1) ∧ r = .cell a ag sz := by
        simp only [compRes] at hr
        split at hr
        · rename_i dd hd
          split at hr
          · rename_i hag
            split at hr
            · rename_i n hn
              injection hr with hr
              exact ⟨dd, true, n, hd, hag, by simpa using hn, hr.symm⟩
            · cases hr
          · rename_i hag
            injection hr with hr
            exact ⟨dd, false, 1, hd, by simpa using hag, by simp, hr.symm⟩
        · cases hr
      obtain ⟨dd, ag, sz, hd, hag, hsz, rfl⟩ := hcr
      simp only [resP, Option.bind_eq_some_iff, Option.map_eq_some_iff] at h2
      obtain ⟨cs, hcs, v, hv, vs', hvs, rfl⟩ := h2
      obtain ⟨b, o, xs, c, e1, hl, hrs, _, _⟩ := ldP_ok hs (hf.tmp a) hcs
      obtain ⟨u, m1, m2⟩ := loadIn_ok (P := P) hag hsz hl hrs hv
      have hget : f.tmps.get a = some (.pointer (some ⟨b, o, none⟩)) := by
        cases hg : f.tmps.get a with
        | none => rw [hg] at e1; cases e1
        | some z => rw [hg] at e1; exact congrArg some e1
      have hw : Fw A (logR A c) β β s.n s.n 0 := by rw [logR_eq]; exact .heap β s.n rfl rfl rfl
      have hs' : RS (logR A c) β s := by rw [logR_eq]; exact hs.same rfl rfl rfl rfl
      have hi' : Inv (logR A c) := by rw [logR_eq]; exact ⟨hi.lt, hi.mem, hi.memc, hi.root, hi.ml, hi.old, hi.fz⟩
      obtain ⟨us, A', k1, k2, k3, k4, k5, k6⟩ := ih hi' hs' (hf.mono hw) l1 vs' hl1 hvs
      have hback : Rs A β s.n us vs' := k6.mono (lo := 0) (by rw [logR_eq]; exact .heap β s.n rfl rfl rfl)
      refine ⟨u :: us, A', ?_, ?_, ?_, ?_, ?_, .cons _ _ _ _ m2 hback⟩
      · rw [resultsA_cons]
        have : resCell P (f.tmps.get a) t A = some (u, logR A c) := by
          unfold resCell
          rw [hget]
          show (match (match P.underlying t with | some d => loadIn P t d b o A | none => none) with | some (.val v, s) => some (v, s) | _ => none) = _
          rw [hd]
          simp only [m1]
        simp only [this, k1]
      · rw [k2, logR_eq]
      · rw [k3, logR_eq]
      · rw [k4, logR_eq]
      · rw [k5, logR_eq]
end
end Go.PE
