/- What functions of the program and of the reference compute, on values. No statement is proved here. -/
import Derived.Test.YtflfflfodghgpaaGreatDoorTxB
import Derived.Test.YtflfflfodghgpaaGreatDoorTxA
import Derived.Test.YtflfflfodghgpaaGreatDoorEvD
set_option linter.unusedSimpArgs false
set_option linter.unusedVariables false
set_option linter.unusedSimpArgs false
namespace Go.Proofs.YtflfflfodghgpaaGreatDoor
open Go Go.EvL Go.PE Go.Mir
variable {ext : PCallF}
def PX (z : Option ZR) (v : PV) (Q : PS → Prop) : Prop := ∃ s, z = some (.ok v s) ∧ Q s
theorem PX.mk' {v : PV} {s : PS} {Q : PS → Prop} (q : Q s) : PX (some (.ok v s)) v Q := ⟨s, rfl, q⟩
section
variable {F : ZC → Option ZR} {v : PV} {Q Q' : PS → Prop}
theorem zK_px {g : Nat} {fn : PFn} {args : List PV} {s : PS} {B : PCode} (res : List Nat) (h : Γ g = some fn) (hr : fn.res = res.map .tmp) (hk : fn.keep = true) (hl : Nat.ble args.length fn.nt = true) (hb : fn.body = B)
    (hR : PX (zr Tryz.prog Γ ext (ZK res s) B (initP args 0) ⟨s.h, s.n, s.n⟩ []) v Q) : PX (zcall Tryz.prog Γ ext g args s) v Q := by
  rw [z_enter fn h args s (Nat.le_of_ble_eq_true hl), ZK_eq hr hk, hb]; exact hR
theorem ra_px {z : Option ZR} {v' : PV} {d : Option Nat} {f : PFr} {l : List PI} {k : List KI} (h : PX z v' Q') (hR : ∀ s, Q' s → PX (ra Tryz.prog Γ ext F (some (.ok v' s)) d f l k) v Q) : PX (ra Tryz.prog Γ ext F z d f l k) v Q := by
  obtain ⟨s, rfl, hq⟩ := h
  exact hR s hq
theorem zda_px {z : Option ZR} {v' : PV} {b pu : Bool} {d : Option Nat} {o : POp} {E : Eff} {un : List Nat} {l : List (PI × List Nat × List Nat)} {j : Nat} {acc : List (Nat × Eff × Nat × Nat)} {f : PFr} {s0 : PS} {k : List KI} (h : PX z v' Q') (hR : ∀ s, Q' s → PX (zda Tryz.prog Γ ext F (some (.ok v' s)) b d o E pu un l j acc f s0 k) v Q) : PX (zda Tryz.prog Γ ext F z b d o E pu un l j acc f s0 k) v Q := by
  obtain ⟨s, rfl, hq⟩ := h
  exact hR s hq
def PY (z : Option ZR) (Q : PV → PS → Prop) : Prop := ∃ v s, z = some (.ok v s) ∧ Q v s
theorem PY.mk' {v : PV} {s : PS} {Q : PV → PS → Prop} (q : Q v s) : PY (some (.ok v s)) Q := ⟨v, s, rfl, q⟩
theorem zK_py {Q : PV → PS → Prop} {g : Nat} {fn : PFn} {args : List PV} {s : PS} {B : PCode} (res : List Nat) (h : Γ g = some fn) (hr : fn.res = res.map .tmp) (hk : fn.keep = true) (hl : Nat.ble args.length fn.nt = true) (hb : fn.body = B)
    (hR : PY (zr Tryz.prog Γ ext (ZK res s) B (initP args 0) ⟨s.h, s.n, s.n⟩ []) Q) : PY (zcall Tryz.prog Γ ext g args s) Q := by
  rw [z_enter fn h args s (Nat.le_of_ble_eq_true hl), ZK_eq hr hk, hb]; exact hR
theorem zW_py {Q : PV → PS → Prop} {g : Nat} {fn : PFn} {args : List PV} {s : PS} {B : PCode} (res : List PRes) (h : Γ g = some fn) (hr : fn.res = res) (hk : fn.keep = true) (hl : Nat.ble args.length fn.nt = true) (hb : fn.body = B)
    (hR : PY (zr Tryz.prog Γ ext (ZW res s) B (initP args 0) ⟨s.h, s.n, s.n⟩ []) Q) : PY (zcall Tryz.prog Γ ext g args s) Q := by
  rw [z_enter fn h args s (Nat.le_of_ble_eq_true hl), ZW_eq hr hk, hb]; exact hR
theorem ra_py {Q : PV → PS → Prop} {z : Option ZR} {v' : PV} {d : Option Nat} {f : PFr} {l : List PI} {k : List KI} (h : PX z v' Q') (hR : ∀ s, Q' s → PY (ra Tryz.prog Γ ext F (some (.ok v' s)) d f l k) Q) : PY (ra Tryz.prog Γ ext F z d f l k) Q := by
  obtain ⟨s, rfl, hq⟩ := h
  exact hR s hq
theorem ra_y {Q : PV → PS → Prop} {z : Option ZR} {d : Option Nat} {f : PFr} {l : List PI} {k : List KI} {R : Option ZR} (h : PY z Q) (hR : ∀ v s, Q v s → ra Tryz.prog Γ ext F (some (.ok v s)) d f l k = R) : ra Tryz.prog Γ ext F z d f l k = R := by
  obtain ⟨v, s, rfl, hq⟩ := h
  exact hR v s hq
theorem loop_u {b B : PCode} (hb : b = B) (f : PFr) (s : PS) (k : List KI) : zr Tryz.prog Γ ext F (.loop b) f s k = zr Tryz.prog Γ ext F B f s (.s (.loop b) :: k) := by
  rw [loop_1]; subst hb; rfl
theorem rl_u {id : Nat} {b B r : PCode} (hb : b = B) (f : PFr) (s : PS) (k : List KI) : rl Tryz.prog Γ ext (F) id b r f s k = zr Tryz.prog Γ ext F B f s (lk id b r k) := by
  rw [rl_step]; subst hb; rfl
end
theorem ra_x {F : ZC → Option ZR} {z : Option ZR} {v' : PV} {Q' : PS → Prop} {d : Option Nat} {f : PFr} {l : List PI} {k : List KI} {R : Option ZR} (h : PX z v' Q') (hR : ∀ s, Q' s → ra Tryz.prog Γ ext F (some (.ok v' s)) d f l k = R) : ra Tryz.prog Γ ext F z d f l k = R := by
  obtain ⟨s, rfl, hq⟩ := h
  exact hR s hq
theorem fo277 : fromOk Tryz.prog 277 232 0 1 3 = true := by kernel_rfl
/-- the writer at k has got the byte -/
structure Wr (k : Nat) (s s' : PS) : Prop where
  n : s.n ≤ s'.n
  at' : ∃ j, s.n ≤ j ∧ j < s'.n ∧ s'.h k = ⟨[.ptr k 0 3, .own j 0 1 1, ff], 3, 277⟩ ∧ s'.h j = ⟨[cv 97], 0, 5⟩
  fr : ∀ i, i < s.n → i ≠ k → s'.h i = s.h i
  w : ∀ n0, n0 ≤ k → n0 ≤ s.n → n0 ≤ s.w → n0 ≤ s'.w
theorem Wr.out {k w : Nat} {s s' : PS} (h : Wr k s s') (hw : ∀ n0, n0 ≤ k → n0 ≤ s.n → n0 ≤ s.w → n0 ≤ w) : Wr k s ⟨s'.h, s'.n, w⟩ := ⟨h.n, h.at', h.fr, hw⟩
/-- at the end of a call: from what the body did -/
theorem Wr.fin {k : Nat} {s t s1 : PS} (h : Wr k t s1) (hkn : k < s.n) (hn : s.n ≤ t.n) (hh : ∀ i, i < s.n → i ≠ k → t.h i = s.h i) (hw : ∀ n0, n0 ≤ k → n0 ≤ s.n → n0 ≤ t.w) : Wr k s ⟨s1.h, s1.n, min s.w s1.w⟩ where
  n := Nat.le_trans hn h.n
  at' := by
    obtain ⟨j, h1, h2, h3, h4⟩ := h.at'
    exact ⟨j, by omega, h2, h3, h4⟩
  fr := fun i hi hk => (h.fr i (by omega) hk).trans (hh i hi hk)
  w := fun n0 h1 h2 h3 => Nat.le_min.2 ⟨h3, h.w n0 h1 (by omega) (hw n0 h1 h2)⟩
section
variable {k : Nat} {s : PS} (hk : s.h k = ⟨[.sc (.pointer none), nv, ff], 0, 277⟩) (hkn : k < s.n)
include hk hkn
theorem a281 : zcall Tryz.prog Γ ext 281 [.ptr k 0 3] s = some (.ok (.tup []) ⟨(s.put k ⟨[.ptr k 0 3, nv, ff], 3, 277⟩).h, s.n, min s.w (min s.n k)⟩) := by
  have hf := fo277
  have _ := hkn
  refine zK_case (fn := p281) [] rfl rfl rfl rfl (by unfold p281; rfl) ?_; intro R hR
  simp -implicitDefEqProofs (maxSteps := 3000000) (disch := first | assumption | (apply Ar.mk; omega) | (apply Ar.mk; decide) | (apply Ar.mk; simp only [List.length_append, List.length_cons, List.length_nil, true_and, and_true]; omega)) only [ZN, ↓dt, ↓df, und_e, Nat.reduceEqDiff, ↓reduceIte, Nat.reduceAdd, Nat.reduceLeDiff, Nat.reduceLT, Nat.reduceBEq, reduceCtorEq, pval_tmp, fillP, oneRes, frz, frz2, frzT, ofCells, ZM, slV, Nat.reduceMul, Nat.reduceSub, frzT, pk_dt, pk_df, ↓gk_t, ↓gk_f, ZU, hk, hf]
  exact hR.symm
theorem a296 : PX (zcall Tryz.prog Γ ext 296 [.ptr k 0 3, cv 97] s) (.sc .nilIface) (Wr k s) := by
  have h1 : zcall Tryz.prog Γ ext 281 [.ptr k 0 3] ⟨s.h, s.n, s.n⟩ = _ := a281 (s := ⟨s.h, s.n, s.n⟩) hk hkn
  refine zK_px (fn := p296) [4] rfl rfl rfl rfl (by unfold p296; rfl) ?_
  simp -implicitDefEqProofs (maxSteps := 3000000) (disch := first | assumption | (apply Ar.mk; omega) | (apply Ar.mk; simp only [List.length_append, List.length_cons, List.length_nil, true_and, and_true]; omega)) only [ZN, ↓dt, ↓df, und_e, Nat.reduceEqDiff, ↓reduceIte, Nat.reduceAdd, Nat.reduceLeDiff, Nat.reduceLT, Nat.reduceBEq, reduceCtorEq, pval_tmp, fillP, oneRes, frz, frz2, frzT, ofCells, ZM, slV, Nat.reduceMul, Nat.reduceSub, frzT, pk_dt, pk_df, ↓gk_t, ↓gk_f, ZU, hk, h1]
  refine PX.mk' ⟨?_, ⟨s.n + 1, ?_, ?_, ?_, ?_⟩, fun i h1 h2 => ?_, fun n0 h1 h2 h3 => ?_⟩
  · (simp only [new_n, put_n]; omega)
  · omega
  · (simp only [new_n, put_n]; omega)
  · simp -implicitDefEqProofs (disch := (apply Ar.mk; (try simp only [new_n, put_n]); omega)) only [new_h', put_h', new_n, put_n, hn_ne, hn_eq]
  · simp -implicitDefEqProofs (disch := (apply Ar.mk; (try simp only [new_n, put_n]); omega)) only [new_h', put_h', new_n, put_n, hn_ne, hn_eq]
  · simp -implicitDefEqProofs (disch := (apply Ar.mk; (try simp only [new_n, put_n]); omega)) only [new_h', put_h', new_n, put_n, hn_ne, hn_eq]
  · (simp only [new_w, put_w]; omega)
theorem a321 : PX (zcall Tryz.prog Γ ext 321 [.ptr k 0 3, sv [97], iv 0, ff] s) (.tup []) (Wr k s) := by
  have hb : bt [97] 0 = 97 := rfl
  refine zK_px (fn := p321) [] rfl rfl rfl rfl (by unfold p321; rfl) ?_
  simp -implicitDefEqProofs (maxSteps := 3000000) (disch := first | assumption | (apply Ar.mk; omega) | (apply Ar.mk; simp only [List.length_append, List.length_cons, List.length_nil, true_and, and_true]; omega)) only [ZN, ↓dt, ↓df, und_e, Nat.reduceEqDiff, ↓reduceIte, Nat.reduceAdd, Nat.reduceLeDiff, Nat.reduceLT, Nat.reduceBEq, reduceCtorEq, pval_tmp, fillP, oneRes, frz, frz2, frzT, ofCells, ZM, slV, Nat.reduceMul, Nat.reduceSub, frzT, pk_dt, pk_df, ↓gk_t, ↓gk_f]
  rw [loop_u (b := b321_0) (by unfold b321_0; rfl)]
  simp -implicitDefEqProofs (maxSteps := 3000000) (disch := first | assumption | (apply Ar.mk; omega) | (apply Ak.mk; first | rfl | exact .inl rfl | exact .inr rfl | exact okAll_un _ _ | exact okAll_e _ _ | (unfold OkAll OkPair; simp <;> omega)) | (apply Ar.mk; simp only [List.length_append, List.length_cons, List.length_nil, true_and, and_true]; omega)) only [ZN, ↓dt, ↓df, und_e, Nat.reduceEqDiff, ↓reduceIte, Nat.reduceAdd, Nat.reduceLeDiff, Nat.reduceLT, Nat.reduceBEq, reduceCtorEq, pval_tmp, fillP, oneRes, frz, frz2, frzT, ofCells, ZM, slV, Nat.reduceMul, Nat.reduceSub, frzT, pk_dt, pk_df, ↓gk_t, ↓gk_f, ZV, effO, effA, pureI, a339, hk, hb]
  refine zda_px (a296 ?_ ?_) fun s1 h1 => ?_
  · simp -implicitDefEqProofs (disch := (apply Ar.mk; (try simp only [new_n, put_n]); omega)) only [new_h', put_h', new_n, put_n, hn_ne, hn_eq]; exact hk
  · (simp only [new_n, put_n]; omega)
  simp -implicitDefEqProofs (maxSteps := 3000000) (disch := first | assumption | (apply Ar.mk; omega) | (apply Ak.mk; first | rfl | exact .inl rfl | exact .inr rfl | exact okAll_un _ _ | exact okAll_e _ _ | (unfold OkAll OkPair; simp <;> omega)) | (apply Ar.mk; simp only [List.length_append, List.length_cons, List.length_nil, true_and, and_true]; omega)) only [ZN, ↓dt, ↓df, und_e, Nat.reduceEqDiff, ↓reduceIte, Nat.reduceAdd, Nat.reduceLeDiff, Nat.reduceLT, Nat.reduceBEq, reduceCtorEq, pval_tmp, fillP, oneRes, frz, frz2, frzT, ofCells, ZM, slV, Nat.reduceMul, Nat.reduceSub, frzT, pk_dt, pk_df, ↓gk_t, ↓gk_f, ZV, effO, effA, pureI]
  rw [loop_u (b := b321_0) (by unfold b321_0; rfl)]
  simp -implicitDefEqProofs (maxSteps := 3000000) (disch := first | assumption | (apply Ar.mk; omega) | (apply Ar.mk; simp only [List.length_append, List.length_cons, List.length_nil, true_and, and_true]; omega)) only [ZN, ↓dt, ↓df, und_e, Nat.reduceEqDiff, ↓reduceIte, Nat.reduceAdd, Nat.reduceLeDiff, Nat.reduceLT, Nat.reduceBEq, reduceCtorEq, pval_tmp, fillP, oneRes, frz, frz2, frzT, ofCells, ZM, slV, Nat.reduceMul, Nat.reduceSub, frzT, pk_dt, pk_df, ↓gk_t, ↓gk_f]
  exact PX.mk' (h1.fin hkn (Nat.le_refl _) (fun _ _ _ => rfl) fun n0 _ h => h)
theorem a293 {kp : Nat} (hp : s.h kp = ⟨aC, 0, 90⟩) (hpn : kp < s.n) (hne : kp ≠ k) : PX (zcall Tryz.prog Γ ext 293 [.ptr k 0 3, .own kp 0 1 5, iv 0, ff] s) (.tup []) (Wr k s) := by
  refine zK_px (fn := p293) [] rfl rfl rfl rfl (by unfold p293; rfl) ?_
  simp -implicitDefEqProofs (maxSteps := 3000000) (disch := first | assumption | (apply Ar.mk; omega) | (apply Ar.mk; simp only [List.length_append, List.length_cons, List.length_nil, true_and, and_true]; omega)) only [ZN, ↓dt, ↓df, und_e, Nat.reduceEqDiff, ↓reduceIte, Nat.reduceAdd, Nat.reduceLeDiff, Nat.reduceLT, Nat.reduceBEq, reduceCtorEq, pval_tmp, fillP, oneRes, frz, frz2, frzT, ofCells, ZM, slV, Nat.reduceMul, Nat.reduceSub, frzT, pk_dt, pk_df, ↓gk_t, ↓gk_f]
  rw [loop_u (b := b293_0) (by unfold b293_0; rfl)]
  simp -implicitDefEqProofs (maxSteps := 3000000) (disch := first | assumption | (apply Ar.mk; omega) | (apply Ar.mk; decide) | (apply Ar.mk; simp only [List.length_append, List.length_cons, List.length_nil, true_and, and_true]; omega)) only [ZN, ↓dt, ↓df, und_e, Nat.reduceEqDiff, ↓reduceIte, Nat.reduceAdd, Nat.reduceLeDiff, Nat.reduceLT, Nat.reduceBEq, reduceCtorEq, pval_tmp, fillP, oneRes, frz, frz2, frzT, ofCells, ZM, slV, Nat.reduceMul, Nat.reduceSub, frzT, pk_dt, pk_df, ↓gk_t, ↓gk_f, hp]
  refine ra_px (a321 ?_ ?_) fun s1 h1 => ?_
  · simp -implicitDefEqProofs (disch := (apply Ar.mk; (try simp only [new_n, put_n]); omega)) only [new_h', put_h', new_n, put_n, hn_ne, hn_eq]; exact hk
  · (simp only [new_n, put_n]; omega)
  simp -implicitDefEqProofs (maxSteps := 3000000) (disch := first | assumption | (apply Ar.mk; omega) | (apply Ar.mk; simp only [List.length_append, List.length_cons, List.length_nil, true_and, and_true]; omega)) only [ZN, ↓dt, ↓df, und_e, Nat.reduceEqDiff, ↓reduceIte, Nat.reduceAdd, Nat.reduceLeDiff, Nat.reduceLT, Nat.reduceBEq, reduceCtorEq, pval_tmp, fillP, oneRes, frz, frz2, frzT, ofCells, ZM, slV, Nat.reduceMul, Nat.reduceSub, frzT, pk_dt, pk_df, ↓gk_t, ↓gk_f]
  rw [loop_u (b := b293_0) (by unfold b293_0; rfl)]
  simp -implicitDefEqProofs (maxSteps := 3000000) (disch := first | assumption | (apply Ar.mk; omega) | (apply Ar.mk; simp only [List.length_append, List.length_cons, List.length_nil, true_and, and_true]; omega)) only [ZN, ↓dt, ↓df, und_e, Nat.reduceEqDiff, ↓reduceIte, Nat.reduceAdd, Nat.reduceLeDiff, Nat.reduceLT, Nat.reduceBEq, reduceCtorEq, pval_tmp, fillP, oneRes, frz, frz2, frzT, ofCells, ZM, slV, Nat.reduceMul, Nat.reduceSub, frzT, pk_dt, pk_df, ↓gk_t, ↓gk_f]
  exact PX.mk' (h1.fin hkn (by (simp only [new_n, put_n]; omega)) (fun i hi _ => by simp -implicitDefEqProofs (disch := (apply Ar.mk; (try simp only [new_n, put_n]); omega)) only [new_h', put_h', new_n, put_n, hn_ne, hn_eq]) fun n0 hn0 h => by (simp only [new_w, put_w]; omega))
end
/-- the text of a writer -/
theorem a239 {k j : Nat} {s : PS} (hk : s.h k = ⟨[.ptr k 0 3, .own j 0 1 1, ff], 3, 277⟩) (hj : s.h j = ⟨[cv 97], 0, 5⟩) (hkn : k < s.n) (hjn : j < s.n) (hjk : j ≠ k) :
    zcall Tryz.prog Γ ext 239 [.ptr k 0 3] s = some (.ok (sv [97]) ⟨(s.put j ⟨[cv 97, .sc undef], 3, 5⟩).h, s.n, min s.w (min s.n j)⟩) := by
  have hb : bytesP ([cv 97].take 1) = some [97] := rfl
  have hu : ∀ {s' : PS}, s'.h j = ⟨[cv 97], 0, 5⟩ → ustrP s' 5 (.ptr j 0 1) (iv 1) = some (sv [97], s'.put j ⟨[cv 97] ++ [.sc undef], 3, 5⟩) := fun h => us_1 h hb (by omega) rfl
  have hu := hu (s' := ⟨s.h, s.n, s.n⟩) hj
  refine zK_case (fn := p239) [2] rfl rfl rfl rfl (by unfold p239; rfl) ?_; intro R hR
  simp -implicitDefEqProofs (maxSteps := 3000000) (disch := first | assumption | (apply Ar.mk; omega) | (apply Ak.mk; first | rfl | exact .inl rfl | exact .inr rfl | exact okAll_un _ _ | exact okAll_e _ _ | (unfold OkAll OkPair; simp <;> omega)) | (apply Ar.mk; simp only [List.length_append, List.length_cons, List.length_nil, true_and, and_true]; omega)) only [ZN, ↓dt, ↓df, und_e, Nat.reduceEqDiff, ↓reduceIte, Nat.reduceAdd, Nat.reduceLeDiff, Nat.reduceLT, Nat.reduceBEq, reduceCtorEq, pval_tmp, fillP, oneRes, frz, frz2, frzT, ofCells, ZM, slV, Nat.reduceMul, Nat.reduceSub, frzT, pk_dt, pk_df, ↓gk_t, ↓gk_f, ZU, ZV, effO, effA, pureI, hk, hj, hu]
  exact hR.symm
section
variable {kp : Nat} {s : PS} (hp : s.h kp = ⟨aC, 0, 90⟩) (hpn : kp < s.n) (hx : ∀ s : PS, ext 298 [sv [97], iv 0] s = some (.tup [.lit 90 1 aC, iv 0, iv 0], s))
include hx
theorem a294 (s : PS) : zcall Tryz.prog Γ ext 294 [sv [97]] s = some (.ok (.tup [.lit 90 1 aC, iv 0, iv 0]) s) := by
  have h : ∀ s : PS, zcall Tryz.prog Γ ext 298 [sv [97], iv 0] s = some (.ok (.tup [.lit 90 1 aC, iv 0, iv 0]) s) := fun s => by
    rw [zcall_ext (by rfl), hx]; rfl
  refine zT_case (fn := p294) [2, 3, 4] rfl rfl rfl rfl (by unfold p294; rfl) ?_; intro R hR
  simp -implicitDefEqProofs (maxSteps := 3000000) (disch := first | assumption | (apply Ar.mk; omega) | (apply Ar.mk; simp only [List.length_append, List.length_cons, List.length_nil, true_and, and_true]; omega)) only [ZN, ↓dt, ↓df, und_e, Nat.reduceEqDiff, ↓reduceIte, Nat.reduceAdd, Nat.reduceLeDiff, Nat.reduceLT, Nat.reduceBEq, reduceCtorEq, pval_tmp, fillP, oneRes, frz, frz2, frzT, ofCells, ZM, slV, Nat.reduceMul, Nat.reduceSub, frzT, pk_dt, pk_df, ↓gk_t, ↓gk_f, h]
  exact hR.symm
include hp hpn
theorem a254 : zcall Tryz.prog Γ ext 254 [.own kp 0 1 5] s = some (.ok (.tup [sv [97], tt]) s) := by
  have h294 := fun s => a294 (ext := ext) hx s
  refine zT_case (fn := p254) [2, 3] rfl rfl rfl rfl (by unfold p254; rfl) ?_; intro R hR
  simp -implicitDefEqProofs (maxSteps := 3000000) (disch := first | assumption | (apply Ar.mk; omega) | (apply Ar.mk; simp only [List.length_append, List.length_cons, List.length_nil, true_and, and_true]; omega)) only [ZN, ↓dt, ↓df, und_e, Nat.reduceEqDiff, ↓reduceIte, Nat.reduceAdd, Nat.reduceLeDiff, Nat.reduceLT, Nat.reduceBEq, reduceCtorEq, pval_tmp, fillP, oneRes, frz, frz2, frzT, ofCells, ZM, slV, Nat.reduceMul, Nat.reduceSub, frzT, pk_dt, pk_df, ↓gk_t, ↓gk_f]
  refine ra_x (a293 (kp := kp) ?_ ?_ ?_ ?_ ?_) fun s1 h1 => ?_
  · simp -implicitDefEqProofs (disch := (apply Ar.mk; (try simp only [new_n, put_n]); omega)) only [new_h', put_h', new_n, put_n, hn_ne, hn_eq]
  · (simp only [new_n, put_n]; omega)
  · simp -implicitDefEqProofs (disch := (apply Ar.mk; (try simp only [new_n, put_n]); omega)) only [new_h', put_h', new_n, put_n, hn_ne, hn_eq]; exact hp
  · (simp only [new_n, put_n]; omega)
  · omega
  obtain ⟨g1, ⟨j, g2, g3, g4, g5⟩, g6, g7⟩ := h1
  have g1' : s.n + 1 ≤ s1.n := g1
  have g2' : s.n + 1 ≤ j := g2
  have g7' : s.n ≤ s1.w := g7 s.n (Nat.le_refl _) (by show s.n ≤ s.n + 1; omega) (by show s.n ≤ s.n; omega)
  have hp1 : s1.h kp = ⟨aC, 0, 90⟩ := (g6 kp (by show kp < s.n + 1; omega) (by omega)).trans (by simp -implicitDefEqProofs (disch := (apply Ar.mk; (try simp only [new_n, put_n]); omega)) only [new_h', put_h', new_n, put_n, hn_ne, hn_eq]; exact hp)
  have h239 := a239 (ext := ext) g4 g5 (by omega) g3 (by omega)
  have h186 : ∀ s' : PS, s'.h kp = ⟨aC, 0, 90⟩ → kp < s'.n → zcall Tryz.prog Γ ext 186 [.own kp 0 1 5, .lit 90 1 aC] s' = some (.ok tt s') := fun s' h1 h2 => a186 h1 h2
  simp -implicitDefEqProofs (maxSteps := 3000000) (disch := first | assumption | (apply Ar.mk; omega) | (apply Ar.mk; simp only [List.length_append, List.length_cons, List.length_nil, true_and, and_true]; omega)) only [ZN, ↓dt, ↓df, und_e, Nat.reduceEqDiff, ↓reduceIte, Nat.reduceAdd, Nat.reduceLeDiff, Nat.reduceLT, Nat.reduceBEq, reduceCtorEq, pval_tmp, fillP, oneRes, frz, frz2, frzT, ofCells, ZM, slV, Nat.reduceMul, Nat.reduceSub, frzT, pk_dt, pk_df, ↓gk_t, ↓gk_f, g4, h239, h294]
  rw [h186]
  · simp -implicitDefEqProofs (maxSteps := 3000000) (disch := first | assumption | (apply Ar.mk; omega) | (apply Ar.mk; simp only [List.length_append, List.length_cons, List.length_nil, true_and, and_true]; omega)) only [ZN, ↓dt, ↓df, und_e, Nat.reduceEqDiff, ↓reduceIte, Nat.reduceAdd, Nat.reduceLeDiff, Nat.reduceLT, Nat.reduceBEq, reduceCtorEq, pval_tmp, fillP, oneRes, frz, frz2, frzT, ofCells, ZM, slV, Nat.reduceMul, Nat.reduceSub, frzT, pk_dt, pk_df, ↓gk_t, ↓gk_f]
    exact hR.symm
  · simp -implicitDefEqProofs (disch := (apply Ar.mk; (try simp only [new_n, put_n]); omega)) only [new_h', put_h', new_n, put_n, hn_ne, hn_eq]; exact hp1
  · (simp only [new_n, put_n]; omega)
theorem a255 : zcall Tryz.prog Γ ext 255 [.own kp 0 1 5] s = some (.ok (.tup [sv [97], iv 0]) s) := by
  have h : zcall Tryz.prog Γ ext 254 [.own kp 0 1 5] ⟨s.h, s.n, s.n⟩ = _ := a254 (s := ⟨s.h, s.n, s.n⟩) hp hpn hx
  refine zT_case (fn := p255) [2, 3] rfl rfl rfl rfl (by unfold p255; rfl) ?_; intro R hR
  simp -implicitDefEqProofs (maxSteps := 3000000) (disch := first | assumption | (apply Ar.mk; omega) | (apply Ar.mk; simp only [List.length_append, List.length_cons, List.length_nil, true_and, and_true]; omega)) only [ZN, ↓dt, ↓df, und_e, Nat.reduceEqDiff, ↓reduceIte, Nat.reduceAdd, Nat.reduceLeDiff, Nat.reduceLT, Nat.reduceBEq, reduceCtorEq, pval_tmp, fillP, oneRes, frz, frz2, frzT, ofCells, ZM, slV, Nat.reduceMul, Nat.reduceSub, frzT, pk_dt, pk_df, ↓gk_t, ↓gk_f, h]
  exact hR.symm
theorem a204 : zcall Tryz.prog Γ ext 204 [.agg [iv 0, .own kp 0 1 5]] s = some (.ok tt s) := by
  have h : ∀ s' : PS, s'.h kp = ⟨aC, 0, 90⟩ → kp < s'.n → zcall Tryz.prog Γ ext 255 [.own kp 0 1 5] s' = some (.ok (.tup [sv [97], iv 0]) s') := fun s' h1 h2 => a255 h1 h2 hx
  have h2 := fun s => a234 (ext := ext) s
  refine zT_case (fn := p204) [2] rfl rfl rfl rfl (by unfold p204; rfl) ?_; intro R hR
  simp -implicitDefEqProofs (maxSteps := 3000000) (disch := first | assumption | (apply Ar.mk; omega) | (apply Ar.mk; simp only [List.length_append, List.length_cons, List.length_nil, true_and, and_true]; omega)) only [ZN, ↓dt, ↓df, und_e, Nat.reduceEqDiff, ↓reduceIte, Nat.reduceAdd, Nat.reduceLeDiff, Nat.reduceLT, Nat.reduceBEq, reduceCtorEq, pval_tmp, fillP, oneRes, frz, frz2, frzT, ofCells, ZM, slV, Nat.reduceMul, Nat.reduceSub, frzT, pk_dt, pk_df, ↓gk_t, ↓gk_f]
  rw [h]
  · simp -implicitDefEqProofs (maxSteps := 3000000) (disch := first | assumption | (apply Ar.mk; omega) | (apply Ar.mk; simp only [List.length_append, List.length_cons, List.length_nil, true_and, and_true]; omega)) only [ZN, ↓dt, ↓df, und_e, Nat.reduceEqDiff, ↓reduceIte, Nat.reduceAdd, Nat.reduceLeDiff, Nat.reduceLT, Nat.reduceBEq, reduceCtorEq, pval_tmp, fillP, oneRes, frz, frz2, frzT, ofCells, ZM, slV, Nat.reduceMul, Nat.reduceSub, frzT, pk_dt, pk_df, ↓gk_t, ↓gk_f, h2]
    exact hR.symm
  · simp -implicitDefEqProofs (disch := (apply Ar.mk; (try simp only [new_n, put_n]); omega)) only [new_h', put_h', new_n, put_n, hn_ne, hn_eq]; exact hp
  · (simp only [new_n, put_n]; omega)
end
section
variable {kw kp : Nat} {s : PS} (hw : s.h kw = ⟨[iv 0, .own kp 0 1 5], 0, 82⟩) (hwn : kw < s.n) (hp : s.h kp = ⟨aC, 0, 90⟩) (hpn : kp < s.n)
include hw hwn hp hpn
theorem l195 : zcall Tryz.prog Γ ext 195 [.agg (nodeC 1 (.own kw 0 1 2) nv)] s = some (.ok tt s) := by
  have h1 : ∀ s' : PS, s'.h kp = ⟨aC, 0, 90⟩ → kp < s'.n → zcall Tryz.prog Γ ext 190 [.agg [iv 0, .own kp 0 1 5]] s' = some (.ok (.tup [sv [97], tt]) s') := fun s' h1 h2 => a190 h1 h2
  have h2 : ∀ s' : PS, s'.h kp = ⟨aC, 0, 90⟩ → kp < s'.n → zcall Tryz.prog Γ ext 253 [.agg [iv 0, .own kp 0 1 5]] s' = some (.ok ff s') := fun s' h1 h2 => a253 h1 h2
  have h3 := fun s => a233 (ext := ext) s
  unfold nodeC
  refine zT_case (fn := p195) [2] rfl rfl rfl rfl (by unfold p195; rfl) ?_; intro R hR
  simp -implicitDefEqProofs (maxSteps := 3000000) (disch := first | assumption | (apply Ar.mk; omega) | (apply Ar.mk; simp only [List.length_append, List.length_cons, List.length_nil, true_and, and_true]; omega)) only [ZN, ↓dt, ↓df, und_e, Nat.reduceEqDiff, ↓reduceIte, Nat.reduceAdd, Nat.reduceLeDiff, Nat.reduceLT, Nat.reduceBEq, reduceCtorEq, pval_tmp, fillP, oneRes, frz, frz2, frzT, ofCells, ZM, slV, Nat.reduceMul, Nat.reduceSub, frzT, pk_dt, pk_df, ↓gk_t, ↓gk_f, hw]
  rw [h1]
  · simp -implicitDefEqProofs (maxSteps := 3000000) (disch := first | assumption | (apply Ar.mk; omega) | (apply Ar.mk; simp only [List.length_append, List.length_cons, List.length_nil, true_and, and_true]; omega)) only [ZN, ↓dt, ↓df, und_e, Nat.reduceEqDiff, ↓reduceIte, Nat.reduceAdd, Nat.reduceLeDiff, Nat.reduceLT, Nat.reduceBEq, reduceCtorEq, pval_tmp, fillP, oneRes, frz, frz2, frzT, ofCells, ZM, slV, Nat.reduceMul, Nat.reduceSub, frzT, pk_dt, pk_df, ↓gk_t, ↓gk_f, hw, h3]
    rw [h2]
    · simp -implicitDefEqProofs (maxSteps := 3000000) (disch := first | assumption | (apply Ar.mk; omega) | (apply Ar.mk; simp only [List.length_append, List.length_cons, List.length_nil, true_and, and_true]; omega)) only [ZN, ↓dt, ↓df, und_e, Nat.reduceEqDiff, ↓reduceIte, Nat.reduceAdd, Nat.reduceLeDiff, Nat.reduceLT, Nat.reduceBEq, reduceCtorEq, pval_tmp, fillP, oneRes, frz, frz2, frzT, ofCells, ZM, slV, Nat.reduceMul, Nat.reduceSub, frzT, pk_dt, pk_df, ↓gk_t, ↓gk_f]
      exact hR.symm
    · simp -implicitDefEqProofs (disch := (apply Ar.mk; (try simp only [new_n, put_n]); omega)) only [new_h', put_h', new_n, put_n, hn_ne, hn_eq]; exact hp
    · (simp only [new_n, put_n]; omega)
  · simp -implicitDefEqProofs (disch := (apply Ar.mk; (try simp only [new_n, put_n]); omega)) only [new_h', put_h', new_n, put_n, hn_ne, hn_eq]; exact hp
  · (simp only [new_n, put_n]; omega)
theorem l139 : zcall Tryz.prog Γ ext 139 [.agg (nodeC 1 (.own kw 0 1 2) nv)] s = some (.ok tt s) := by
  have h1 : ∀ s' : PS, s'.h kw = ⟨[iv 0, .own kp 0 1 5], 0, 82⟩ → kw < s'.n → s'.h kp = ⟨aC, 0, 90⟩ → kp < s'.n → zcall Tryz.prog Γ ext 195 [.agg [iv 1, iv 0, sv [], ff, nv, .own kw 0 1 2, nv, nv, nv]] s' = some (.ok tt s') := fun s' a b c d => l195 a b c d
  unfold nodeC
  refine zT_case (fn := p139) [2] rfl rfl rfl rfl (by unfold p139; rfl) ?_; intro R hR
  simp -implicitDefEqProofs (maxSteps := 3000000) (disch := first | assumption | (apply Ar.mk; omega) | (apply Ar.mk; simp only [List.length_append, List.length_cons, List.length_nil, true_and, and_true]; omega)) only [ZN, ↓dt, ↓df, und_e, Nat.reduceEqDiff, ↓reduceIte, Nat.reduceAdd, Nat.reduceLeDiff, Nat.reduceLT, Nat.reduceBEq, reduceCtorEq, pval_tmp, fillP, oneRes, frz, frz2, frzT, ofCells, ZM, slV, Nat.reduceMul, Nat.reduceSub, frzT, pk_dt, pk_df, ↓gk_t, ↓gk_f]
  rw [h1]
  · simp -implicitDefEqProofs (maxSteps := 3000000) (disch := first | assumption | (apply Ar.mk; omega) | (apply Ar.mk; simp only [List.length_append, List.length_cons, List.length_nil, true_and, and_true]; omega)) only [ZN, ↓dt, ↓df, und_e, Nat.reduceEqDiff, ↓reduceIte, Nat.reduceAdd, Nat.reduceLeDiff, Nat.reduceLT, Nat.reduceBEq, reduceCtorEq, pval_tmp, fillP, oneRes, frz, frz2, frzT, ofCells, ZM, slV, Nat.reduceMul, Nat.reduceSub, frzT, pk_dt, pk_df, ↓gk_t, ↓gk_f]
    exact hR.symm
  · simp -implicitDefEqProofs (disch := (apply Ar.mk; (try simp only [new_n, put_n]); omega)) only [new_h', put_h', new_n, put_n, hn_ne, hn_eq]; exact hw
  · (simp only [new_n, put_n]; omega)
  · simp -implicitDefEqProofs (disch := (apply Ar.mk; (try simp only [new_n, put_n]); omega)) only [new_h', put_h', new_n, put_n, hn_ne, hn_eq]; exact hp
  · (simp only [new_n, put_n]; omega)
variable (hx : ∀ s : PS, ext 298 [sv [97], iv 0] s = some (.tup [.lit 90 1 aC, iv 0, iv 0], s))
include hx
theorem l140 : zcall Tryz.prog Γ ext 140 [.agg (nodeC 1 (.own kw 0 1 2) nv)] s = some (.ok tt s) := by
  have h1 : ∀ s' : PS, s'.h kp = ⟨aC, 0, 90⟩ → kp < s'.n → zcall Tryz.prog Γ ext 204 [.agg [iv 0, .own kp 0 1 5]] s' = some (.ok tt s') := fun s' a b => a204 a b hx
  unfold nodeC
  refine zT_case (fn := p140) [2] rfl rfl rfl rfl (by unfold p140; rfl) ?_; intro R hR
  subst hR
  simp -implicitDefEqProofs (maxSteps := 3000000) (disch := first | assumption | (apply Ar.mk; omega) | (apply Ar.mk; simp only [List.length_append, List.length_cons, List.length_nil, true_and, and_true]; omega)) only [ZN, ↓dt, ↓df, und_e, Nat.reduceEqDiff, ↓reduceIte, Nat.reduceAdd, Nat.reduceLeDiff, Nat.reduceLT, Nat.reduceBEq, reduceCtorEq, pval_tmp, fillP, oneRes, frz, frz2, frzT, ofCells, ZM, slV, Nat.reduceMul, Nat.reduceSub, frzT, pk_dt, pk_df, ↓gk_t, ↓gk_f]
  refine rl_case (by unfold b140_0; rfl) (by unfold r140_3; rfl) ?_; intro hr R hR
  subst hR
  simp -implicitDefEqProofs (maxSteps := 3000000) (disch := first | assumption | (apply Ar.mk; omega) | (apply Ar.mk; simp only [List.length_append, List.length_cons, List.length_nil, true_and, and_true]; omega)) only [ZN, ↓dt, ↓df, und_e, Nat.reduceEqDiff, ↓reduceIte, Nat.reduceAdd, Nat.reduceLeDiff, Nat.reduceLT, Nat.reduceBEq, reduceCtorEq, pval_tmp, fillP, oneRes, frz, frz2, frzT, ofCells, ZM, slV, Nat.reduceMul, Nat.reduceSub, frzT, pk_dt, pk_df, ↓gk_t, ↓gk_f, hr]
  refine rl_case (by unfold b140_1; rfl) (by unfold r140_2; rfl) ?_; intro hr R hR
  subst hR
  simp -implicitDefEqProofs (maxSteps := 3000000) (disch := first | assumption | (apply Ar.mk; omega) | (apply Ar.mk; simp only [List.length_append, List.length_cons, List.length_nil, true_and, and_true]; omega)) only [ZN, ↓dt, ↓df, und_e, Nat.reduceEqDiff, ↓reduceIte, Nat.reduceAdd, Nat.reduceLeDiff, Nat.reduceLT, Nat.reduceBEq, reduceCtorEq, pval_tmp, fillP, oneRes, frz, frz2, frzT, ofCells, ZM, slV, Nat.reduceMul, Nat.reduceSub, frzT, pk_dt, pk_df, ↓gk_t, ↓gk_f, hr, hw]
  rw [h1]
  · simp -implicitDefEqProofs (maxSteps := 3000000) (disch := first | assumption | (apply Ar.mk; omega) | (apply Ar.mk; simp only [List.length_append, List.length_cons, List.length_nil, true_and, and_true]; omega)) only [ZN, ↓dt, ↓df, und_e, Nat.reduceEqDiff, ↓reduceIte, Nat.reduceAdd, Nat.reduceLeDiff, Nat.reduceLT, Nat.reduceBEq, reduceCtorEq, pval_tmp, fillP, oneRes, frz, frz2, frzT, ofCells, ZM, slV, Nat.reduceMul, Nat.reduceSub, frzT, pk_dt, pk_df, ↓gk_t, ↓gk_f]
    refine rl_case (by unfold b140_1; rfl) (by unfold r140_2; rfl) ?_; intro hr R hR
    subst hR
    simp -implicitDefEqProofs (maxSteps := 3000000) (disch := first | assumption | (apply Ar.mk; omega) | (apply Ar.mk; simp only [List.length_append, List.length_cons, List.length_nil, true_and, and_true]; omega)) only [ZN, ↓dt, ↓df, und_e, Nat.reduceEqDiff, ↓reduceIte, Nat.reduceAdd, Nat.reduceLeDiff, Nat.reduceLT, Nat.reduceBEq, reduceCtorEq, pval_tmp, fillP, oneRes, frz, frz2, frzT, ofCells, ZM, slV, Nat.reduceMul, Nat.reduceSub, frzT, pk_dt, pk_df, ↓gk_t, ↓gk_f, hr]
    refine rl_case (by unfold b140_2; rfl) (by unfold r140_1; rfl) ?_; intro hr R hR
    subst hR
    simp -implicitDefEqProofs (maxSteps := 3000000) (disch := first | assumption | (apply Ar.mk; omega) | (apply Ar.mk; simp only [List.length_append, List.length_cons, List.length_nil, true_and, and_true]; omega)) only [ZN, ↓dt, ↓df, und_e, Nat.reduceEqDiff, ↓reduceIte, Nat.reduceAdd, Nat.reduceLeDiff, Nat.reduceLT, Nat.reduceBEq, reduceCtorEq, pval_tmp, fillP, oneRes, frz, frz2, frzT, ofCells, ZM, slV, Nat.reduceMul, Nat.reduceSub, frzT, pk_dt, pk_df, ↓gk_t, ↓gk_f, hr]
    refine rl_case (by unfold b140_4; rfl) (by unfold r140_0; rfl) ?_; intro hr R hR
    simp -implicitDefEqProofs (maxSteps := 3000000) (disch := first | assumption | (apply Ar.mk; omega) | (apply Ar.mk; simp only [List.length_append, List.length_cons, List.length_nil, true_and, and_true]; omega)) only [ZN, ↓dt, ↓df, und_e, Nat.reduceEqDiff, ↓reduceIte, Nat.reduceAdd, Nat.reduceLeDiff, Nat.reduceLT, Nat.reduceBEq, reduceCtorEq, pval_tmp, fillP, oneRes, frz, frz2, frzT, ofCells, ZM, slV, Nat.reduceMul, Nat.reduceSub, frzT, pk_dt, pk_df, ↓gk_t, ↓gk_f, hr]
    exact hR.symm
  · simp -implicitDefEqProofs (disch := (apply Ar.mk; (try simp only [new_n, put_n]); omega)) only [new_h', put_h', new_n, put_n, hn_ne, hn_eq]; exact hp
  · (simp only [new_n, put_n]; omega)
theorem l64 : zcall Tryz.prog Γ ext 64 [.agg (nodeC 1 (.own kw 0 1 2) nv)] s = some (.ok tt s) := by
  have h1 : ∀ s' : PS, s'.h kw = ⟨[iv 0, .own kp 0 1 5], 0, 82⟩ → kw < s'.n → s'.h kp = ⟨aC, 0, 90⟩ → kp < s'.n → zcall Tryz.prog Γ ext 139 [.agg [iv 1, iv 0, sv [], ff, nv, .own kw 0 1 2, nv, nv, nv]] s' = some (.ok tt s') := fun s' a b c d => l139 a b c d
  have h2 : ∀ s' : PS, s'.h kw = ⟨[iv 0, .own kp 0 1 5], 0, 82⟩ → kw < s'.n → s'.h kp = ⟨aC, 0, 90⟩ → kp < s'.n → zcall Tryz.prog Γ ext 140 [.agg [iv 1, iv 0, sv [], ff, nv, .own kw 0 1 2, nv, nv, nv]] s' = some (.ok tt s') := fun s' a b c d => l140 a b c d hx
  unfold nodeC
  have hb2 := fun x y a b => bin_bneq (P := Tryz.prog) (t := 4) Tryz.underlying4 x y a b
  have eff : ((false : Bool) == false) = true := rfl
  refine zT_case (fn := p64) [2] rfl rfl rfl rfl (by unfold p64; rfl) ?_; intro R hR
  simp -implicitDefEqProofs (maxSteps := 3000000) (disch := first | assumption | (apply Ar.mk; omega) | (apply Ar.mk; decide) | (apply Ar.mk; simp only [List.length_append, List.length_cons, List.length_nil, true_and, and_true]; omega)) only [ZN, ↓dt, ↓df, und_e, Nat.reduceEqDiff, ↓reduceIte, Nat.reduceAdd, Nat.reduceLeDiff, Nat.reduceLT, Nat.reduceBEq, reduceCtorEq, pval_tmp, fillP, oneRes, frz, frz2, frzT, ofCells, ZM, slV, Nat.reduceMul, Nat.reduceSub, frzT, pk_dt, pk_df, ↓gk_t, ↓gk_f, hb2, eff]
  rw [h1]
  · simp -implicitDefEqProofs (maxSteps := 3000000) (disch := first | assumption | (apply Ar.mk; omega) | (apply Ar.mk; simp only [List.length_append, List.length_cons, List.length_nil, true_and, and_true]; omega)) only [ZN, ↓dt, ↓df, und_e, Nat.reduceEqDiff, ↓reduceIte, Nat.reduceAdd, Nat.reduceLeDiff, Nat.reduceLT, Nat.reduceBEq, reduceCtorEq, pval_tmp, fillP, oneRes, frz, frz2, frzT, ofCells, ZM, slV, Nat.reduceMul, Nat.reduceSub, frzT, pk_dt, pk_df, ↓gk_t, ↓gk_f]
    rw [h2]
    · simp -implicitDefEqProofs (maxSteps := 3000000) (disch := first | assumption | (apply Ar.mk; omega) | (apply Ar.mk; simp only [List.length_append, List.length_cons, List.length_nil, true_and, and_true]; omega)) only [ZN, ↓dt, ↓df, und_e, Nat.reduceEqDiff, ↓reduceIte, Nat.reduceAdd, Nat.reduceLeDiff, Nat.reduceLT, Nat.reduceBEq, reduceCtorEq, pval_tmp, fillP, oneRes, frz, frz2, frzT, ofCells, ZM, slV, Nat.reduceMul, Nat.reduceSub, frzT, pk_dt, pk_df, ↓gk_t, ↓gk_f]
      exact hR.symm
    · simp -implicitDefEqProofs (disch := (apply Ar.mk; (try simp only [new_n, put_n]); omega)) only [new_h', put_h', new_n, put_n, hn_ne, hn_eq]; exact hw
    · (simp only [new_n, put_n]; omega)
    · simp -implicitDefEqProofs (disch := (apply Ar.mk; (try simp only [new_n, put_n]); omega)) only [new_h', put_h', new_n, put_n, hn_ne, hn_eq]; exact hp
    · (simp only [new_n, put_n]; omega)
  · simp -implicitDefEqProofs (disch := (apply Ar.mk; (try simp only [new_n, put_n]); omega)) only [new_h', put_h', new_n, put_n, hn_ne, hn_eq]; exact hw
  · (simp only [new_n, put_n]; omega)
  · simp -implicitDefEqProofs (disch := (apply Ar.mk; (try simp only [new_n, put_n]); omega)) only [new_h', put_h', new_n, put_n, hn_ne, hn_eq]; exact hp
  · (simp only [new_n, put_n]; omega)
end
def goodD : Desc → Prop
  | [] => True
  | (k, m, _) :: d => ((k = 6 ∧ m ≤ 2048 ∧ (kindD d = 1 ∨ kindD d = 8)) ∨ (k = 8 ∧ m = 1 ∧ kindD d = 6)) ∧ goodD d
theorem y_formed {N kw kp : Nat} {h0 : Nat → Blk} (hx : ∀ s : PS, ext 298 [sv [97], iv 0] s = some (.tup [.lit 90 1 aC, iv 0, iv 0], s)) {d : Desc} (h : ND N kw kp h0 d) (hg : goodD d) {s : PS} (hs : St N h0 s) : zcall Tryz.prog Γ ext 64 [.agg (cellsD kw d)] s = some (.ok tt s) := by
  rcases d with _ | ⟨⟨k, m, b⟩, d⟩
  · obtain ⟨h1, h2, h3, h4⟩ := h
    have := hs.n
    exact l64 ((hs.at' _ h1).trans h3) (by omega) ((hs.at' _ h2).trans h4) (by omega) hx
  · obtain ⟨hg, _⟩ := hg
    rcases hg with ⟨rfl, hm, hd⟩ | ⟨rfl, rfl, hd⟩
    · exact k_form (.inl rfl) (fun s' hs' => k_fam6 h hd hm hs') hs
    · exact k_form (.inr rfl) (fun s' hs' => k_fam8 h hd hs') hs
end Go.Proofs.YtflfflfodghgpaaGreatDoor
set_option linter.unusedSimpArgs false
namespace Go.Proofs.YtflfflfodghgpaaGreatDoor
open Go Go.EvL Go.PE Go.Mir
variable {ext : PCallF}
theorem ND.up {N M kw kp : Nat} (hNM : N ≤ M) {h h' : Nat → Blk} : ∀ {d : Desc}, ND N kw kp h d → (∀ j, j < N → h' j = h j) → ND M kw kp h' d
  | [], ⟨h1, h2, h3, h4⟩, hh => ⟨by omega, by omega, (hh _ h1).trans h3, (hh _ h2).trans h4⟩
  | (k, m, b) :: d, ⟨h1, h2, h3, h4, h5, h6⟩, hh => ⟨h1, h2, h3, by omega, (hh _ h4).trans h5, ND.up hNM h6 hh⟩
def preD : Desc → List Desc
  | [] => [[]]
  | (k, m, b) :: d => ((k, m, b) :: d) :: (List.replicate m (preD d)).flatten
theorem preD_len : ∀ d : Desc, (preD d).length = sizeD d
  | [] => rfl
  | (k, m, b) :: d => by
    show ((List.replicate m (preD d)).flatten).length + 1 = 1 + m * sizeD d
    rw [List.length_flatten, List.map_replicate, preD_len d, List.sum_replicate_nat]
    omega
theorem preD_all {N kw kp : Nat} {h0 : Nat → Blk} : ∀ d : Desc, ND N kw kp h0 d → goodD d → ∀ x ∈ preD d, ND N kw kp h0 x ∧ goodD x
  | [], h, hg, x, hx => by
    have : x = [] := by simpa [preD] using hx
    subst this; exact ⟨h, hg⟩
  | (k, m, b) :: d, h, hg, x, hx => by
    unfold preD at hx
    rcases List.mem_cons.1 hx with rfl | hx
    · exact ⟨h, hg⟩
    · obtain ⟨l, h1, h2⟩ := List.mem_flatten.1 hx
      have := List.eq_of_mem_replicate h1
      subst this
      exact preD_all d h.2.2.2.2.2 hg.2 x h2
def kidsN : Desc → Nat
  | [] => 0
  | (_, m, _) :: _ => m
theorem kids_len (d : Desc) : lenP false (kidsV d) = some (iv (kidsN d)) := by
  rcases d with _ | ⟨⟨k, m, b⟩, d⟩ <;> rfl
def NoX : Nat → Prop := fun _ => False
theorem accL_fr {α : Type} {e es b : Nat} {c : α → List PV} {X : Nat → Prop} {l : List α} {v : PV} {s s' : PS} (h : AccL e es c b X l v s) (hn : s.n ≤ s'.n) (hh : ∀ j, b ≤ j → j < s.n → s'.h j = s.h j) : AccL e es c b X l v s' := by
  rcases h with h | ⟨hl, k, low, k1, k2, kx, rfl, k3, k4⟩
  · exact .inl h
  · exact .inr ⟨hl, k, low, k1, by omega, kx, rfl, by rw [hh k k1 k2]; exact k3, k4⟩
section
variable {N kw kp L V b0 : Nat} {h0 : Nat → Blk}
structure VS (N kw L V b0 : Nat) (h0 : Nat → Blk) (acc : List Desc) (lv : PV) (s : PS) : Prop where
  st : St N h0 s
  b : b0 ≤ s.n
  hL : ∃ low, low ≤ 1 ∧ s.h L = ⟨[lv], low, 25⟩
  hV : ∃ low, low ≤ 1 ∧ s.h V = ⟨[.fn 137 [] [.ptr L 0 1, .ptr V 0 1]], low, 170⟩
  acc : AccL 28 9 (cellsD kw) b0 NoX acc lv s
def Wk (N : Nat) (s s' : PS) : Prop := ∀ n0, n0 ≤ N → n0 ≤ s.w → n0 ≤ s'.w
theorem VS.fr {acc : List Desc} {lv : PV} {s s' : PS} (h : VS N kw L V b0 h0 acc lv s) (hN : N ≤ L) (hLV : L < V) (hV : V < b0) (hn : s.n ≤ s'.n) (hh : ∀ j, j < s.n → s'.h j = s.h j) : VS N kw L V b0 h0 acc lv s' where
  st := ⟨by have := h.st.n; omega, fun j hj => (hh j (by have := h.st.n; omega)).trans (h.st.at' j hj)⟩
  b := by have := h.b; omega
  hL := by
    obtain ⟨low, h1, h2⟩ := h.hL
    exact ⟨low, h1, (hh L (by have := h.b; omega)).trans h2⟩
  hV := by
    obtain ⟨low, h1, h2⟩ := h.hV
    exact ⟨low, h1, (hh V (by have := h.b; omega)).trans h2⟩
  acc := accL_fr h.acc hn fun j _ hj => hh j hj
variable (hN : N ≤ L) (hLV : L < V) (hVb : V < b0)
include hN hLV hVb
theorem lp137 {F : ZC → Option ZR} {v : PV} {Q : PS → Prop} {K : List KI} {W m : Nat} {x : PV} {d : Desc} (hm : m ≤ 2100)
    (hx : 0 < m → (∃ b, x = .ownx b 0 m (m * 9) ∧ b < N ∧ h0 b = ⟨(List.replicate m (cellsD kw d)).flatten, 0, 28⟩) ∧
      ∀ (acc : List Desc) (lv : PV) (s : PS), VS N kw L V b0 h0 acc lv s → acc.length + sizeD d ≤ 5000 → PX (zcall Tryz.prog Γ ext 137 [.agg (cellsD kw d), .ptr L 0 1, .ptr V 0 1] s) (.tup []) (fun s' => (∃ lv', VS N kw L V b0 h0 (acc ++ preD d) lv' s') ∧ Wk N s s')) :
    ∀ (n i : Nat) (f : PFr) (s : PS) (acc : List Desc) (lv : PV), i + n = m → f 2 = .ptr V 0 1 → f 13 = x → f 14 = iv m → f 15 = iv i → VS N kw L V b0 h0 acc lv s → acc.length + n * sizeD d ≤ 5000 → W ≤ N → W ≤ s.w →
      (∀ f' s' lv', VS N kw L V b0 h0 (acc ++ (List.replicate n (preD d)).flatten) lv' s' → W ≤ s'.w → PX (rn Tryz.prog Γ ext F f' s' K) v Q) → PX (zr Tryz.prog Γ ext F (.loop b137_0) f s (.b 0 :: K)) v Q := by
  have hl := rep_len (cells_len kw d) m
  have hc := cells_len kw d
  have ht := cells_take kw d
  have ho := cells_one kw d
  intro n
  induction n with
  | zero =>
    intro i f s acc lv hi f2 f13 f14 f15 hs hsz hW hw H
    rw [loop_u (b := b137_0) (by unfold b137_0; rfl)]
    simp -implicitDefEqProofs (maxSteps := 3000000) (disch := first | assumption | (apply Ar.mk; omega) | (apply Ar.mk; simp only [List.length_append, List.length_cons, List.length_nil, true_and, and_true]; omega)) only [ZN, ↓dt, ↓df, und_e, Nat.reduceEqDiff, ↓reduceIte, Nat.reduceAdd, Nat.reduceLeDiff, Nat.reduceLT, Nat.reduceBEq, reduceCtorEq, pval_tmp, fillP, oneRes, frz, frz2, frzT, ofCells, ZM, slV, Nat.reduceMul, Nat.reduceSub, frzT, pk_dt, pk_df, ↓gk_t, ↓gk_f, f13, f14, f15]
    exact H _ _ lv (by simpa using hs) hw
  | succ n ih =>
    intro i f s acc lv hi f2 f13 f14 f15 hs hsz hW hw H
    obtain ⟨⟨b, rfl, hb, hB⟩, ihd⟩ := hx (by omega)
    have hNs := hs.st.n
    have hbs := hs.b
    have hat := hs.st.at' b hb
    rw [hB] at hat
    obtain ⟨lowV, hlV, hV⟩ := hs.hV
    have hkid := rep_at (cells_len kw d) m i (by omega)
    have hsd : acc.length + sizeD d + n * sizeD d ≤ 5000 := by rw [Nat.add_mul, Nat.one_mul] at hsz; omega
    rw [loop_u (b := b137_0) (by unfold b137_0; rfl)]
    simp -implicitDefEqProofs (maxSteps := 3000000) (disch := first | assumption | (apply Ar.mk; omega) | (apply Ar.mk; simp only [List.length_append, List.length_cons, List.length_nil, true_and, and_true]; omega)) only [ZN, ↓dt, ↓df, und_e, Nat.reduceEqDiff, ↓reduceIte, Nat.reduceAdd, Nat.reduceLeDiff, Nat.reduceLT, Nat.reduceBEq, reduceCtorEq, pval_tmp, fillP, oneRes, frz, frz2, frzT, ofCells, ZM, slV, Nat.reduceMul, Nat.reduceSub, frzT, pk_dt, pk_df, ↓gk_t, ↓gk_f, f2, f13, f14, f15, hat, hl, hc, ht, ho, hkid, hV]
    refine ra_px (ihd acc lv _ (hs.fr hN hLV hVb ?_ fun j hj => ?_) (by omega)) fun s1 h1 => ?_
    · (simp only [new_n, put_n]; omega)
    · simp -implicitDefEqProofs (disch := (apply Ar.mk; (try simp only [new_n, put_n]); omega)) only [new_h', put_h', new_n, put_n, hn_ne, hn_eq]
    obtain ⟨⟨lv1, v1⟩, w1⟩ := h1
    simp -implicitDefEqProofs (maxSteps := 3000000) (disch := first | assumption | (apply Ar.mk; omega) | (apply Ar.mk; simp only [List.length_append, List.length_cons, List.length_nil, true_and, and_true]; omega)) only [ZN, ↓dt, ↓df, und_e, Nat.reduceEqDiff, ↓reduceIte, Nat.reduceAdd, Nat.reduceLeDiff, Nat.reduceLT, Nat.reduceBEq, reduceCtorEq, pval_tmp, fillP, oneRes, frz, frz2, frzT, ofCells, ZM, slV, Nat.reduceMul, Nat.reduceSub, frzT, pk_dt, pk_df, ↓gk_t, ↓gk_f, f15]
    refine ih (i + 1) _ s1 (acc ++ preD d) lv1 (by omega) f2 f13 f14 rfl v1 (by rw [List.length_append, preD_len]; omega) hW (w1 W hW ?_) fun f' s' lv' h1 h2 => H f' s' lv' ?_ h2
    · (simp only [new_w, put_w]; omega)
    · rw [List.replicate_succ, List.flatten_cons, ← List.append_assoc]; exact h1
theorem visit_step {d d' : Desc} (h : ND N kw kp h0 d) (hm : kidsN d ≤ 2100) (hpre : preD d = d :: (List.replicate (kidsN d) (preD d')).flatten) (hsz : sizeD d = 1 + kidsN d * sizeD d')
    (hx : 0 < kidsN d → (∃ b, kidsV d = .ownx b 0 (kidsN d) (kidsN d * 9) ∧ b < N ∧ h0 b = ⟨(List.replicate (kidsN d) (cellsD kw d')).flatten, 0, 28⟩) ∧
      ∀ (acc : List Desc) (lv : PV) (s : PS), VS N kw L V b0 h0 acc lv s → acc.length + sizeD d' ≤ 5000 → PX (zcall Tryz.prog Γ ext 137 [.agg (cellsD kw d'), .ptr L 0 1, .ptr V 0 1] s) (.tup []) (fun s' => (∃ lv', VS N kw L V b0 h0 (acc ++ preD d') lv' s') ∧ Wk N s s'))
    (acc : List Desc) (lv : PV) (s : PS) (hs : VS N kw L V b0 h0 acc lv s) (hle : acc.length + sizeD d ≤ 5000) : PX (zcall Tryz.prog Γ ext 137 [.agg (cellsD kw d), .ptr L 0 1, .ptr V 0 1] s) (.tup []) (fun s' => (∃ lv', VS N kw L V b0 h0 (acc ++ preD d) lv' s') ∧ Wk N s s') := by
  have hc := cells_len kw d
  have ht := cells_take kw d
  have ho := cells_one kw d
  have hk := kids_len d
  have h66 : ∀ {s' : PS}, St N h0 s' → zcall Tryz.prog Γ ext 66 [.agg (cellsD kw d)] s' = some (.ok (kidsV d) s') := fun hs' => y_kids h hs'
  have hst := hs.st
  have hNs := hs.st.n
  have hbs := hs.b
  obtain ⟨lowL, hlL, hL⟩ := hs.hL
  obtain ⟨lowV, hlV, hV⟩ := hs.hV
  have hpl : acc ++ preD d = (acc ++ [d]) ++ (List.replicate (kidsN d) (preD d')).flatten := by rw [hpre, List.append_assoc]; rfl
  rw [hpl]
  have hacc := hs.acc
  have hCd : ∀ l : List Desc, (l ++ [d]).flatMap (cellsD kw) = l.flatMap (cellsD kw) ++ cellsD kw d := fun l => by rw [List.flatMap_append, List.flatMap_singleton]
  generalize cellsD kw d = C at *
  rcases hacc with ⟨rfl, rfl⟩ | ⟨hne, kt, lt, t1, t2, _, rfl, t3, t4⟩
  · refine zK_px (fn := p137) [] rfl rfl rfl rfl (by unfold p137; rfl) ?_
    simp -implicitDefEqProofs (maxSteps := 3000000) (disch := first | assumption | (apply Ar.mk; omega) | ((repeat' (first | assumption | apply St.new | (refine St.put ?_ (by (try simp only [new_n, put_n]); omega)) | apply St.ent)); done) | (apply Ak.mk; first | rfl | exact .inl rfl | exact .inr rfl | exact okAll_un _ _ | exact okAll_e _ _ | (unfold OkAll OkPair; simp <;> omega)) | (apply Ar.mk; simp only [List.length_append, List.length_cons, List.length_nil, true_and, and_true]; omega)) only [ZN, ↓dt, ↓df, und_e, Nat.reduceEqDiff, ↓reduceIte, Nat.reduceAdd, Nat.reduceLeDiff, Nat.reduceLT, Nat.reduceBEq, reduceCtorEq, pval_tmp, fillP, oneRes, frz, frz2, frzT, ofCells, ZM, slV, Nat.reduceMul, Nat.reduceSub, frzT, pk_dt, pk_df, ↓gk_t, ↓gk_f, ZV, effO, effA, pureI, hc, ht, ho, hL, h66, hk]
    refine lp137 hN hLV hVb (W := N) hm hx (kidsN d) 0 _ _ ([] ++ [d]) (.own (s.n + 2) 0 1 9) (by omega) rfl rfl rfl rfl ⟨?_, ?_, ⟨1, Nat.le_refl _, ?_⟩, ⟨lowV, hlV, ?_⟩, .inr ⟨by simp, s.n + 2, 9, ?_, ?_, id, rfl, ?_, Nat.le_refl _⟩⟩ (by rw [hsz] at hle; simp at hle ⊢; omega) (Nat.le_refl _) ?_ fun f' s' lv' g1 g2 => ?_
    · (repeat' (first | assumption | apply St.new | (refine St.put ?_ (by (try simp only [new_n, put_n]); omega)) | apply St.ent))
    · (simp only [new_n, put_n]; omega)
    · simp -implicitDefEqProofs (disch := (apply Ar.mk; (try simp only [new_n, put_n]); omega)) only [new_h', put_h', new_n, put_n, hn_ne, hn_eq]
    · simp -implicitDefEqProofs (disch := (apply Ar.mk; (try simp only [new_n, put_n]); omega)) only [new_h', put_h', new_n, put_n, hn_ne, hn_eq]; exact hV
    · omega
    · (simp only [new_n, put_n]; omega)
    · rw [hCd]; simp -implicitDefEqProofs (disch := (apply Ar.mk; (try simp only [new_n, put_n]); omega)) only [new_h', put_h', new_n, put_n, hn_ne, hn_eq]; rfl
    · (simp only [new_w, put_w]; omega)
    · simp -implicitDefEqProofs (maxSteps := 3000000) (disch := first | assumption | (apply Ar.mk; omega) | (apply Ar.mk; simp only [List.length_append, List.length_cons, List.length_nil, true_and, and_true]; omega)) only [ZN, ↓dt, ↓df, und_e, Nat.reduceEqDiff, ↓reduceIte, Nat.reduceAdd, Nat.reduceLeDiff, Nat.reduceLT, Nat.reduceBEq, reduceCtorEq, pval_tmp, fillP, oneRes, frz, frz2, frzT, ofCells, ZM, slV, Nat.reduceMul, Nat.reduceSub, frzT, pk_dt, pk_df, ↓gk_t, ↓gk_f]
      exact PX.mk' ⟨⟨lv', g1.st.ent, g1.b, g1.hL, g1.hV, g1.acc⟩, fun n0 h1 h2 => by (simp only [new_w, put_w]; omega)⟩
  · have hfl := flat_len (cells_len kw) acc
    have hap : 0 < acc.length := List.length_pos_iff.2 hne
    generalize hF : acc.flatMap (cellsD kw) = Fl at *
    have e1 : ∀ z, (Fl ++ z).take (acc.length * 9) = Fl := fun z => List.take_left' hfl
    have e2 : ∀ z, (Fl ++ z).drop (acc.length * 9 + 9) = z.drop 9 := fun z => by rw [← hfl, ← List.drop_drop, List.drop_left]
    refine zK_px (fn := p137) [] rfl rfl rfl rfl (by unfold p137; rfl) ?_
    simp -implicitDefEqProofs (maxSteps := 3000000) (disch := first | assumption | (apply Ar.mk; omega) | ((repeat' (first | assumption | apply St.new | (refine St.put ?_ (by (try simp only [new_n, put_n]); omega)) | apply St.ent)); done) | (apply Ak.mk; first | rfl | exact .inl rfl | exact .inr rfl | exact okAll_un _ _ | exact okAll_e _ _ | (unfold OkAll OkPair; simp <;> omega)) | (apply Ar.mk; simp only [List.length_append, List.length_cons, List.length_nil, true_and, and_true]; omega)) only [ZN, ↓dt, ↓df, und_e, Nat.reduceEqDiff, ↓reduceIte, Nat.reduceAdd, Nat.reduceLeDiff, Nat.reduceLT, Nat.reduceBEq, reduceCtorEq, pval_tmp, fillP, oneRes, frz, frz2, frzT, ofCells, ZM, slV, Nat.reduceMul, Nat.reduceSub, frzT, pk_dt, pk_df, ↓gk_t, ↓gk_f, ZV, effO, effA, pureI, hc, ht, ho, hL, h66, hk, t3, hfl, e1, e2]
    refine lp137 hN hLV hVb (W := N) hm hx (kidsN d) 0 _ _ (acc ++ [d]) (.own kt 0 (acc.length + 1) (acc.length * 9 + 9)) (by omega) rfl rfl rfl rfl ⟨?_, ?_, ⟨1, Nat.le_refl _, ?_⟩, ⟨lowV, hlV, ?_⟩, .inr ⟨by simp, kt, acc.length * 9 + 9, t1, ?_, id, ?_, ?_, ?_⟩⟩ (by rw [hsz] at hle; simp; omega) (Nat.le_refl _) ?_ fun f' s' lv' g1 g2 => ?_
    · (repeat' (first | assumption | apply St.new | (refine St.put ?_ (by (try simp only [new_n, put_n]); omega)) | apply St.ent))
    · (simp only [new_n, put_n]; omega)
    · simp -implicitDefEqProofs (disch := (apply Ar.mk; (try simp only [new_n, put_n]); omega)) only [new_h', put_h', new_n, put_n, hn_ne, hn_eq]
    · simp -implicitDefEqProofs (disch := (apply Ar.mk; (try simp only [new_n, put_n]); omega)) only [new_h', put_h', new_n, put_n, hn_ne, hn_eq]; exact hV
    · (simp only [new_n, put_n]; omega)
    · rw [List.length_append, List.length_singleton, Nat.add_mul]
    · rw [hCd, hF]; simp -implicitDefEqProofs (disch := (apply Ar.mk; (try simp only [new_n, put_n]); omega)) only [new_h', put_h', new_n, put_n, hn_ne, hn_eq]
    · rw [List.length_append, List.length_singleton, Nat.add_mul]; exact Nat.le_refl _
    · (simp only [new_w, put_w]; omega)
    · simp -implicitDefEqProofs (maxSteps := 3000000) (disch := first | assumption | (apply Ar.mk; omega) | (apply Ar.mk; simp only [List.length_append, List.length_cons, List.length_nil, true_and, and_true]; omega)) only [ZN, ↓dt, ↓df, und_e, Nat.reduceEqDiff, ↓reduceIte, Nat.reduceAdd, Nat.reduceLeDiff, Nat.reduceLT, Nat.reduceBEq, reduceCtorEq, pval_tmp, fillP, oneRes, frz, frz2, frzT, ofCells, ZM, slV, Nat.reduceMul, Nat.reduceSub, frzT, pk_dt, pk_df, ↓gk_t, ↓gk_f]
      exact PX.mk' ⟨⟨lv', g1.st.ent, g1.b, g1.hL, g1.hV, g1.acc⟩, fun n0 h1 h2 => by (simp only [new_w, put_w]; omega)⟩
theorem y_visit : ∀ d : Desc, ND N kw kp h0 d → ∀ (acc : List Desc) (lv : PV) (s : PS), VS N kw L V b0 h0 acc lv s → acc.length + sizeD d ≤ 5000 → PX (zcall Tryz.prog Γ ext 137 [.agg (cellsD kw d), .ptr L 0 1, .ptr V 0 1] s) (.tup []) (fun s' => (∃ lv', VS N kw L V b0 h0 (acc ++ preD d) lv' s') ∧ Wk N s s') := by
  intro d
  induction d with
  | nil => exact fun h => visit_step hN hLV hVb (d' := []) h (Nat.zero_le _) rfl rfl fun h => absurd h (Nat.lt_irrefl 0)
  | cons x d ih =>
    obtain ⟨k, m, b⟩ := x
    intro h
    obtain ⟨hb, hm, hm1, hB, hd'⟩ := nd_kids h k m b d rfl
    exact visit_step hN hLV hVb (d' := d) h hm rfl rfl fun _ => ⟨⟨b, rfl, hb, hB⟩, ih hd'⟩
end
section
variable {N kw kp : Nat} {h0 : Nat → Blk}
/-- what preorder gives -/
structure PreR (N kw : Nat) (h0 : Nat → Blk) (l : List Desc) (k : Nat) (s s' : PS) : Prop where
  st : St N h0 s'
  at' : ∃ low, low ≤ l.length * 9 ∧ s'.h k = ⟨l.flatMap (cellsD kw), low, 28⟩
  k : N ≤ k ∧ k < s'.n
  w : ∀ n0, n0 ≤ N → n0 ≤ s.w → n0 ≤ s'.w
theorem y_pre {d : Desc} (h : ND N kw kp h0 d) (hsz : sizeD d ≤ 5000) {s : PS} (hs : St N h0 s) : PY (zcall Tryz.prog Γ ext 63 [.agg (cellsD kw d)] s) (fun v s' => ∃ k, v = .own k 0 (preD d).length ((preD d).length * 9) ∧ PreR N kw h0 (preD d) k s s') := by
  have hc := cells_len kw d
  have ht := cells_take kw d
  have hNs := hs.n
  have hne : preD d ≠ [] := by rcases d with _ | ⟨⟨k, m, b⟩, d⟩ <;> simp [preD]
  have hv := fun s' hs' => y_visit (ext := ext) (L := s.n + 1) (V := s.n + 2) (b0 := s.n + 3) (by omega) (by omega) (by omega) d h [] nv s' hs' (by simpa using hsz)
  generalize cellsD kw d = C at *
  refine zK_py (fn := p63) [2] rfl rfl rfl rfl (by unfold p63; rfl) ?_
  simp -implicitDefEqProofs (maxSteps := 3000000) (disch := first | assumption | (apply Ar.mk; omega) | (apply Ar.mk; simp only [List.length_append, List.length_cons, List.length_nil, true_and, and_true]; omega)) only [ZN, ↓dt, ↓df, und_e, Nat.reduceEqDiff, ↓reduceIte, Nat.reduceAdd, Nat.reduceLeDiff, Nat.reduceLT, Nat.reduceBEq, reduceCtorEq, pval_tmp, fillP, oneRes, frz, frz2, frzT, ofCells, ZM, slV, Nat.reduceMul, Nat.reduceSub, frzT, pk_dt, pk_df, ↓gk_t, ↓gk_f, hc, ht]
  refine ra_py (hv _ ⟨?_, ?_, ⟨0, Nat.zero_le _, ?_⟩, ⟨1, Nat.le_refl _, ?_⟩, .inl ⟨rfl, rfl⟩⟩) fun s1 h1 => ?_
  · (repeat' (first | assumption | apply St.new | (refine St.put ?_ (by (try simp only [new_n, put_n]); omega)) | apply St.ent))
  · (simp only [new_n, put_n]; omega)
  · simp -implicitDefEqProofs (disch := (apply Ar.mk; (try simp only [new_n, put_n]); omega)) only [new_h', put_h', new_n, put_n, hn_ne, hn_eq]
  · simp -implicitDefEqProofs (disch := (apply Ar.mk; (try simp only [new_n, put_n]); omega)) only [new_h', put_h', new_n, put_n, hn_ne, hn_eq]
  obtain ⟨⟨lv', g1⟩, g2⟩ := h1
  rw [List.nil_append] at g1
  obtain ⟨lowL, q1, q2⟩ := g1.hL
  rcases g1.acc with ⟨e, _⟩ | ⟨_, kt, lt, t1, t2, _, rfl, t3, t4⟩
  · exact absurd e hne
  simp -implicitDefEqProofs (maxSteps := 3000000) (disch := first | assumption | (apply Ar.mk; omega) | (apply Ar.mk; simp only [List.length_append, List.length_cons, List.length_nil, true_and, and_true]; omega)) only [ZN, ↓dt, ↓df, und_e, Nat.reduceEqDiff, ↓reduceIte, Nat.reduceAdd, Nat.reduceLeDiff, Nat.reduceLT, Nat.reduceBEq, reduceCtorEq, pval_tmp, fillP, oneRes, frz, frz2, frzT, ofCells, ZM, slV, Nat.reduceMul, Nat.reduceSub, frzT, pk_dt, pk_df, ↓gk_t, ↓gk_f, q2]
  refine PY.mk' ⟨kt, rfl, ⟨g1.st.ent, ⟨lt, t4, t3⟩, ⟨by omega, t2⟩, fun n0 h1 h2 => ?_⟩⟩
  have := g2 n0 h1 (by (simp only [new_w, put_w]; omega))
  (simp only [new_w, put_w]; omega)
theorem flat9 {kw : Nat} {l : List Desc} {i : Nat} {x : Desc} (h : l[i]? = some x) : ((l.flatMap (cellsD kw)).drop (i * 9)).take 9 = cellsD kw x := by
  obtain ⟨r, hr⟩ := flat_at (cells_len kw) h
  rw [hr, List.take_left' (cells_len kw x)]
theorem lp17 {F : ZC → Option ZR} {K : List KI} {R : Option ZR} {W k low : Nat} {l : List Desc} (h64 : ∀ x ∈ l, ∀ {s' : PS}, St N h0 s' → zcall Tryz.prog Γ ext 64 [.agg (cellsD kw x)] s' = some (.ok tt s')) (hlow : low ≤ l.length * 9) (hl5 : l.length ≤ 5000) :
    ∀ (n i : Nat) (f : PFr) (s : PS), i + n = l.length → f 12 = .own k 0 l.length (l.length * 9) → f 13 = iv l.length → f 14 = iv i → St N h0 s → k < s.n → s.h k = ⟨l.flatMap (cellsD kw), low, 28⟩ → W ≤ s.n → W ≤ s.w → (∀ f' s', W ≤ s'.w → zr Tryz.prog Γ ext F r17_0 f' s' K = R) → rl Tryz.prog Γ ext (F) 0 b17_0 r17_0 f s K = R := by
  intro n
  induction n with
  | zero =>
    intro i f s hn f12 f13 f14 hs hk hat hW hw H
    refine rl_case (by unfold b17_0; rfl) (by unfold r17_0; rfl) ?_; intro hr R hR
    simp -implicitDefEqProofs (maxSteps := 3000000) (disch := first | assumption | (apply Ar.mk; omega) | (apply Ar.mk; simp only [List.length_append, List.length_cons, List.length_nil, true_and, and_true]; omega)) only [ZN, ↓dt, ↓df, und_e, Nat.reduceEqDiff, ↓reduceIte, Nat.reduceAdd, Nat.reduceLeDiff, Nat.reduceLT, Nat.reduceBEq, reduceCtorEq, pval_tmp, fillP, oneRes, frz, frz2, frzT, ofCells, ZM, slV, Nat.reduceMul, Nat.reduceSub, frzT, pk_dt, pk_df, ↓gk_t, ↓gk_f, f12, f13, f14]
    rw [hR]
    exact H _ _ hw
  | succ n ih =>
    intro i f s hn f12 f13 f14 hs hk hat hW hw H
    have hN := hs.n
    have hi : i < l.length := by omega
    obtain ⟨x, hx⟩ : ∃ x, l[i]? = some x := ⟨l[i], List.getElem?_eq_getElem hi⟩
    have hc := cells_len kw x
    have ht := cells_take kw x
    have ho := cells_one kw x
    have hkid := flat9 (kw := kw) hx
    have hfl := flat_len (cells_len kw) l
    have h := @h64 x (List.mem_of_getElem? hx)
    refine rl_case (by unfold b17_0; rfl) (by unfold r17_0; rfl) ?_; intro hr R hR
    simp -implicitDefEqProofs (maxSteps := 3000000) (disch := first | assumption | (apply Ar.mk; omega) | ((repeat' (first | assumption | apply St.new | (refine St.put ?_ (by (try simp only [new_n, put_n]); omega)) | apply St.ent)); done) | (apply Ar.mk; simp only [List.length_append, List.length_cons, List.length_nil, true_and, and_true]; omega)) only [ZN, ↓dt, ↓df, und_e, Nat.reduceEqDiff, ↓reduceIte, Nat.reduceAdd, Nat.reduceLeDiff, Nat.reduceLT, Nat.reduceBEq, reduceCtorEq, pval_tmp, fillP, oneRes, frz, frz2, frzT, ofCells, ZM, slV, Nat.reduceMul, Nat.reduceSub, frzT, pk_dt, pk_df, ↓gk_t, ↓gk_f, f12, f13, f14, hat, hfl, hc, ht, ho, hkid, h]
    rw [hR]
    refine ih (i + 1) _ _ (by omega) f12 f13 rfl ((hs.new).put hN) ?_ ?_ ?_ ?_ H
    · (simp only [new_n, put_n]; omega)
    · simp -implicitDefEqProofs (disch := (apply Ar.mk; (try simp only [new_n, put_n]); omega)) only [new_h', put_h', new_n, put_n, hn_ne, hn_eq]; exact hat
    · (simp only [new_n, put_n]; omega)
    · (simp only [new_w, put_w]; omega)
theorem y_valid (hx : ∀ s : PS, ext 298 [sv [97], iv 0] s = some (.tup [.lit 90 1 aC, iv 0, iv 0], s)) {d : Desc} (h : ND N kw kp h0 d) (hg : sizeD d ≤ 2048 → goodD d) (hl : d.length < 1000) (hsz : sizeD d < 5000) {s : PS} (hs : St N h0 s) :
    zcall Tryz.prog Γ ext 17 [.agg (cellsD kw d)] s = some (.ok (iv (if 32 < depthD d then 5 else if 2048 < sizeD d then 4 else 0)) s) := by
  have hNs := hs.n
  have hc := cells_len kw d
  have ht := cells_take kw d
  have h21 : ∀ {s' : PS}, St N h0 s' → zcall Tryz.prog Γ ext 21 [.agg (cellsD kw d)] s' = some (.ok (iv (depthD d)) s') := fun hs' => y_depth d hl h hs'
  have h19 : ∀ {s' : PS}, St N h0 s' → zcall Tryz.prog Γ ext 19 [.agg (cellsD kw d)] s' = some (.ok (iv (sizeD d)) s') := fun hs' => y_size d (by omega) h hs'
  have hnd' : ND s.n kw kp s.h d := ND.up hNs h fun j hj => hs.at' j hj
  have h63 := fun (s' : PS) hs' => y_pre (ext := ext) hnd' (by omega) (s := s') hs'
  generalize cellsD kw d = C at *
  by_cases h1 : 32 < depthD d
  · rw [if_pos h1]
    refine zT_case (fn := p17) [2] rfl rfl rfl rfl (by unfold p17; rfl) ?_; intro R hR
    simp -implicitDefEqProofs (maxSteps := 3000000) (disch := first | assumption | (apply Ar.mk; omega) | ((repeat' (first | assumption | apply St.new | (refine St.put ?_ (by (try simp only [new_n, put_n]); omega)) | apply St.ent)); done) | (apply Ar.mk; simp only [List.length_append, List.length_cons, List.length_nil, true_and, and_true]; omega)) only [ZN, ↓dt, ↓df, und_e, Nat.reduceEqDiff, ↓reduceIte, Nat.reduceAdd, Nat.reduceLeDiff, Nat.reduceLT, Nat.reduceBEq, reduceCtorEq, pval_tmp, fillP, oneRes, frz, frz2, frzT, ofCells, ZM, slV, Nat.reduceMul, Nat.reduceSub, frzT, pk_dt, pk_df, ↓gk_t, ↓gk_f, hc, ht, h21]
    exact hR.symm
  rw [if_neg h1]
  by_cases h2 : 2048 < sizeD d
  · rw [if_pos h2]
    refine zT_case (fn := p17) [2] rfl rfl rfl rfl (by unfold p17; rfl) ?_; intro R hR
    simp -implicitDefEqProofs (maxSteps := 3000000) (disch := first | assumption | (apply Ar.mk; omega) | ((repeat' (first | assumption | apply St.new | (refine St.put ?_ (by (try simp only [new_n, put_n]); omega)) | apply St.ent)); done) | (apply Ar.mk; simp only [List.length_append, List.length_cons, List.length_nil, true_and, and_true]; omega)) only [ZN, ↓dt, ↓df, und_e, Nat.reduceEqDiff, ↓reduceIte, Nat.reduceAdd, Nat.reduceLeDiff, Nat.reduceLT, Nat.reduceBEq, reduceCtorEq, pval_tmp, fillP, oneRes, frz, frz2, frzT, ofCells, ZM, slV, Nat.reduceMul, Nat.reduceSub, frzT, pk_dt, pk_df, ↓gk_t, ↓gk_f, hc, ht, h21, h19]
    exact hR.symm
  rw [if_neg h2]
  have hg := hg (by omega)
  have hall := preD_all d h hg
  refine zT_case (fn := p17) [2] rfl rfl rfl rfl (by unfold p17; rfl) ?_; intro R hR
  simp -implicitDefEqProofs (maxSteps := 3000000) (disch := first | assumption | (apply Ar.mk; omega) | ((repeat' (first | assumption | apply St.new | (refine St.put ?_ (by (try simp only [new_n, put_n]); omega)) | apply St.ent)); done) | (apply Ar.mk; simp only [List.length_append, List.length_cons, List.length_nil, true_and, and_true]; omega)) only [ZN, ↓dt, ↓df, und_e, Nat.reduceEqDiff, ↓reduceIte, Nat.reduceAdd, Nat.reduceLeDiff, Nat.reduceLT, Nat.reduceBEq, reduceCtorEq, pval_tmp, fillP, oneRes, frz, frz2, frzT, ofCells, ZM, slV, Nat.reduceMul, Nat.reduceSub, frzT, pk_dt, pk_df, ↓gk_t, ↓gk_f, hc, ht, h21, h19]
  refine ra_y (h63 _ ?_) fun v s1 h1 => ?_
  · exact (St.rf (Nat.le_refl _)).ent.new
  obtain ⟨k, rfl, g1, ⟨low, g2, g3⟩, ⟨g4, g5⟩, g6⟩ := h1
  have g1n := g1.n
  have g7 : s.n ≤ s1.w := g6 s.n (Nat.le_refl _) (by (simp only [new_w, put_w]; omega))
  have g8 : St N h0 s1 := ⟨by omega, fun j hj => (g1.at' j (by omega)).trans (hs.at' j hj)⟩
  simp -implicitDefEqProofs (maxSteps := 3000000) (disch := first | assumption | (apply Ar.mk; omega) | (apply Ar.mk; simp only [List.length_append, List.length_cons, List.length_nil, true_and, and_true]; omega)) only [ZN, ↓dt, ↓df, und_e, Nat.reduceEqDiff, ↓reduceIte, Nat.reduceAdd, Nat.reduceLeDiff, Nat.reduceLT, Nat.reduceBEq, reduceCtorEq, pval_tmp, fillP, oneRes, frz, frz2, frzT, ofCells, ZM, slV, Nat.reduceMul, Nat.reduceSub, frzT, pk_dt, pk_df, ↓gk_t, ↓gk_f]
  have h64 : ∀ x ∈ preD d, ∀ {s' : PS}, St N h0 s' → zcall Tryz.prog Γ ext 64 [.agg (cellsD kw x)] s' = some (.ok tt s') := fun x hx' s' hs' => y_formed hx (hall x hx').1 (hall x hx').2 hs'
  have hpl := preD_len d
  refine lp17 (W := s.n) h64 g2 (by omega) (preD d).length 0 _ _ (by omega) rfl rfl rfl g8 g5 g3 g1n g7 fun f' s' hw => ?_
  unfold r17_0
  simp -implicitDefEqProofs (maxSteps := 3000000) (disch := first | assumption | (apply Ar.mk; omega) | (apply Ar.mk; simp only [List.length_append, List.length_cons, List.length_nil, true_and, and_true]; omega)) only [ZN, ↓dt, ↓df, und_e, Nat.reduceEqDiff, ↓reduceIte, Nat.reduceAdd, Nat.reduceLeDiff, Nat.reduceLT, Nat.reduceBEq, reduceCtorEq, pval_tmp, fillP, oneRes, frz, frz2, frzT, ofCells, ZM, slV, Nat.reduceMul, Nat.reduceSub, frzT, pk_dt, pk_df, ↓gk_t, ↓gk_f]
  exact hR.symm
end
end Go.Proofs.YtflfflfodghgpaaGreatDoor
set_option linter.unusedSimpArgs false
namespace Go.Proofs.YtflfflfodghgpaaGreatDoor
open Go Go.EvL Go.PE Go.Mir
variable {ext : PCallF}
abbrev uv (n : Nat) : PV := .sc (.int .u16 (n : Int))
/-- what call gives -/
structure CaR (kw kp : Nat) (s s' : PS) : Prop where
  gw : s.n ≤ kw ∧ kw < s'.n
  gp : s.n ≤ kp ∧ kp < s'.n
  hw : s'.h kw = ⟨[iv 0, .own kp 0 1 5], 0, 82⟩
  hp : s'.h kp = ⟨aC, 0, 90⟩
  w : s.n ≤ s.w → s.n ≤ s'.w
theorem y_call (s : PS) : PY (zcall Tryz.prog Γ ext 23 [sv [97]] s) (fun v s' => ∃ kw kp, v = .agg (cellsD kw []) ∧ CaR kw kp s s') := by
  refine zW_py (fn := p23) [.cell 2 true 9] rfl rfl rfl rfl (by unfold p23; rfl) ?_
  simp -implicitDefEqProofs (maxSteps := 3000000) (disch := first | assumption | (apply Ar.mk; omega) | (apply Ar.mk; simp only [List.length_append, List.length_cons, List.length_nil, true_and, and_true]; omega)) only [ZN, ↓dt, ↓df, und_e, Nat.reduceEqDiff, ↓reduceIte, Nat.reduceAdd, Nat.reduceLeDiff, Nat.reduceLT, Nat.reduceBEq, reduceCtorEq, pval_tmp, fillP, oneRes, frz, frz2, frzT, ofCells, ZM, slV, Nat.reduceMul, Nat.reduceSub, frzT, pk_dt, pk_df, ↓gk_t, ↓gk_f]
  refine PY.mk' ⟨s.n + 2, s.n + 1, rfl, ⟨?_, ?_⟩, ⟨?_, ?_⟩, ?_, ?_, fun h => ?_⟩
  · omega
  · (simp only [new_n, put_n]; omega)
  · omega
  · (simp only [new_n, put_n]; omega)
  · simp -implicitDefEqProofs (disch := (apply Ar.mk; (try simp only [new_n, put_n]); omega)) only [new_h', put_h', new_n, put_n, hn_ne, hn_eq]
  · simp -implicitDefEqProofs (disch := (apply Ar.mk; (try simp only [new_n, put_n]); omega)) only [new_h', put_h', new_n, put_n, hn_ne, hn_eq]
  · (simp only [new_w, put_w]; omega)
section
variable {F : ZC → Option ZR} {K : List KI} {R : Option ZR} {kw kp nb : Nat}
theorem lp4 {NB W k low : Nat} {h0 : Nat → Blk} (hk : k ≤ 2100) (hnb : nb < NB) (hn0 : h0 nb = ⟨cellsD kw [], low, 28⟩) (hlow : low ≤ 9) :
    ∀ (n i : Nat) (f : PFr) (s : PS), i + n = k → f 0 = uv k → f 5 = .ptr nb 0 9 → f 7 = iv i → (i = 0 ∧ f 6 = nv ∨ 0 < i ∧ ∃ L, NB ≤ L ∧ L < s.n ∧ f 6 = .own L 0 i (i * 9) ∧ s.h L = ⟨(List.replicate i (cellsD kw [])).flatten, 0, 28⟩) → St NB h0 s → W ≤ NB → W ≤ s.w →
      (∀ f' s', f' 0 = uv k → (k = 0 ∧ f' 6 = nv ∨ 0 < k ∧ ∃ L, NB ≤ L ∧ L < s'.n ∧ f' 6 = .own L 0 k (k * 9) ∧ s'.h L = ⟨(List.replicate k (cellsD kw [])).flatten, 0, 28⟩) → St NB h0 s' → W ≤ s'.w → zr Tryz.prog Γ ext F r4_0 f' s' K = R) → rl Tryz.prog Γ ext (F) 0 b4_0 r4_0 f s K = R := by
  have hc := cells_len kw []
  have ht := cells_take kw []
  have ho := cells_one kw []
  have hsn := fun i => rep_snoc (cellsD kw []) i
  have hr1 : (List.replicate 1 (cellsD kw [])).flatten = cellsD kw [] := by simp
  generalize cellsD kw [] = C at *
  intro n
  induction n with
  | zero =>
    intro i f s hn f0 f5 f7 f6 hs hW hw H
    obtain rfl : i = k := by omega
    refine rl_case (by unfold b4_0; rfl) (by unfold r4_0; rfl) ?_; intro hr R hR
    simp -implicitDefEqProofs (maxSteps := 3000000) (disch := first | assumption | (apply Ar.mk; omega) | (apply Ar.mk; simp only [List.length_append, List.length_cons, List.length_nil, true_and, and_true]; omega)) only [ZN, ↓dt, ↓df, und_e, Nat.reduceEqDiff, ↓reduceIte, Nat.reduceAdd, Nat.reduceLeDiff, Nat.reduceLT, Nat.reduceBEq, reduceCtorEq, pval_tmp, fillP, oneRes, frz, frz2, frzT, ofCells, ZM, slV, Nat.reduceMul, Nat.reduceSub, frzT, pk_dt, pk_df, ↓gk_t, ↓gk_f, f0, f7]
    rw [hR]
    exact H _ _ f0 f6 hs hw
  | succ n ih =>
    intro i f s hn f0 f5 f7 f6 hs hW hw H
    have hN := hs.n
    have hat := hs.at' nb hnb
    rw [hn0] at hat
    rcases f6 with ⟨rfl, f6⟩ | ⟨hi, L, l1, l2, f6, l3⟩
    · refine rl_case (by unfold b4_0; rfl) (by unfold r4_0; rfl) ?_; intro hr R hR
      simp -implicitDefEqProofs (maxSteps := 3000000) (disch := first | assumption | (apply Ar.mk; omega) | (apply Ar.mk; simp only [List.length_append, List.length_cons, List.length_nil, true_and, and_true]; omega)) only [ZN, ↓dt, ↓df, und_e, Nat.reduceEqDiff, ↓reduceIte, Nat.reduceAdd, Nat.reduceLeDiff, Nat.reduceLT, Nat.reduceBEq, reduceCtorEq, pval_tmp, fillP, oneRes, frz, frz2, frzT, ofCells, ZM, slV, Nat.reduceMul, Nat.reduceSub, frzT, pk_dt, pk_df, ↓gk_t, ↓gk_f, f0, f5, f6, f7, hat, hc, ht, ho]
      rw [hR]
      refine ih 1 _ _ (by omega) f0 f5 rfl (.inr ⟨by omega, s.n + 1, ?_, ?_, rfl, ?_⟩) ?_ hW ?_ H
      · omega
      · (simp only [new_n, put_n]; omega)
      · simp -implicitDefEqProofs (disch := (apply Ar.mk; (try simp only [new_n, put_n]); omega)) only [new_h', put_h', new_n, put_n, hn_ne, hn_eq]; rw [hr1]
      · exact hs.new.new
      · (simp only [new_w, put_w]; omega)
    · have hl := rep_len hc i
      refine rl_case (by unfold b4_0; rfl) (by unfold r4_0; rfl) ?_; intro hr R hR
      simp -implicitDefEqProofs (maxSteps := 3000000) (disch := first | assumption | (apply Ar.mk; omega) | (apply Ar.mk; simp only [List.length_append, List.length_cons, List.length_nil, true_and, and_true]; omega)) only [ZN, ↓dt, ↓df, und_e, Nat.reduceEqDiff, ↓reduceIte, Nat.reduceAdd, Nat.reduceLeDiff, Nat.reduceLT, Nat.reduceBEq, reduceCtorEq, pval_tmp, fillP, oneRes, frz, frz2, frzT, ofCells, ZM, slV, Nat.reduceMul, Nat.reduceSub, frzT, pk_dt, pk_df, ↓gk_t, ↓gk_f, f0, f5, f6, f7, hat, hc, ht, ho, l3, hl]
      rw [hR]
      refine ih (i + 1) _ _ (by omega) f0 f5 rfl (.inr ⟨by omega, L, l1, ?_, ?_, ?_⟩) ?_ hW ?_ H
      · (simp only [new_n, put_n]; omega)
      · show PV.own L 0 (i + 1) (i * 9 + 9) = _
        rw [Nat.add_mul]
      · simp -implicitDefEqProofs (disch := (apply Ar.mk; (try simp only [new_n, put_n]); omega)) only [new_h', put_h', new_n, put_n, hn_ne, hn_eq]; rw [hsn]
      · exact (hs.new).put l1
      · (simp only [new_w, put_w]; omega)
theorem lp4d {W k NB : Nat} (hk : k ≤ 40) (hNB : NB ≤ nb) :
    ∀ (n i : Nat) (f : PFr) (s : PS) (d : Desc) (low : Nat), i + n = k → f 0 = uv k → f 5 = .ptr nb 0 9 → f 9 = iv i → nb < s.n → s.h nb = ⟨cellsD kw d, low, 28⟩ → low ≤ 9 → d.length = 2 * i → sizeD d = 2 * i + 1 → goodD d → (kindD d = 1 ∨ kindD d = 8) → (∀ h', (∀ j, j < s.n → j ≠ nb → h' j = s.h j) → ND s.n kw kp h' d) → W ≤ nb → W ≤ s.w →
      (∀ f' s' d low, f' 0 = uv k → f' 5 = .ptr nb 0 9 → s'.h nb = ⟨cellsD kw d, low, 28⟩ → low ≤ 9 → d.length = 2 * k → sizeD d = 2 * k + 1 → goodD d → ND s'.n kw kp s'.h d → W ≤ s'.w → zr Tryz.prog Γ ext F r4_1 f' s' K = R) → rl Tryz.prog Γ ext (F) 2 b4_1 r4_1 f s K = R := by
  intro n
  induction n with
  | zero =>
    intro i f s d low hn f0 f5 f9 hnb hat hlow hl hsz hg hkd hnd hW hw H
    obtain rfl : i = k := by omega
    refine rl_case (by unfold b4_1; rfl) (by unfold r4_1; rfl) ?_; intro hr R hR
    simp -implicitDefEqProofs (maxSteps := 3000000) (disch := first | assumption | (apply Ar.mk; omega) | (apply Ar.mk; simp only [List.length_append, List.length_cons, List.length_nil, true_and, and_true]; omega)) only [ZN, ↓dt, ↓df, und_e, Nat.reduceEqDiff, ↓reduceIte, Nat.reduceAdd, Nat.reduceLeDiff, Nat.reduceLT, Nat.reduceBEq, reduceCtorEq, pval_tmp, fillP, oneRes, frz, frz2, frzT, ofCells, ZM, slV, Nat.reduceMul, Nat.reduceSub, frzT, pk_dt, pk_df, ↓gk_t, ↓gk_f, f0, f9]
    rw [hR]
    exact H _ _ d low f0 f5 hat hlow hl hsz hg (hnd _ fun _ _ _ => rfl) hw
  | succ n ih =>
    intro i f s d low hn f0 f5 f9 hnb hat hlow hl hsz hg hkd hnd hW hw H
    have hc := cells_len kw d
    have ht := cells_take kw d
    have ho := cells_one kw d
    have hr1 : ∀ C : List PV, (List.replicate 1 C).flatten = C := fun C => by simp
    have hcd : cellsD kw ((6, 1, s.n) :: d) = [iv 6, iv 0, sv [], ff, nv, nv, nv, .own s.n 0 1 9, nv] := rfl
    have hcd2 : cellsD kw ((8, 1, s.n + 1) :: (6, 1, s.n) :: d) = [iv 8, iv 0, sv [], ff, nv, nv, nv, .own (s.n + 1) 0 1 9, nv] := rfl
    generalize hC : cellsD kw d = C at *
    have hd9 : C.drop 9 = [] := List.drop_of_length_le (by omega)
    refine rl_case (by unfold b4_1; rfl) (by unfold r4_1; rfl) ?_; intro hr R hR
    simp -implicitDefEqProofs (maxSteps := 3000000) (disch := first | assumption | (apply Ar.mk; omega) | (apply Ar.mk; simp only [List.length_append, List.length_cons, List.length_nil, true_and, and_true]; omega)) only [ZN, ↓dt, ↓df, und_e, Nat.reduceEqDiff, ↓reduceIte, Nat.reduceAdd, Nat.reduceLeDiff, Nat.reduceLT, Nat.reduceBEq, reduceCtorEq, pval_tmp, fillP, oneRes, frz, frz2, frzT, ofCells, ZM, slV, Nat.reduceMul, Nat.reduceSub, frzT, pk_dt, pk_df, ↓gk_t, ↓gk_f, f0, f5, f9, hat, hc, ht, ho, hd9]
    rw [hR]
    refine ih (i + 1) _ _ ((8, 1, s.n + 1) :: (6, 1, s.n) :: d) 9 (by omega) f0 f5 rfl ?_ ?_ (Nat.le_refl _) (by simp [hl]; omega) ?_ ⟨.inr ⟨rfl, rfl, rfl⟩, .inl ⟨rfl, by omega, hkd⟩, hg⟩ (.inr rfl) (fun h' hh => ?_) hW ?_ H
    · (simp only [new_n, put_n]; omega)
    · rw [hcd2]; simp -implicitDefEqProofs (disch := (apply Ar.mk; (try simp only [new_n, put_n]); omega)) only [new_h', put_h', new_n, put_n, hn_ne, hn_eq]
    · show 1 + 1 * (1 + 1 * sizeD d) = _
      omega
    · have e1 := hh (s.n + 1) (by (simp only [new_n, put_n]; omega)) (by omega)
      have e2 := hh s.n (by (simp only [new_n, put_n]; omega)) (by omega)
      refine ⟨by omega, by omega, by omega, by (simp only [new_n, put_n]; omega), ?_, by omega, by omega, by omega, by (simp only [new_n, put_n]; omega), ?_, ?_⟩
      · rw [e1, hr1, hcd]; simp -implicitDefEqProofs (disch := (apply Ar.mk; (try simp only [new_n, put_n]); omega)) only [new_h', put_h', new_n, put_n, hn_ne, hn_eq]
      · rw [e2, hr1, hC]; simp -implicitDefEqProofs (disch := (apply Ar.mk; (try simp only [new_n, put_n]); omega)) only [new_h', put_h', new_n, put_n, hn_ne, hn_eq]
      · refine ND.up (by (simp only [new_n, put_n]; omega)) (hnd h' fun j h1 h2 => ?_) fun _ _ => rfl
        rw [hh j (by (simp only [new_n, put_n]; omega)) h2]
        simp -implicitDefEqProofs (disch := (apply Ar.mk; (try simp only [new_n, put_n]); omega)) only [new_h', put_h', new_n, put_n, hn_ne, hn_eq]
    · (simp only [new_w, put_w]; omega)
end
section
variable (hx : ∀ s : PS, ext 298 [sv [97], iv 0] s = some (.tup [.lit 90 1 aC, iv 0, iv 0], s)) (ha : ∀ s : PS, ext 16 [] s = some (tt, s))
include hx ha
theorem y_awake (s : PS) : zcall Tryz.prog Γ ext 16 [] s = some (.ok tt s) := by
  have _ := hx
  rw [zcall_ext (by rfl), ha]; rfl
theorem y_law0 {k : Nat} (hk : k < 65536) {deep : Bool} (hA : k < 1 ∨ 2100 < k ∨ (deep = true ∧ 40 < k)) (s : PS) : zcall Tryz.prog Γ ext 4 [uv k, .sc (.bool deep)] s = some (.ok tt s) := by
  have h16 := fun s => y_awake (ext := ext) hx ha s
  by_cases h1 : k < 1
  · cases deep <;> (refine zT_case (fn := p4) [4] rfl rfl rfl rfl (by unfold p4; rfl) ?_; intro R hR; simp -implicitDefEqProofs (maxSteps := 3000000) (disch := first | assumption | (apply Ar.mk; omega) | (apply Ar.mk; simp only [List.length_append, List.length_cons, List.length_nil, true_and, and_true]; omega)) only [ZN, ↓dt, ↓df, und_e, Nat.reduceEqDiff, ↓reduceIte, Nat.reduceAdd, Nat.reduceLeDiff, Nat.reduceLT, Nat.reduceBEq, reduceCtorEq, pval_tmp, fillP, oneRes, frz, frz2, frzT, ofCells, ZM, slV, Nat.reduceMul, Nat.reduceSub, frzT, pk_dt, pk_df, ↓gk_t, ↓gk_f, h16]; exact hR.symm)
  by_cases h2 : 2100 < k
  · cases deep <;> (refine zT_case (fn := p4) [4] rfl rfl rfl rfl (by unfold p4; rfl) ?_; intro R hR; simp -implicitDefEqProofs (maxSteps := 3000000) (disch := first | assumption | (apply Ar.mk; omega) | (apply Ar.mk; simp only [List.length_append, List.length_cons, List.length_nil, true_and, and_true]; omega)) only [ZN, ↓dt, ↓df, und_e, Nat.reduceEqDiff, ↓reduceIte, Nat.reduceAdd, Nat.reduceLeDiff, Nat.reduceLT, Nat.reduceBEq, reduceCtorEq, pval_tmp, fillP, oneRes, frz, frz2, frzT, ofCells, ZM, slV, Nat.reduceMul, Nat.reduceSub, frzT, pk_dt, pk_df, ↓gk_t, ↓gk_f, h16]; exact hR.symm)
  obtain ⟨rfl, h3⟩ := (hA.resolve_left h1).resolve_left h2
  refine zT_case (fn := p4) [4] rfl rfl rfl rfl (by unfold p4; rfl) ?_; intro R hR
  simp -implicitDefEqProofs (maxSteps := 3000000) (disch := first | assumption | (apply Ar.mk; omega) | (apply Ar.mk; simp only [List.length_append, List.length_cons, List.length_nil, true_and, and_true]; omega)) only [ZN, ↓dt, ↓df, und_e, Nat.reduceEqDiff, ↓reduceIte, Nat.reduceAdd, Nat.reduceLeDiff, Nat.reduceLT, Nat.reduceBEq, reduceCtorEq, pval_tmp, fillP, oneRes, frz, frz2, frzT, ofCells, ZM, slV, Nat.reduceMul, Nat.reduceSub, frzT, pk_dt, pk_df, ↓gk_t, ↓gk_f, h16]
  exact hR.symm
theorem y_law1 {k : Nat} (h1 : 1 ≤ k) (h2 : k ≤ 2100) (s : PS) : zcall Tryz.prog Γ ext 4 [uv k, .sc (.bool false)] s = some (.ok tt s) := by
  have h16 := fun s => y_awake (ext := ext) hx ha s
  have hb1 := fun x y a b => bin_beql (P := Tryz.prog) (t := 4) Tryz.underlying4 x y a b
  have eff : ((false : Bool) == false) = true := rfl
  have ett : ((true : Bool) == true) = true := rfl
  refine zT_case (fn := p4) [4] rfl rfl rfl rfl (by unfold p4; rfl) ?_; intro R hR
  simp -implicitDefEqProofs (maxSteps := 3000000) (disch := first | assumption | (apply Ar.mk; omega) | (apply Ar.mk; simp only [List.length_append, List.length_cons, List.length_nil, true_and, and_true]; omega)) only [ZN, ↓dt, ↓df, und_e, Nat.reduceEqDiff, ↓reduceIte, Nat.reduceAdd, Nat.reduceLeDiff, Nat.reduceLT, Nat.reduceBEq, reduceCtorEq, pval_tmp, fillP, oneRes, frz, frz2, frzT, ofCells, ZM, slV, Nat.reduceMul, Nat.reduceSub, frzT, pk_dt, pk_df, ↓gk_t, ↓gk_f]
  refine ra_y (y_call _) fun v s1 h => ?_
  obtain ⟨kw, kp, rfl, g1, g2, g3, g4, g5⟩ := h
  have g1' : s.n ≤ kw ∧ kw < s1.n := g1
  have g2' : s.n ≤ kp ∧ kp < s1.n := g2
  have g5' : s.n ≤ s1.w := g5 (Nat.le_refl _)
  have hc := cells_len kw []
  have ht := cells_take kw []
  have ho := cells_one kw []
  simp -implicitDefEqProofs (maxSteps := 3000000) (disch := first | assumption | (apply Ar.mk; omega) | (apply Ar.mk; simp only [List.length_append, List.length_cons, List.length_nil, true_and, and_true]; omega)) only [ZN, ↓dt, ↓df, und_e, Nat.reduceEqDiff, ↓reduceIte, Nat.reduceAdd, Nat.reduceLeDiff, Nat.reduceLT, Nat.reduceBEq, reduceCtorEq, pval_tmp, fillP, oneRes, frz, frz2, frzT, ofCells, ZM, slV, Nat.reduceMul, Nat.reduceSub, frzT, pk_dt, pk_df, ↓gk_t, ↓gk_f, hc, ht, ho]
  refine lp4 (NB := s1.n + 1) (nb := s1.n) (kw := kw) (W := s.n) (low := 9) h2 (by omega) ?_ (Nat.le_refl _) k 0 _ _ (by omega) rfl rfl rfl (.inl ⟨rfl, rfl⟩) (St.rf ?_) (by omega) ?_ fun f' s' e0 e6 hs' hw' => ?_
  · simp -implicitDefEqProofs (disch := (apply Ar.mk; (try simp only [new_n, put_n]); omega)) only [new_h', put_h', new_n, put_n, hn_ne, hn_eq]
  · (simp only [new_n, put_n]; omega)
  · (simp only [new_w, put_w]; omega)
  rcases e6 with ⟨h, _⟩ | ⟨_, L, l1, l2, e6, l3⟩
  · omega
  have hN := hs'.n
  have hw1 : s'.h kw = ⟨[iv 0, .own kp 0 1 5], 0, 82⟩ := (hs'.at' kw (by omega)).trans (by simp -implicitDefEqProofs (disch := (apply Ar.mk; (try simp only [new_n, put_n]); omega)) only [new_h', put_h', new_n, put_n, hn_ne, hn_eq]; exact g3)
  have hp1 : s'.h kp = ⟨aC, 0, 90⟩ := (hs'.at' kp (by omega)).trans (by simp -implicitDefEqProofs (disch := (apply Ar.mk; (try simp only [new_n, put_n]); omega)) only [new_h', put_h', new_n, put_n, hn_ne, hn_eq]; exact g4)
  have hv : zcall Tryz.prog Γ ext 17 [.agg [iv 6, iv 0, sv [], ff, nv, nv, nv, .own L 0 k (k * 9), nv]] s' = _ := y_valid (N := s'.n) (kw := kw) (kp := kp) (h0 := s'.h) (d := [(6, k, L)]) hx ⟨by omega, h1, h2, l2, l3, by omega, by omega, hw1, hp1⟩ (fun h => ⟨.inl ⟨rfl, by have : 1 + k * 1 ≤ 2048 := h; omega, .inl rfl⟩, trivial⟩) (by simp) (by show 1 + k * 1 < 5000; omega) (St.rf (Nat.le_refl _))
  rw [if_neg (by show ¬ 32 < 2; omega)] at hv
  unfold r4_0
  by_cases h8 : 2048 < sizeD [(6, k, L)]
  · rw [if_pos h8] at hv
    have h9 : decide (k ≤ 2047) = false := decide_eq_false (by have : 2048 < 1 + k * 1 := h8; omega)
    simp -implicitDefEqProofs (maxSteps := 3000000) (disch := first | assumption | (apply Ar.mk; omega) | (apply Ar.mk; simp only [List.length_append, List.length_cons, List.length_nil, true_and, and_true]; omega)) only [ZN, ↓dt, ↓df, und_e, Nat.reduceEqDiff, ↓reduceIte, Nat.reduceAdd, Nat.reduceLeDiff, Nat.reduceLT, Nat.reduceBEq, reduceCtorEq, pval_tmp, fillP, oneRes, frz, frz2, frzT, ofCells, ZM, slV, Nat.reduceMul, Nat.reduceSub, frzT, pk_dt, pk_df, ↓gk_t, ↓gk_f, e0, e6, hv, hb1, h16, h9, eff, ett]
    exact hR.symm
  · rw [if_neg h8] at hv
    have h9 : decide (k ≤ 2047) = true := decide_eq_true (by have : ¬ 2048 < 1 + k * 1 := h8; omega)
    simp -implicitDefEqProofs (maxSteps := 3000000) (disch := first | assumption | (apply Ar.mk; omega) | (apply Ar.mk; simp only [List.length_append, List.length_cons, List.length_nil, true_and, and_true]; omega)) only [ZN, ↓dt, ↓df, und_e, Nat.reduceEqDiff, ↓reduceIte, Nat.reduceAdd, Nat.reduceLeDiff, Nat.reduceLT, Nat.reduceBEq, reduceCtorEq, pval_tmp, fillP, oneRes, frz, frz2, frzT, ofCells, ZM, slV, Nat.reduceMul, Nat.reduceSub, frzT, pk_dt, pk_df, ↓gk_t, ↓gk_f, e0, e6, hv, hb1, h16, h9, eff, ett]
    exact hR.symm
theorem y_law2 {k : Nat} (h1 : 1 ≤ k) (h2 : k ≤ 40) (s : PS) : zcall Tryz.prog Γ ext 4 [uv k, .sc (.bool true)] s = some (.ok tt s) := by
  have h16 := fun s => y_awake (ext := ext) hx ha s
  have hb1 := fun x y a b => bin_beql (P := Tryz.prog) (t := 4) Tryz.underlying4 x y a b
  have eff : ((false : Bool) == false) = true := rfl
  have ett : ((true : Bool) == true) = true := rfl
  refine zT_case (fn := p4) [4] rfl rfl rfl rfl (by unfold p4; rfl) ?_; intro R hR
  simp -implicitDefEqProofs (maxSteps := 3000000) (disch := first | assumption | (apply Ar.mk; omega) | (apply Ar.mk; simp only [List.length_append, List.length_cons, List.length_nil, true_and, and_true]; omega)) only [ZN, ↓dt, ↓df, und_e, Nat.reduceEqDiff, ↓reduceIte, Nat.reduceAdd, Nat.reduceLeDiff, Nat.reduceLT, Nat.reduceBEq, reduceCtorEq, pval_tmp, fillP, oneRes, frz, frz2, frzT, ofCells, ZM, slV, Nat.reduceMul, Nat.reduceSub, frzT, pk_dt, pk_df, ↓gk_t, ↓gk_f]
  refine ra_y (y_call _) fun v s1 h => ?_
  obtain ⟨kw, kp, rfl, g1, g2, g3, g4, g5⟩ := h
  have g1' : s.n ≤ kw ∧ kw < s1.n := g1
  have g2' : s.n ≤ kp ∧ kp < s1.n := g2
  have g5' : s.n ≤ s1.w := g5 (Nat.le_refl _)
  have hc := cells_len kw []
  have ht := cells_take kw []
  have ho := cells_one kw []
  simp -implicitDefEqProofs (maxSteps := 3000000) (disch := first | assumption | (apply Ar.mk; omega) | (apply Ar.mk; simp only [List.length_append, List.length_cons, List.length_nil, true_and, and_true]; omega)) only [ZN, ↓dt, ↓df, und_e, Nat.reduceEqDiff, ↓reduceIte, Nat.reduceAdd, Nat.reduceLeDiff, Nat.reduceLT, Nat.reduceBEq, reduceCtorEq, pval_tmp, fillP, oneRes, frz, frz2, frzT, ofCells, ZM, slV, Nat.reduceMul, Nat.reduceSub, frzT, pk_dt, pk_df, ↓gk_t, ↓gk_f, hc, ht, ho]
  refine lp4d (nb := s1.n) (kw := kw) (kp := kp) (W := s.n) (NB := 0) h2 (Nat.zero_le _) k 0 _ _ [] 9 (by omega) rfl rfl rfl ?_ ?_ (Nat.le_refl _) rfl rfl trivial (.inl rfl) (fun h' hh => ?_) (by omega) ?_ fun f' s' d low e0 e5 hat hlow hl hsz hg hnd hw' => ?_
  · (simp only [new_n, put_n]; omega)
  · simp -implicitDefEqProofs (disch := (apply Ar.mk; (try simp only [new_n, put_n]); omega)) only [new_h', put_h', new_n, put_n, hn_ne, hn_eq]
  · refine ⟨by (simp only [new_n, put_n]; omega), by (simp only [new_n, put_n]; omega), ?_, ?_⟩
    · rw [hh kw (by (simp only [new_n, put_n]; omega)) (by omega)]; simp -implicitDefEqProofs (disch := (apply Ar.mk; (try simp only [new_n, put_n]); omega)) only [new_h', put_h', new_n, put_n, hn_ne, hn_eq]; exact g3
    · rw [hh kp (by (simp only [new_n, put_n]; omega)) (by omega)]; simp -implicitDefEqProofs (disch := (apply Ar.mk; (try simp only [new_n, put_n]); omega)) only [new_h', put_h', new_n, put_n, hn_ne, hn_eq]; exact g4
  · (simp only [new_w, put_w]; omega)
  have hcd := cells_len kw d
  have htd := cells_take kw d
  have hv : zcall Tryz.prog Γ ext 17 [.agg (cellsD kw d)] s' = _ := y_valid (N := s'.n) (kw := kw) (kp := kp) (h0 := s'.h) hx hnd (fun _ => hg) (by omega) (by omega) (St.rf (Nat.le_refl _))
  rw [show depthD d = 2 * k + 1 by show d.length + 1 = _; omega, hsz] at hv
  rw [if_neg (show ¬ 2048 < 2 * k + 1 by omega)] at hv
  generalize cellsD kw d = C at *
  unfold r4_1
  by_cases h8 : 32 < 2 * k + 1
  · rw [if_pos h8] at hv
    have h9 : decide (2 * k ≤ 31) = false := decide_eq_false (by omega)
    simp -implicitDefEqProofs (maxSteps := 3000000) (disch := first | assumption | (apply Ar.mk; omega) | (apply Ar.mk; simp only [List.length_append, List.length_cons, List.length_nil, true_and, and_true]; omega)) only [ZN, ↓dt, ↓df, und_e, Nat.reduceEqDiff, ↓reduceIte, Nat.reduceAdd, Nat.reduceLeDiff, Nat.reduceLT, Nat.reduceBEq, reduceCtorEq, pval_tmp, fillP, oneRes, frz, frz2, frzT, ofCells, ZM, slV, Nat.reduceMul, Nat.reduceSub, frzT, pk_dt, pk_df, ↓gk_t, ↓gk_f, e0, e5, hat, hcd, htd, hv, hb1, h16, h9, eff, ett]
    exact hR.symm
  · rw [if_neg h8] at hv
    have h9 : decide (2 * k ≤ 31) = true := decide_eq_true (by omega)
    simp -implicitDefEqProofs (maxSteps := 3000000) (disch := first | assumption | (apply Ar.mk; omega) | (apply Ar.mk; simp only [List.length_append, List.length_cons, List.length_nil, true_and, and_true]; omega)) only [ZN, ↓dt, ↓df, und_e, Nat.reduceEqDiff, ↓reduceIte, Nat.reduceAdd, Nat.reduceLeDiff, Nat.reduceLT, Nat.reduceBEq, reduceCtorEq, pval_tmp, fillP, oneRes, frz, frz2, frzT, ofCells, ZM, slV, Nat.reduceMul, Nat.reduceSub, frzT, pk_dt, pk_df, ↓gk_t, ↓gk_f, e0, e5, hat, hcd, htd, hv, hb1, h16, h9, eff, ett]
    exact hR.symm
theorem y_law {k : Nat} (hk : k < 65536) (deep : Bool) (s : PS) : zcall Tryz.prog Γ ext 4 [uv k, .sc (.bool deep)] s = some (.ok tt s) := by
  by_cases hA : k < 1 ∨ 2100 < k ∨ (deep = true ∧ 40 < k)
  · exact y_law0 hx ha hk hA s
  · cases deep
    · exact y_law1 hx ha (by omega) (by omega) s
    · exact y_law2 hx ha (by omega) (by by_cases h : 40 < k; exact absurd (.inr (.inr ⟨rfl, h⟩)) hA; omega) s
end
end Go.Proofs.YtflfflfodghgpaaGreatDoor
set_option linter.unusedSimpArgs false
namespace Go.Proofs.YtflfflfodghgpaaGreatDoor
open Go Go.EvL Go.PE Go.Mir
variable {ext : PCallF}
abbrev scA (a : Nat) (tv lv : PV) : List PV := [sv [97], iv a, iv 0, ff, iv 1, .sc (.int .i64 (-1)), iv 0, tv, lv]
/-- the scope at k has the text a -/
structure Tx (k : Nat) (s s' : PS) : Prop where
  n : s.n ≤ s'.n
  at' : ∃ j, s.n ≤ j ∧ j < s'.n ∧ s'.h k = ⟨scA 1 (.own j 0 1 1) nv, 9, 312⟩ ∧ s'.h j = ⟨[cv 97], 0, 5⟩
  fr : ∀ i, i < s.n → i ≠ k → s'.h i = s.h i
  w : ∀ n0, n0 ≤ k → n0 ≤ s.n → n0 ≤ s.w → n0 ≤ s'.w
theorem Tx.fin {k : Nat} {s t s1 : PS} (h : Tx k t s1) (hn : s.n ≤ t.n) (hh : ∀ i, i < s.n → i ≠ k → t.h i = s.h i) (hw : ∀ n0, n0 ≤ k → n0 ≤ s.n → n0 ≤ t.w) : Tx k s ⟨s1.h, s1.n, min s.w s1.w⟩ where
  n := Nat.le_trans hn h.n
  at' := by
    obtain ⟨j, h1, h2, h3, h4⟩ := h.at'
    exact ⟨j, by omega, h2, h3, h4⟩
  fr := fun i hi hk => (h.fr i (by omega) hk).trans (hh i hi hk)
  w := fun n0 h1 h2 h3 => Nat.le_min.2 ⟨h3, h.w n0 h1 (by omega) (hw n0 h1 h2)⟩
section
variable {k low : Nat} {s : PS} (hlow : low ≤ 9)
include hlow
theorem w344_0 (hk : s.h k = ⟨scA 0 nv nv, low, 312⟩) : zcall Tryz.prog Γ ext 344 [.ptr k 0 9] s = some (.ok ff s) := by
  have hb : bt [97] 0 = 97 := rfl
  refine zT_case (fn := p344) [2] rfl rfl rfl rfl (by unfold p344; rfl) ?_; intro R hR
  simp -implicitDefEqProofs (maxSteps := 3000000) (disch := first | assumption | (apply Ar.mk; omega) | (apply Ak.mk; first | rfl | exact .inl rfl | exact .inr rfl | exact okAll_un _ _ | exact okAll_e _ _ | (unfold OkAll OkPair; simp <;> omega)) | (apply Ar.mk; simp only [List.length_append, List.length_cons, List.length_nil, true_and, and_true]; omega)) only [ZN, ↓dt, ↓df, und_e, Nat.reduceEqDiff, ↓reduceIte, Nat.reduceAdd, Nat.reduceLeDiff, Nat.reduceLT, Nat.reduceBEq, reduceCtorEq, pval_tmp, fillP, oneRes, frz, frz2, frzT, ofCells, ZM, slV, Nat.reduceMul, Nat.reduceSub, frzT, pk_dt, pk_df, ↓gk_t, ↓gk_f, ZV, effO, effA, pureI, hk, hb]
  exact hR.symm
theorem w344_1 {tv lv : PV} (hk : s.h k = ⟨scA 1 tv lv, low, 312⟩) : zcall Tryz.prog Γ ext 344 [.ptr k 0 9] s = some (.ok tt s) := by
  refine zT_case (fn := p344) [2] rfl rfl rfl rfl (by unfold p344; rfl) ?_; intro R hR
  simp -implicitDefEqProofs (maxSteps := 3000000) (disch := first | assumption | (apply Ar.mk; omega) | (apply Ar.mk; decide) | (apply Ak.mk; first | rfl | exact .inl rfl | exact .inr rfl | exact okAll_un _ _ | exact okAll_e _ _ | (unfold OkAll OkPair; simp <;> omega)) | (apply Ar.mk; simp only [List.length_append, List.length_cons, List.length_nil, true_and, and_true]; omega)) only [ZN, ↓dt, ↓df, und_e, Nat.reduceEqDiff, ↓reduceIte, Nat.reduceAdd, Nat.reduceLeDiff, Nat.reduceLT, Nat.reduceBEq, reduceCtorEq, pval_tmp, fillP, oneRes, frz, frz2, frzT, ofCells, ZM, slV, Nat.reduceMul, Nat.reduceSub, frzT, pk_dt, pk_df, ↓gk_t, ↓gk_f, ZV, effO, effA, pureI, hk]
  exact hR.symm
variable (hk : s.h k = ⟨scA 0 nv nv, low, 312⟩) (hkn : k < s.n)
include hk hkn
theorem w365 : PX (zcall Tryz.prog Γ ext 365 [.ptr k 0 9, cv 97, iv 1] s) (.tup []) (Tx k s) := by
  refine zK_px (fn := p365) [] rfl rfl rfl rfl (by unfold p365; rfl) ?_
  simp -implicitDefEqProofs (maxSteps := 3000000) (disch := first | assumption | (apply Ar.mk; omega) | (apply Ar.mk; simp only [List.length_append, List.length_cons, List.length_nil, true_and, and_true]; omega)) only [ZN, ↓dt, ↓df, und_e, Nat.reduceEqDiff, ↓reduceIte, Nat.reduceAdd, Nat.reduceLeDiff, Nat.reduceLT, Nat.reduceBEq, reduceCtorEq, pval_tmp, fillP, oneRes, frz, frz2, frzT, ofCells, ZM, slV, Nat.reduceMul, Nat.reduceSub, frzT, pk_dt, pk_df, ↓gk_t, ↓gk_f, hk]
  refine PX.mk' ⟨?_, ⟨s.n + 1, ?_, ?_, ?_, ?_⟩, fun i h1 h2 => ?_, fun n0 h1 h2 h3 => ?_⟩
  · (simp only [new_n, put_n]; omega)
  · omega
  · (simp only [new_n, put_n]; omega)
  · simp -implicitDefEqProofs (disch := (apply Ar.mk; (try simp only [new_n, put_n]); omega)) only [new_h', put_h', new_n, put_n, hn_ne, hn_eq]
  · simp -implicitDefEqProofs (disch := (apply Ar.mk; (try simp only [new_n, put_n]); omega)) only [new_h', put_h', new_n, put_n, hn_ne, hn_eq]
  · simp -implicitDefEqProofs (disch := (apply Ar.mk; (try simp only [new_n, put_n]); omega)) only [new_h', put_h', new_n, put_n, hn_ne, hn_eq]
  · (simp only [new_w, put_w]; omega)
theorem w364 : PX (zcall Tryz.prog Γ ext 364 [.ptr k 0 9, cv 97] s) (.tup []) (Tx k s) := by
  refine zK_px (fn := p364) [] rfl rfl rfl rfl (by unfold p364; rfl) ?_
  simp -implicitDefEqProofs (maxSteps := 3000000) (disch := first | assumption | (apply Ar.mk; omega) | (apply Ar.mk; decide) | (apply Ar.mk; simp only [List.length_append, List.length_cons, List.length_nil, true_and, and_true]; omega)) only [ZN, ↓dt, ↓df, und_e, Nat.reduceEqDiff, ↓reduceIte, Nat.reduceAdd, Nat.reduceLeDiff, Nat.reduceLT, Nat.reduceBEq, reduceCtorEq, pval_tmp, fillP, oneRes, frz, frz2, frzT, ofCells, ZM, slV, Nat.reduceMul, Nat.reduceSub, frzT, pk_dt, pk_df, ↓gk_t, ↓gk_f]
  refine ra_px (w365 (low := low) hlow ?_ ?_) fun s1 h1 => ?_
  · exact hk
  · exact hkn
  simp -implicitDefEqProofs (maxSteps := 3000000) (disch := first | assumption | (apply Ar.mk; omega) | (apply Ar.mk; simp only [List.length_append, List.length_cons, List.length_nil, true_and, and_true]; omega)) only [ZN, ↓dt, ↓df, und_e, Nat.reduceEqDiff, ↓reduceIte, Nat.reduceAdd, Nat.reduceLeDiff, Nat.reduceLT, Nat.reduceBEq, reduceCtorEq, pval_tmp, fillP, oneRes, frz, frz2, frzT, ofCells, ZM, slV, Nat.reduceMul, Nat.reduceSub, frzT, pk_dt, pk_df, ↓gk_t, ↓gk_f]
  exact PX.mk' (h1.fin (Nat.le_refl _) (fun _ _ _ => rfl) fun n0 _ h => h)
theorem w345 : PX (zcall Tryz.prog Γ ext 345 [.ptr k 0 9] s) (.tup []) (Tx k s) := by
  have hb : bt [97] 0 = 97 := rfl
  refine zK_px (fn := p345) [] rfl rfl rfl rfl (by unfold p345; rfl) ?_
  simp -implicitDefEqProofs (maxSteps := 3000000) (disch := first | assumption | (apply Ar.mk; omega) | (apply Ar.mk; decide) | (apply Ak.mk; first | rfl | exact .inl rfl | exact .inr rfl | exact okAll_un _ _ | exact okAll_e _ _ | (unfold OkAll OkPair; simp <;> omega)) | (apply Ar.mk; simp only [List.length_append, List.length_cons, List.length_nil, true_and, and_true]; omega)) only [ZN, ↓dt, ↓df, und_e, Nat.reduceEqDiff, ↓reduceIte, Nat.reduceAdd, Nat.reduceLeDiff, Nat.reduceLT, Nat.reduceBEq, reduceCtorEq, pval_tmp, fillP, oneRes, frz, frz2, frzT, ofCells, ZM, slV, Nat.reduceMul, Nat.reduceSub, frzT, pk_dt, pk_df, ↓gk_t, ↓gk_f, ZV, effO, effA, pureI, hk, hb]
  refine ra_px (w364 (low := low) hlow ?_ ?_) fun s1 h1 => ?_
  · exact hk
  · exact hkn
  simp -implicitDefEqProofs (maxSteps := 3000000) (disch := first | assumption | (apply Ar.mk; omega) | (apply Ar.mk; simp only [List.length_append, List.length_cons, List.length_nil, true_and, and_true]; omega)) only [ZN, ↓dt, ↓df, und_e, Nat.reduceEqDiff, ↓reduceIte, Nat.reduceAdd, Nat.reduceLeDiff, Nat.reduceLT, Nat.reduceBEq, reduceCtorEq, pval_tmp, fillP, oneRes, frz, frz2, frzT, ofCells, ZM, slV, Nat.reduceMul, Nat.reduceSub, frzT, pk_dt, pk_df, ↓gk_t, ↓gk_f]
  exact PX.mk' (h1.fin (Nat.le_refl _) (fun _ _ _ => rfl) fun n0 _ h => h)
end
/-- the scope at k has the part a -/
structure Pt (k : Nat) (s s' : PS) : Prop where
  n : s.n ≤ s'.n
  at' : ∃ j low, low ≤ 5 ∧ s.n ≤ j ∧ j < s'.n ∧ s'.h k = ⟨scA 1 nv (.own j 0 1 5), 9, 312⟩ ∧ s'.h j = ⟨aC, low, 90⟩
  fr : ∀ i, i < s.n → i ≠ k → s'.h i = s.h i
  w : ∀ n0, n0 ≤ k → n0 ≤ s.n → n0 ≤ s.w → n0 ≤ s'.w
theorem w346 {k j : Nat} {s : PS} (hk : s.h k = ⟨scA 1 (.own j 0 1 1) nv, 9, 312⟩) (hj : s.h j = ⟨[cv 97], 0, 5⟩) (hkn : k < s.n) (hjn : j < s.n) : PX (zcall Tryz.prog Γ ext 346 [.ptr k 0 9] s) (.tup []) (Pt k s) := by
  have hb : bytesP [cv 97] = some [97] := rfl
  refine zK_px (fn := p346) [] rfl rfl rfl rfl (by unfold p346; rfl) ?_
  simp -implicitDefEqProofs (maxSteps := 3000000) (disch := first | assumption | (apply Ar.mk; omega) | (apply Ak.mk; first | rfl | exact .inl rfl | exact .inr rfl | exact okAll_un _ _ | exact okAll_e _ _ | (unfold OkAll OkPair; simp <;> omega)) | (apply Ar.mk; simp only [List.length_append, List.length_cons, List.length_nil, true_and, and_true]; omega)) only [ZN, ↓dt, ↓df, und_e, Nat.reduceEqDiff, ↓reduceIte, Nat.reduceAdd, Nat.reduceLeDiff, Nat.reduceLT, Nat.reduceBEq, reduceCtorEq, pval_tmp, fillP, oneRes, frz, frz2, frzT, ofCells, ZM, slV, Nat.reduceMul, Nat.reduceSub, frzT, pk_dt, pk_df, ↓gk_t, ↓gk_f, ZV, effO, effA, pureI, hk, hj, hb]
  refine PX.mk' ⟨?_, ⟨s.n + 1, 5, ?_, ?_, ?_, ?_, ?_⟩, fun i h1 h2 => ?_, fun n0 h1 h2 h3 => ?_⟩
  · (simp only [new_n, put_n]; omega)
  · omega
  · omega
  · (simp only [new_n, put_n]; omega)
  · simp -implicitDefEqProofs (disch := (apply Ar.mk; (try simp only [new_n, put_n]); omega)) only [new_h', put_h', new_n, put_n, hn_ne, hn_eq]
  · simp -implicitDefEqProofs (disch := (apply Ar.mk; (try simp only [new_n, put_n]); omega)) only [new_h', put_h', new_n, put_n, hn_ne, hn_eq]
  · simp -implicitDefEqProofs (disch := (apply Ar.mk; (try simp only [new_n, put_n]); omega)) only [new_h', put_h', new_n, put_n, hn_ne, hn_eq]
  · (simp only [new_w, put_w]; omega)
theorem w326 {k low : Nat} {s : PS} (hlow : low ≤ 9) (hk : s.h k = ⟨scA 0 nv nv, low, 312⟩) (hkn : k < s.n) : PX (zcall Tryz.prog Γ ext 326 [.ptr k 0 9] s) (.tup []) (Pt k s) := by
  have h0 : zcall Tryz.prog Γ ext 344 [.ptr k 0 9] ⟨s.h, s.n, s.n⟩ = _ := w344_0 (ext := ext) (s := ⟨s.h, s.n, s.n⟩) hlow hk
  refine zK_px (fn := p326) [] rfl rfl rfl rfl (by unfold p326; rfl) ?_
  simp -implicitDefEqProofs (maxSteps := 3000000) (disch := first | assumption | (apply Ar.mk; omega) | (apply Ar.mk; simp only [List.length_append, List.length_cons, List.length_nil, true_and, and_true]; omega)) only [ZN, ↓dt, ↓df, und_e, Nat.reduceEqDiff, ↓reduceIte, Nat.reduceAdd, Nat.reduceLeDiff, Nat.reduceLT, Nat.reduceBEq, reduceCtorEq, pval_tmp, fillP, oneRes, frz, frz2, frzT, ofCells, ZM, slV, Nat.reduceMul, Nat.reduceSub, frzT, pk_dt, pk_df, ↓gk_t, ↓gk_f]
  rw [rl_u (b := b326_0) (by unfold b326_0; rfl)]
  simp -implicitDefEqProofs (maxSteps := 3000000) (disch := first | assumption | (apply Ar.mk; omega) | (apply Ar.mk; simp only [List.length_append, List.length_cons, List.length_nil, true_and, and_true]; omega)) only [ZN, ↓dt, ↓df, und_e, Nat.reduceEqDiff, ↓reduceIte, Nat.reduceAdd, Nat.reduceLeDiff, Nat.reduceLT, Nat.reduceBEq, reduceCtorEq, pval_tmp, fillP, oneRes, frz, frz2, frzT, ofCells, ZM, slV, Nat.reduceMul, Nat.reduceSub, frzT, pk_dt, pk_df, ↓gk_t, ↓gk_f, h0]
  refine ra_px (w345 (low := low) hlow ?_ ?_) fun s1 h1 => ?_
  · exact hk
  · exact hkn
  obtain ⟨g1, ⟨j, g2, g3, g4, g5⟩, g6, g7⟩ := h1
  have g1' : s.n ≤ s1.n := g1
  have g2' : s.n ≤ j := g2
  have h2 : zcall Tryz.prog Γ ext 344 [.ptr k 0 9] s1 = _ := w344_1 (ext := ext) (Nat.le_refl _) g4
  simp -implicitDefEqProofs (maxSteps := 3000000) (disch := first | assumption | (apply Ar.mk; omega) | (apply Ar.mk; simp only [List.length_append, List.length_cons, List.length_nil, true_and, and_true]; omega)) only [ZN, ↓dt, ↓df, und_e, Nat.reduceEqDiff, ↓reduceIte, Nat.reduceAdd, Nat.reduceLeDiff, Nat.reduceLT, Nat.reduceBEq, reduceCtorEq, pval_tmp, fillP, oneRes, frz, frz2, frzT, ofCells, ZM, slV, Nat.reduceMul, Nat.reduceSub, frzT, pk_dt, pk_df, ↓gk_t, ↓gk_f]
  rw [rl_u (b := b326_0) (by unfold b326_0; rfl)]
  simp -implicitDefEqProofs (maxSteps := 3000000) (disch := first | assumption | (apply Ar.mk; omega) | (apply Ar.mk; simp only [List.length_append, List.length_cons, List.length_nil, true_and, and_true]; omega)) only [ZN, ↓dt, ↓df, und_e, Nat.reduceEqDiff, ↓reduceIte, Nat.reduceAdd, Nat.reduceLeDiff, Nat.reduceLT, Nat.reduceBEq, reduceCtorEq, pval_tmp, fillP, oneRes, frz, frz2, frzT, ofCells, ZM, slV, Nat.reduceMul, Nat.reduceSub, frzT, pk_dt, pk_df, ↓gk_t, ↓gk_f, h2, r326_0]
  refine ra_px (w346 g4 g5 (by omega) g3) fun s2 h3 => ?_
  simp -implicitDefEqProofs (maxSteps := 3000000) (disch := first | assumption | (apply Ar.mk; omega) | (apply Ar.mk; simp only [List.length_append, List.length_cons, List.length_nil, true_and, and_true]; omega)) only [ZN, ↓dt, ↓df, und_e, Nat.reduceEqDiff, ↓reduceIte, Nat.reduceAdd, Nat.reduceLeDiff, Nat.reduceLT, Nat.reduceBEq, reduceCtorEq, pval_tmp, fillP, oneRes, frz, frz2, frzT, ofCells, ZM, slV, Nat.reduceMul, Nat.reduceSub, frzT, pk_dt, pk_df, ↓gk_t, ↓gk_f]
  obtain ⟨q1, ⟨l, low', q2, q3, q4, q5, q6⟩, q7, q8⟩ := h3
  have q1' : s1.n ≤ s2.n := q1
  refine PX.mk' ⟨by show s.n ≤ s2.n; omega, ⟨l, low', q2, by omega, q4, q5, q6⟩, fun i h1 h2 => (q7 i (by omega) h2).trans (g6 i h1 h2), fun n0 h1 h2 h3 => Nat.le_min.2 ⟨h3, q8 n0 h1 (by omega) (g7 n0 h1 h2 h2)⟩⟩
end Go.Proofs.YtflfflfodghgpaaGreatDoor
namespace Go.PE
open Go Go.EvL
/-- a tree out of a function -/
noncomputable def trOf {α : Type} (f : Nat → Option α) : Nat → Tr α
  | 0 => .nil
  | n + 1 => match f n with
    | some a => Tr.set a 40 (trOf f n) n
    | none => trOf f n
theorem trOf_get {α : Type} (f : Nat → Option α) (n b : Nat) : (trOf f n).get b = if b < n then f b else none := by
  induction n with
  | zero => simp [trOf, Tr.get_nil]
  | succ n ih =>
    unfold trOf
    cases h : f n with
    | none =>
      simp only
      rw [ih]
      by_cases hb : b = n
      · subst hb; simp [h]
      · by_cases hlt : b < n
        · rw [if_pos hlt, if_pos (by omega)]
        · rw [if_neg hlt, if_neg (by omega)]
    | some a =>
      simp only
      rw [Tr.get_set _ _ _ _ trivial, ih]
      by_cases hb : b = n
      · subst hb; rw [if_pos rfl, if_pos (by omega), h]
      · rw [if_neg hb]
        by_cases hlt : b < n
        · rw [if_pos hlt, if_pos (by omega)]
        · rw [if_neg hlt, if_neg (by omega)]
/-- a part of a block of the world, as the run sees it -/
structure View where
  cells : List Value
  e : Nat
  blk : Nat
  sh : Nat
section
variable (P : Program) (w : World) (H : Nat)
def clsV (b : Nat) : Nat := if b < P.globals.size then b else P.globals.size
theorem clsV_le (b : Nat) : clsV P b ≤ P.globals.size := by unfold clsV; split <;> omega
def objV (V : List View) (b : Nat) : Option AObj :=
  if b ≤ P.globals.size then some (.row [] 0 b 0 false) else (V[b - P.globals.size - 1]?).map fun v => .row v.cells v.e (clsV P v.blk) v.sh true
def inCls (V : List View) (c j : Nat) : Bool := match V[j]? with
  | some v => clsV P v.blk == c
  | none => false
def memV (V : List View) (c : Nat) : List Nat := ((List.range V.length).filter (inCls P V c)).map (· + (P.globals.size + 1))
noncomputable def stV (V : List View) : AS :=
  ⟨trOf (objV P V) (P.globals.size + 1 + V.length), P.globals.size + 1 + V.length, trOf (fun c => some (memV P V c)) (P.globals.size + 1), trOf (fun _ => some H) (P.globals.size + 1), 0, 0⟩
def phiV (V : List View) : Emb := fun b =>
  if b < P.globals.size then some ⟨b, 0, szAt w b, esAt P w b, b, 0⟩ else if b = P.globals.size then none
  else (V[b - P.globals.size - 1]?).map fun v => ⟨v.blk, v.sh, szAt w v.blk - v.sh, P.cellsOf v.e, clsV P v.blk, v.sh⟩
structure VOK (V : List View) (v : View) : Prop where
  row : ∃ C e fz, w.heap[v.blk]? = some (.cells C e fz) ∧ fz.2 ≤ H ∧ v.sh + v.cells.length ≤ C.size ∧ VRels (phiV P w V) v.cells ((C.toList.drop v.sh).take v.cells.length)
variable {P w H}
theorem stV_get {V : List View} {b : Nat} {o : AObj} (h : (stV P H V).heap.get b = some o) :
    (b ≤ P.globals.size ∧ o = .row [] 0 b 0 false) ∨ (P.globals.size < b ∧ ∃ v, V[b - P.globals.size - 1]? = some v ∧ o = .row v.cells v.e (clsV P v.blk) v.sh true) := by
  have h' : (trOf (objV P V) (P.globals.size + 1 + V.length)).get b = some o := h
  rw [trOf_get] at h'
  split at h'
  · unfold objV at h'
    split at h'
    · rename_i hb; injection h' with h'; exact .inl ⟨hb, h'.symm⟩
    · rename_i hb
      rw [Option.map_eq_some_iff] at h'
      obtain ⟨v, h1, h2⟩ := h'
      exact .inr ⟨by omega, v, h1, h2.symm⟩
  · cases h'
theorem stV_view {V : List View} {j : Nat} {v : View} (h : V[j]? = some v) : (stV P H V).heap.get (P.globals.size + 1 + j) = some (.row v.cells v.e (clsV P v.blk) v.sh true) := by
  have hj := (List.getElem?_eq_some_iff.1 h).1
  show (trOf (objV P V) (P.globals.size + 1 + V.length)).get _ = _
  rw [trOf_get, if_pos (by omega)]
  unfold objV
  rw [if_neg (by omega), show P.globals.size + 1 + j - P.globals.size - 1 = j by omega, h]
  rfl
theorem phiV_view {V : List View} {j : Nat} {v : View} (h : V[j]? = some v) : phiV P w V (P.globals.size + 1 + j) = some ⟨v.blk, v.sh, szAt w v.blk - v.sh, P.cellsOf v.e, clsV P v.blk, v.sh⟩ := by
  unfold phiV
  rw [if_neg (by omega), if_neg (by omega), show P.globals.size + 1 + j - P.globals.size - 1 = j by omega, h]
  rfl
theorem phiV_get {V : List View} {b : Nat} {i : Inf} (h : phiV P w V b = some i) :
    (b < P.globals.size ∧ i = ⟨b, 0, szAt w b, esAt P w b, b, 0⟩) ∨ (P.globals.size < b ∧ ∃ v, V[b - P.globals.size - 1]? = some v ∧ i = ⟨v.blk, v.sh, szAt w v.blk - v.sh, P.cellsOf v.e, clsV P v.blk, v.sh⟩) := by
  unfold phiV at h
  split at h
  · rename_i hb; injection h with h; exact .inl ⟨hb, h.symm⟩
  · split at h
    · cases h
    · rename_i h1 h2
      rw [Option.map_eq_some_iff] at h
      obtain ⟨v, h3, h4⟩ := h
      exact .inr ⟨by omega, v, h3, h4.symm⟩
theorem stV_inv (V : List View) : Inv (stV P H V) := by
  refine ⟨fun b o hb => ?_, fun b cells e c st hb => ?_, fun c l x cells e c' st ok hm hx hg => ?_, fun b cells e c st ok hb => ?_, fun c l x hm hx => ?_, fun c l hm => ?_, fun c k hk => ?_⟩
  · show b < P.globals.size + 1 + V.length ∧ clsOf b o < P.globals.size + 1 + V.length
    rcases stV_get hb with ⟨h1, rfl⟩ | ⟨h1, v, h2, rfl⟩
    · exact ⟨by omega, by show b < _; omega⟩
    · have := (List.getElem?_eq_some_iff.1 h2).1
      have := clsV_le P v.blk
      exact ⟨by omega, by show clsV P v.blk < _; omega⟩
  · rcases stV_get hb with ⟨_, h2⟩ | ⟨h1, v, h2, h3⟩
    · cases h2
    · injection h3 with _ _ h3
      subst h3
      have hc := clsV_le P v.blk
      have hj := (List.getElem?_eq_some_iff.1 h2).1
      show b ∈ ((trOf (fun c => some (memV P V c)) (P.globals.size + 1)).get (clsV P v.blk)).getD [clsV P v.blk]
      rw [trOf_get, if_pos (by omega)]
      show b ∈ memV P V (clsV P v.blk)
      unfold memV
      rw [List.mem_map]
      refine ⟨b - P.globals.size - 1, List.mem_filter.2 ⟨List.mem_range.2 hj, ?_⟩, by omega⟩
      unfold inCls
      rw [h2]
      simp
  · have hm' : (trOf (fun c => some (memV P V c)) (P.globals.size + 1)).get c = some l := hm
    rw [trOf_get] at hm'
    split at hm'
    · injection hm' with hm'
      subst hm'
      unfold memV at hx
      rw [List.mem_map] at hx
      obtain ⟨j, hj, rfl⟩ := hx
      have hj2 := (List.mem_filter.1 hj).2
      unfold inCls at hj2
      split at hj2
      · rename_i v hv
        rw [show j + (P.globals.size + 1) = P.globals.size + 1 + j by omega, stV_view hv] at hg
        injection hg with hg
        injection hg with _ _ hg
        rw [← hg]
        simpa using hj2
      · cases hj2
    · cases hm'
  · have hc : c ≤ P.globals.size := by
      rcases stV_get hb with ⟨h1, h2⟩ | ⟨h1, v, h2, h3⟩
      · injection h2 with _ _ h2; omega
      · injection h3 with _ _ h3; rw [h3]; exact clsV_le P v.blk
    refine ⟨[], 0, 0, false, ?_⟩
    show (trOf (objV P V) (P.globals.size + 1 + V.length)).get c = _
    rw [trOf_get, if_pos (by omega)]
    unfold objV
    rw [if_pos hc]
  · have hm' : (trOf (fun c => some (memV P V c)) (P.globals.size + 1)).get c = some l := hm
    rw [trOf_get] at hm'
    split at hm'
    · injection hm' with hm'
      subst hm'
      unfold memV at hx
      rw [List.mem_map] at hx
      obtain ⟨j, hj, rfl⟩ := hx
      have := List.mem_range.1 (List.mem_filter.1 hj).1
      show _ < P.globals.size + 1 + V.length
      omega
    · cases hm'
  · have hm' : (trOf (fun c => some (memV P V c)) (P.globals.size + 1)).get c = some l := hm
    rw [trOf_get] at hm'
    show c < P.globals.size + 1 + V.length
    split at hm'
    · omega
    · cases hm'
  · have hm' : (trOf (fun _ => some H) (P.globals.size + 1)).get c = some k := hk
    rw [trOf_get] at hm'
    show c < P.globals.size + 1 + V.length
    split at hm'
    · omega
    · cases hm'
theorem szAt_of {b : Nat} {C : Array Value} {e : Nat} {fz : Nat × Nat} (h : w.heap[b]? = some (.cells C e fz)) : szAt w b = C.size := by unfold szAt; rw [h]
theorem lt_of_heap {b : Nat} {o : Obj} (h : w.heap[b]? = some o) : b < w.heap.size := (Array.getElem?_eq_some_iff.1 h).1
theorem stV_rel {V : List View} (hG : P.globals.size ≤ w.heap.size) (hH : 1180591620717411303424 ≤ H) (hV : ∀ v ∈ V, VOK P w H V v) (T : Nat → Prop) : Rel P (phiV P w V) T (stV P H V) w := by
  have hfz : ∀ c, c ≤ P.globals.size → (stV P H V).fz.get c = some H := fun c hc => by
    show (trOf (fun _ => some H) (P.globals.size + 1)).get c = _
    rw [trOf_get, if_pos (by omega)]
  refine ⟨fun b i hb => ?_, fun b₁ b₂ i₁ i₂ h₁ h₂ he => ?_, fun b o hb hl hT => ?_, fun _ _ _ => trivial, fun g hg => ?_, fun b i hb hc => ?_⟩
  · rcases phiV_get hb with ⟨h1, rfl⟩ | ⟨h1, v, h2, rfl⟩
    · show b < _; omega
    · obtain ⟨C, e, fz, h3, _⟩ := (hV v (List.mem_of_getElem? h2)).row
      exact lt_of_heap h3
  · have key : ∀ b i, phiV P w V b = some i → i.cls = clsV P i.blk ∧ i.sh = i.st := fun b i hb => by
      rcases phiV_get hb with ⟨h1, rfl⟩ | ⟨h1, v, h2, rfl⟩
      · exact ⟨by show b = clsV P b; unfold clsV; rw [if_pos h1], rfl⟩
      · exact ⟨rfl, rfl⟩
    obtain ⟨k1, k2⟩ := key _ _ h₁
    obtain ⟨k3, k4⟩ := key _ _ h₂
    exact ⟨by rw [k1, k3, he], by omega⟩
  · rcases stV_get hb with ⟨_, rfl⟩ | ⟨h1, v, h2, rfl⟩
    · cases hl
    · obtain ⟨C, e', fz, h3, h4, h5, h6⟩ := (hV v (List.mem_of_getElem? h2)).row
      have hb' : b = P.globals.size + 1 + (b - P.globals.size - 1) := by omega
      refine ⟨⟨v.blk, v.sh, szAt w v.blk - v.sh, P.cellsOf v.e, clsV P v.blk, v.sh⟩, _, ?_, h3, ?_⟩
      · rw [hb']
        exact phiV_view h2
      · have hf := hfz _ (clsV_le P v.blk)
        refine .row _ _ _ _ _ _ rfl rfl rfl ?_ h5 h6 (.inr ⟨H, hf, by show fz.2 + v.sh ≤ H + v.sh; omega⟩) e' (.inr ⟨H, hf, hH⟩)
        show v.sh + (szAt w v.blk - v.sh) = C.size
        rw [szAt_of h3]
        omega
  · exact ⟨_, by unfold phiV; rw [if_pos hg], rfl, rfl⟩
  · rcases phiV_get hb with ⟨h1, rfl⟩ | ⟨h1, v, h2, rfl⟩
    · rfl
    · have hc' : clsV P v.blk = b := hc
      have := clsV_le P v.blk
      omega
theorem phiV_ext (V M : List View) : Ext (phiV P w V) (phiV P w (V ++ M)) := by
  intro b i hb
  rcases phiV_get hb with ⟨h1, rfl⟩ | ⟨h1, v, h2, rfl⟩
  · unfold phiV; rw [if_pos h1]
  · have hj := (List.getElem?_eq_some_iff.1 h2).1
    have h3 : (V ++ M)[b - P.globals.size - 1]? = some v := by rw [List.getElem?_append_left hj]; exact h2
    have hb' : b = P.globals.size + 1 + (b - P.globals.size - 1) := by omega
    rw [hb']
    exact phiV_view h3
theorem VOK.mono {V : List View} (M : List View) {v : View} (h : VOK P w H V v) : VOK P w H (V ++ M) v := by
  obtain ⟨C, e, fz, h1, h2, h3, h4⟩ := h.row
  exact ⟨C, e, fz, h1, h2, h3, h4.mono (phiV_ext V M)⟩
theorem Cs.append {A : AS} {β : Nat → Nat} {n : Nat} : ∀ {l l' : List Value} {r r' : List PV}, Cs A β n l r → Cs A β n l' r' → Cs A β n (l ++ l') (r ++ r') := by
  intro l
  induction l with
  | nil => intro l' r r' h h'; cases h; exact h'
  | cons v l ih => intro l' r r' h h'; cases h with | cons _ p _ r h hs => exact .cons _ _ _ _ h (ih hs h')
end
end Go.PE
namespace Go.PE
open Go Go.EvL Go.RowKit
section
variable {P : Program} {Γ : Nat → Option PFn} {ext : PCallF}
/-- the state of the run when it begins -/
def ps0 : PS := ⟨fun _ => ⟨[], 0, 0⟩, 0, 0⟩
/-- a call that the run answers by true, from whatever world the arguments were opened in -/
theorem pe_calls (hE : Env P) (hO : OpsOK P) (hm : P.follows .mixedOrders = true) (hP : Parts P) (hΓ : TabOK P Γ) (hX : PCallOK P (puOf Γ) ext) {g : Nat} (hpu : puOf Γ g = true) {w : World} {H : Nat} {args : Array Value} {pvs : List PV} {V : List View} {vs : List Value}
    (hG : P.globals.size ≤ w.heap.size) (hH : 1180591620717411303424 ≤ H) (hV : ∀ v ∈ V, VOK P w H V v) (hvr : VRels (phiV P w V) vs args.toList) (hrs : Rs (stV P H V) (fun _ => 0) 0 vs pvs) {s' : PS} (h : pcall P Γ ext g pvs ps0 = some (.sc (.bool true), s')) :
    Calls P g args w fun e w' => e = .returned (.bool true) ∧ Below w.heap.size w w' := by
  obtain ⟨_, _, hh⟩ := pcall_ok hE hO hm hP hΓ hX g pvs ps0 _ _ h
  obtain ⟨u, A', β', cs, _, _, r1, hw⟩ := hh (stV P H V) (fun _ => 0) vs (stV_inv V) ⟨fun k hk => absurd hk (Nat.not_lt_zero _), fun j k hj => absurd hj (Nat.not_lt_zero _)⟩ hrs
  obtain ⟨rfl, _⟩ := r1.sc
  refine (cs.run (phiV P w V) (fun _ => True) w args hvr (stV_rel hG hH hV _) (fun _ _ _ => trivial) fun b hb _ => ?_).mono ?_
  · have hb' : P.globals.size + 1 + V.length ≤ b := hb
    unfold phiV
    rw [if_neg (by omega), if_neg (by omega), List.getElem?_eq_none (by omega)]
    rfl
  · rintro e w' ⟨φ', hp, he⟩
    refine ⟨?_, hp.os, hp.tape, hp.output, hp.size, fun k hk => hp.same k hk fun b i hb hi => ?_⟩
    · cases he with
      | ret _ v' hv => cases hv; rfl
    · have hc : i.cls < (stV P H V).next := by
        show i.cls < P.globals.size + 1 + V.length
        rcases phiV_get hb with ⟨h1, rfl⟩ | ⟨h1, v, h2, rfl⟩
        · show b < _; omega
        · have := clsV_le P v.blk
          show clsV P v.blk < _; omega
      cases hbit : A'.w.testBit i.cls with
      | false => rfl
      | true =>
        have := hw hpu _ hc hbit
        have h0 : (0 : Nat).testBit i.cls = true := this
        rw [Nat.zero_testBit] at h0
        cases h0
/-- a function without arguments that answers true wherever it is called -/
def extA (gA : Nat) : PCallF := fun g args s => if g = gA ∧ args.isEmpty = true then some (.sc (.bool true), s) else none
theorem extA_ok {gA : Nat} (hb : ∃ fn c, P.funcs[gA]? = some fn ∧ fn.body = some c) (hc : ∀ w : World, P.globals.size ≤ w.heap.size → Calls P gA #[] w fun e w' => e = .returned (.bool true) ∧ Below w.heap.size w w') (pu : Nat → Bool) : PCallOK P pu (extA gA) := by
  intro g args s q s' h
  unfold extA at h
  split at h
  · rename_i hg
    obtain ⟨rfl, ha⟩ := hg
    injection h with h
    injection h with h1 h2
    subst h1
    subst h2
    have ha' : args = [] := List.isEmpty_iff.1 ha
    subst ha'
    refine ⟨hb, .refl _, fun A β vs hi hs hr => ?_⟩
    have hvs : vs = [] := by cases hr; rfl
    subst hvs
    refine ⟨.bool true, A, β, ⟨.refl hi, fun φ T w args' hv hrel _ _ => ?_⟩, .refl _ _ _ _, hs, .cl _ _ (.sc _ rfl), fun _ c _ h => h⟩
    have ha2 : args' = #[] := by
      cases args' with
      | mk l => cases hv; rfl
    subst ha2
    refine (hc w (glob_size hrel)).mono ?_
    rintro e w' ⟨rfl, bel⟩
    exact ⟨φ, Post.below hrel rfl rfl rfl bel, .ret _ _ (.bool true)⟩
  · cases h
/-- how high the frozen parts of a world reach -/
theorem fz_bound (w : World) : ∃ H, 1180591620717411303424 ≤ H ∧ ∀ (b : Nat) (C : Array Value) (e : Nat) (fz : Nat × Nat), w.heap[b]? = some (.cells C e fz) → fz.2 ≤ H := by
  have key : ∀ l : List Obj, ∃ H, 1180591620717411303424 ≤ H ∧ ∀ C e (fz : Nat × Nat), Obj.cells C e fz ∈ l → fz.2 ≤ H := by
    intro l
    induction l with
    | nil => exact ⟨_, Nat.le_refl _, fun C e fz h => by cases h⟩
    | cons o l ih =>
      obtain ⟨H, h1, h2⟩ := ih
      cases o with
      | cells C e fz =>
        refine ⟨H + fz.2, by omega, fun C' e' fz' h => ?_⟩
        rcases List.mem_cons.1 h with h | h
        · injection h with _ _ h; subst h; omega
        · have := h2 _ _ _ h; omega
      | _ =>
        refine ⟨H, h1, fun C' e' fz' h => ?_⟩
        rcases List.mem_cons.1 h with h | h
        · cases h
        · exact h2 _ _ _ h
  obtain ⟨H, h1, h2⟩ := key w.heap.toList
  exact ⟨H, h1, fun b C e fz h => h2 C e fz (by
    have := Array.mem_of_getElem? h
    simpa using this)⟩
end
end Go.PE
set_option linter.unusedSimpArgs false
namespace Go.Proofs.YtflfflfodghgpaaGreatDoor
open Go Go.EvL Go.PE Go.Mir
variable {ext : PCallF}
def Fx (ts : List Nat) : ZC → Option ZR
  | .go .ret f s => some (.ok (.tup (ts.map f)) s)
  | .go .normal f s => some (.ok (.tup (ts.map f)) s)
  | _ => none
theorem Fx_r (ts : List Nat) (f : PFr) (s : PS) : Fx ts (.go .ret f s) = some (.ok (.tup (ts.map f)) s) := rfl
theorem Fx_n (ts : List Nat) (f : PFr) (s : PS) : Fx ts (.go .normal f s) = some (.ok (.tup (ts.map f)) s) := rfl
theorem of_zr {ts : List Nat} {c : PCode} {f : PFr} {s : PS} {Q : PV → PS → Prop} (h : PY (zr Tryz.prog Γ ext (Fx ts) c f s []) Q) : ∃ x f' s', pcode Tryz.prog Γ ext c f s = some (x, f', s') ∧ (x = .normal ∨ x = .ret) ∧ Q (.tup (ts.map f')) s' := by
  obtain ⟨v, s', h, q⟩ := h
  unfold zr zfin kz at h
  rw [Option.bind_eq_some_iff] at h
  obtain ⟨zc, h1, h2⟩ := h
  rcases zc with ⟨x, f', s1⟩ | ⟨v', f', s1⟩
  · cases x with
    | normal =>
      injection h2 with h2
      injection h2 with e1 e2
      subst e1; subst e2
      exact ⟨_, f', _, zcode_go h1, .inl rfl, q⟩
    | ret =>
      injection h2 with h2
      injection h2 with e1 e2
      subst e1; subst e2
      exact ⟨_, f', _, zcode_go h1, .inr rfl, q⟩
    | exit i => cases h2
  · cases h2
theorem of_reg {ts : List Nat} {l : List PI} {f : PFr} {s : PS} {Q : PV → PS → Prop} (h : PY (zr Tryz.prog Γ ext (Fx ts) (.reg l) f s []) Q) : ∃ f' s', pops Tryz.prog Γ ext l f s = some (f', s') ∧ Q (.tup (ts.map f')) s' := by
  obtain ⟨x, f', s', h1, _, q⟩ := of_zr h
  rw [pcode_reg, Option.map_eq_some_iff] at h1
  obtain ⟨⟨f1, s1⟩, h1, h2⟩ := h1
  injection h2 with _ h2
  injection h2 with e1 e2
  subst e1; subst e2
  exact ⟨_, _, h1, q⟩
theorem tup_inj {a b : List PV} (h : PV.tup a = .tup b) : a = b := by injection h
theorem parse_run (s : PS) : DRun Tryz.prog Γ ext d298 324 [sv [97], iv 0] s (.tup [.lit 90 1 aC, iv 0, iv 0]) := by
  have hm1 : pvOf (.int .i64 (-1)) = .sc (.int .i64 (-1)) := rfl
  refine ⟨by decide, ?_⟩
  have r1 : PY (zr Tryz.prog Γ ext (Fx [0, 1, 4, 5, 6]) (.reg d298.l1) (initP [sv [97], iv 0] 0) ⟨s.h, s.n, s.n⟩ []) (fun v s' => v = .tup [sv [97], iv 0, .ptr s.n 0 1, .ptr (s.n + 1) 0 1, .ptr (s.n + 2) 0 1] ∧ s'.n = s.n + 3 ∧ s'.h s.n = ⟨[nv], 0, 80⟩ ∧ s'.h (s.n + 1) = ⟨[iv 0], 0, 3⟩ ∧ s'.h (s.n + 2) = ⟨[iv 0], 0, 31⟩ ∧ s'.w = s.n) := by
    unfold d298
    simp -implicitDefEqProofs (maxSteps := 3000000) (disch := first | assumption | (apply Ar.mk; omega) | (apply Ar.mk; simp only [List.length_append, List.length_cons, List.length_nil, true_and, and_true]; omega)) only [ZN, ↓dt, ↓df, und_e, Nat.reduceEqDiff, ↓reduceIte, Nat.reduceAdd, Nat.reduceLeDiff, Nat.reduceLT, Nat.reduceBEq, reduceCtorEq, pval_tmp, fillP, oneRes, frz, frz2, frzT, ofCells, ZM, slV, Nat.reduceMul, Nat.reduceSub, frzT, pk_dt, pk_df, ↓gk_t, ↓gk_f, Fx_n]
    refine PY.mk' ⟨rfl, rfl, ?_, ?_, ?_, rfl⟩
    · simp -implicitDefEqProofs (disch := (apply Ar.mk; (try simp only [new_n, put_n]); omega)) only [new_h', put_h', new_n, put_n, hn_ne, hn_eq]
    · simp -implicitDefEqProofs (disch := (apply Ar.mk; (try simp only [new_n, put_n]); omega)) only [new_h', put_h', new_n, put_n, hn_ne, hn_eq]
    · simp -implicitDefEqProofs (disch := (apply Ar.mk; (try simp only [new_n, put_n]); omega)) only [new_h', put_h', new_n, put_n, hn_ne, hn_eq]
  obtain ⟨f0, s0, p0, q0, n0, a1, a2, a3, w0⟩ := of_reg r1
  have q0 := tup_inj q0
  simp only [List.map_cons, List.map_nil, List.cons.injEq, and_true] at q0
  obtain ⟨b0, b1, b4, b5, b6⟩ := q0
  have r2 : PY (zr Tryz.prog Γ ext (Fx [0, 1, 4, 5, 6, 8]) (.reg d298.l2) f0 s0 []) (fun v s' => v = .tup [sv [97], iv 0, .ptr s.n 0 1, .ptr (s.n + 1) 0 1, .ptr (s.n + 2) 0 1, .fn 324 [] [.ptr s.n 0 1, .ptr (s.n + 1) 0 1, .ptr (s.n + 2) 0 1]] ∧ s' = s0) := by
    unfold d298
    simp -implicitDefEqProofs (maxSteps := 3000000) (disch := first | assumption | (apply Ar.mk; omega) | (apply Ar.mk; simp only [List.length_append, List.length_cons, List.length_nil, true_and, and_true]; omega)) only [ZN, ↓dt, ↓df, und_e, Nat.reduceEqDiff, ↓reduceIte, Nat.reduceAdd, Nat.reduceLeDiff, Nat.reduceLT, Nat.reduceBEq, reduceCtorEq, pval_tmp, fillP, oneRes, frz, frz2, frzT, ofCells, ZM, slV, Nat.reduceMul, Nat.reduceSub, frzT, pk_dt, pk_df, ↓gk_t, ↓gk_f, Fx_n, b0, b1, b4, b5, b6]
    exact PY.mk' ⟨rfl, rfl⟩
  obtain ⟨f1, s1, p1, q1, rfl⟩ := of_reg r2
  have q1 := tup_inj q1
  simp only [List.map_cons, List.map_nil, List.cons.injEq, and_true] at q1
  obtain ⟨c0, c1, c4, c5, c6, c8⟩ := q1
  refine ⟨f0, s1, f1, s1, [.ptr s.n 0 1, .ptr (s.n + 1) 0 1, .ptr (s.n + 2) 0 1], p0, p1, c8, .inl ?_⟩
  have r3 : PY (zr Tryz.prog Γ ext (Fx [4, 5, 6]) d298.rest f1 s1 []) (fun v s' => v = .tup [.ptr s.n 0 1, .ptr (s.n + 1) 0 1, .ptr (s.n + 2) 0 1] ∧ ∃ l low, low ≤ 5 ∧ s.n ≤ l ∧ l < s'.n ∧ s'.h l = ⟨aC, low, 90⟩ ∧ s'.h s.n = ⟨[.own l 0 1 5], 1, 80⟩ ∧ s'.h (s.n + 1) = ⟨[iv 0], 1, 3⟩ ∧ s'.h (s.n + 2) = ⟨[iv 0], 1, 31⟩ ∧ s.n ≤ s'.w) := by
    unfold d298
    simp -implicitDefEqProofs (maxSteps := 3000000) (disch := first | assumption | (apply Ar.mk; omega) | (apply Ar.mk; decide) | (apply Ar.mk; simp only [List.length_append, List.length_cons, List.length_nil, true_and, and_true]; omega)) only [ZN, ↓dt, ↓df, und_e, Nat.reduceEqDiff, ↓reduceIte, Nat.reduceAdd, Nat.reduceLeDiff, Nat.reduceLT, Nat.reduceBEq, reduceCtorEq, pval_tmp, fillP, oneRes, frz, frz2, frzT, ofCells, ZM, slV, Nat.reduceMul, Nat.reduceSub, frzT, pk_dt, pk_df, ↓gk_t, ↓gk_f, Fx_r, Fx_n, c0, c1, c4, c5, c6, hm1]
    refine ra_py (w326 (low := 0) (Nat.zero_le _) ?_ ?_) fun s2 h2 => ?_
    · simp -implicitDefEqProofs (disch := (apply Ar.mk; (try simp only [new_n, put_n]); omega)) only [new_h', put_h', new_n, put_n, hn_ne, hn_eq]
    · (simp only [new_n, put_n]; omega)
    obtain ⟨g1, ⟨j, low, g2, g3, g4, g5, g6⟩, g7, g8⟩ := h2
    have g1' : s1.n + 1 ≤ s2.n := g1
    have g3' : s1.n + 1 ≤ j := g3
    have e1 : s2.h s.n = ⟨[nv], 0, 80⟩ := (g7 s.n (by show s.n < s1.n + 1; omega) (by omega)).trans (by simp -implicitDefEqProofs (disch := (apply Ar.mk; (try simp only [new_n, put_n]); omega)) only [new_h', put_h', new_n, put_n, hn_ne, hn_eq]; exact a1)
    have e2 : s2.h (s.n + 1) = ⟨[iv 0], 0, 3⟩ := (g7 (s.n + 1) (by show s.n + 1 < s1.n + 1; omega) (by omega)).trans (by simp -implicitDefEqProofs (disch := (apply Ar.mk; (try simp only [new_n, put_n]); omega)) only [new_h', put_h', new_n, put_n, hn_ne, hn_eq]; exact a2)
    have e3 : s2.h (s.n + 2) = ⟨[iv 0], 0, 31⟩ := (g7 (s.n + 2) (by show s.n + 2 < s1.n + 1; omega) (by omega)).trans (by simp -implicitDefEqProofs (disch := (apply Ar.mk; (try simp only [new_n, put_n]); omega)) only [new_h', put_h', new_n, put_n, hn_ne, hn_eq]; exact a3)
    have e4 : s.n ≤ s2.w := g8 s.n (by omega) (by show s.n ≤ s1.n + 1; omega) (by show s.n ≤ s1.w; omega)
    simp -implicitDefEqProofs (maxSteps := 3000000) (disch := first | assumption | (apply Ar.mk; omega) | (apply Ar.mk; simp only [List.length_append, List.length_cons, List.length_nil, true_and, and_true]; omega)) only [ZN, ↓dt, ↓df, und_e, Nat.reduceEqDiff, ↓reduceIte, Nat.reduceAdd, Nat.reduceLeDiff, Nat.reduceLT, Nat.reduceBEq, reduceCtorEq, pval_tmp, fillP, oneRes, frz, frz2, frzT, ofCells, ZM, slV, Nat.reduceMul, Nat.reduceSub, frzT, pk_dt, pk_df, ↓gk_t, ↓gk_f, Fx_r, Fx_n, c0, c1, c4, c5, c6, g5, e1, e2, e3]
    refine PY.mk' ⟨rfl, j, low, g2, by omega, ?_, ?_, ?_, ?_, ?_, ?_⟩
    · (simp only [new_n, put_n]; omega)
    · simp -implicitDefEqProofs (disch := (apply Ar.mk; (try simp only [new_n, put_n]); omega)) only [new_h', put_h', new_n, put_n, hn_ne, hn_eq]; exact g6
    · simp -implicitDefEqProofs (disch := (apply Ar.mk; (try simp only [new_n, put_n]); omega)) only [new_h', put_h', new_n, put_n, hn_ne, hn_eq]
    · simp -implicitDefEqProofs (disch := (apply Ar.mk; (try simp only [new_n, put_n]); omega)) only [new_h', put_h', new_n, put_n, hn_ne, hn_eq]
    · simp -implicitDefEqProofs (disch := (apply Ar.mk; (try simp only [new_n, put_n]); omega)) only [new_h', put_h', new_n, put_n, hn_ne, hn_eq]
    · (simp only [new_w, put_w]; omega)
  obtain ⟨x2, f2, s2, p2, hx2, q2, l, low, k1, k2, k3, k4, k5, k6, k7, k8⟩ := of_zr r3
  have q2 := tup_inj q2
  simp only [List.map_cons, List.map_nil, List.cons.injEq, and_true] at q2
  obtain ⟨d4, d5, d6⟩ := q2
  refine ⟨x2, f2, s2, p2, hx2, (by show 3 ≤ 19; omega), ?_⟩
  have r4 : PY (zr Tryz.prog Γ ext (Fx [3]) (.reg d298.l3) (PFr.set (initP [.ptr s.n 0 1, .ptr (s.n + 1) 0 1, .ptr (s.n + 2) 0 1] 0) d298.d2 (.sc .nilIface)) s2 []) (fun v s' => v = .tup [.sc .nilIface] ∧ s' = s2) := by
    unfold d298
    simp -implicitDefEqProofs (maxSteps := 3000000) (disch := first | assumption | (apply Ar.mk; omega) | (apply Ar.mk; simp only [List.length_append, List.length_cons, List.length_nil, true_and, and_true]; omega)) only [ZN, ↓dt, ↓df, und_e, Nat.reduceEqDiff, ↓reduceIte, Nat.reduceAdd, Nat.reduceLeDiff, Nat.reduceLT, Nat.reduceBEq, reduceCtorEq, pval_tmp, fillP, oneRes, frz, frz2, frzT, ofCells, ZM, slV, Nat.reduceMul, Nat.reduceSub, frzT, pk_dt, pk_df, ↓gk_t, ↓gk_f, Fx_n]
    exact PY.mk' ⟨rfl, rfl⟩
  obtain ⟨fd1, s3, p3, q3, rfl⟩ := of_reg r4
  have q3 := tup_inj q3
  simp only [List.map_cons, List.map_nil, List.cons.injEq, and_true] at q3
  have r5 : PY (zr Tryz.prog Γ ext (Fx []) d298.c3 fd1 s3 []) (fun v s' => s' = s3) := by
    unfold d298
    simp -implicitDefEqProofs (maxSteps := 3000000) (disch := first | assumption | (apply Ar.mk; omega) | (apply Ar.mk; simp only [List.length_append, List.length_cons, List.length_nil, true_and, and_true]; omega)) only [ZN, ↓dt, ↓df, und_e, Nat.reduceEqDiff, ↓reduceIte, Nat.reduceAdd, Nat.reduceLeDiff, Nat.reduceLT, Nat.reduceBEq, reduceCtorEq, pval_tmp, fillP, oneRes, frz, frz2, frzT, ofCells, ZM, slV, Nat.reduceMul, Nat.reduceSub, frzT, pk_dt, pk_df, ↓gk_t, ↓gk_f, Fx_n, q3, z_inq, inq_n]
    exact PY.mk' rfl
  obtain ⟨x4, fd2, s4, p4, hx4, rfl⟩ := of_zr r5
  refine ⟨fd1, s4, x4, fd2, s4, [.own l 0 1 5, iv 0, iv 0], p3, p4, hx4, ?_, k8, ?_⟩
  · unfold d298
    simp only [resP, d4, d5, d6, ldP, k5, k6, k7, List.length_cons, List.length_nil, List.drop_zero, List.take_succ_cons, List.take_zero, ofCells, Option.bind_some, Option.map_some, Nat.zero_add, Nat.le_refl, and_self, if_true, Bool.false_eq_true, if_false]
  · have hl : ¬ l < s.n := by omega
    simp only [oneRes, frz, frzT, frz2, frz1, hl, if_false, k4, List.length_cons, List.length_nil, Nat.reduceAdd, Nat.zero_add, k1, Nat.le_refl, Nat.zero_le, true_and, List.drop_zero, Nat.sub_zero, List.take_succ_cons, List.take_zero, Option.bind_some, Option.map_some]
    rfl
/-- awake, and the word a -/
noncomputable def extL : PCallF := fun g args s => @ite _ (g = 298 ∧ args = [sv [97], iv 0]) (Classical.propDecidable _) (some (.tup [.lit 90 1 aC, iv 0, iv 0], s)) (extA 16 g args s)
theorem extL_ok (hE : Env Tryz.prog) (hO : OpsOK Tryz.prog) (hm : Tryz.prog.follows .mixedOrders = true) (hP : Parts Tryz.prog) (hX : PCallOK Tryz.prog (puOf Γ) (extA 16)) : PCallOK Tryz.prog (puOf Γ) extL := by
  intro g args s q s' h
  unfold extL at h
  split at h
  · rename_i hg
    obtain ⟨rfl, rfl⟩ := hg
    injection h with h
    injection h with e1 e2
    subst e1; subst e2
    obtain ⟨k1, k2⟩ := dfr_ok hE hO hm hP tab_ok hX Tryz.func298 Tryz.func324 c298 (parse_run s)
    refine ⟨k1, .refl _, fun A β vs hi hs hr => ?_⟩
    obtain ⟨u, A', β', m1, m2, m3, m4, m5⟩ := k2 A β vs hi hs hr
    exact ⟨u, A', β', m1, m2, m3, m4, fun _ => m5⟩
  · exact hX g args s q s' h
theorem large_run {k : Nat} (hk : k < 65536) (deep : Bool) (s : PS) : pcall Tryz.prog Γ extL 4 [uv k, .sc (.bool deep)] s = some (.sc (.bool true), s) :=
  zcall_ok (y_law (fun s => if_pos ⟨rfl, rfl⟩) (fun s => (if_neg (fun h => absurd h.1 (by decide))).trans (if_pos ⟨rfl, rfl⟩)) hk deep s)
end Go.Proofs.YtflfflfodghgpaaGreatDoor
