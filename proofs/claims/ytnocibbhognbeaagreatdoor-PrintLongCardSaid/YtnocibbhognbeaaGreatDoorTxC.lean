/- What functions of the program and of the reference compute, on values. No statement is proved here. -/
import Derived.Test.YtnocibbhognbeaaGreatDoorTxB
import Derived.Test.YtnocibbhognbeaaGreatDoorTxA
import Derived.Test.YtnocibbhognbeaaGreatDoorEvD
set_option linter.unusedSimpArgs false
set_option linter.unusedVariables false
set_option linter.unusedSimpArgs false
namespace Go.Proofs.YtnocibbhognbeaaGreatDoor
open Go Go.EvL Go.PE Go.Mir
variable {ext : PCallF}
abbrev scA (n a : Nat) (tv lv : PV) : List PV := [sv (aT n), iv a, iv 0, ff, iv 1, .sc (.int .i64 (-1)), iv 0, tv, lv]
/-- the scope at k has i letters, in blocks from b on -/
def TxS (n k b i : Nat) (s : PS) : Prop := (i = 0 ∧ ∃ low, low ≤ 9 ∧ s.h k = ⟨scA n 0 nv nv, low, 132⟩) ∨ (0 < i ∧ ∃ j low, low ≤ i ∧ b ≤ j ∧ j < s.n ∧ s.h k = ⟨scA n i (.own j 0 i i) nv, 9, 132⟩ ∧ s.h j = ⟨cvs i, low, 5⟩)
theorem TxS.k {n k b i : Nat} {s : PS} (h : TxS n k b i s) : ∃ tv low, low ≤ 9 ∧ s.h k = ⟨scA n i tv nv, low, 132⟩ := by
  rcases h with ⟨rfl, low, h1, h2⟩ | ⟨_, j, low, _, _, _, h4, _⟩
  · exact ⟨_, low, h1, h2⟩
  · exact ⟨_, 9, Nat.le_refl _, h4⟩
structure Tx (n k b i : Nat) (s s' : PS) : Prop where
  le : s.n ≤ s'.n
  at' : TxS n k b i s'
  fr : ∀ j, j < b → j ≠ k → s'.h j = s.h j
  w : ∀ n0, n0 ≤ k → n0 ≤ b → n0 ≤ s.w → n0 ≤ s'.w
theorem Tx.fin {n k b i : Nat} {s t s1 : PS} (h : Tx n k b i t s1) (hn : s.n ≤ t.n) (hh : ∀ j, j < b → j ≠ k → t.h j = s.h j) (hwb : ∀ n0, n0 ≤ k → n0 ≤ b → n0 ≤ t.w) : Tx n k b i s ⟨s1.h, s1.n, min s.w s1.w⟩ where
  le := Nat.le_trans hn h.le
  at' := h.at'
  fr := fun j hj hk => (h.fr j hj hk).trans (hh j hj hk)
  w := fun n0 h1 h2 h3 => Nat.le_min.2 ⟨h3, h.w n0 h1 h2 (hwb n0 h1 h2)⟩
section
variable {n k b i : Nat} (hn : n ≤ 16000) {s : PS}
include hn
theorem w344_0 {tv lv : PV} {low : Nat} (hlow : low ≤ 9) (hi : i < n) (hk : s.h k = ⟨scA n i tv lv, low, 132⟩) : zcall Tryz.prog Γ ext 113 [.ptr k 0 9] s = some (.ok ff s) := by
  have _ := hn
  have hl := aT_len n
  have hb := aT_bt hi
  refine zT_case (fn := p113) [2] rfl rfl rfl rfl (by unfold p113; rfl) ?_; intro R hR
  simp -implicitDefEqProofs (maxSteps := 3000000) (disch := first | assumption | (apply Ar.mk; omega) | (apply Ak.mk; first | rfl | exact .inl rfl | exact .inr rfl | exact okAll_un _ _ | exact okAll_e _ _ | (unfold OkAll OkPair; simp <;> omega)) | (apply Ar.mk; simp only [List.length_append, List.length_cons, List.length_nil, true_and, and_true]; omega)) only [ZN, ↓dt, ↓df, und_e, Nat.reduceEqDiff, ↓reduceIte, Nat.reduceAdd, Nat.reduceLeDiff, Nat.reduceLT, Nat.reduceBEq, reduceCtorEq, pval_tmp, fillP, oneRes, frz, frz2, frzT, ofCells, ZM, slV, Nat.reduceMul, Nat.reduceSub, frzT, pk_dt, pk_df, ↓gk_t, ↓gk_f, ZV, effO, effA, pureI, hk, hb, hl]
  exact hR.symm
theorem w344_1 {tv lv : PV} {low : Nat} (hlow : low ≤ 9) (hk : s.h k = ⟨scA n n tv lv, low, 132⟩) : zcall Tryz.prog Γ ext 113 [.ptr k 0 9] s = some (.ok tt s) := by
  have _ := hn
  have hl := aT_len n
  refine zT_case (fn := p113) [2] rfl rfl rfl rfl (by unfold p113; rfl) ?_; intro R hR
  simp -implicitDefEqProofs (maxSteps := 3000000) (disch := first | assumption | (apply Ar.mk; omega) | (apply Ar.mk; decide) | (apply Ak.mk; first | rfl | exact .inl rfl | exact .inr rfl | exact okAll_un _ _ | exact okAll_e _ _ | (unfold OkAll OkPair; simp <;> omega)) | (apply Ar.mk; simp only [List.length_append, List.length_cons, List.length_nil, true_and, and_true]; omega)) only [ZN, ↓dt, ↓df, und_e, Nat.reduceEqDiff, ↓reduceIte, Nat.reduceAdd, Nat.reduceLeDiff, Nat.reduceLT, Nat.reduceBEq, reduceCtorEq, pval_tmp, fillP, oneRes, frz, frz2, frzT, ofCells, ZM, slV, Nat.reduceMul, Nat.reduceSub, frzT, pk_dt, pk_df, ↓gk_t, ↓gk_f, ZV, effO, effA, pureI, hk, hl]
  exact hR.symm
theorem w365 (h : TxS n k b i s) (hi : i < n) (hkb : k < b) (hb : b ≤ s.n) : PX (zcall Tryz.prog Γ ext 130 [.ptr k 0 9, cv 97, iv 1] s) (.tup []) (Tx n k b (i + 1) s) := by
  rcases h with ⟨rfl, low, hlow, hk⟩ | ⟨h0, j, low, g1, g2, g3, g4, g5⟩
  · refine zK_px (fn := p130) [] rfl rfl rfl rfl (by unfold p130; rfl) ?_
    simp -implicitDefEqProofs (maxSteps := 3000000) (disch := first | assumption | (apply Ar.mk; omega) | (apply Ar.mk; simp only [List.length_append, List.length_cons, List.length_nil, true_and, and_true]; omega)) only [ZN, ↓dt, ↓df, und_e, Nat.reduceEqDiff, ↓reduceIte, Nat.reduceAdd, Nat.reduceLeDiff, Nat.reduceLT, Nat.reduceBEq, reduceCtorEq, pval_tmp, fillP, oneRes, frz, frz2, frzT, ofCells, ZM, slV, Nat.reduceMul, Nat.reduceSub, frzT, pk_dt, pk_df, ↓gk_t, ↓gk_f, hk]
    refine PX.mk' ⟨?_, .inr ⟨by omega, s.n + 1, 0, by omega, ?_, ?_, ?_, ?_⟩, fun i h1 h2 => ?_, fun n0 h1 h2 h3 => ?_⟩
    · (simp only [new_n, put_n]; omega)
    · omega
    · (simp only [new_n, put_n]; omega)
    · simp -implicitDefEqProofs (disch := (apply Ar.mk; (try simp only [new_n, put_n]); omega)) only [new_h', put_h', new_n, put_n, hn_ne, hn_eq]
    · simp -implicitDefEqProofs (disch := (apply Ar.mk; (try simp only [new_n, put_n]); omega)) only [new_h', put_h', new_n, put_n, hn_ne, hn_eq]; rfl
    · simp -implicitDefEqProofs (disch := (apply Ar.mk; (try simp only [new_n, put_n]); omega)) only [new_h', put_h', new_n, put_n, hn_ne, hn_eq]
    · (simp only [new_w, put_w]; omega)
  · have hl := cvs_len i
    have hs := cvs_snoc i
    refine zK_px (fn := p130) [] rfl rfl rfl rfl (by unfold p130; rfl) ?_
    simp -implicitDefEqProofs (maxSteps := 3000000) (disch := first | assumption | (apply Ar.mk; omega) | (apply Ar.mk; simp only [List.length_append, List.length_cons, List.length_nil, true_and, and_true]; omega)) only [ZN, ↓dt, ↓df, und_e, Nat.reduceEqDiff, ↓reduceIte, Nat.reduceAdd, Nat.reduceLeDiff, Nat.reduceLT, Nat.reduceBEq, reduceCtorEq, pval_tmp, fillP, oneRes, frz, frz2, frzT, ofCells, ZM, slV, Nat.reduceMul, Nat.reduceSub, frzT, pk_dt, pk_df, ↓gk_t, ↓gk_f, g4, g5, hl]
    refine PX.mk' ⟨?_, .inr ⟨by omega, j, low, by omega, g2, ?_, ?_, ?_⟩, fun i h1 h2 => ?_, fun n0 h1 h2 h3 => ?_⟩
    · (simp only [new_n, put_n]; omega)
    · (simp only [new_n, put_n]; omega)
    · simp -implicitDefEqProofs (disch := (apply Ar.mk; (try simp only [new_n, put_n]); omega)) only [new_h', put_h', new_n, put_n, hn_ne, hn_eq]
    · simp -implicitDefEqProofs (disch := (apply Ar.mk; (try simp only [new_n, put_n]); omega)) only [new_h', put_h', new_n, put_n, hn_ne, hn_eq]; rw [hs]
    · simp -implicitDefEqProofs (disch := (apply Ar.mk; (try simp only [new_n, put_n]); omega)) only [new_h', put_h', new_n, put_n, hn_ne, hn_eq]
    · (simp only [new_w, put_w]; omega)
theorem w364 (h : TxS n k b i s) (hi : i < n) (hkb : k < b) (hb : b ≤ s.n) : PX (zcall Tryz.prog Γ ext 129 [.ptr k 0 9, cv 97] s) (.tup []) (Tx n k b (i + 1) s) := by
  refine zK_px (fn := p129) [] rfl rfl rfl rfl (by unfold p129; rfl) ?_
  simp -implicitDefEqProofs (maxSteps := 3000000) (disch := first | assumption | (apply Ar.mk; omega) | (apply Ar.mk; decide) | (apply Ar.mk; simp only [List.length_append, List.length_cons, List.length_nil, true_and, and_true]; omega)) only [ZN, ↓dt, ↓df, und_e, Nat.reduceEqDiff, ↓reduceIte, Nat.reduceAdd, Nat.reduceLeDiff, Nat.reduceLT, Nat.reduceBEq, reduceCtorEq, pval_tmp, fillP, oneRes, frz, frz2, frzT, ofCells, ZM, slV, Nat.reduceMul, Nat.reduceSub, frzT, pk_dt, pk_df, ↓gk_t, ↓gk_f]
  refine ra_px (w365 hn (b := b) (i := i) ?_ hi hkb ?_) fun s1 h1 => ?_
  · exact h
  · exact hb
  simp -implicitDefEqProofs (maxSteps := 3000000) (disch := first | assumption | (apply Ar.mk; omega) | (apply Ar.mk; simp only [List.length_append, List.length_cons, List.length_nil, true_and, and_true]; omega)) only [ZN, ↓dt, ↓df, und_e, Nat.reduceEqDiff, ↓reduceIte, Nat.reduceAdd, Nat.reduceLeDiff, Nat.reduceLT, Nat.reduceBEq, reduceCtorEq, pval_tmp, fillP, oneRes, frz, frz2, frzT, ofCells, ZM, slV, Nat.reduceMul, Nat.reduceSub, frzT, pk_dt, pk_df, ↓gk_t, ↓gk_f]
  exact PX.mk' (h1.fin (Nat.le_refl _) (fun _ _ _ => rfl) fun n0 _ h => Nat.le_trans h hb)
theorem w345 (h : TxS n k b i s) (hi : i < n) (hkb : k < b) (hb : b ≤ s.n) : PX (zcall Tryz.prog Γ ext 114 [.ptr k 0 9] s) (.tup []) (Tx n k b (i + 1) s) := by
  have hl := aT_len n
  have hbt := aT_bt hi
  obtain ⟨tv, low, hlow, hk⟩ := h.k
  refine zK_px (fn := p114) [] rfl rfl rfl rfl (by unfold p114; rfl) ?_
  simp -implicitDefEqProofs (maxSteps := 3000000) (disch := first | assumption | (apply Ar.mk; omega) | (apply Ar.mk; decide) | (apply Ak.mk; first | rfl | exact .inl rfl | exact .inr rfl | exact okAll_un _ _ | exact okAll_e _ _ | (unfold OkAll OkPair; simp <;> omega)) | (apply Ar.mk; simp only [List.length_append, List.length_cons, List.length_nil, true_and, and_true]; omega)) only [ZN, ↓dt, ↓df, und_e, Nat.reduceEqDiff, ↓reduceIte, Nat.reduceAdd, Nat.reduceLeDiff, Nat.reduceLT, Nat.reduceBEq, reduceCtorEq, pval_tmp, fillP, oneRes, frz, frz2, frzT, ofCells, ZM, slV, Nat.reduceMul, Nat.reduceSub, frzT, pk_dt, pk_df, ↓gk_t, ↓gk_f, ZV, effO, effA, pureI, hk, hl, hbt]
  refine ra_px (w364 hn (b := b) (i := i) ?_ hi hkb ?_) fun s1 h1 => ?_
  · exact h
  · exact hb
  simp -implicitDefEqProofs (maxSteps := 3000000) (disch := first | assumption | (apply Ar.mk; omega) | (apply Ar.mk; simp only [List.length_append, List.length_cons, List.length_nil, true_and, and_true]; omega)) only [ZN, ↓dt, ↓df, und_e, Nat.reduceEqDiff, ↓reduceIte, Nat.reduceAdd, Nat.reduceLeDiff, Nat.reduceLT, Nat.reduceBEq, reduceCtorEq, pval_tmp, fillP, oneRes, frz, frz2, frzT, ofCells, ZM, slV, Nat.reduceMul, Nat.reduceSub, frzT, pk_dt, pk_df, ↓gk_t, ↓gk_f]
  exact PX.mk' (h1.fin (Nat.le_refl _) (fun _ _ _ => rfl) fun n0 _ h => Nat.le_trans h hb)
end
/-- the scope at k has the part -/
structure Pt (n k b : Nat) (s s' : PS) : Prop where
  le : s.n ≤ s'.n
  at' : ∃ j low, low ≤ 5 ∧ b ≤ j ∧ j < s'.n ∧ s'.h k = ⟨scA n n nv (.own j 0 1 5), 9, 132⟩ ∧ s'.h j = ⟨aC n, low, 38⟩
  fr : ∀ i, i < b → i ≠ k → s'.h i = s.h i
  w : ∀ n0, n0 ≤ k → n0 ≤ b → n0 ≤ s.w → n0 ≤ s'.w
theorem w346 {n k b : Nat} {s : PS} (hn : n ≤ 16000) (h0 : 0 < n) (h : TxS n k b n s) (hkb : k < b) (hbn : b ≤ s.n) : PX (zcall Tryz.prog Γ ext 115 [.ptr k 0 9] s) (.tup []) (Pt n k b s) := by
  rcases h with ⟨rfl, _⟩ | ⟨_, j, low, g1, g2, g3, g4, g5⟩
  · exact absurd h0 (Nat.lt_irrefl _)
  have hb := cvs_bytes n
  have hl := cvs_len n
  have ht : (cvs n).take n = cvs n := List.take_of_length_le (by rw [hl]; exact Nat.le_refl _)
  refine zK_px (fn := p115) [] rfl rfl rfl rfl (by unfold p115; rfl) ?_
  simp -implicitDefEqProofs (maxSteps := 3000000) (disch := first | assumption | (apply Ar.mk; omega) | (apply Ak.mk; first | rfl | exact .inl rfl | exact .inr rfl | exact okAll_un _ _ | exact okAll_e _ _ | (unfold OkAll OkPair; simp <;> omega)) | (apply Ar.mk; simp only [List.length_append, List.length_cons, List.length_nil, true_and, and_true]; omega)) only [ZN, ↓dt, ↓df, und_e, Nat.reduceEqDiff, ↓reduceIte, Nat.reduceAdd, Nat.reduceLeDiff, Nat.reduceLT, Nat.reduceBEq, reduceCtorEq, pval_tmp, fillP, oneRes, frz, frz2, frzT, ofCells, ZM, slV, Nat.reduceMul, Nat.reduceSub, frzT, pk_dt, pk_df, ↓gk_t, ↓gk_f, ZV, effO, effA, pureI, g4, g5, hb, hl, ht, Nat.mul_one]
  refine PX.mk' ⟨?_, ⟨s.n + 1, 5, ?_, ?_, ?_, ?_, ?_⟩, fun i h1 h2 => ?_, fun n0 h1 h2 h3 => ?_⟩
  · (simp only [new_n, put_n]; omega)
  · omega
  · omega
  · (simp only [new_n, put_n]; omega)
  · simp -implicitDefEqProofs (disch := (apply Ar.mk; (try simp only [new_n, put_n]); omega)) only [new_h', put_h', new_n, put_n, hn_ne, hn_eq]
  · simp -implicitDefEqProofs (disch := (apply Ar.mk; (try simp only [new_n, put_n]); omega)) only [new_h', put_h', new_n, put_n, hn_ne, hn_eq]
  · simp -implicitDefEqProofs (disch := (apply Ar.mk; (try simp only [new_n, put_n]); omega)) only [new_h', put_h', new_n, put_n, hn_ne, hn_eq]
  · (simp only [new_w, put_w]; omega)
section
variable {n k b : Nat} (hn : n ≤ 16000) (h0 : 0 < n) (hkb : k < b)
include hn h0 hkb
theorem lp326 {F : ZC → Option ZR} {v : PV} {Q : PS → Prop} {K : List KI} : ∀ (m i : Nat) (f : PFr) (s : PS), i + m = n → f 0 = .ptr k 0 9 → TxS n k b i s → b ≤ s.n → (∀ f' s', f' 0 = .ptr k 0 9 → Tx n k b n s s' → PX (zr Tryz.prog Γ ext F r94_0 f' s' K) v Q) → PX (rl Tryz.prog Γ ext (F) 0 b94_0 r94_0 f s K) v Q := by
  intro m
  induction m with
  | zero =>
    intro i f s him f0 h hb H
    obtain rfl : i = n := by omega
    obtain ⟨tv, low, hlow, hk⟩ := h.k
    have h1 : zcall Tryz.prog Γ ext 113 [.ptr k 0 9] s = _ := w344_1 (ext := ext) hn hlow hk
    rw [rl_u (b := b94_0) (by unfold b94_0; rfl)]
    simp -implicitDefEqProofs (maxSteps := 3000000) (disch := first | assumption | (apply Ar.mk; omega) | (apply Ar.mk; simp only [List.length_append, List.length_cons, List.length_nil, true_and, and_true]; omega)) only [ZN, ↓dt, ↓df, und_e, Nat.reduceEqDiff, ↓reduceIte, Nat.reduceAdd, Nat.reduceLeDiff, Nat.reduceLT, Nat.reduceBEq, reduceCtorEq, pval_tmp, fillP, oneRes, frz, frz2, frzT, ofCells, ZM, slV, Nat.reduceMul, Nat.reduceSub, frzT, pk_dt, pk_df, ↓gk_t, ↓gk_f, f0, h1]
    exact H _ _ f0 ⟨Nat.le_refl _, h, fun _ _ _ => rfl, fun _ _ _ h => h⟩
  | succ m ih =>
    intro i f s him f0 h hb H
    obtain ⟨tv, low, hlow, hk⟩ := h.k
    have h1 : zcall Tryz.prog Γ ext 113 [.ptr k 0 9] s = _ := w344_0 (ext := ext) hn hlow (by omega) hk
    rw [rl_u (b := b94_0) (by unfold b94_0; rfl)]
    simp -implicitDefEqProofs (maxSteps := 3000000) (disch := first | assumption | (apply Ar.mk; omega) | (apply Ar.mk; simp only [List.length_append, List.length_cons, List.length_nil, true_and, and_true]; omega)) only [ZN, ↓dt, ↓df, und_e, Nat.reduceEqDiff, ↓reduceIte, Nat.reduceAdd, Nat.reduceLeDiff, Nat.reduceLT, Nat.reduceBEq, reduceCtorEq, pval_tmp, fillP, oneRes, frz, frz2, frzT, ofCells, ZM, slV, Nat.reduceMul, Nat.reduceSub, frzT, pk_dt, pk_df, ↓gk_t, ↓gk_f, f0, h1]
    refine ra_px (w345 hn h (by omega) hkb hb) fun s1 h2 => ?_
    simp -implicitDefEqProofs (maxSteps := 3000000) (disch := first | assumption | (apply Ar.mk; omega) | (apply Ar.mk; simp only [List.length_append, List.length_cons, List.length_nil, true_and, and_true]; omega)) only [ZN, ↓dt, ↓df, und_e, Nat.reduceEqDiff, ↓reduceIte, Nat.reduceAdd, Nat.reduceLeDiff, Nat.reduceLT, Nat.reduceBEq, reduceCtorEq, pval_tmp, fillP, oneRes, frz, frz2, frzT, ofCells, ZM, slV, Nat.reduceMul, Nat.reduceSub, frzT, pk_dt, pk_df, ↓gk_t, ↓gk_f]
    refine ih (i + 1) _ s1 (by omega) f0 h2.at' (Nat.le_trans hb h2.le) fun f' s' e h3 => H f' s' e ⟨Nat.le_trans h2.le h3.le, h3.at', fun j a c => (h3.fr j a c).trans (h2.fr j a c), fun n0 a c d => h3.w n0 a c (h2.w n0 a c d)⟩
theorem w326 {low : Nat} {s : PS} (hlow : low ≤ 9) (hk : s.h k = ⟨scA n 0 nv nv, low, 132⟩) (hb : b ≤ s.n) : PX (zcall Tryz.prog Γ ext 94 [.ptr k 0 9] s) (.tup []) (Pt n k b s) := by
  refine zK_px (fn := p94) [] rfl rfl rfl rfl (by unfold p94; rfl) ?_
  simp -implicitDefEqProofs (maxSteps := 3000000) (disch := first | assumption | (apply Ar.mk; omega) | (apply Ar.mk; simp only [List.length_append, List.length_cons, List.length_nil, true_and, and_true]; omega)) only [ZN, ↓dt, ↓df, und_e, Nat.reduceEqDiff, ↓reduceIte, Nat.reduceAdd, Nat.reduceLeDiff, Nat.reduceLT, Nat.reduceBEq, reduceCtorEq, pval_tmp, fillP, oneRes, frz, frz2, frzT, ofCells, ZM, slV, Nat.reduceMul, Nat.reduceSub, frzT, pk_dt, pk_df, ↓gk_t, ↓gk_f]
  refine lp326 hn h0 hkb n 0 _ _ (by omega) rfl (.inl ⟨rfl, low, hlow, hk⟩) hb fun f' s' e h1 => ?_
  unfold r94_0
  simp -implicitDefEqProofs (maxSteps := 3000000) (disch := first | assumption | (apply Ar.mk; omega) | (apply Ar.mk; simp only [List.length_append, List.length_cons, List.length_nil, true_and, and_true]; omega)) only [ZN, ↓dt, ↓df, und_e, Nat.reduceEqDiff, ↓reduceIte, Nat.reduceAdd, Nat.reduceLeDiff, Nat.reduceLT, Nat.reduceBEq, reduceCtorEq, pval_tmp, fillP, oneRes, frz, frz2, frzT, ofCells, ZM, slV, Nat.reduceMul, Nat.reduceSub, frzT, pk_dt, pk_df, ↓gk_t, ↓gk_f, e]
  refine ra_px (w346 hn h0 h1.at' hkb (Nat.le_trans hb h1.le)) fun s2 h2 => ?_
  simp -implicitDefEqProofs (maxSteps := 3000000) (disch := first | assumption | (apply Ar.mk; omega) | (apply Ar.mk; simp only [List.length_append, List.length_cons, List.length_nil, true_and, and_true]; omega)) only [ZN, ↓dt, ↓df, und_e, Nat.reduceEqDiff, ↓reduceIte, Nat.reduceAdd, Nat.reduceLeDiff, Nat.reduceLT, Nat.reduceBEq, reduceCtorEq, pval_tmp, fillP, oneRes, frz, frz2, frzT, ofCells, ZM, slV, Nat.reduceMul, Nat.reduceSub, frzT, pk_dt, pk_df, ↓gk_t, ↓gk_f]
  obtain ⟨q1, q2, q3, q4⟩ := h2
  exact PX.mk' ⟨Nat.le_trans h1.le q1, q2, fun i a c => (q3 i a c).trans (h1.fr i a c), fun n0 a c d => Nat.le_min.2 ⟨d, q4 n0 a c (h1.w n0 a c (Nat.le_trans c hb))⟩⟩
end
end Go.Proofs.YtnocibbhognbeaaGreatDoor
namespace Go.PE
open Go Go.EvL
section
variable (P : Program) (w : World) (H : Nat)
variable {P w H}
theorem lt_of_heap {b : Nat} {o : Obj} (h : w.heap[b]? = some o) : b < w.heap.size := (Array.getElem?_eq_some_iff.1 h).1
theorem Cs.append {A : AS} {β : Nat → Nat} {n : Nat} : ∀ {l l' : List Value} {r r' : List PV}, Cs A β n l r → Cs A β n l' r' → Cs A β n (l ++ l') (r ++ r') := by
  intro l
  induction l with
  | nil => intro l' r r' h h'; cases h; exact h'
  | cons v l ih => intro l' r r' h h'; cases h with | cons _ p _ r h hs => exact .cons _ _ _ _ h (ih hs h')
end
end Go.PE
namespace Go.PE
open Go Go.EvL Go.RowKit
section
variable {P : Program} {Γ : Nat → Option PFn} {ext : PCallF}
/-- the state of the run when it begins -/
def ps0 : PS := ⟨fun _ => ⟨[], 0, 0⟩, 0, 0⟩
/-- a package variable lies as it was laid -/
def LaidIn (w : World) : Prop := ∀ x ∈ laidsP, ∃ C fz, w.heap[x.g]? = some (.cells C x.e fz) ∧ C.toList.take x.cells.length = x.cells ∧ fz.2 ≤ x.cells.length
theorem startP_rel (hl : ∀ x ∈ laidsP, x.g < P.globals.size ∧ x.cells.all (plain 50) = true) {w : World} (hw : P.globals.size ≤ w.heap.size) (hlaid : LaidIn w) : Rel P (phi0 P w) (fun _ => True) (startOf P laidsP) w := by
  have hfit : ∀ x ∈ laidsP, Fits x.g := fun x hx => fits (by have := (hl x hx).1; omega)
  rw [startOf_eq]
  have hphi : ∀ b i, phi0 P w b = some i → b < P.globals.size ∧ i = ⟨b, 0, szAt w b, esAt P w b, b, 0⟩ := fun b i h => by
    unfold phi0 at h
    split at h
    · rename_i hb; injection h with h; exact ⟨hb, h.symm⟩
    · cases h
  refine ⟨fun b i hb => ?_, fun b₁ b₂ i₁ i₂ h₁ h₂ he => ?_, fun b o hb _ _ => ?_, fun b i hb => ?_, fun g hg => ?_, fun b i hb _ => by obtain ⟨_, rfl⟩ := hphi b i hb; rfl⟩
  · obtain ⟨h1, rfl⟩ := hphi b i hb; exact Nat.lt_of_lt_of_le h1 hw
  · obtain ⟨_, rfl⟩ := hphi _ _ h₁
    obtain ⟨_, rfl⟩ := hphi _ _ h₂
    exact ⟨he, rfl⟩
  · obtain ⟨x, h1, rfl, rfl, h4⟩ := laid_get laidsP hfit b o hb
    obtain ⟨C, fz, g1, g3, g2⟩ := hlaid x h1
    have hlen : x.cells.length ≤ C.size := by
      have := congrArg List.length g3
      rw [List.length_take] at this
      simp at this
      omega
    refine ⟨⟨x.g, 0, szAt w x.g, esAt P w x.g, x.g, 0⟩, _, by unfold phi0; rw [if_pos (hl x h1).1], g1, ?_⟩
    refine .row _ _ _ _ _ _ rfl rfl (by simp [esAt, g1]) (by simp [szAt, g1]) (by simpa using hlen) ?_ (.inr ⟨x.cells.length, h4, by simpa using g2⟩) _ (.inl ⟨rfl, Nat.dvd_zero _⟩)
    show VRels _ _ ((C.toList.drop 0).take x.cells.length)
    rw [List.drop_zero, g3]
    exact rels_self (plain_self _ 50) _ (hl x h1).2
  · trivial
  · exact ⟨_, by unfold phi0; rw [if_pos hg], rfl, rfl⟩
/-- a closed call that the kernel has reckoned, where package variables lie as they were laid -/
theorem closed_laid (hE : Env P) (hS : Tys P) (hm : P.follows .mixedOrders = true) {orc : Orc} (hQ : OrcOK P orc) (hl : ∀ x ∈ laidsP, x.g < P.globals.size ∧ x.cells.all (plain 50) = true) {n : Nat} {g : FuncId} (h : closedOk P orc laidsP n g = true)
    (w : World) (hw : P.globals.size ≤ w.heap.size) (hlaid : LaidIn w) :
    Calls P g #[] w fun e w' => e = .returned (.bool true) ∧ Below w.heap.size w w' := by
  unfold closedOk endsTrue at h
  split at h
  · rename_i A' hev
    simp only [Bool.and_eq_true] at h
    have h1 := Nat.eq_of_beq_eq_true h.1
    have hs := callOK hE hS hm hQ n g #[] (startOf P laidsP) _ A' (start_inv laidsP (Nat.le_refl _) fun x hx => (hl x hx).1) (Nat.le_refl _) hev
    refine (hs.run (phi0 P w) (fun _ => True) w #[] .nil (startP_rel hl hw hlaid) (fun _ _ _ => trivial) fun b hb _ => ?_).mono ?_
    · rw [startOf_eq] at hb
      unfold phi0
      rw [if_neg (by have : P.globals.size ≤ b := hb; omega)]
    · rintro e w' ⟨φ', hp, he⟩
      refine ⟨?_, hp.os, hp.tape, hp.output, hp.size, fun k hk => hp.same k hk fun b i hb hi => ?_⟩
      · cases he with
        | ret _ v' hv => cases hv; rfl
      · unfold phi0 at hb
        split at hb
        · rename_i hlt
          injection hb with hb
          subst hb
          show A'.w.testBit b = false
          have h3 : A'.w % 2 ^ P.globals.size = 0 := by
            have e1 : Nat.shiftLeft 1 P.globals.size = 2 ^ P.globals.size := Nat.one_shiftLeft _
            rw [← e1]; exact h1
          have h4 : (A'.w % 2 ^ P.globals.size).testBit b = (decide (b < P.globals.size) && A'.w.testBit b) := Nat.testBit_mod_two_pow _ _ _
          rw [h3] at h4
          simp [hlt] at h4
          exact h4
        · cases hb
  · cases h
/-- a call that the run answers by true, at arguments without memory, where package variables lie as they were laid -/
theorem pe_calls (hE : Env P) (hO : OpsOK P) (hm : P.follows .mixedOrders = true) (hP : Parts P) (hΓ : TabOK P Γ) (hX : PCallOK P (puOf Γ) ext) (hl : ∀ x ∈ laidsP, x.g < P.globals.size ∧ x.cells.all (plain 50) = true) (hL : LayOK (startOf P laidsP) (fun _ => 0) 0) {g : Nat} (hpu : puOf Γ g = true) {w : World} {args : Array Value} {pvs : List PV} {vs : List Value}
    (hG : P.globals.size ≤ w.heap.size) (hlaid : LaidIn w) (hvr : VRels (phi0 P w) vs args.toList) (hrs : Rs (startOf P laidsP) (fun _ => 0) 0 vs pvs) {s' : PS} (h : pcall P Γ ext g pvs ps0 = some (.sc (.bool true), s')) :
    Calls P g args w fun e w' => e = .returned (.bool true) ∧ Below w.heap.size w w' := by
  obtain ⟨_, _, hh⟩ := pcall_ok hE hO hm hP hΓ hX g pvs ps0 _ _ h
  obtain ⟨u, A', β', cs, _, _, r1, hw⟩ := hh (startOf P laidsP) (fun _ => 0) vs (start_inv laidsP (Nat.le_refl _) fun x hx => (hl x hx).1) ⟨fun k hk => absurd hk (Nat.not_lt_zero _), fun j k hj => absurd hj (Nat.not_lt_zero _), hL⟩ hrs
  obtain ⟨rfl, _⟩ := r1.sc
  refine (cs.run (phi0 P w) (fun _ => True) w args hvr (startP_rel hl hG hlaid) (fun _ _ _ => trivial) fun b hb _ => ?_).mono ?_
  · rw [startOf_eq] at hb
    unfold phi0
    rw [if_neg (by have : P.globals.size ≤ b := hb; omega)]
  · rintro e w' ⟨φ', hp, he⟩
    refine ⟨?_, hp.os, hp.tape, hp.output, hp.size, fun k hk => hp.same k hk fun b i hb hi => ?_⟩
    · cases he with
      | ret _ v' hv => cases hv; rfl
    · unfold phi0 at hb
      split at hb
      · rename_i hlt
        injection hb with hb
        subst hb
        show A'.w.testBit b = false
        cases hbit : A'.w.testBit b with
        | false => rfl
        | true =>
          have h0 := hw hpu b (by rw [startOf_eq]; exact hlt) hbit
          rw [startOf_eq] at h0
          have h0 : (0 : Nat).testBit b = true := h0
          rw [Nat.zero_testBit] at h0
          cases h0
      · cases hb
/-- a function without arguments that answers true wherever the package variables lie as they were laid -/
def extA (gA : Nat) : PCallF := fun g args s => if g = gA ∧ args.isEmpty = true then some (.sc (.bool true), s) else none
theorem readAll {A : AS} (hi : EvL.Inv A) : ∀ l : List Laid, (∀ x ∈ l, x.g < A.next) → ∃ A', A'.heap = A.heap ∧ A'.next = A.next ∧ A'.fz = A.fz ∧ A'.w = A.w ∧ AFr A A' ∧ ∀ x ∈ l, A'.r.testBit x.g = true := by
  intro l
  induction l with
  | nil => exact fun _ => ⟨A, rfl, rfl, rfl, rfl, .refl hi, fun x hx => by cases hx⟩
  | cons x l ih =>
    intro h
    obtain ⟨A1, h1, h2, h3, h4, h5, h6⟩ := ih fun y hy => h y (List.mem_cons_of_mem _ hy)
    have hx : x.g < A1.next := by rw [h2]; exact h x List.mem_cons_self
    refine ⟨logR A1 x.g, by rw [logR_eq]; exact h1, by rw [logR_eq]; exact h2, by rw [logR_eq]; exact h3, by rw [logR_eq]; exact h4, h5.trans (logR_fr h5.inv hx), fun y hy => ?_⟩
    rcases List.mem_cons.1 hy with rfl | hy
    · rw [logR_eq]
      show (A1.r ||| 1 <<< y.g).testBit y.g = true
      rw [bit_or]; simp
    · exact (logR_fr h5.inv hx).r _ (h6 y hy)
theorem extA_ok {gA : Nat} (hb : ∃ fn c, P.funcs[gA]? = some fn ∧ fn.body = some c) (hl : ∀ x ∈ laidsP, x.g < P.globals.size ∧ x.cells.all (plain 50) = true) (hsm : ∀ x ∈ laidsP, x.cells.length < 1000000) (hc : ∀ w : World, P.globals.size ≤ w.heap.size → LaidIn w → Calls P gA #[] w fun e w' => e = .returned (.bool true) ∧ Below w.heap.size w w') (pu : Nat → Bool) : PCallOK P pu (extA gA) := by
  intro g args s q s' h
  unfold extA at h
  split at h
  · rename_i hg
    obtain ⟨rfl, ha⟩ := hg
    injection h with h
    injection h with h1 h2
    subst h1
    subst h2
    have ha' : args = [] := List.isEmpty_iff.1 ha
    subst ha'
    refine ⟨hb, .refl _, fun A β vs hi hs hr => ?_⟩
    have hvs : vs = [] := by cases hr; rfl
    subst hvs
    obtain ⟨A', e1, e2, e3, e4, e5, e6⟩ := readAll hi laidsP fun x hx => (hs.lay x hx).2.1.1
    refine ⟨.bool true, A', β, ⟨e5, fun φ T w args' hv hrel hft _ => ?_⟩, .heap β s.n e1 e2 e4, hs.hp e1 e2 e3, .cl _ _ (.sc _ rfl), fun _ c _ h => by rw [e4] at h; exact h⟩
    have ha2 : args' = #[] := by
      cases args' with
      | mk l => cases hv; rfl
    subst ha2
    have hli : LaidIn w := fun x hx => by
      obtain ⟨a1, a2, a3⟩ := hs.lay x hx
      have hT : T (clsOf x.g (AObj.row x.cells x.e x.g 0 true)) := hft x.g a2.1 (.inl (e6 x hx))
      obtain ⟨i, o', b1, b2, b3⟩ := hrel.obj _ _ a1 rfl hT
      obtain ⟨i', c1, c2, c3⟩ := hrel.glob x.g (hl x hx).1
      rw [c1] at b1
      injection b1 with b1
      subst b1
      rw [c2] at b2
      cases b3 with
      | row _ _ _ _ C fz hc hst h1 hsz hlen hv hf e' hE =>
        rw [c3] at hlen hv hf
        rw [List.drop_zero] at hv
        have hv := rels_eq (plain_eq φ 50) _ _ (hl x hx).2 hv
        have hz : A.fz.get (clsOf x.g (AObj.row x.cells x.e x.g 0 true)) = some x.cells.length := a3
        rw [hz] at hf hE
        have he : e' = x.e := by
          rcases hE with h | ⟨h, h2, h3⟩
          · exact h.1
          · injection h2 with h2
            have := hsm x hx
            omega
        subst he
        refine ⟨C, fz, b2, hv, ?_⟩
        rcases hf with rfl | ⟨h, h2, h3⟩
        · exact Nat.zero_le _
        · injection h2 with h2
          omega
    refine (hc w (glob_size hrel) hli).mono ?_
    rintro e w' ⟨rfl, bel⟩
    exact ⟨φ, Post.below hrel e1 e3 e2 bel, .ret _ _ (.bool true)⟩
  · cases h
end
end Go.PE
set_option linter.unusedSimpArgs false
namespace Go.Proofs.YtnocibbhognbeaaGreatDoor
open Go Go.EvL Go.PE Go.Mir
variable {ext : PCallF}
def Fx (ts : List Nat) : ZC → Option ZR
  | .go .ret f s => some (.ok (.tup (ts.map f)) s)
  | .go .normal f s => some (.ok (.tup (ts.map f)) s)
  | _ => none
theorem Fx_r (ts : List Nat) (f : PFr) (s : PS) : Fx ts (.go .ret f s) = some (.ok (.tup (ts.map f)) s) := rfl
theorem Fx_n (ts : List Nat) (f : PFr) (s : PS) : Fx ts (.go .normal f s) = some (.ok (.tup (ts.map f)) s) := rfl
theorem of_zr {ts : List Nat} {c : PCode} {f : PFr} {s : PS} {Q : PV → PS → Prop} (h : PY (zr Tryz.prog Γ ext (Fx ts) c f s []) Q) : ∃ x f' s', pcode Tryz.prog Γ ext c f s = some (x, f', s') ∧ (x = .normal ∨ x = .ret) ∧ Q (.tup (ts.map f')) s' := by
  obtain ⟨v, s', h, q⟩ := h
  unfold zr zfin kz at h
  rw [Option.bind_eq_some_iff] at h
  obtain ⟨zc, h1, h2⟩ := h
  rcases zc with ⟨x, f', s1⟩ | ⟨v', f', s1⟩
  · cases x with
    | normal =>
      injection h2 with h2
      injection h2 with e1 e2
      subst e1; subst e2
      exact ⟨_, f', _, zcode_go h1, .inl rfl, q⟩
    | ret =>
      injection h2 with h2
      injection h2 with e1 e2
      subst e1; subst e2
      exact ⟨_, f', _, zcode_go h1, .inr rfl, q⟩
    | exit i => cases h2
  · cases h2
theorem of_reg {ts : List Nat} {l : List PI} {f : PFr} {s : PS} {Q : PV → PS → Prop} (h : PY (zr Tryz.prog Γ ext (Fx ts) (.reg l) f s []) Q) : ∃ f' s', pops Tryz.prog Γ ext l f s = some (f', s') ∧ Q (.tup (ts.map f')) s' := by
  obtain ⟨x, f', s', h1, _, q⟩ := of_zr h
  rw [pcode_reg, Option.map_eq_some_iff] at h1
  obtain ⟨⟨f1, s1⟩, h1, h2⟩ := h1
  injection h2 with _ h2
  injection h2 with e1 e2
  subst e1; subst e2
  exact ⟨_, _, h1, q⟩
theorem tup_inj {a b : List PV} (h : PV.tup a = .tup b) : a = b := by injection h
theorem parse_run {n : Nat} (hn : n ≤ 16000) (hn1 : 0 < n) (s : PS) : DRun Tryz.prog Γ ext d298 92 [sv (aT n), iv 0] s (.tup [.lit 38 1 (aC n), iv 0, iv 0]) := by
  have hl := aT_len n
  have hm1 : pvOf (.int .i64 (-1)) = .sc (.int .i64 (-1)) := rfl
  refine ⟨(by show 2 ≤ 23; omega), ?_⟩
  have r1 : PY (zr Tryz.prog Γ ext (Fx [0, 1, 4, 5, 6]) (.reg d298.l1) (initP [sv (aT n), iv 0] 0) ⟨s.h, s.n, s.n⟩ []) (fun v s' => v = .tup [sv (aT n), iv 0, .ptr s.n 0 1, .ptr (s.n + 1) 0 1, .ptr (s.n + 2) 0 1] ∧ s'.n = s.n + 3 ∧ s'.h s.n = ⟨[nv], 0, 36⟩ ∧ s'.h (s.n + 1) = ⟨[iv 0], 0, 3⟩ ∧ s'.h (s.n + 2) = ⟨[iv 0], 0, 31⟩ ∧ s'.w = s.n) := by
    unfold d298
    simp -implicitDefEqProofs (maxSteps := 3000000) (disch := first | assumption | (apply Ar.mk; omega) | (apply Ar.mk; simp only [List.length_append, List.length_cons, List.length_nil, true_and, and_true]; omega)) only [ZN, ↓dt, ↓df, und_e, Nat.reduceEqDiff, ↓reduceIte, Nat.reduceAdd, Nat.reduceLeDiff, Nat.reduceLT, Nat.reduceBEq, reduceCtorEq, pval_tmp, fillP, oneRes, frz, frz2, frzT, ofCells, ZM, slV, Nat.reduceMul, Nat.reduceSub, frzT, pk_dt, pk_df, ↓gk_t, ↓gk_f, Fx_n]
    refine PY.mk' ⟨rfl, rfl, ?_, ?_, ?_, rfl⟩
    · simp -implicitDefEqProofs (disch := (apply Ar.mk; (try simp only [new_n, put_n]); omega)) only [new_h', put_h', new_n, put_n, hn_ne, hn_eq]
    · simp -implicitDefEqProofs (disch := (apply Ar.mk; (try simp only [new_n, put_n]); omega)) only [new_h', put_h', new_n, put_n, hn_ne, hn_eq]
    · simp -implicitDefEqProofs (disch := (apply Ar.mk; (try simp only [new_n, put_n]); omega)) only [new_h', put_h', new_n, put_n, hn_ne, hn_eq]
  obtain ⟨f0, s0, p0, q0, n0, a1, a2, a3, w0⟩ := of_reg r1
  have q0 := tup_inj q0
  simp only [List.map_cons, List.map_nil, List.cons.injEq, and_true] at q0
  obtain ⟨b0, b1, b4, b5, b6⟩ := q0
  have r2 : PY (zr Tryz.prog Γ ext (Fx [0, 1, 4, 5, 6, 8]) (.reg d298.l2) f0 s0 []) (fun v s' => v = .tup [sv (aT n), iv 0, .ptr s.n 0 1, .ptr (s.n + 1) 0 1, .ptr (s.n + 2) 0 1, .fn 92 [] [.ptr s.n 0 1, .ptr (s.n + 1) 0 1, .ptr (s.n + 2) 0 1]] ∧ s' = s0) := by
    unfold d298
    simp -implicitDefEqProofs (maxSteps := 3000000) (disch := first | assumption | (apply Ar.mk; omega) | (apply Ar.mk; simp only [List.length_append, List.length_cons, List.length_nil, true_and, and_true]; omega)) only [ZN, ↓dt, ↓df, und_e, Nat.reduceEqDiff, ↓reduceIte, Nat.reduceAdd, Nat.reduceLeDiff, Nat.reduceLT, Nat.reduceBEq, reduceCtorEq, pval_tmp, fillP, oneRes, frz, frz2, frzT, ofCells, ZM, slV, Nat.reduceMul, Nat.reduceSub, frzT, pk_dt, pk_df, ↓gk_t, ↓gk_f, Fx_n, b0, b1, b4, b5, b6]
    exact PY.mk' ⟨rfl, rfl⟩
  obtain ⟨f1, s1, p1, q1, rfl⟩ := of_reg r2
  have q1 := tup_inj q1
  simp only [List.map_cons, List.map_nil, List.cons.injEq, and_true] at q1
  obtain ⟨c0, c1, c4, c5, c6, c8⟩ := q1
  refine ⟨f0, s1, f1, s1, [.ptr s.n 0 1, .ptr (s.n + 1) 0 1, .ptr (s.n + 2) 0 1], p0, p1, c8, .inl ?_⟩
  have r3 : PY (zr Tryz.prog Γ ext (Fx [4, 5, 6]) d298.rest f1 s1 []) (fun v s' => v = .tup [.ptr s.n 0 1, .ptr (s.n + 1) 0 1, .ptr (s.n + 2) 0 1] ∧ ∃ l low, low ≤ 5 ∧ s.n ≤ l ∧ l < s'.n ∧ s'.h l = ⟨aC n, low, 38⟩ ∧ s'.h s.n = ⟨[.own l 0 1 5], 1, 36⟩ ∧ s'.h (s.n + 1) = ⟨[iv 0], 1, 3⟩ ∧ s'.h (s.n + 2) = ⟨[iv 0], 1, 31⟩ ∧ s.n ≤ s'.w) := by
    unfold d298
    simp -implicitDefEqProofs (maxSteps := 3000000) (disch := first | assumption | (apply Ar.mk; omega) | (apply Ar.mk; decide) | (apply Ar.mk; simp only [List.length_append, List.length_cons, List.length_nil, true_and, and_true]; omega)) only [ZN, ↓dt, ↓df, und_e, Nat.reduceEqDiff, ↓reduceIte, Nat.reduceAdd, Nat.reduceLeDiff, Nat.reduceLT, Nat.reduceBEq, reduceCtorEq, pval_tmp, fillP, oneRes, frz, frz2, frzT, ofCells, ZM, slV, Nat.reduceMul, Nat.reduceSub, frzT, pk_dt, pk_df, ↓gk_t, ↓gk_f, Fx_r, Fx_n, c0, c1, c4, c5, c6, hm1, hl]
    refine ra_py (w326 (b := s1.n + 1) (k := s1.n) hn hn1 (by omega) (low := 0) (Nat.zero_le _) ?_ ?_) fun s2 h2 => ?_
    · simp -implicitDefEqProofs (disch := (apply Ar.mk; (try simp only [new_n, put_n]); omega)) only [new_h', put_h', new_n, put_n, hn_ne, hn_eq]
    · (simp only [new_n, put_n]; omega)
    obtain ⟨g1, ⟨j, low, g2, g3, g4, g5, g6⟩, g7, g8⟩ := h2
    have g1' : s1.n + 1 ≤ s2.n := g1
    have g3' : s1.n + 1 ≤ j := g3
    have e1 : s2.h s.n = ⟨[nv], 0, 36⟩ := (g7 s.n (by omega) (by omega)).trans (by simp -implicitDefEqProofs (disch := (apply Ar.mk; (try simp only [new_n, put_n]); omega)) only [new_h', put_h', new_n, put_n, hn_ne, hn_eq]; exact a1)
    have e2 : s2.h (s.n + 1) = ⟨[iv 0], 0, 3⟩ := (g7 (s.n + 1) (by omega) (by omega)).trans (by simp -implicitDefEqProofs (disch := (apply Ar.mk; (try simp only [new_n, put_n]); omega)) only [new_h', put_h', new_n, put_n, hn_ne, hn_eq]; exact a2)
    have e3 : s2.h (s.n + 2) = ⟨[iv 0], 0, 31⟩ := (g7 (s.n + 2) (by omega) (by omega)).trans (by simp -implicitDefEqProofs (disch := (apply Ar.mk; (try simp only [new_n, put_n]); omega)) only [new_h', put_h', new_n, put_n, hn_ne, hn_eq]; exact a3)
    have e4 : s.n ≤ s2.w := g8 s.n (by omega) (by omega) (by show s.n ≤ s1.w; omega)
    simp -implicitDefEqProofs (maxSteps := 3000000) (disch := first | assumption | (apply Ar.mk; omega) | (apply Ar.mk; simp only [List.length_append, List.length_cons, List.length_nil, true_and, and_true]; omega)) only [ZN, ↓dt, ↓df, und_e, Nat.reduceEqDiff, ↓reduceIte, Nat.reduceAdd, Nat.reduceLeDiff, Nat.reduceLT, Nat.reduceBEq, reduceCtorEq, pval_tmp, fillP, oneRes, frz, frz2, frzT, ofCells, ZM, slV, Nat.reduceMul, Nat.reduceSub, frzT, pk_dt, pk_df, ↓gk_t, ↓gk_f, Fx_r, Fx_n, c0, c1, c4, c5, c6, g5, e1, e2, e3]
    refine PY.mk' ⟨rfl, j, low, g2, by omega, ?_, ?_, ?_, ?_, ?_, ?_⟩
    · (simp only [new_n, put_n]; omega)
    · simp -implicitDefEqProofs (disch := (apply Ar.mk; (try simp only [new_n, put_n]); omega)) only [new_h', put_h', new_n, put_n, hn_ne, hn_eq]; exact g6
    · simp -implicitDefEqProofs (disch := (apply Ar.mk; (try simp only [new_n, put_n]); omega)) only [new_h', put_h', new_n, put_n, hn_ne, hn_eq]
    · simp -implicitDefEqProofs (disch := (apply Ar.mk; (try simp only [new_n, put_n]); omega)) only [new_h', put_h', new_n, put_n, hn_ne, hn_eq]
    · simp -implicitDefEqProofs (disch := (apply Ar.mk; (try simp only [new_n, put_n]); omega)) only [new_h', put_h', new_n, put_n, hn_ne, hn_eq]
    · (simp only [new_w, put_w]; omega)
  obtain ⟨x2, f2, s2, p2, hx2, q2, l, low, k1, k2, k3, k4, k5, k6, k7, k8⟩ := of_zr r3
  have q2 := tup_inj q2
  simp only [List.map_cons, List.map_nil, List.cons.injEq, and_true] at q2
  obtain ⟨d4, d5, d6⟩ := q2
  refine ⟨x2, f2, s2, p2, hx2, (by show 3 ≤ 19; omega), ?_⟩
  have r4 : PY (zr Tryz.prog Γ ext (Fx [3]) (.reg d298.l3) (PFr.set (initP [.ptr s.n 0 1, .ptr (s.n + 1) 0 1, .ptr (s.n + 2) 0 1] 0) d298.d2 (.sc .nilIface)) s2 []) (fun v s' => v = .tup [.sc .nilIface] ∧ s' = s2) := by
    unfold d298
    simp -implicitDefEqProofs (maxSteps := 3000000) (disch := first | assumption | (apply Ar.mk; omega) | (apply Ar.mk; simp only [List.length_append, List.length_cons, List.length_nil, true_and, and_true]; omega)) only [ZN, ↓dt, ↓df, und_e, Nat.reduceEqDiff, ↓reduceIte, Nat.reduceAdd, Nat.reduceLeDiff, Nat.reduceLT, Nat.reduceBEq, reduceCtorEq, pval_tmp, fillP, oneRes, frz, frz2, frzT, ofCells, ZM, slV, Nat.reduceMul, Nat.reduceSub, frzT, pk_dt, pk_df, ↓gk_t, ↓gk_f, Fx_n]
    exact PY.mk' ⟨rfl, rfl⟩
  obtain ⟨fd1, s3, p3, q3, rfl⟩ := of_reg r4
  have q3 := tup_inj q3
  simp only [List.map_cons, List.map_nil, List.cons.injEq, and_true] at q3
  have r5 : PY (zr Tryz.prog Γ ext (Fx []) d298.c3 fd1 s3 []) (fun v s' => s' = s3) := by
    unfold d298
    simp -implicitDefEqProofs (maxSteps := 3000000) (disch := first | assumption | (apply Ar.mk; omega) | (apply Ar.mk; simp only [List.length_append, List.length_cons, List.length_nil, true_and, and_true]; omega)) only [ZN, ↓dt, ↓df, und_e, Nat.reduceEqDiff, ↓reduceIte, Nat.reduceAdd, Nat.reduceLeDiff, Nat.reduceLT, Nat.reduceBEq, reduceCtorEq, pval_tmp, fillP, oneRes, frz, frz2, frzT, ofCells, ZM, slV, Nat.reduceMul, Nat.reduceSub, frzT, pk_dt, pk_df, ↓gk_t, ↓gk_f, Fx_n, q3, z_inq, inq_n]
    exact PY.mk' rfl
  obtain ⟨x4, fd2, s4, p4, hx4, rfl⟩ := of_zr r5
  refine ⟨fd1, s4, x4, fd2, s4, [.own l 0 1 5, iv 0, iv 0], p3, p4, hx4, ?_, k8, ?_⟩
  · unfold d298
    simp only [resP, d4, d5, d6, ldP, k5, k6, k7, List.length_cons, List.length_nil, List.drop_zero, List.take_succ_cons, List.take_zero, ofCells, Option.bind_some, Option.map_some, Nat.zero_add, Nat.le_refl, and_self, if_true, Bool.false_eq_true, if_false]
  · have hl : ¬ l < s.n := by omega
    simp only [oneRes, frz, frzT, frz2, frz1, hl, if_false, k4, List.length_cons, List.length_nil, Nat.reduceAdd, Nat.zero_add, k1, Nat.le_refl, Nat.zero_le, true_and, List.drop_zero, Nat.sub_zero, List.take_succ_cons, List.take_zero, Option.bind_some, Option.map_some]
    rfl
/-- how long the first argument is -/
def argN (l : List PV) : Nat := match l with
  | .sc (.string b) :: _ => b.data.toList.length
  | _ => 0
/-- awake, and the words of letters a -/
noncomputable def extL (gA : Nat) : PCallF := fun g args s => @ite _ (g = 80 ∧ 0 < argN args ∧ argN args ≤ 16000 ∧ args = [sv (aT (argN args)), iv 0]) (Classical.propDecidable _) (some (.tup [.lit 38 1 (aC (argN args)), iv 0, iv 0], s)) (extA gA g args s)
theorem extL_298 {gA n : Nat} (h0 : 0 < n) (hn : n ≤ 16000) (s : PS) : extL gA 80 [sv (aT n), iv 0] s = some (.tup [.lit 38 1 (aC n), iv 0, iv 0], s) := by
  have e : argN [sv (aT n), iv 0] = n := aT_len n
  unfold extL
  rw [if_pos ⟨rfl, by rw [e]; exact h0, by rw [e]; exact hn, by rw [e]⟩, e]
theorem extL_ok {gA : Nat} (hE : Env Tryz.prog) (hO : OpsOK Tryz.prog) (hm : Tryz.prog.follows .mixedOrders = true) (hP : Parts Tryz.prog) (hX : PCallOK Tryz.prog (puOf Γ) (extA gA)) : PCallOK Tryz.prog (puOf Γ) (extL gA) := by
  intro g args s q s' h
  unfold extL at h
  split at h
  · rename_i hg
    obtain ⟨rfl, h0, hn, ha⟩ := hg
    injection h with h
    injection h with e1 e2
    subst e1; subst e2
    obtain ⟨k1, k2⟩ := dfr_ok hE hO hm hP tab_ok hX Tryz.func80 Tryz.func92 c298 (parse_run hn h0 s)
    refine ⟨k1, .refl _, fun A β vs hi hs hr => ?_⟩
    obtain ⟨u, A', β', m1, m2, m3, m4, m5⟩ := k2 A β vs hi hs (ha ▸ hr)
    exact ⟨u, A', β', m1, m2, m3, m4, fun _ => m5⟩
  · exact hX g args s q s' h
end Go.Proofs.YtnocibbhognbeaaGreatDoor
set_option linter.unusedSimpArgs false
namespace Go.Proofs.YtnocibbhognbeaaGreatDoor
open Go Go.EvL Go.PE Go.Mir
variable {ext : PCallF}
theorem fo51 : fromOk Tryz.prog 51 48 0 1 4 = true := by kernel_rfl
/-- the writer's text is t; its bytes lie in a block from b on -/
def BA (k b : Nat) (t : List UInt8) (s : PS) : Prop := ∃ bV, s.h k = ⟨[.ptr k 0 4, bV, ff, nv], 4, 51⟩ ∧ (t = [] ∧ bV = nv ∨ t ≠ [] ∧ ∃ j lj, lj ≤ t.length ∧ b ≤ j ∧ j < s.n ∧ bV = .own j 0 t.length t.length ∧ s.h j = ⟨bytePV t, lj, 5⟩)
def BS (k b : Nat) (t : List UInt8) (s : PS) : Prop := BA k b t s ∨ (t = [] ∧ s.h k = ⟨[.sc (.pointer none), nv, ff, nv], 0, 51⟩)
/-- a block that is not the writer's bytes -/
def NB (k i : Nat) (s : PS) : Prop := ∀ m f, (s.h k).cells.getD 1 nv ≠ .own i 0 m f
structure Fz (k b : Nat) (s s' : PS) : Prop where
  le : s.n ≤ s'.n
  fr : ∀ i, i < s.n → i ≠ k → NB k i s → s'.h i = s.h i ∧ NB k i s'
  w : ∀ n0, n0 ≤ k → n0 ≤ b → n0 ≤ s.n → n0 ≤ s.w → n0 ≤ s'.w
theorem Fz.refl (k b : Nat) (s : PS) : Fz k b s s := ⟨Nat.le_refl _, fun _ _ _ h => ⟨rfl, h⟩, fun _ _ _ _ h => h⟩
theorem Fz.trans {k b : Nat} {s t u : PS} (h : Fz k b s t) (h' : Fz k b t u) : Fz k b s u where
  le := Nat.le_trans h.le h'.le
  fr := fun i hi hk hn => by
    obtain ⟨e1, e2⟩ := h.fr i hi hk hn
    obtain ⟨e3, e4⟩ := h'.fr i (Nat.lt_of_lt_of_le hi h.le) hk e2
    exact ⟨e3.trans e1, e4⟩
  w := fun n0 a c d e => h'.w n0 a c (Nat.le_trans d h.le) (h.w n0 a c d e)
/-- what a call leaves: t at the writer, all else as it was -/
structure Wt (k b : Nat) (t : List UInt8) (s s' : PS) : Prop where
  at' : BA k b t s'
  fz : Fz k b s s'
theorem BA.out {k b w : Nat} {t : List UInt8} {s : PS} (h : BA k b t s) : BA k b t ⟨s.h, s.n, w⟩ := h
/-- at the end of a call -/
theorem Wt.fin {k b : Nat} {t : List UInt8} {s s0 s1 : PS} (h : Wt k b t s0 s1) (hn : s.n ≤ s0.n) (hh : ∀ i, i < s.n → s0.h i = s.h i) (hk : k < s.n) (hw : ∀ n0, n0 ≤ k → n0 ≤ b → n0 ≤ s.n → n0 ≤ s0.w) : Wt k b t s ⟨s1.h, s1.n, min s.w s1.w⟩ where
  at' := h.at'
  fz := ⟨Nat.le_trans hn h.fz.le, fun i hi hik hnb => by
    have hnb' : NB k i s0 := fun m f => by rw [hh k hk]; exact hnb m f
    obtain ⟨e1, e2⟩ := h.fz.fr i (Nat.lt_of_lt_of_le hi hn) hik hnb'
    exact ⟨e1.trans (hh i hi), e2⟩, fun n0 a c d e => Nat.le_min.2 ⟨e, h.fz.w n0 a c (Nat.le_trans d hn) (hw n0 a c d)⟩⟩
theorem BS.fr {k b : Nat} {t : List UInt8} {s s' : PS} (h : BS k b t s) (hk : k < s.n) (hn : s.n ≤ s'.n) (hh : ∀ i, i < s.n → s'.h i = s.h i) : BS k b t s' := by
  rcases h with ⟨bV, h1, h2⟩ | ⟨h1, h2⟩
  · refine .inl ⟨bV, (hh k hk).trans h1, ?_⟩
    rcases h2 with h2 | ⟨h0, j, lj, a, c, d, e, f⟩
    · exact .inl h2
    · exact .inr ⟨h0, j, lj, a, c, Nat.lt_of_lt_of_le d hn, e, (hh j d).trans f⟩
  · exact .inr ⟨h1, (hh k hk).trans h2⟩
section
variable {k b : Nat} {s : PS}
theorem cpc {t : List UInt8} (h : BS k b t s) (hk : k < s.n) : PX (zcall Tryz.prog Γ ext 55 [.ptr k 0 4] s) (.tup []) (Wt k b t s) := by
  rcases h with ⟨bV, hk1, h2⟩ | ⟨rfl, hk1⟩
  · refine zK_px (fn := p55) [] rfl rfl rfl rfl (by unfold p55; rfl) ?_
    simp -implicitDefEqProofs (maxSteps := 3000000) (disch := first | assumption | (apply Ar.mk; omega) | (apply Ar.mk; decide) | (apply Ar.mk; simp only [List.length_append, List.length_cons, List.length_nil, true_and, and_true]; omega)) only [ZN, ↓dt, ↓df, und_e, Nat.reduceEqDiff, ↓reduceIte, Nat.reduceAdd, Nat.reduceLeDiff, Nat.reduceLT, Nat.reduceBEq, reduceCtorEq, pval_tmp, fillP, oneRes, frz, frz2, frzT, ofCells, ZM, slV, Nat.reduceMul, Nat.reduceSub, frzT, pk_dt, pk_df, ↓gk_t, ↓gk_f, ZU, hk1]
    exact PX.mk' ⟨⟨bV, hk1, h2⟩, ⟨Nat.le_refl _, fun i _ _ h => ⟨rfl, h⟩, fun n0 a c d e => Nat.le_min.2 ⟨e, d⟩⟩⟩
  · have hf := fo51
    refine zK_px (fn := p55) [] rfl rfl rfl rfl (by unfold p55; rfl) ?_
    simp -implicitDefEqProofs (maxSteps := 3000000) (disch := first | assumption | (apply Ar.mk; omega) | (apply Ar.mk; decide) | (apply Ar.mk; simp only [List.length_append, List.length_cons, List.length_nil, true_and, and_true]; omega)) only [ZN, ↓dt, ↓df, und_e, Nat.reduceEqDiff, ↓reduceIte, Nat.reduceAdd, Nat.reduceLeDiff, Nat.reduceLT, Nat.reduceBEq, reduceCtorEq, pval_tmp, fillP, oneRes, frz, frz2, frzT, ofCells, ZM, slV, Nat.reduceMul, Nat.reduceSub, frzT, pk_dt, pk_df, ↓gk_t, ↓gk_f, ZU, hk1, hf]
    refine PX.mk' ⟨⟨nv, ?_, .inl ⟨rfl, rfl⟩⟩, ⟨Nat.le_refl _, fun i h1 h2 h3 => ⟨?_, fun m f => ?_⟩, fun n0 a c d e => ?_⟩⟩
    · simp -implicitDefEqProofs (disch := (apply Ar.mk; (try simp only [new_n, put_n]); omega)) only [new_h', put_h', new_n, put_n, hn_ne, hn_eq]
    · simp -implicitDefEqProofs (disch := (apply Ar.mk; (try simp only [new_n, put_n]); omega)) only [new_h', put_h', new_n, put_n, hn_ne, hn_eq]
    · show (hn k k _ _).cells.getD 1 nv ≠ _
      rw [hn_eq]
      simp
    · (simp only [new_w, put_w]; omega)
theorem ws {t : List UInt8} (u : List UInt8) (h : BS k b t s) (hk : k < s.n) (hkb : k < b) (hb : b ≤ s.n) (ht : t.length + u.length < 100000) : PX (zcall Tryz.prog Γ ext 34 [.ptr k 0 4, sv u] s) (.tup [iv u.length, .sc .nilIface]) (Wt k b (t ++ u) s) := by
  have hbl := bp_len u
  have hbo := bp_one u
  refine zK_px (fn := p34) [4, 5] rfl rfl rfl rfl (by unfold p34; rfl) ?_
  simp -implicitDefEqProofs (maxSteps := 3000000) (disch := first | assumption | (apply Ar.mk; omega) | (apply Ar.mk; simp only [List.length_append, List.length_cons, List.length_nil, true_and, and_true]; omega)) only [ZN, ↓dt, ↓df, und_e, Nat.reduceEqDiff, ↓reduceIte, Nat.reduceAdd, Nat.reduceLeDiff, Nat.reduceLT, Nat.reduceBEq, reduceCtorEq, pval_tmp, fillP, oneRes, frz, frz2, frzT, ofCells, ZM, slV, Nat.reduceMul, Nat.reduceSub, frzT, pk_dt, pk_df, ↓gk_t, ↓gk_f]
  refine ra_px (cpc (b := b) (t := t) ?_ ?_) fun s1 h1 => ?_
  · exact h
  · exact hk
  obtain ⟨⟨bV, g1, g2⟩, g3⟩ := h1
  have g0 : s.n ≤ s1.n := g3.le
  have hw3 := fun n0 a c d => g3.w n0 a c d d
  by_cases hu : u = []
  · subst hu
    rw [List.append_nil]
    have hfin : ∀ s2 : PS, s2.h = (s1.put k ⟨[.ptr k 0 4, bV, ff, nv], 4, 51⟩).h → s2.n = s1.n → s2.w = min s.w (min s1.w k) → Wt k b t s s2 := fun s2 e1 e2 e3 => by
      have hkk : s2.h = s1.h := by
        rw [e1]; funext i; show hn i k _ _ = _
        unfold hn; split
        · rename_i e; rw [e, g1]
        · rfl
      refine ⟨⟨bV, by rw [hkk]; exact g1, ?_⟩, ⟨by rw [e2]; exact g0, fun i h1 h2 h3 => ?_, fun n0 a c d e => ?_⟩⟩
      · rw [hkk, e2]; exact g2
      · obtain ⟨q1, q2⟩ := g3.fr i h1 h2 h3
        exact ⟨by rw [hkk]; exact q1, fun m f => by rw [hkk]; exact q2 m f⟩
      · rw [e3]; have := hw3 n0 a c d; omega
    rcases g2 with ⟨rfl, rfl⟩ | ⟨h0, j, lj, q1, q2, q3, rfl, q5⟩
    · simp -implicitDefEqProofs (maxSteps := 3000000) (disch := first | assumption | (apply Ar.mk; omega) | (apply Ar.mk; simp only [List.length_append, List.length_cons, List.length_nil, true_and, and_true]; omega)) only [ZN, ↓dt, ↓df, und_e, Nat.reduceEqDiff, ↓reduceIte, Nat.reduceAdd, Nat.reduceLeDiff, Nat.reduceLT, Nat.reduceBEq, reduceCtorEq, pval_tmp, fillP, oneRes, frz, frz2, frzT, ofCells, ZM, slV, Nat.reduceMul, Nat.reduceSub, frzT, pk_dt, pk_df, ↓gk_t, ↓gk_f, g1, z_apps, ap_s, bytePV]
      exact PX.mk' (hfin _ rfl rfl rfl)
    · simp -implicitDefEqProofs (maxSteps := 3000000) (disch := first | assumption | (apply Ar.mk; omega) | (apply Ar.mk; simp only [List.length_append, List.length_cons, List.length_nil, true_and, and_true]; omega)) only [ZN, ↓dt, ↓df, und_e, Nat.reduceEqDiff, ↓reduceIte, Nat.reduceAdd, Nat.reduceLeDiff, Nat.reduceLT, Nat.reduceBEq, reduceCtorEq, pval_tmp, fillP, oneRes, frz, frz2, frzT, ofCells, ZM, slV, Nat.reduceMul, Nat.reduceSub, frzT, pk_dt, pk_df, ↓gk_t, ↓gk_f, g1, q5, z_apps, ap_s, bytePV]
      exact PX.mk' (hfin _ rfl rfl rfl)
  · have hul : u.length ≠ 0 := by simpa using hu
    rcases g2 with ⟨rfl, rfl⟩ | ⟨h0, j, lj, q1, q2, q3, rfl, q5⟩
    · simp -implicitDefEqProofs (maxSteps := 3000000) (disch := first | assumption | (apply Ar.mk; omega) | (apply Ar.mk; simp only [List.length_append, List.length_cons, List.length_nil, true_and, and_true]; omega)) only [ZN, ↓dt, ↓df, und_e, Nat.reduceEqDiff, ↓reduceIte, Nat.reduceAdd, Nat.reduceLeDiff, Nat.reduceLT, Nat.reduceBEq, reduceCtorEq, pval_tmp, fillP, oneRes, frz, frz2, frzT, ofCells, ZM, slV, Nat.reduceMul, Nat.reduceSub, frzT, pk_dt, pk_df, ↓gk_t, ↓gk_f, g1, z_apps, ap_s, hbl, hbo]
      refine PX.mk' ⟨⟨.own s1.n 0 u.length u.length, ?_, .inr ⟨by simpa using hu, s1.n, 0, Nat.zero_le _, by omega, ?_, rfl, ?_⟩⟩, ⟨?_, fun i h1 h2 h3 => ?_, fun n0 a c d e => ?_⟩⟩
      · simp -implicitDefEqProofs (disch := (apply Ar.mk; (try simp only [new_n, put_n]); omega)) only [new_h', put_h', new_n, put_n, hn_ne, hn_eq]
      · (simp only [new_n, put_n]; omega)
      · simp -implicitDefEqProofs (disch := (apply Ar.mk; (try simp only [new_n, put_n]); omega)) only [new_h', put_h', new_n, put_n, hn_ne, hn_eq]
      · (simp only [new_n, put_n]; omega)
      · obtain ⟨q1, q2⟩ := g3.fr i h1 h2 h3
        refine ⟨(by simp -implicitDefEqProofs (disch := (apply Ar.mk; (try simp only [new_n, put_n]); omega)) only [new_h', put_h', new_n, put_n, hn_ne, hn_eq]; exact q1), fun m f => ?_⟩
        show (hn k k _ _).cells.getD 1 nv ≠ _
        rw [hn_eq]
        show PV.own s1.n 0 u.length u.length ≠ _
        intro he
        injection he with he
        have h1' : i < s.n := h1
        omega
      · have := hw3 n0 a c d
        (simp only [new_w, put_w]; omega)
    · have hbt := bp_len t
      have hba := bp_app t u
      have hjk : j ≠ k := by omega
      simp -implicitDefEqProofs (maxSteps := 3000000) (disch := first | assumption | (apply Ar.mk; omega) | (apply Ar.mk; simp only [List.length_append, List.length_cons, List.length_nil, true_and, and_true]; omega)) only [ZN, ↓dt, ↓df, und_e, Nat.reduceEqDiff, ↓reduceIte, Nat.reduceAdd, Nat.reduceLeDiff, Nat.reduceLT, Nat.reduceBEq, reduceCtorEq, pval_tmp, fillP, oneRes, frz, frz2, frzT, ofCells, ZM, slV, Nat.reduceMul, Nat.reduceSub, frzT, pk_dt, pk_df, ↓gk_t, ↓gk_f, g1, q5, z_apps, ap_s, hbl, hbo, hbt]
      refine PX.mk' ⟨⟨.own j 0 (t.length + u.length) (t.length + u.length), ?_, .inr ⟨(by simp [hu]), j, lj, (by rw [List.length_append]; omega), q2, ?_, (by rw [List.length_append]), ?_⟩⟩, ⟨?_, fun i h1 h2 h3 => ?_, fun n0 a c d e => ?_⟩⟩
      · simp -implicitDefEqProofs (disch := (apply Ar.mk; (try simp only [new_n, put_n]); omega)) only [new_h', put_h', new_n, put_n, hn_ne, hn_eq]
      · (simp only [new_n, put_n]; omega)
      · simp -implicitDefEqProofs (disch := (apply Ar.mk; (try simp only [new_n, put_n]); omega)) only [new_h', put_h', new_n, put_n, hn_ne, hn_eq]; rw [hba]
      · (simp only [new_n, put_n]; omega)
      · obtain ⟨p1, p2⟩ := g3.fr i h1 h2 h3
        have hij : i ≠ j := fun e => p2 t.length t.length (by rw [g1, e]; rfl)
        refine ⟨(by simp -implicitDefEqProofs (disch := (apply Ar.mk; (try simp only [new_n, put_n]); omega)) only [new_h', put_h', new_n, put_n, hn_ne, hn_eq]; exact p1), fun m f => ?_⟩
        show (hn k k _ _).cells.getD 1 nv ≠ _
        rw [hn_eq]
        show PV.own j 0 (t.length + u.length) (t.length + u.length) ≠ _
        intro he
        injection he with he
        exact hij he.symm
      · have := hw3 n0 a c d
        (simp only [new_w, put_w]; omega)
theorem tx1 {t : List UInt8} (u : List UInt8) {sl : Nat} (h : BS k b t s) (hk : k < s.n) (hkb : k < b) (hb : b ≤ s.n) (ht : t.length + u.length < 100000) (hsl : s.h sl = ⟨[sv u], 0, 9⟩) : PX (zcall Tryz.prog Γ ext 21 [.ptr k 0 4, .own sl 0 1 1] s) (.tup []) (Wt k b (t ++ u) s) := by
  refine zK_px (fn := p21) [] rfl rfl rfl rfl (by unfold p21; rfl) ?_
  simp -implicitDefEqProofs (maxSteps := 3000000) (disch := first | assumption | (apply Ar.mk; omega) | (apply Ar.mk; simp only [List.length_append, List.length_cons, List.length_nil, true_and, and_true]; omega)) only [ZN, ↓dt, ↓df, und_e, Nat.reduceEqDiff, ↓reduceIte, Nat.reduceAdd, Nat.reduceLeDiff, Nat.reduceLT, Nat.reduceBEq, reduceCtorEq, pval_tmp, fillP, oneRes, frz, frz2, frzT, ofCells, ZM, slV, Nat.reduceMul, Nat.reduceSub, frzT, pk_dt, pk_df, ↓gk_t, ↓gk_f]
  rw [loop_u (b := b21_0) (by unfold b21_0; rfl)]
  simp -implicitDefEqProofs (maxSteps := 3000000) (disch := first | assumption | (apply Ar.mk; omega) | (apply Ar.mk; simp only [List.length_append, List.length_cons, List.length_nil, true_and, and_true]; omega)) only [ZN, ↓dt, ↓df, und_e, Nat.reduceEqDiff, ↓reduceIte, Nat.reduceAdd, Nat.reduceLeDiff, Nat.reduceLT, Nat.reduceBEq, reduceCtorEq, pval_tmp, fillP, oneRes, frz, frz2, frzT, ofCells, ZM, slV, Nat.reduceMul, Nat.reduceSub, frzT, pk_dt, pk_df, ↓gk_t, ↓gk_f, hsl]
  refine ra_px (ws (b := b) (t := t) u ?_ ?_ hkb ?_ ht) fun s1 h1 => ?_
  · exact h
  · exact hk
  · exact hb
  simp -implicitDefEqProofs (maxSteps := 3000000) (disch := first | assumption | (apply Ar.mk; omega) | (apply Ar.mk; simp only [List.length_append, List.length_cons, List.length_nil, true_and, and_true]; omega)) only [ZN, ↓dt, ↓df, und_e, Nat.reduceEqDiff, ↓reduceIte, Nat.reduceAdd, Nat.reduceLeDiff, Nat.reduceLT, Nat.reduceBEq, reduceCtorEq, pval_tmp, fillP, oneRes, frz, frz2, frzT, ofCells, ZM, slV, Nat.reduceMul, Nat.reduceSub, frzT, pk_dt, pk_df, ↓gk_t, ↓gk_f]
  rw [loop_u (b := b21_0) (by unfold b21_0; rfl)]
  simp -implicitDefEqProofs (maxSteps := 3000000) (disch := first | assumption | (apply Ar.mk; omega) | (apply Ar.mk; simp only [List.length_append, List.length_cons, List.length_nil, true_and, and_true]; omega)) only [ZN, ↓dt, ↓df, und_e, Nat.reduceEqDiff, ↓reduceIte, Nat.reduceAdd, Nat.reduceLeDiff, Nat.reduceLT, Nat.reduceBEq, reduceCtorEq, pval_tmp, fillP, oneRes, frz, frz2, frzT, ofCells, ZM, slV, Nat.reduceMul, Nat.reduceSub, frzT, pk_dt, pk_df, ↓gk_t, ↓gk_f]
  exact PX.mk' (h1.fin (Nat.le_refl _) (fun _ _ => rfl) hk fun n0 a c d => d)
theorem tx2 {t : List UInt8} (u v : List UInt8) {sl : Nat} (h : BS k b t s) (hk : k < s.n) (hkb : k < b) (hb : b ≤ s.n) (ht : t.length + u.length + v.length < 100000) (hsl : s.h sl = ⟨[sv u, sv v], 0, 9⟩) (hsn : sl < s.n) (hsk : sl ≠ k) (hnb : NB k sl s) : PX (zcall Tryz.prog Γ ext 21 [.ptr k 0 4, .own sl 0 2 2] s) (.tup []) (Wt k b (t ++ u ++ v) s) := by
  refine zK_px (fn := p21) [] rfl rfl rfl rfl (by unfold p21; rfl) ?_
  simp -implicitDefEqProofs (maxSteps := 3000000) (disch := first | assumption | (apply Ar.mk; omega) | (apply Ar.mk; simp only [List.length_append, List.length_cons, List.length_nil, true_and, and_true]; omega)) only [ZN, ↓dt, ↓df, und_e, Nat.reduceEqDiff, ↓reduceIte, Nat.reduceAdd, Nat.reduceLeDiff, Nat.reduceLT, Nat.reduceBEq, reduceCtorEq, pval_tmp, fillP, oneRes, frz, frz2, frzT, ofCells, ZM, slV, Nat.reduceMul, Nat.reduceSub, frzT, pk_dt, pk_df, ↓gk_t, ↓gk_f]
  rw [loop_u (b := b21_0) (by unfold b21_0; rfl)]
  simp -implicitDefEqProofs (maxSteps := 3000000) (disch := first | assumption | (apply Ar.mk; omega) | (apply Ar.mk; simp only [List.length_append, List.length_cons, List.length_nil, true_and, and_true]; omega)) only [ZN, ↓dt, ↓df, und_e, Nat.reduceEqDiff, ↓reduceIte, Nat.reduceAdd, Nat.reduceLeDiff, Nat.reduceLT, Nat.reduceBEq, reduceCtorEq, pval_tmp, fillP, oneRes, frz, frz2, frzT, ofCells, ZM, slV, Nat.reduceMul, Nat.reduceSub, frzT, pk_dt, pk_df, ↓gk_t, ↓gk_f, hsl]
  refine ra_px (ws (b := b) (t := t) u ?_ ?_ hkb ?_ (by omega)) fun s1 h1 => ?_
  · exact h
  · exact hk
  · exact hb
  have e1 : s1.h sl = ⟨[sv u, sv v], 0, 9⟩ := (h1.fz.fr sl hsn hsk hnb).1.trans hsl
  simp -implicitDefEqProofs (maxSteps := 3000000) (disch := first | assumption | (apply Ar.mk; omega) | (apply Ar.mk; simp only [List.length_append, List.length_cons, List.length_nil, true_and, and_true]; omega)) only [ZN, ↓dt, ↓df, und_e, Nat.reduceEqDiff, ↓reduceIte, Nat.reduceAdd, Nat.reduceLeDiff, Nat.reduceLT, Nat.reduceBEq, reduceCtorEq, pval_tmp, fillP, oneRes, frz, frz2, frzT, ofCells, ZM, slV, Nat.reduceMul, Nat.reduceSub, frzT, pk_dt, pk_df, ↓gk_t, ↓gk_f]
  rw [loop_u (b := b21_0) (by unfold b21_0; rfl)]
  simp -implicitDefEqProofs (maxSteps := 3000000) (disch := first | assumption | (apply Ar.mk; omega) | (apply Ar.mk; simp only [List.length_append, List.length_cons, List.length_nil, true_and, and_true]; omega)) only [ZN, ↓dt, ↓df, und_e, Nat.reduceEqDiff, ↓reduceIte, Nat.reduceAdd, Nat.reduceLeDiff, Nat.reduceLT, Nat.reduceBEq, reduceCtorEq, pval_tmp, fillP, oneRes, frz, frz2, frzT, ofCells, ZM, slV, Nat.reduceMul, Nat.reduceSub, frzT, pk_dt, pk_df, ↓gk_t, ↓gk_f, e1]
  have hle : s.n ≤ s1.n := h1.fz.le
  refine ra_px (ws (b := b) (t := t ++ u) v (.inl h1.at') (by omega) hkb (by omega) (by rw [List.length_append]; omega)) fun s2 h2 => ?_
  simp -implicitDefEqProofs (maxSteps := 3000000) (disch := first | assumption | (apply Ar.mk; omega) | (apply Ar.mk; simp only [List.length_append, List.length_cons, List.length_nil, true_and, and_true]; omega)) only [ZN, ↓dt, ↓df, und_e, Nat.reduceEqDiff, ↓reduceIte, Nat.reduceAdd, Nat.reduceLeDiff, Nat.reduceLT, Nat.reduceBEq, reduceCtorEq, pval_tmp, fillP, oneRes, frz, frz2, frzT, ofCells, ZM, slV, Nat.reduceMul, Nat.reduceSub, frzT, pk_dt, pk_df, ↓gk_t, ↓gk_f]
  rw [loop_u (b := b21_0) (by unfold b21_0; rfl)]
  simp -implicitDefEqProofs (maxSteps := 3000000) (disch := first | assumption | (apply Ar.mk; omega) | (apply Ar.mk; simp only [List.length_append, List.length_cons, List.length_nil, true_and, and_true]; omega)) only [ZN, ↓dt, ↓df, und_e, Nat.reduceEqDiff, ↓reduceIte, Nat.reduceAdd, Nat.reduceLeDiff, Nat.reduceLT, Nat.reduceBEq, reduceCtorEq, pval_tmp, fillP, oneRes, frz, frz2, frzT, ofCells, ZM, slV, Nat.reduceMul, Nat.reduceSub, frzT, pk_dt, pk_df, ↓gk_t, ↓gk_f]
  exact PX.mk' (Wt.fin ⟨h2.at', h1.fz.trans h2.fz⟩ (Nat.le_refl _) (fun _ _ => rfl) hk fun n0 a c d => d)
end
end Go.Proofs.YtnocibbhognbeaaGreatDoor
set_option linter.unusedSimpArgs false
namespace Go.Proofs.YtnocibbhognbeaaGreatDoor
open Go Go.EvL Go.PE Go.Mir
variable {ext : PCallF}
theorem BA.nb {k b i : Nat} {t : List UInt8} {s : PS} (h : BA k b t s) (hi : s.n ≤ i) : NB k i s := by
  obtain ⟨bV, h1, h2⟩ := h
  intro m f he
  rw [h1] at he
  have he : bV = .own i 0 m f := he
  rcases h2 with ⟨_, rfl⟩ | ⟨_, j, lj, _, _, h3, rfl, _⟩
  · cases he
  · injection he with he
    omega
theorem BS.nb {k b i : Nat} {t : List UInt8} {s : PS} (h : BS k b t s) (hi : s.n ≤ i) : NB k i s := by
  rcases h with h | ⟨_, h⟩
  · exact h.nb hi
  · intro m f he
    rw [h] at he
    cases he
theorem BS.lt {k b i : Nat} {t : List UInt8} {s : PS} (h : BS k b t s) (hi : i < b) : NB k i s := by
  rcases h with ⟨bV, h1, h2⟩ | ⟨_, h⟩
  · intro m f he
    rw [h1] at he
    have he : bV = .own i 0 m f := he
    rcases h2 with ⟨_, rfl⟩ | ⟨_, j, lj, _, h4, h3, rfl, _⟩
    · cases he
    · injection he with he
      omega
  · intro m f he
    rw [h] at he
    cases he
theorem NB.fr {k i : Nat} {s s' : PS} (h : NB k i s) (e : s'.h k = s.h k) : NB k i s' := fun m f => by rw [e]; exact h m f
section
variable {k b : Nat} {s : PS}
theorem n11 {t : List UInt8} (h : BA k b t s) (hk : k < s.n) (hkb : k < b) (hb : b ≤ s.n) (ht : t.length + 1 < 100000) : PX (zcall Tryz.prog Γ ext 11 [.ptr k 0 4] s) (.tup []) (Wt k b (t ++ [10]) s) := by
  obtain ⟨bV, h1, h2⟩ := id h
  refine zK_px (fn := p11) [] rfl rfl rfl rfl (by unfold p11; rfl) ?_
  simp -implicitDefEqProofs (maxSteps := 3000000) (disch := first | assumption | (apply Ar.mk; omega) | (apply Ar.mk; simp only [List.length_append, List.length_cons, List.length_nil, true_and, and_true]; omega)) only [ZN, ↓dt, ↓df, und_e, Nat.reduceEqDiff, ↓reduceIte, Nat.reduceAdd, Nat.reduceLeDiff, Nat.reduceLT, Nat.reduceBEq, reduceCtorEq, pval_tmp, fillP, oneRes, frz, frz2, frzT, ofCells, ZM, slV, Nat.reduceMul, Nat.reduceSub, frzT, pk_dt, pk_df, ↓gk_t, ↓gk_f, h1]
  refine ra_px (tx1 (b := b) (t := t) [10] (BS.fr (s := s) (.inl h) hk ?_ ?_) ?_ hkb ?_ ht ?_) fun s1 g => ?_
  · (simp only [new_n, put_n]; omega)
  · intro i hi; simp -implicitDefEqProofs (disch := (apply Ar.mk; (try simp only [new_n, put_n]); omega)) only [new_h', put_h', new_n, put_n, hn_ne, hn_eq]
  · (simp only [new_n, put_n]; omega)
  · (simp only [new_n, put_n]; omega)
  · simp -implicitDefEqProofs (disch := (apply Ar.mk; (try simp only [new_n, put_n]); omega)) only [new_h', put_h', new_n, put_n, hn_ne, hn_eq]
  obtain ⟨⟨bV', g1, g2⟩, g3⟩ := g
  simp -implicitDefEqProofs (maxSteps := 3000000) (disch := first | assumption | (apply Ar.mk; omega) | (apply Ar.mk; simp only [List.length_append, List.length_cons, List.length_nil, true_and, and_true]; omega)) only [ZN, ↓dt, ↓df, und_e, Nat.reduceEqDiff, ↓reduceIte, Nat.reduceAdd, Nat.reduceLeDiff, Nat.reduceLT, Nat.reduceBEq, reduceCtorEq, pval_tmp, fillP, oneRes, frz, frz2, frzT, ofCells, ZM, slV, Nat.reduceMul, Nat.reduceSub, frzT, pk_dt, pk_df, ↓gk_t, ↓gk_f, g1]
  rw [rl_u (b := b11_0) (by unfold b11_0; rfl)]
  simp -implicitDefEqProofs (maxSteps := 3000000) (disch := first | assumption | (apply Ar.mk; omega) | (apply Ar.mk; simp only [List.length_append, List.length_cons, List.length_nil, true_and, and_true]; omega)) only [ZN, ↓dt, ↓df, und_e, Nat.reduceEqDiff, ↓reduceIte, Nat.reduceAdd, Nat.reduceLeDiff, Nat.reduceLT, Nat.reduceBEq, reduceCtorEq, pval_tmp, fillP, oneRes, frz, frz2, frzT, ofCells, ZM, slV, Nat.reduceMul, Nat.reduceSub, frzT, pk_dt, pk_df, ↓gk_t, ↓gk_f, g1, r11_0]
  refine PX.mk' (Wt.fin (s0 := PS.new ⟨s.h, s.n, s.n⟩ ⟨[sv [10]], 0, 9⟩) (s1 := PS.put s1 k ⟨[.ptr k 0 4, bV', ff, nv], 4, 51⟩) ⟨?_, g3.trans ⟨Nat.le_refl _, fun i a c d => ⟨?_, fun m f => ?_⟩, fun n0 a c d e => ?_⟩⟩ ?_ (fun i hi => by simp -implicitDefEqProofs (disch := (apply Ar.mk; (try simp only [new_n, put_n]); omega)) only [new_h', put_h', new_n, put_n, hn_ne, hn_eq]) hk fun n0 a c d => ?_)
  · refine ⟨bV', by simp -implicitDefEqProofs (disch := (apply Ar.mk; (try simp only [new_n, put_n]); omega)) only [new_h', put_h', new_n, put_n, hn_ne, hn_eq], ?_⟩
    rcases g2 with g2 | ⟨h0, j, lj, q1, q2, q3, q4, q5⟩
    · exact .inl g2
    · exact .inr ⟨h0, j, lj, q1, q2, by (simp only [new_n, put_n]; omega), q4, by simp -implicitDefEqProofs (disch := (apply Ar.mk; (try simp only [new_n, put_n]); omega)) only [new_h', put_h', new_n, put_n, hn_ne, hn_eq]; exact q5⟩
  · simp -implicitDefEqProofs (disch := (apply Ar.mk; (try simp only [new_n, put_n]); omega)) only [new_h', put_h', new_n, put_n, hn_ne, hn_eq]
  · show (hn k k _ _).cells.getD 1 nv ≠ _
    rw [hn_eq]
    have := d m f
    rw [g1] at this
    exact this
  · (simp only [new_w, put_w]; omega)
  · (simp only [new_n, put_n]; omega)
  · (simp only [new_w, put_w]; omega)
theorem n19 {t : List UInt8} {n : Nat} (hx : ∀ s : PS, ext 80 [sv (aT n), iv 0] s = some (.tup [pV n, iv 0, iv 0], s)) (hn1 : 1 ≤ n) (hn2 : n ≤ 16000) (h : BS k b t s) (hk : k < s.n) (hkb : k < b) (hb : b ≤ s.n) (ht : t.length + n < 100000) : PX (zcall Tryz.prog Γ ext 19 [.ptr k 0 4, .agg (lfC n)] s) (.tup []) (Wt k b (t ++ aT n) s) := by
  have h33 : ∀ s : PS, zcall Tryz.prog Γ ext 33 [.agg (wV n)] s = some (.ok (sv (aT n)) s) := fun s => by
    have h54 := fun s => a255 (ext := ext) hx hn1 hn2 s
    refine zT_case (fn := p33) [2] rfl rfl rfl rfl (by unfold p33; rfl) ?_; intro R hR
    simp -implicitDefEqProofs (maxSteps := 3000000) (disch := first | assumption | (apply Ar.mk; omega) | (apply Ar.mk; simp only [List.length_append, List.length_cons, List.length_nil, true_and, and_true]; omega)) only [ZN, ↓dt, ↓df, und_e, Nat.reduceEqDiff, ↓reduceIte, Nat.reduceAdd, Nat.reduceLeDiff, Nat.reduceLT, Nat.reduceBEq, reduceCtorEq, pval_tmp, fillP, oneRes, frz, frz2, frzT, ofCells, ZM, slV, Nat.reduceMul, Nat.reduceSub, frzT, pk_dt, pk_df, ↓gk_t, ↓gk_f, h54]
    exact hR.symm
  have hl := aT_len n
  refine zK_px (fn := p19) [] rfl rfl rfl rfl (by unfold p19; rfl) ?_
  simp -implicitDefEqProofs (maxSteps := 3000000) (disch := first | assumption | (apply Ar.mk; omega) | (apply Ar.mk; simp only [List.length_append, List.length_cons, List.length_nil, true_and, and_true]; omega)) only [ZN, ↓dt, ↓df, und_e, Nat.reduceEqDiff, ↓reduceIte, Nat.reduceAdd, Nat.reduceLeDiff, Nat.reduceLT, Nat.reduceBEq, reduceCtorEq, pval_tmp, fillP, oneRes, frz, frz2, frzT, ofCells, ZM, slV, Nat.reduceMul, Nat.reduceSub, frzT, pk_dt, pk_df, ↓gk_t, ↓gk_f]
  rw [rl_u (b := b19_0) (by unfold b19_0; rfl)]
  simp -implicitDefEqProofs (maxSteps := 3000000) (disch := first | assumption | (apply Ar.mk; omega) | (apply Ar.mk; simp only [List.length_append, List.length_cons, List.length_nil, true_and, and_true]; omega)) only [ZN, ↓dt, ↓df, und_e, Nat.reduceEqDiff, ↓reduceIte, Nat.reduceAdd, Nat.reduceLeDiff, Nat.reduceLT, Nat.reduceBEq, reduceCtorEq, pval_tmp, fillP, oneRes, frz, frz2, frzT, ofCells, ZM, slV, Nat.reduceMul, Nat.reduceSub, frzT, pk_dt, pk_df, ↓gk_t, ↓gk_f, r19_1]
  rw [rl_u (b := b19_1) (by unfold b19_1; rfl)]
  simp -implicitDefEqProofs (maxSteps := 3000000) (disch := first | assumption | (apply Ar.mk; omega) | (apply Ar.mk; simp only [List.length_append, List.length_cons, List.length_nil, true_and, and_true]; omega)) only [ZN, ↓dt, ↓df, und_e, Nat.reduceEqDiff, ↓reduceIte, Nat.reduceAdd, Nat.reduceLeDiff, Nat.reduceLT, Nat.reduceBEq, reduceCtorEq, pval_tmp, fillP, oneRes, frz, frz2, frzT, ofCells, ZM, slV, Nat.reduceMul, Nat.reduceSub, frzT, pk_dt, pk_df, ↓gk_t, ↓gk_f, h33]
  refine ra_px (tx2 (b := b) (t := t) [] (aT n) (BS.fr (s := s) h hk ?_ ?_) ?_ hkb ?_ (by rw [hl]; simpa using ht) ?_ ?_ ?_ ?_) fun s1 g => ?_
  · (simp only [new_n, put_n]; omega)
  · intro i hi; simp -implicitDefEqProofs (disch := (apply Ar.mk; (try simp only [new_n, put_n]); omega)) only [new_h', put_h', new_n, put_n, hn_ne, hn_eq]
  · (simp only [new_n, put_n]; omega)
  · (simp only [new_n, put_n]; omega)
  · simp -implicitDefEqProofs (disch := (apply Ar.mk; (try simp only [new_n, put_n]); omega)) only [new_h', put_h', new_n, put_n, hn_ne, hn_eq]
  · (simp only [new_n, put_n]; omega)
  · omega
  · exact NB.fr (h.nb (by omega)) (by simp -implicitDefEqProofs (disch := (apply Ar.mk; (try simp only [new_n, put_n]); omega)) only [new_h', put_h', new_n, put_n, hn_ne, hn_eq])
  have e1 : s1.h s.n = ⟨lfC n, 0, 29⟩ := (g.fz.fr s.n (by (simp only [new_n, put_n]; omega)) (by omega) (NB.fr (h.nb (Nat.le_refl _)) (by simp -implicitDefEqProofs (disch := (apply Ar.mk; (try simp only [new_n, put_n]); omega)) only [new_h', put_h', new_n, put_n, hn_ne, hn_eq]))).1.trans (by simp -implicitDefEqProofs (disch := (apply Ar.mk; (try simp only [new_n, put_n]); omega)) only [new_h', put_h', new_n, put_n, hn_ne, hn_eq])
  simp -implicitDefEqProofs (maxSteps := 3000000) (disch := first | assumption | (apply Ar.mk; omega) | (apply Ar.mk; simp only [List.length_append, List.length_cons, List.length_nil, true_and, and_true]; omega)) only [ZN, ↓dt, ↓df, und_e, Nat.reduceEqDiff, ↓reduceIte, Nat.reduceAdd, Nat.reduceLeDiff, Nat.reduceLT, Nat.reduceBEq, reduceCtorEq, pval_tmp, fillP, oneRes, frz, frz2, frzT, ofCells, ZM, slV, Nat.reduceMul, Nat.reduceSub, frzT, pk_dt, pk_df, ↓gk_t, ↓gk_f]
  rw [rl_u (b := b19_1) (by unfold b19_1; rfl)]
  simp -implicitDefEqProofs (maxSteps := 3000000) (disch := first | assumption | (apply Ar.mk; omega) | (apply Ar.mk; simp only [List.length_append, List.length_cons, List.length_nil, true_and, and_true]; omega)) only [ZN, ↓dt, ↓df, und_e, Nat.reduceEqDiff, ↓reduceIte, Nat.reduceAdd, Nat.reduceLeDiff, Nat.reduceLT, Nat.reduceBEq, reduceCtorEq, pval_tmp, fillP, oneRes, frz, frz2, frzT, ofCells, ZM, slV, Nat.reduceMul, Nat.reduceSub, frzT, pk_dt, pk_df, ↓gk_t, ↓gk_f, r19_0, e1]
  rw [loop_u (b := b19_2) (by unfold b19_2; rfl)]
  simp -implicitDefEqProofs (maxSteps := 3000000) (disch := first | assumption | (apply Ar.mk; omega) | (apply Ar.mk; simp only [List.length_append, List.length_cons, List.length_nil, true_and, and_true]; omega)) only [ZN, ↓dt, ↓df, und_e, Nat.reduceEqDiff, ↓reduceIte, Nat.reduceAdd, Nat.reduceLeDiff, Nat.reduceLT, Nat.reduceBEq, reduceCtorEq, pval_tmp, fillP, oneRes, frz, frz2, frzT, ofCells, ZM, slV, Nat.reduceMul, Nat.reduceSub, frzT, pk_dt, pk_df, ↓gk_t, ↓gk_f]
  rw [List.append_nil] at g
  exact PX.mk' (g.fin (by (simp only [new_n, put_n]; omega)) (fun i hi => by simp -implicitDefEqProofs (disch := (apply Ar.mk; (try simp only [new_n, put_n]); omega)) only [new_h', put_h', new_n, put_n, hn_ne, hn_eq]) hk fun n0 a c d => by (simp only [new_w, put_w]; omega))
theorem n10 {t : List UInt8} {n : Nat} (hx : ∀ s : PS, ext 80 [sv (aT n), iv 0] s = some (.tup [pV n, iv 0, iv 0], s)) (hn1 : 1 ≤ n) (hn2 : n ≤ 16000) (h : BS k b t s) (hk : k < s.n) (hkb : k < b) (hb : b ≤ s.n) (ht : t.length + n < 100000) : PX (zcall Tryz.prog Γ ext 10 [.ptr k 0 4, .agg (lfC n)] s) (.tup []) (Wt k b (t ++ aT n) s) := by
  refine zK_px (fn := p10) [] rfl rfl rfl rfl (by unfold p10; rfl) ?_
  simp -implicitDefEqProofs (maxSteps := 3000000) (disch := first | assumption | (apply Ar.mk; omega) | (apply Ar.mk; simp only [List.length_append, List.length_cons, List.length_nil, true_and, and_true]; omega)) only [ZN, ↓dt, ↓df, und_e, Nat.reduceEqDiff, ↓reduceIte, Nat.reduceAdd, Nat.reduceLeDiff, Nat.reduceLT, Nat.reduceBEq, reduceCtorEq, pval_tmp, fillP, oneRes, frz, frz2, frzT, ofCells, ZM, slV, Nat.reduceMul, Nat.reduceSub, frzT, pk_dt, pk_df, ↓gk_t, ↓gk_f]
  refine ra_px (n19 (b := b) (t := t) hx hn1 hn2 (BS.fr (s := s) h hk ?_ ?_) ?_ hkb ?_ ht) fun s1 g => ?_
  · (simp only [new_n, put_n]; omega)
  · intro i hi; simp -implicitDefEqProofs (disch := (apply Ar.mk; (try simp only [new_n, put_n]); omega)) only [new_h', put_h', new_n, put_n, hn_ne, hn_eq]
  · (simp only [new_n, put_n]; omega)
  · (simp only [new_n, put_n]; omega)
  simp -implicitDefEqProofs (maxSteps := 3000000) (disch := first | assumption | (apply Ar.mk; omega) | (apply Ar.mk; simp only [List.length_append, List.length_cons, List.length_nil, true_and, and_true]; omega)) only [ZN, ↓dt, ↓df, und_e, Nat.reduceEqDiff, ↓reduceIte, Nat.reduceAdd, Nat.reduceLeDiff, Nat.reduceLT, Nat.reduceBEq, reduceCtorEq, pval_tmp, fillP, oneRes, frz, frz2, frzT, ofCells, ZM, slV, Nat.reduceMul, Nat.reduceSub, frzT, pk_dt, pk_df, ↓gk_t, ↓gk_f]
  exact PX.mk' (g.fin (by (simp only [new_n, put_n]; omega)) (fun i hi => by simp -implicitDefEqProofs (disch := (apply Ar.mk; (try simp only [new_n, put_n]); omega)) only [new_h', put_h', new_n, put_n, hn_ne, hn_eq]) hk fun n0 a c d => by (simp only [new_w, put_w]; omega))
end
section
variable {k b : Nat} {s : PS}
theorem n25 {j m : Nat} (hk : s.h k = ⟨[.ptr k 0 4, .own j 0 m m, ff, nv], 4, 51⟩) : zcall Tryz.prog Γ ext 25 [.ptr k 0 4] s = some (.ok (iv m) s) := by
  refine zT_case (fn := p25) [2] rfl rfl rfl rfl (by unfold p25; rfl) ?_; intro R hR
  simp -implicitDefEqProofs (maxSteps := 3000000) (disch := first | assumption | (apply Ar.mk; omega) | (apply Ar.mk; simp only [List.length_append, List.length_cons, List.length_nil, true_and, and_true]; omega)) only [ZN, ↓dt, ↓df, und_e, Nat.reduceEqDiff, ↓reduceIte, Nat.reduceAdd, Nat.reduceLeDiff, Nat.reduceLT, Nat.reduceBEq, reduceCtorEq, pval_tmp, fillP, oneRes, frz, frz2, frzT, ofCells, ZM, slV, Nat.reduceMul, Nat.reduceSub, frzT, pk_dt, pk_df, ↓gk_t, ↓gk_f, hk]
  exact hR.symm
theorem n13 {j lj : Nat} {t : List UInt8} (h0 : 0 < t.length) (ht : t.length < 100000) (hk : s.h k = ⟨[.ptr k 0 4, .own j 0 t.length t.length, ff, nv], 4, 51⟩) (hj : s.h j = ⟨bytePV t, lj, 5⟩) (hlj : lj ≤ t.length) (hkn : k < s.n) (hjn : j < s.n) (hjk : j ≠ k) :
    zcall Tryz.prog Γ ext 13 [.ptr k 0 4] s = some (.ok (sv t) ⟨(s.put j ⟨bytePV t ++ [.sc undef], t.length + 2, 5⟩).h, s.n, min s.w (min s.n j)⟩) := by
  have hu : ∀ {s' : PS}, s'.h j = ⟨bytePV t, lj, 5⟩ → ustrP s' 5 (.ptr j 0 t.length) (iv t.length) = some (sv t, s'.put j ⟨bytePV t ++ [.sc undef], t.length + 2, 5⟩) := fun h => us_g h (bp_bytes t) hlj (bp_len t) h0 (by omega)
  have hu := hu (s' := ⟨s.h, s.n, s.n⟩) hj
  have hsd := fun k off fin => sd_n (k := k) (off := off) (fin := fin) h0
  refine zK_case (fn := p13) [2] rfl rfl rfl rfl (by unfold p13; rfl) ?_; intro R hR
  simp -implicitDefEqProofs (maxSteps := 3000000) (disch := first | assumption | (apply Ar.mk; omega) | (apply Ak.mk; first | rfl | exact .inl rfl | exact .inr rfl | exact okAll_un _ _ | exact okAll_e _ _ | (unfold OkAll OkPair; simp <;> omega)) | (apply Ar.mk; simp only [List.length_append, List.length_cons, List.length_nil, true_and, and_true]; omega)) only [ZN, ↓dt, ↓df, und_e, Nat.reduceEqDiff, ↓reduceIte, Nat.reduceAdd, Nat.reduceLeDiff, Nat.reduceLT, Nat.reduceBEq, reduceCtorEq, pval_tmp, fillP, oneRes, frz, frz2, frzT, ofCells, ZM, slV, Nat.reduceMul, Nat.reduceSub, frzT, pk_dt, pk_df, ↓gk_t, ↓gk_f, ZU, ZV, effO, effA, pureI, hk, hj, hu, hsd]
  exact hR.symm
theorem n12 {t : List UInt8} (h : BS k b t s) (h0 : t ≠ []) (hk : k < s.n) (hkb : k < b) (ht : t.length < 100000) : PX (zcall Tryz.prog Γ ext 12 [.ptr k 0 4] s) (if 16384 < t.length then .tup [sv [], iv 3] else .tup [sv t, iv 0]) (fun s' => ∀ n0, n0 ≤ b → n0 ≤ s.n → n0 ≤ s.w → n0 ≤ s'.w) := by
  rcases h with ⟨bV, g1, ⟨h1, _⟩ | ⟨_, j, lj, q1, q2, q3, rfl, q5⟩⟩ | ⟨h1, _⟩
  · exact absurd h1 h0
  · have hp : 0 < t.length := List.length_pos_iff.2 h0
    have h25 : zcall Tryz.prog Γ ext 25 [.ptr k 0 4] ⟨s.h, s.n, s.n⟩ = _ := n25 (ext := ext) (s := ⟨s.h, s.n, s.n⟩) g1
    have h13 : zcall Tryz.prog Γ ext 13 [.ptr k 0 4] ⟨s.h, s.n, s.n⟩ = _ := n13 (ext := ext) (s := ⟨s.h, s.n, s.n⟩) hp ht g1 q5 q1 hk q3 (by omega)
    by_cases hl : 16384 < t.length
    · rw [if_pos hl]
      refine zK_px (fn := p12) [2, 3] rfl rfl rfl rfl (by unfold p12; rfl) ?_
      simp -implicitDefEqProofs (maxSteps := 3000000) (disch := first | assumption | (apply Ar.mk; omega) | (apply Ar.mk; simp only [List.length_append, List.length_cons, List.length_nil, true_and, and_true]; omega)) only [ZN, ↓dt, ↓df, und_e, Nat.reduceEqDiff, ↓reduceIte, Nat.reduceAdd, Nat.reduceLeDiff, Nat.reduceLT, Nat.reduceBEq, reduceCtorEq, pval_tmp, fillP, oneRes, frz, frz2, frzT, ofCells, ZM, slV, Nat.reduceMul, Nat.reduceSub, frzT, pk_dt, pk_df, ↓gk_t, ↓gk_f, h25]
      exact PX.mk' fun n0 a c d => by (simp only [new_w, put_w]; omega)
    · rw [if_neg hl]
      refine zK_px (fn := p12) [2, 3] rfl rfl rfl rfl (by unfold p12; rfl) ?_
      simp -implicitDefEqProofs (maxSteps := 3000000) (disch := first | assumption | (apply Ar.mk; omega) | (apply Ar.mk; simp only [List.length_append, List.length_cons, List.length_nil, true_and, and_true]; omega)) only [ZN, ↓dt, ↓df, und_e, Nat.reduceEqDiff, ↓reduceIte, Nat.reduceAdd, Nat.reduceLeDiff, Nat.reduceLT, Nat.reduceBEq, reduceCtorEq, pval_tmp, fillP, oneRes, frz, frz2, frzT, ofCells, ZM, slV, Nat.reduceMul, Nat.reduceSub, frzT, pk_dt, pk_df, ↓gk_t, ↓gk_f, h25, h13]
      exact PX.mk' fun n0 a c d => by (simp only [new_w, put_w]; omega)
  · exact absurd h1 h0
end
/-- the text of the commands -/
def txt (ns : List Nat) : List UInt8 := ns.flatMap fun n => aT n ++ [10]
theorem txt_snoc (ns : List Nat) (n : Nat) : txt (ns ++ [n]) = txt ns ++ aT n ++ [10] := by
  unfold txt
  rw [List.flatMap_append, List.flatMap_singleton, List.append_assoc]
theorem lf_len (n : Nat) : (lfC n).length = 9 := rfl
theorem lf_at {ns : List Nat} {i n : Nat} (h : ns[i]? = some n) : ((ns.flatMap lfC).drop (i * 9)).take 9 = lfC n := by
  obtain ⟨r, hr⟩ := flat_at lf_len h
  rw [hr, List.take_left' (lf_len n)]
def okN (n : Nat) : Prop := 1 ≤ n ∧ n ≤ 16000
section
variable {ns : List Nat} (hns : ∀ n ∈ ns, okN n) (hx : ∀ n, okN n → ∀ s : PS, ext 80 [sv (aT n), iv 0] s = some (.tup [pV n, iv 0, iv 0], s)) (hl : ns.length ≤ 100) {kl low : Nat} (hlow : low ≤ ns.length * 9)
include hns hx hl hlow
theorem lp6a {F : ZC → Option ZR} {K : List KI} {R : Option ZR} {W : Nat} :
    ∀ (m i : Nat) (f : PFr) (s : PS), i + m = ns.length → f 10 = .own kl 0 ns.length (ns.length * 9) → f 11 = iv ns.length → f 12 = iv i → s.h kl = ⟨ns.flatMap lfC, low, 29⟩ → kl < s.n → W ≤ s.n → W ≤ s.w →
      (∀ f' s', f' 0 = f 0 → s'.h kl = ⟨ns.flatMap lfC, low, 29⟩ → kl < s'.n → W ≤ s'.n → W ≤ s'.w → zr Tryz.prog Γ ext F r6_1 f' s' K = R) → rl Tryz.prog Γ ext (F) 0 b6_0 r6_1 f s K = R := by
  have hfl := flat_len lf_len ns
  intro m
  induction m with
  | zero =>
    intro i f s him f10 f11 f12 hat hk hWn hW H
    refine rl_case (by unfold b6_0; rfl) (by unfold r6_1; rfl) ?_; intro hr R hR
    simp -implicitDefEqProofs (maxSteps := 3000000) (disch := first | assumption | (apply Ar.mk; omega) | (apply Ar.mk; simp only [List.length_append, List.length_cons, List.length_nil, true_and, and_true]; omega)) only [ZN, ↓dt, ↓df, und_e, Nat.reduceEqDiff, ↓reduceIte, Nat.reduceAdd, Nat.reduceLeDiff, Nat.reduceLT, Nat.reduceBEq, reduceCtorEq, pval_tmp, fillP, oneRes, frz, frz2, frzT, ofCells, ZM, slV, Nat.reduceMul, Nat.reduceSub, frzT, pk_dt, pk_df, ↓gk_t, ↓gk_f, f10, f11, f12]
    rw [hR]
    exact H _ _ rfl hat hk hWn hW
  | succ m ih =>
    intro i f s him f10 f11 f12 hat hk hWn hW H
    obtain ⟨n, hn⟩ : ∃ n, ns[i]? = some n := ⟨ns[i], List.getElem?_eq_getElem (by omega)⟩
    have hon := hns n (List.mem_of_getElem? hn)
    have h9 : ∀ s : PS, zcall Tryz.prog Γ ext 9 [.agg (lfC n)] s = some (.ok (iv 0) s) := fun s => f17 (hx n hon) hon.1 hon.2 s
    have hkid := lf_at hn
    refine rl_case (by unfold b6_0; rfl) (by unfold r6_1; rfl) ?_; intro hr R hR
    simp -implicitDefEqProofs (maxSteps := 3000000) (disch := first | assumption | (apply Ar.mk; omega) | (apply Ar.mk; decide) | (apply Ar.mk; simp only [List.length_append, List.length_cons, List.length_nil, true_and, and_true]; omega)) only [ZN, ↓dt, ↓df, und_e, Nat.reduceEqDiff, ↓reduceIte, Nat.reduceAdd, Nat.reduceLeDiff, Nat.reduceLT, Nat.reduceBEq, reduceCtorEq, pval_tmp, fillP, oneRes, frz, frz2, frzT, ofCells, ZM, slV, Nat.reduceMul, Nat.reduceSub, frzT, pk_dt, pk_df, ↓gk_t, ↓gk_f, f10, f11, f12, hat, hfl, hkid, h9]
    rw [hR]
    refine ih (i + 1) _ _ (by omega) f10 f11 rfl ?_ ?_ ?_ ?_ fun f' s' e0 e1 e2 e3 e4 => H f' s' e0 e1 e2 e3 e4
    · simp -implicitDefEqProofs (disch := (apply Ar.mk; (try simp only [new_n, put_n]); omega)) only [new_h', put_h', new_n, put_n, hn_ne, hn_eq]; exact hat
    · (simp only [new_n, put_n]; omega)
    · (simp only [new_n, put_n]; omega)
    · (simp only [new_w, put_w]; omega)
theorem lp6b {F : ZC → Option ZR} {K : List KI} {R : Option ZR} {k b W : Nat} (hkb : k < b) (hkl : kl < k) (htot : (txt ns).length < 90000) (hWk : W ≤ k) :
    ∀ (m i : Nat) (f : PFr) (s : PS), i + m = ns.length → f 7 = .ptr k 0 4 → f 27 = .own kl 0 ns.length (ns.length * 9) → f 28 = iv ns.length → f 29 = iv i → s.h kl = ⟨ns.flatMap lfC, low, 29⟩ → BS k b (txt (ns.take i)) s → b ≤ s.n → W ≤ s.w →
      (∀ f' s', f' 7 = .ptr k 0 4 → BS k b (txt ns) s' → b ≤ s'.n → W ≤ s'.w → zr Tryz.prog Γ ext F r6_0 f' s' K = R) → rl Tryz.prog Γ ext (F) 2 b6_1 r6_0 f s K = R := by
  have hfl := flat_len lf_len ns
  intro m
  induction m with
  | zero =>
    intro i f s him f7 f27 f28 f29 hat h hb hW H
    refine rl_case (by unfold b6_1; rfl) (by unfold r6_0; rfl) ?_; intro hr R hR
    simp -implicitDefEqProofs (maxSteps := 3000000) (disch := first | assumption | (apply Ar.mk; omega) | (apply Ar.mk; simp only [List.length_append, List.length_cons, List.length_nil, true_and, and_true]; omega)) only [ZN, ↓dt, ↓df, und_e, Nat.reduceEqDiff, ↓reduceIte, Nat.reduceAdd, Nat.reduceLeDiff, Nat.reduceLT, Nat.reduceBEq, reduceCtorEq, pval_tmp, fillP, oneRes, frz, frz2, frzT, ofCells, ZM, slV, Nat.reduceMul, Nat.reduceSub, frzT, pk_dt, pk_df, ↓gk_t, ↓gk_f, f27, f28, f29]
    rw [hR]
    rw [List.take_of_length_le (by omega)] at h
    exact H _ _ f7 h hb hW
  | succ m ih =>
    intro i f s him f7 f27 f28 f29 hat h hb hW H
    obtain ⟨n, hn⟩ : ∃ n, ns[i]? = some n := ⟨ns[i], List.getElem?_eq_getElem (by omega)⟩
    have hon := hns n (List.mem_of_getElem? hn)
    have hkid := lf_at hn
    have htk : ns.take (i + 1) = ns.take i ++ [n] := by rw [List.take_add_one, hn]; rfl
    have hle : (txt (ns.take i)).length + n + 1 < 100000 := by
      have h1 : (txt (ns.take (i + 1))).length ≤ (txt ns).length := by
        conv => rhs; rw [← List.take_append_drop (i + 1) ns]
        unfold txt
        rw [List.flatMap_append, List.length_append]
        omega
      rw [htk, txt_snoc, List.length_append, List.length_append, aT_len] at h1
      simp only [List.length_cons, List.length_nil] at h1
      omega
    refine rl_case (by unfold b6_1; rfl) (by unfold r6_0; rfl) ?_; intro hr R hR
    simp -implicitDefEqProofs (maxSteps := 3000000) (disch := first | assumption | (apply Ar.mk; omega) | (apply Ar.mk; simp only [List.length_append, List.length_cons, List.length_nil, true_and, and_true]; omega)) only [ZN, ↓dt, ↓df, und_e, Nat.reduceEqDiff, ↓reduceIte, Nat.reduceAdd, Nat.reduceLeDiff, Nat.reduceLT, Nat.reduceBEq, reduceCtorEq, pval_tmp, fillP, oneRes, frz, frz2, frzT, ofCells, ZM, slV, Nat.reduceMul, Nat.reduceSub, frzT, pk_dt, pk_df, ↓gk_t, ↓gk_f, f7, f27, f28, f29, hat, hfl, hkid]
    refine ra_x (n10 (b := b) (t := txt (ns.take i)) (hx n hon) hon.1 hon.2 (BS.fr (s := s) h (by omega) ?_ ?_) ?_ hkb ?_ (by omega)) fun s1 g => ?_
    · (simp only [new_n, put_n]; omega)
    · intro i hi; simp -implicitDefEqProofs (disch := (apply Ar.mk; (try simp only [new_n, put_n]); omega)) only [new_h', put_h', new_n, put_n, hn_ne, hn_eq]
    · (simp only [new_n, put_n]; omega)
    · (simp only [new_n, put_n]; omega)
    have g1 : s.n + 1 ≤ s1.n := g.fz.le
    simp -implicitDefEqProofs (maxSteps := 3000000) (disch := first | assumption | (apply Ar.mk; omega) | (apply Ar.mk; simp only [List.length_append, List.length_cons, List.length_nil, true_and, and_true]; omega)) only [ZN, ↓dt, ↓df, und_e, Nat.reduceEqDiff, ↓reduceIte, Nat.reduceAdd, Nat.reduceLeDiff, Nat.reduceLT, Nat.reduceBEq, reduceCtorEq, pval_tmp, fillP, oneRes, frz, frz2, frzT, ofCells, ZM, slV, Nat.reduceMul, Nat.reduceSub, frzT, pk_dt, pk_df, ↓gk_t, ↓gk_f, f7]
    refine ra_x (n11 (b := b) (t := txt (ns.take i) ++ aT n) g.at' (by omega) hkb (by omega) (by rw [List.length_append, aT_len]; omega)) fun s2 g2 => ?_
    have g3 : s1.n ≤ s2.n := g2.fz.le
    simp -implicitDefEqProofs (maxSteps := 3000000) (disch := first | assumption | (apply Ar.mk; omega) | (apply Ar.mk; simp only [List.length_append, List.length_cons, List.length_nil, true_and, and_true]; omega)) only [ZN, ↓dt, ↓df, und_e, Nat.reduceEqDiff, ↓reduceIte, Nat.reduceAdd, Nat.reduceLeDiff, Nat.reduceLT, Nat.reduceBEq, reduceCtorEq, pval_tmp, fillP, oneRes, frz, frz2, frzT, ofCells, ZM, slV, Nat.reduceMul, Nat.reduceSub, frzT, pk_dt, pk_df, ↓gk_t, ↓gk_f, f29]
    rw [hR]
    obtain ⟨q1, q2⟩ := g.fz.fr kl (by (simp only [new_n, put_n]; omega)) (by omega) (NB.fr (h.lt (by omega)) (by simp -implicitDefEqProofs (disch := (apply Ar.mk; (try simp only [new_n, put_n]); omega)) only [new_h', put_h', new_n, put_n, hn_ne, hn_eq]))
    obtain ⟨q3, _⟩ := g2.fz.fr kl (by omega) (by omega) q2
    refine ih (i + 1) _ _ (by omega) f7 f27 f28 rfl ?_ ?_ (by omega) ?_ H
    · rw [q3, q1]; simp -implicitDefEqProofs (disch := (apply Ar.mk; (try simp only [new_n, put_n]); omega)) only [new_h', put_h', new_n, put_n, hn_ne, hn_eq]; exact hat
    · rw [htk, txt_snoc]; exact .inl g2.at'
    · have h1 := g.fz.w W hWk (by omega) (by (simp only [new_n, put_n]; omega)) (by (simp only [new_w, put_w]; omega))
      exact g2.fz.w W hWk (by omega) (by omega) h1
theorem y_prog {s : PS} (htot : (txt ns).length < 90000) (hat : s.h kl = ⟨ns.flatMap lfC, low, 29⟩) (hk : kl < s.n) (hne : txt ns ≠ []) : zcall Tryz.prog Γ ext 6 [.own kl 0 ns.length (ns.length * 9)] s = some (.ok (if 16384 < (txt ns).length then .tup [sv [], iv 3] else .tup [sv (txt ns), iv 0]) s) := by
  refine zT_case (fn := p6) [2, 3] rfl rfl rfl rfl (by unfold p6; rfl) ?_; intro R hR
  simp -implicitDefEqProofs (maxSteps := 3000000) (disch := first | assumption | (apply Ar.mk; omega) | (apply Ar.mk; simp only [List.length_append, List.length_cons, List.length_nil, true_and, and_true]; omega)) only [ZN, ↓dt, ↓df, und_e, Nat.reduceEqDiff, ↓reduceIte, Nat.reduceAdd, Nat.reduceLeDiff, Nat.reduceLT, Nat.reduceBEq, reduceCtorEq, pval_tmp, fillP, oneRes, frz, frz2, frzT, ofCells, ZM, slV, Nat.reduceMul, Nat.reduceSub, frzT, pk_dt, pk_df, ↓gk_t, ↓gk_f]
  refine lp6a (kl := kl) (low := low) hns hx hl hlow (W := s.n) ns.length 0 _ _ (by omega) rfl rfl rfl hat hk (Nat.le_refl _) (Nat.le_refl _) fun f' s' e0 e1 e2 e3 e4 => ?_
  unfold r6_1
  simp -implicitDefEqProofs (maxSteps := 3000000) (disch := first | assumption | (apply Ar.mk; omega) | (apply Ar.mk; simp only [List.length_append, List.length_cons, List.length_nil, true_and, and_true]; omega)) only [ZN, ↓dt, ↓df, und_e, Nat.reduceEqDiff, ↓reduceIte, Nat.reduceAdd, Nat.reduceLeDiff, Nat.reduceLT, Nat.reduceBEq, reduceCtorEq, pval_tmp, fillP, oneRes, frz, frz2, frzT, ofCells, ZM, slV, Nat.reduceMul, Nat.reduceSub, frzT, pk_dt, pk_df, ↓gk_t, ↓gk_f, e0]
  refine lp6b (kl := kl) (low := low) hns hx hl hlow (k := s'.n) (b := s'.n + 1) (W := s.n) (by omega) e2 htot e3 ns.length 0 _ _ (by omega) rfl rfl rfl rfl ?_ (.inr ⟨rfl, ?_⟩) ?_ ?_ fun f2 s2 g0 g1 g2 g3 => ?_
  · simp -implicitDefEqProofs (disch := (apply Ar.mk; (try simp only [new_n, put_n]); omega)) only [new_h', put_h', new_n, put_n, hn_ne, hn_eq]; exact e1
  · simp -implicitDefEqProofs (disch := (apply Ar.mk; (try simp only [new_n, put_n]); omega)) only [new_h', put_h', new_n, put_n, hn_ne, hn_eq]
  · (simp only [new_n, put_n]; omega)
  · (simp only [new_w, put_w]; omega)
  unfold r6_0
  simp -implicitDefEqProofs (maxSteps := 3000000) (disch := first | assumption | (apply Ar.mk; omega) | (apply Ar.mk; simp only [List.length_append, List.length_cons, List.length_nil, true_and, and_true]; omega)) only [ZN, ↓dt, ↓df, und_e, Nat.reduceEqDiff, ↓reduceIte, Nat.reduceAdd, Nat.reduceLeDiff, Nat.reduceLT, Nat.reduceBEq, reduceCtorEq, pval_tmp, fillP, oneRes, frz, frz2, frzT, ofCells, ZM, slV, Nat.reduceMul, Nat.reduceSub, frzT, pk_dt, pk_df, ↓gk_t, ↓gk_f, g0]
  refine ra_x (n12 (b := s'.n + 1) g1 hne (by omega) (by omega) (by omega)) fun s3 g4 => ?_
  have g5 : s.n ≤ s3.w := g4 s.n (by omega) (by omega) g3
  split
  · simp -implicitDefEqProofs (maxSteps := 3000000) (disch := first | assumption | (apply Ar.mk; omega) | (apply Ar.mk; simp only [List.length_append, List.length_cons, List.length_nil, true_and, and_true]; omega)) only [ZN, ↓dt, ↓df, und_e, Nat.reduceEqDiff, ↓reduceIte, Nat.reduceAdd, Nat.reduceLeDiff, Nat.reduceLT, Nat.reduceBEq, reduceCtorEq, pval_tmp, fillP, oneRes, frz, frz2, frzT, ofCells, ZM, slV, Nat.reduceMul, Nat.reduceSub, frzT, pk_dt, pk_df, ↓gk_t, ↓gk_f]
    rename_i hgt
    rw [if_pos hgt] at hR
    exact hR.symm
  · simp -implicitDefEqProofs (maxSteps := 3000000) (disch := first | assumption | (apply Ar.mk; omega) | (apply Ar.mk; simp only [List.length_append, List.length_cons, List.length_nil, true_and, and_true]; omega)) only [ZN, ↓dt, ↓df, und_e, Nat.reduceEqDiff, ↓reduceIte, Nat.reduceAdd, Nat.reduceLeDiff, Nat.reduceLT, Nat.reduceBEq, reduceCtorEq, pval_tmp, fillP, oneRes, frz, frz2, frzT, ofCells, ZM, slV, Nat.reduceMul, Nat.reduceSub, frzT, pk_dt, pk_df, ↓gk_t, ↓gk_f]
    rename_i hgt
    rw [if_neg hgt] at hR
    exact hR.symm
end
end Go.Proofs.YtnocibbhognbeaaGreatDoor
set_option linter.unusedSimpArgs false
namespace Go.Proofs.YtnocibbhognbeaaGreatDoor
open Go Go.EvL Go.PE Go.Mir
/-- the calls that the law makes: a node whose memory is frozen; print.Program; awake -/
noncomputable def ext2 : PCallF := fun g args s => if g = 5 then fzc (pcall Tryz.prog Γ (extL 4)) g args s else if g = 6 ∨ g = 4 then pcall Tryz.prog Γ (extL 4) g args s else none
theorem y5 (n : Nat) (s : PS) : ∃ s', zcall Tryz.prog Γ (extL 4) 5 [sv (aT n)] ⟨s.h, s.n, s.n⟩ = some (.ok (.agg [iv 1, iv 0, sv [], ff, nv, .own (s.n + 2) 0 1 2, nv, nv, nv]) s') ∧ s.n ≤ s'.w ∧ s'.h (s.n + 2) = ⟨[iv 0, .own (s.n + 1) 0 1 5], 0, 40⟩ ∧ s'.h (s.n + 1) = ⟨aC n, 0, 38⟩ := by
  refine zW_px (Q := fun s' => s.n ≤ s'.w ∧ s'.h (s.n + 2) = ⟨[iv 0, .own (s.n + 1) 0 1 5], 0, 40⟩ ∧ s'.h (s.n + 1) = ⟨aC n, 0, 38⟩) (fn := p5) [.cell 2 true 9] rfl rfl rfl rfl (by unfold p5; rfl) ?_
  simp -implicitDefEqProofs (maxSteps := 3000000) (disch := first | assumption | (apply Ar.mk; omega) | (apply Ar.mk; simp only [List.length_append, List.length_cons, List.length_nil, true_and, and_true]; omega)) only [ZN, ↓dt, ↓df, und_e, Nat.reduceEqDiff, ↓reduceIte, Nat.reduceAdd, Nat.reduceLeDiff, Nat.reduceLT, Nat.reduceBEq, reduceCtorEq, pval_tmp, fillP, oneRes, frz, frz2, frzT, ofCells, ZM, slV, Nat.reduceMul, Nat.reduceSub, frzT, pk_dt, pk_df, ↓gk_t, ↓gk_f]
  refine PX.mk' ⟨?_, ?_, ?_⟩
  · (simp only [new_w, put_w]; omega)
  · simp -implicitDefEqProofs (disch := (apply Ar.mk; (try simp only [new_n, put_n]); omega)) only [new_h', put_h', new_n, put_n, hn_ne, hn_eq]
  · simp -implicitDefEqProofs (disch := (apply Ar.mk; (try simp only [new_n, put_n]); omega)) only [new_h', put_h', new_n, put_n, hn_ne, hn_eq]
theorem e5 (n : Nat) (s : PS) : ext2 5 [sv (aT n)] s = some (.agg (lfC n), s) := by
  obtain ⟨s', h1, h2, h3, h4⟩ := y5 n s
  have h1 := zcall_ok h1
  unfold ext2 fzc
  rw [if_pos rfl, h1, Option.bind_some, if_pos h2]
  have k1 : ¬ s.n + 2 < s.n := by omega
  have k2 : ¬ s.n + 1 < s.n := by omega
  simp only [frzA, frz3L, frz3, frz1, frzL, h3, h4, k1, k2, if_false, List.length_cons, List.length_nil, Nat.reduceAdd, Nat.zero_add, Nat.zero_le, Nat.le_refl, and_self, if_true, List.drop_zero, Nat.sub_zero, List.take_succ_cons, List.take_zero, Option.bind_some, Option.map_some, List.all_cons, List.all_nil, clean1, Bool.and_self, Bool.and_true]
theorem e4 (s : PS) : ext2 4 [] s = some (tt, s) := by
  unfold ext2
  rw [if_neg (by decide), if_pos (.inr rfl)]
  refine zcall_ok ?_
  rw [zcall_ext (by rfl)]
  unfold extL
  rw [if_neg (fun h => absurd h.1 (by decide))]
  rfl
theorem e6 {ns : List Nat} (hns : ∀ n ∈ ns, okN n) (hl : ns.length ≤ 100) {kl : Nat} {s : PS} (htot : (txt ns).length < 90000) (hat : s.h kl = ⟨ns.flatMap lfC, 0, 29⟩) (hk : kl < s.n) (hne : txt ns ≠ []) : ext2 6 [.own kl 0 ns.length (ns.length * 9)] s = some (if 16384 < (txt ns).length then .tup [sv [], iv 3] else .tup [sv (txt ns), iv 0], s) := by
  unfold ext2
  rw [if_neg (by decide), if_pos (.inl rfl)]
  exact zcall_ok (y_prog hns (fun n hn s => extL_298 hn.1 hn.2 s) hl (Nat.zero_le _) htot hat hk hne)
theorem z5 (n : Nat) (s : PS) : zcall Tryz.prog ΓL ext2 5 [sv (aT n)] s = some (.ok (.agg (lfC n)) s) := by
  rw [zcall_ext (by rfl), e5]; rfl
theorem z4 (s : PS) : zcall Tryz.prog ΓL ext2 4 [] s = some (.ok tt s) := by
  rw [zcall_ext (by rfl), e4]; rfl
theorem lp3 {F : ZC → Option ZR} {K : List KI} {R : Option ZR} {W k : Nat} :
    ∀ (m N : Nat) (f : PFr) (s : PS), N * 2 ^ m = 8192 → f 0 = cv k → f 3 = sv (aT N) → W ≤ s.w → (∀ f' s' N, N = 8192 → f' 0 = cv k → f' 3 = sv (aT N) → W ≤ s'.w → zr Tryz.prog ΓL ext2 F r3_0 f' s' K = R) → rl Tryz.prog ΓL ext2 F 0 b3_0 r3_0 f s K = R := by
  intro m
  induction m with
  | zero =>
    intro N f s hN f0 f3 hW H
    have hN : N = 8192 := by simpa using hN
    have hl := aT_len N
    refine rl_case (by unfold b3_0; rfl) (by unfold r3_0; rfl) ?_; intro hr R hR
    simp -implicitDefEqProofs (maxSteps := 3000000) (disch := first | assumption | (apply Ar.mk; omega) | (apply Ar.mk; simp only [List.length_append, List.length_cons, List.length_nil, true_and, and_true]; omega)) only [ZN, ↓dt, ↓df, und_e, Nat.reduceEqDiff, ↓reduceIte, Nat.reduceAdd, Nat.reduceLeDiff, Nat.reduceLT, Nat.reduceBEq, reduceCtorEq, pval_tmp, fillP, oneRes, frz, frz2, frzT, ofCells, ZM, slV, Nat.reduceMul, Nat.reduceSub, frzT, pk_dt, pk_df, ↓gk_t, ↓gk_f, f0, f3, hl]
    rw [hR]
    exact H _ _ N hN f0 f3 hW
  | succ m ih =>
    intro N f s hN f0 f3 hW H
    have hN2 : N ≤ 4096 := by
      have h1 : N * 2 ≤ N * 2 ^ (m + 1) := Nat.mul_le_mul_left _ (by rw [Nat.pow_succ]; have := Nat.one_le_two_pow (n := m); omega)
      omega
    have hl := aT_len N
    have hd : aT N ++ aT N = aT (N + N) := List.replicate_append_replicate
    refine rl_case (by unfold b3_0; rfl) (by unfold r3_0; rfl) ?_; intro hr R hR
    simp -implicitDefEqProofs (maxSteps := 3000000) (disch := first | assumption | (apply Ar.mk; omega) | (apply Ar.mk; simp only [List.length_append, List.length_cons, List.length_nil, true_and, and_true]; omega)) only [ZN, ↓dt, ↓df, und_e, Nat.reduceEqDiff, ↓reduceIte, Nat.reduceAdd, Nat.reduceLeDiff, Nat.reduceLT, Nat.reduceBEq, reduceCtorEq, pval_tmp, fillP, oneRes, frz, frz2, frzT, ofCells, ZM, slV, Nat.reduceMul, Nat.reduceSub, frzT, pk_dt, pk_df, ↓gk_t, ↓gk_f, f0, f3, hl, hd]
    rw [hR]
    refine ih (N + N) _ _ ?_ f0 rfl hW H
    rw [← hN, Nat.pow_succ, ← Nat.mul_two, Nat.mul_assoc, Nat.mul_comm 2]
theorem txt4 (c e : Nat) : (txt [c, c, c, e]).length = 3 * (c + 1) + (e + 1) := by
  show (List.flatMap (fun n => aT n ++ [10]) [c, c, c, e]).length = _
  simp only [List.flatMap_cons, List.flatMap_nil, List.length_append, List.length_nil, List.length_cons, aT_len]
  omega
theorem p_law {k : Nat} (hk : k < 256) (s : PS) : zcall Tryz.prog ΓL ext2 3 [cv k] s = some (.ok tt s) := by
  by_cases h4 : 4 < k
  · refine zT_case (fn := p3) [2] rfl rfl rfl rfl (by unfold p3; rfl) ?_; intro R hR
    simp -implicitDefEqProofs (maxSteps := 3000000) (disch := first | assumption | (apply Ar.mk; omega) | (apply Ar.mk; simp only [List.length_append, List.length_cons, List.length_nil, true_and, and_true]; omega)) only [ZN, ↓dt, ↓df, und_e, Nat.reduceEqDiff, ↓reduceIte, Nat.reduceAdd, Nat.reduceLeDiff, Nat.reduceLT, Nat.reduceBEq, reduceCtorEq, pval_tmp, fillP, oneRes, frz, frz2, frzT, ofCells, ZM, slV, Nat.reduceMul, Nat.reduceSub, frzT, pk_dt, pk_df, ↓gk_t, ↓gk_f, z4]
    exact hR.symm
  refine zT_case (fn := p3) [2] rfl rfl rfl rfl (by unfold p3; rfl) ?_; intro R hR
  simp -implicitDefEqProofs (maxSteps := 3000000) (disch := first | assumption | (apply Ar.mk; omega) | (apply Ar.mk; simp only [List.length_append, List.length_cons, List.length_nil, true_and, and_true]; omega)) only [ZN, ↓dt, ↓df, und_e, Nat.reduceEqDiff, ↓reduceIte, Nat.reduceAdd, Nat.reduceLeDiff, Nat.reduceLT, Nat.reduceBEq, reduceCtorEq, pval_tmp, fillP, oneRes, frz, frz2, frzT, ofCells, ZM, slV, Nat.reduceMul, Nat.reduceSub, frzT, pk_dt, pk_df, ↓gk_t, ↓gk_f]
  refine lp3 (k := k) (W := s.n) 13 1 _ _ rfl rfl rfl (Nat.le_refl _) fun f s1 N hN f0 f3 hW => ?_
  obtain ⟨c, hc⟩ : ∃ c, c = 4000 := ⟨_, rfl⟩
  obtain ⟨e, he⟩ : ∃ e, e = 4378 + k := ⟨_, rfl⟩
  have hl := aT_len N
  have t1 : (aT N).take 4000 = aT c := by rw [hc]; unfold aT; rw [List.take_replicate]; congr 1; omega
  have t2 : (aT N).take (4378 + k) = aT e := by rw [he]; unfold aT; rw [List.take_replicate]; congr 1; omega
  unfold r3_0
  simp -implicitDefEqProofs (maxSteps := 3000000) (disch := first | assumption | (apply Ar.mk; omega) | (apply Ak.mk; first | rfl | exact .inl rfl | exact .inr rfl | exact okAll_un _ _ | exact okAll_e _ _ | (unfold OkAll OkPair; simp <;> omega)) | (apply Ar.mk; simp only [List.length_append, List.length_cons, List.length_nil, true_and, and_true]; omega)) only [ZN, ↓dt, ↓df, und_e, Nat.reduceEqDiff, ↓reduceIte, Nat.reduceAdd, Nat.reduceLeDiff, Nat.reduceLT, Nat.reduceBEq, reduceCtorEq, pval_tmp, fillP, oneRes, frz, frz2, frzT, ofCells, ZM, slV, Nat.reduceMul, Nat.reduceSub, frzT, pk_dt, pk_df, ↓gk_t, ↓gk_f, ZV, effO, effA, pureI, f0, f3, hl, t1, t2, z5]
  have hlen := txt4 c e
  have hns : ∀ n ∈ [c, c, c, e], okN n := by
    intro n hn
    simp only [List.mem_cons, List.not_mem_nil, or_false] at hn
    unfold okN
    omega
  have hne : txt [c, c, c, e] ≠ [] := fun h => by rw [h] at hlen; simp at hlen
  have h6 : ∀ s' : PS, s'.h s1.n = ⟨[c, c, c, e].flatMap lfC, 0, 29⟩ → s1.n < s'.n → zcall Tryz.prog ΓL ext2 6 [.own s1.n 0 4 36] s' = some (.ok (if 16384 < (txt [c, c, c, e]).length then .tup [sv [], iv 3] else .tup [sv (txt [c, c, c, e]), iv 0]) s') := fun s' h1 h2 => by
    rw [zcall_ext (by rfl)]
    have h := e6 hns (by simp) (by omega) h1 h2 hne
    have h : ext2 6 [.own s1.n 0 4 36] s' = _ := h
    rw [h]
    rfl
  rw [h6]
  · generalize txt [c, c, c, e] = T at *
    have hlen : T.length = 16382 + k := by omega
    by_cases h2 : 2 < k
    · rw [if_pos (by omega)]
      simp -implicitDefEqProofs (maxSteps := 3000000) (disch := first | assumption | (apply Ar.mk; omega) | (apply Ar.mk; decide) | (apply Ar.mk; simp only [List.length_append, List.length_cons, List.length_nil, true_and, and_true]; omega)) only [ZN, ↓dt, ↓df, und_e, Nat.reduceEqDiff, ↓reduceIte, Nat.reduceAdd, Nat.reduceLeDiff, Nat.reduceLT, Nat.reduceBEq, reduceCtorEq, pval_tmp, fillP, oneRes, frz, frz2, frzT, ofCells, ZM, slV, Nat.reduceMul, Nat.reduceSub, frzT, pk_dt, pk_df, ↓gk_t, ↓gk_f, f0, z4]
      exact hR.symm
    · rw [if_neg (by omega)]
      simp -implicitDefEqProofs (maxSteps := 3000000) (disch := first | assumption | (apply Ar.mk; omega) | (apply Ar.mk; decide) | (apply Ar.mk; simp only [List.length_append, List.length_cons, List.length_nil, true_and, and_true]; omega)) only [ZN, ↓dt, ↓df, und_e, Nat.reduceEqDiff, ↓reduceIte, Nat.reduceAdd, Nat.reduceLeDiff, Nat.reduceLT, Nat.reduceBEq, reduceCtorEq, pval_tmp, fillP, oneRes, frz, frz2, frzT, ofCells, ZM, slV, Nat.reduceMul, Nat.reduceSub, frzT, pk_dt, pk_df, ↓gk_t, ↓gk_f, f0, z4, hlen]
      exact hR.symm
  · simp -implicitDefEqProofs (disch := (apply Ar.mk; (try simp only [new_n, put_n]); omega)) only [new_h', put_h', new_n, put_n, hn_ne, hn_eq]; rfl
  · (simp only [new_n, put_n]; omega)
theorem long_run {k : Nat} (hk : k < 256) (s : PS) : pcall Tryz.prog ΓL ext2 3 [cv k] s = some (.sc (.bool true), s) := zcall_ok (p_law hk s)
theorem ext2_ok (hE : Env Tryz.prog) (hO : OpsOK Tryz.prog) (hm : Tryz.prog.follows .mixedOrders = true) (hP : Parts Tryz.prog) (hX : PCallOK Tryz.prog (puOf Γ) (extA 4)) : PCallOK Tryz.prog (puOf ΓL) ext2 := by
  have hL := extL_ok hE hO hm hP hX
  have hC := pcall_ok hE hO hm hP tab_ok hL
  intro g args s q s' h
  unfold ext2 at h
  split at h
  · exact fzc_ok (pu' := puOf ΓL) hC g args s q s' h
  · split at h
    · rename_i hg
      obtain ⟨k1, k2, k3⟩ := hC g args s q s' h
      refine ⟨k1, k2, fun A β vs hi hs hr => ?_⟩
      obtain ⟨u, A', β', m1, m2, m3, m4, m5⟩ := k3 A β vs hi hs hr
      exact ⟨u, A', β', m1, m2, m3, m4, fun _ => m5 (by rcases hg with rfl | rfl <;> rfl)⟩
    · cases h
end Go.Proofs.YtnocibbhognbeaaGreatDoor
