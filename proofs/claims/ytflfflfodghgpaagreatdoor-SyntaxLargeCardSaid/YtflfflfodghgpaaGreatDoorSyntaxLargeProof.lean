/- SyntaxLarge: for every k and deep the law returns true and its arguments read afterwards as before, where the listed package variables hold what the text of the program lays (the given tie). No other condition. -/
import Derived.Test.YtflfflfodghgpaaGreatDoorTxH
import Derived.Test.YtflfflfodghgpaaGreatDoorTxI
import Derived.Test.YtflfflfodghgpaaGreatDoorTxJ
import Derived.Test.YtflfflfodghgpaaGreatDoorTxK
set_option linter.unusedSimpArgs false
set_option linter.unusedVariables false
namespace Go.Proofs.YtflfflfodghgpaaGreatDoor
open Go Go.EvL Go.PE Go.ChangeShapes Go.WideShapes Go.ChangeAt Go.RowKit
theorem ext_ok : PCallOK Tryz.prog (puOf Γ) extL := extL_ok prog_env (opsOK prog_env prog_tys) nmix prog_parts (extA_ok ⟨_, _, Tryz.func16, rfl⟩ awake_calls _)
/-- SyntaxLarge at whatever came in -/
theorem large_calls {W : World} (hs : W.ShapedOpen Tryz.prog) {x0 : Int} {x1 : Bool} (h0 : (Lit.int .u16 x0).wf = true) : Calls Tryz.prog 4 #[.int .u16 x0, .bool x1] W fun e w' => e = .returned (.bool true) ∧ Below W.heap.size W w' := by
  obtain ⟨B, hB, hfz⟩ := fz_bound W
  have h1 : (decide (IntKind.u16.min ≤ x0) && decide (x0 ≤ IntKind.u16.max)) = true := h0
  rw [Bool.and_eq_true, decide_eq_true_iff, decide_eq_true_iff] at h1
  have h2 : (0 : Int) ≤ x0 := h1.1
  have h3 : x0 ≤ 65535 := h1.2
  obtain ⟨k, rfl⟩ : ∃ k : Nat, x0 = (k : Int) := ⟨x0.toNat, by omega⟩
  refine pe_calls (V := []) (pvs := [uv k, .sc (.bool x1)]) (vs := [.int .u16 (k : Int), .bool x1]) prog_env (opsOK prog_env prog_tys) nmix prog_parts tab_ok ext_ok rfl (of_shaped hs) hB (fun v hv => by cases hv) ?_ ?_ (large_run (by omega) x1 ps0)
  · exact .cons _ _ _ _ (.int _ _) (.cons _ _ _ _ (.bool _) .nil)
  · exact .cons _ _ _ _ (.cl _ _ (.sc _ rfl)) (.cons _ _ _ _ (.cl _ _ (.sc _ rfl)) .nil)
theorem reads4 (os : Os) {H : Type} (enc : TypeId × Value → H) : ∃ places, DataW.whole enc Tryz.prog ((witW os).forCall (fun _ _ => 0) ⟨#[], #[.int .u16 0, .bool false], []⟩).memory Tryz.f4.params.toList Rows.syntaxLargeSpec.vars false #[.int .u16 0, .bool false].toList 8 = some ([.lit (.int .u16 0), .lit (.bool false)], [], places) :=
  ⟨[], by kernel_rfl⟩
set_option maxRecDepth 100000 in
theorem large_lifted (os : Os) (started : os.Started) (H : Type) (enc : TypeId × Value → H) (F : Stop.Interp) :
    ReturnsInHanded {} Tryz.checked os 4 .any ((OpenSpec.ofChange Rows.syntaxLargeSpec).preRow enc Tryz.prog Tryz.f4 Rows.syntaxLargeRow.domain false Rows.syntaxLargeRow.laid) (((OpenSpec.ofChange Rows.syntaxLargeSpec).at F).post enc Tryz.prog Tryz.f4 false true false false) := by
  obtain ⟨places, hx⟩ := reads4 os enc
  refine returnsInHanded_of_row (C := Tryz.checked) (s := OpenSpec.ofChange Rows.syntaxLargeSpec) own started (by kernel_rfl) Tryz.func4
    (witness_row_at (enc := enc) (C := Tryz.checked) false (witW os) #[.int .u16 0, .bool false] rfl (by kernel_rfl) (by kernel_rfl) (by kernel_rfl)
      (OpenSpec.preRow_of_cond 8 hx (by kernel_rfl) (fun k hk => by cases hk) (by kernel_rfl) (door_met os _))) ?_
  intro W base args ds gs before hval0 hW _ hcond _ hL hsh _
  have hval : ∀ (j : Nat) t v, Tryz.f4.params[j]? = some t → args[j]? = some v → Value.okWide Tryz.prog W .any base t v := hval0
  have hW' := hW
  have hlt := hW.lt
  obtain ⟨p, q, hA0, hV, rfl, hfz, hnd⟩ := hW
  have hA : DataW.TrodAll enc Tryz.prog W 0 (fun _ => true) true Tryz.f4.params.toList args.toList ds p := hA0
  rw [Tryz.params4] at hA hval
  obtain ⟨v0, vs0, d0, ds0, p0, q0, hargs, rfl, rfl, h0, r0⟩ := trodAll_cons hA
  obtain ⟨v1, vs1, d1, ds1, p1, q1, rfl, rfl, rfl, h1, r1⟩ := trodAll_cons r0
  obtain ⟨rfl, rfl, rfl⟩ := trodAll_nil r1
  obtain rfl : args = #[v0, v1] := by cases args; simp_all
  obtain ⟨rfl, rfl⟩ := trodVars_none hV
  obtain ⟨x0, rfl, _, _, hwf⟩ := open_int Tryz.underlying34 (hval 0 34 v0 rfl rfl) h0
  obtain ⟨x1, rfl⟩ := okWide_bool Tryz.underlying4 (hval 1 4 v1 rfl rfl)
  clear hA0 hval0
  refine (large_calls hsh hwf).mono fun e W' ⟨he, bel⟩ => ?_
  subst he
  have l0 : ∀ x ∈ p0, x.block < W.heap.size := fun x hx => hlt x (by simp [hx])
  have l1 : ∀ x ∈ p1, x.block < W.heap.size := fun x hx => hlt x (by simp [hx])
  exact ⟨_, rfl, _, _, _, [], _, [], hW', trodAll_mk1 (shut_bool Tryz.underlying4 _), (trodAll_cons_mk (Below.trod laidOut (by kernel_rfl) (of_decide_eq_true (by kernel_rfl)) h0 bel l0) (trodAll_cons_mk (Below.trod laidOut (by kernel_rfl) (of_decide_eq_true (by kernel_rfl)) h1 bel l1) trodAll_mk0)), rfl, bel.frame _, fun h => by cases h⟩
theorem syntaxLarge_said : Rows.SyntaxLargeSaid :=
  OpenClaim.holds_of_cond 4 Tryz.f4 rfl rfl rfl rfl rfl rfl rfl ⟨rfl, rfl, rfl, rfl, rfl⟩ rfl rfl rfl rfl rfl (by kernel_rfl) Tryz.func4 closed4
    (of_decide_eq_true (by kernel_rfl)) (by unfold Func.isWrapper; first | (rw [if_pos (by decide +kernel)]; kernel_rfl) | (rw [if_neg (by decide +kernel)]; exact ⟨rfl, rfl⟩))
    (fun os started H enc _ F => by rw [OpenClaim.pre_eq_preRow]; exact large_lifted os started H enc F)
theorem large_plain (f : FuncId) (fn : Func) (hf : Tryz.pinned.checked.prog.funcNamed Rows.syntaxLargeRow.func = some f) (hfn : Tryz.pinned.checked.prog.funcs[f]? = some fn) :
    true = Tryz.pinned.checked.prog.looks [] ∧ ∀ (j : Nat) t, fn.params[j]? = some t → Tryz.pinned.checked.prog.wantsStandIn t = false := by
  obtain rfl : f = 4 := Option.some.inj ((show Tryz.prog.funcNamed Rows.syntaxLargeRow.func = some 4 by kernel_rfl).symm.trans hf) |>.symm
  obtain rfl : fn = Tryz.f4 := (Option.some.inj (Tryz.func4.symm.trans hfn)).symm
  refine ⟨by kernel_rfl, fun j t ht => ?_⟩
  rw [Tryz.params4] at ht
  have hm : t = 34 ∨ t = 4 := by simpa using Array.mem_of_getElem? ht
  rcases hm with rfl | rfl
  · exact (show Tryz.prog.wantsStandIn 34 = false by kernel_rfl)
  · exact (show Tryz.prog.wantsStandIn 4 = false by kernel_rfl)
/-- ████ THE STATEMENT ████ -/
theorem syntaxLarge_card : Rows.SyntaxLargeCardSaid :=
  Claim7.holds_tied_plain_at .later [] _ _ _ _ syntaxLarge_said (fun _ h => by cases h) wf4 (fun _ h => by cases h) syntaxLarge_row_tie rfl ⟨rfl, rfl⟩ main4 rfl large_plain goes4
#print axioms syntaxLarge_card
end Go.Proofs.YtflfflfodghgpaaGreatDoor
