/- Proved: wherever the arguments are of bulk at most 1048576 the law SyntaxSames returns true, and its arguments read afterwards as before; the listed package variables hold what the program text lays. No other condition. -/
import Derived.Test.YtdkcfccepjimbaaGreatDoorFacts
set_option linter.unusedSimpArgs false
set_option linter.unusedVariables false
namespace Go.Proofs.YtdkcfccepjimbaaGreatDoor
open Go Go.EvL Go.PE Go.ChangeShapes Go.WideShapes Go.ChangeAt Go.RowKit
theorem tab_ok : TabOK Tryz.prog Γ := by
  intro g pf h
  unfold Γ at h
  split at h
  all_goals first | cases h; done | injection h with h; subst h
  · exact ⟨_, _, Tryz.func5, c5⟩
  · exact ⟨_, _, Tryz.func11, c11⟩
  · exact ⟨_, _, Tryz.func20, c20⟩
  · exact ⟨_, _, Tryz.func21, c21⟩
  · exact ⟨_, _, Tryz.func38, c38⟩
  · exact ⟨_, _, Tryz.func39, c39⟩
  · exact ⟨_, _, Tryz.func40, c40⟩
  · exact ⟨_, _, Tryz.func45, c45⟩
  · exact ⟨_, _, Tryz.func46, c46⟩
  · exact ⟨_, _, Tryz.func47, c47⟩
  · exact ⟨_, _, Tryz.func48, c48⟩
  · exact ⟨_, _, Tryz.func49, c49⟩
  · exact ⟨_, _, Tryz.func50, c50⟩
  · exact ⟨_, _, Tryz.func51, c51⟩
  · exact ⟨_, _, Tryz.func52, c52⟩
  · exact ⟨_, _, Tryz.func53, c53⟩
  · exact ⟨_, _, Tryz.func54, c54⟩
  · exact ⟨_, _, Tryz.func55, c55⟩
  · exact ⟨_, _, Tryz.func56, c56⟩
  · exact ⟨_, _, Tryz.func57, c57⟩
  · exact ⟨_, _, Tryz.func58, c58⟩
  · exact ⟨_, _, Tryz.func86, c86⟩
  · exact ⟨_, _, Tryz.func87, c87⟩
  · exact ⟨_, _, Tryz.func132, c132⟩
  · exact ⟨_, _, Tryz.func133, c133⟩
theorem ext_ok : PCallOK Tryz.prog (puOf Γ) (extA 12) := extA_ok ⟨_, _, Tryz.func12, rfl⟩ awake_calls _
/-- SyntaxSames at whatever nodes came in -/
theorem sames_calls {H : Type} {enc : TypeId × Value → H} {W : World} (hs : W.ShapedOpen Tryz.prog) {xs ys : Array Value} {d1 d2 : DataW H} {p1 p2 : List MemPlace} (h1 : DataW.Trod enc Tryz.prog W 0 (fun _ => true) true 28 (.agg xs) d1 p1) (h2 : DataW.Trod enc Tryz.prog W 0 (fun _ => true) true 28 (.agg ys) d2 p2)
    (hb : Rows.uptoBulk d1 + Rows.uptoBulk d2 ≤ 1048576) : Calls Tryz.prog 5 #[.agg xs, .agg ys] W fun e w' => e = .returned (.bool true) ∧ Below W.heap.size W w' := by
  obtain ⟨n1, h1⟩ := h1
  obtain ⟨n2, h2⟩ := h2
  obtain ⟨B, hB, hfz⟩ := fz_bound W
  obtain ⟨M1, vs1, ps1, o1, t1, b1⟩ := open_val treeTys tree_tys (bulkFn H) hfz (var0 hs) n1 28 _ d1 p1 rfl h1 [] (fun v hv => by cases hv)
  obtain ⟨M2, vs2, ps2, o2, t2, b2⟩ := open_val treeTys tree_tys (bulkFn H) hfz (var0 hs) n2 28 _ d2 p2 rfl h2 _ o1.ok
  have b1 : bulks ps1 ≤ Rows.uptoBulk d1 := b1
  have b2 : bulks ps2 ≤ Rows.uptoBulk d2 := b2
  obtain ⟨a, rfl, ha⟩ := node_of (N := 16777216) (by decide) (D := n1 + n2) n1 (by omega) ps1 t1 (by omega)
  obtain ⟨b, rfl, hb'⟩ := node_of (N := 16777216) (by decide) (D := n1 + n2) n2 (by omega) ps2 t2 (by omega)
  refine pe_calls (pvs := [.agg a.cells, .agg b.cells]) (vs := [.agg vs1.toArray, .agg vs2.toArray]) prog_env (opsOK prog_env prog_tys) nmix prog_parts tab_ok ext_ok rfl (of_shaped hs) hB o2.ok ?_ ?_ (sames_ok (ha.mono (d' := n1 + n2) (by omega)) (hb'.mono (d' := n1 + n2) (by omega)) (by omega) (by omega) ps0)
  · exact .cons _ _ _ _ (.agg _ _ (o1.vr.mono (phiV_ext _ _))) (.cons _ _ _ _ (.agg _ _ o2.vr) .nil)
  · exact .cons _ _ _ _ (.cl _ _ (.agg _ _ (o1.rc.mono (stV_fw _ _ _)))) (.cons _ _ _ _ (.cl _ _ (.agg _ _ o2.rc)) .nil)
theorem reads5 (os : Os) {H : Type} (enc : TypeId × Value → H) : ∃ places, DataW.whole enc Tryz.prog ((witW os).forCall (fun _ _ => 0) ⟨#[], #[node0, node0], []⟩).memory Tryz.f5.params.toList Rows.syntaxSamesSpec.vars false #[node0, node0].toList 8 = some ([.agg [.lit (.int .i64 0), .lit (.int .i64 0), .lit (.string []), .lit (.bool false), .nil, .nil, .nil, .nil, .nil], .agg [.lit (.int .i64 0), .lit (.int .i64 0), .lit (.string []), .lit (.bool false), .nil, .nil, .nil, .nil, .nil]], [], places) :=
  ⟨[], by kernel_rfl⟩
set_option maxRecDepth 100000 in
theorem sames_lifted (os : Os) (started : os.Started) (H : Type) (enc : TypeId × Value → H) (F : Stop.Interp) :
    ReturnsInHanded {} Tryz.checked os 5 .any ((Rows.OpenSpec.upto Rows.syntaxSamesSpec).preRow enc Tryz.prog Tryz.f5 Rows.syntaxSamesUptoRow.domain false Rows.syntaxSamesUptoRow.laid) (((Rows.OpenSpec.upto Rows.syntaxSamesSpec).at F).post enc Tryz.prog Tryz.f5 false true false false) := by
  obtain ⟨places, hx⟩ := reads5 os enc
  refine returnsInHanded_of_row (C := Tryz.checked) (s := Rows.OpenSpec.upto Rows.syntaxSamesSpec) own started (by kernel_rfl) Tryz.func5
    (witness_row_at (enc := enc) (C := Tryz.checked) false (witW os) #[node0, node0] rfl (by kernel_rfl) (by kernel_rfl) (by kernel_rfl)
      (OpenSpec.preRow_of_cond 8 hx (by kernel_rfl) (fun k hk => by cases hk; kernel_rfl) (by kernel_rfl) (door_met os _))) ?_
  intro W base args ds gs before hval0 hW _ hcond _ hL hsh _
  have hval : ∀ (j : Nat) t v, Tryz.f5.params[j]? = some t → args[j]? = some v → Value.okWide Tryz.prog W .any base t v := hval0
  have hk := hcond _ rfl
  have hW' := hW
  have hlt := hW.lt
  obtain ⟨p, q, hA0, hV, rfl, hfz, hnd⟩ := hW
  have hA : DataW.TrodAll enc Tryz.prog W 0 (fun _ => true) true Tryz.f5.params.toList args.toList ds p := hA0
  rw [Tryz.params5] at hA hval
  obtain ⟨v0, vs0, d0, ds0, p0, q0, hargs, rfl, rfl, h0, r0⟩ := trodAll_cons hA
  obtain ⟨v1, vs1, d1, ds1, p1, q1, rfl, rfl, rfl, h1, r1⟩ := trodAll_cons r0
  obtain ⟨rfl, rfl, rfl⟩ := trodAll_nil r1
  obtain rfl : args = #[v0, v1] := by cases args; simp_all
  obtain ⟨rfl, rfl⟩ := trodVars_none hV
  obtain ⟨xs, rfl⟩ := agg_of Tryz.underlying28 (hval 0 28 v0 rfl rfl)
  obtain ⟨ys, rfl⟩ := agg_of Tryz.underlying28 (hval 1 28 v1 rfl rfl)
  have hb : Rows.uptoBulk d0 + Rows.uptoBulk d1 ≤ 1048576 := by
    have h : Rows.uptoBulkAll ([d0, d1] ++ []) ≤ 1048576 := of_decide_eq_true hk
    simp only [List.append_nil, Rows.uptoBulkAll] at h
    omega
  clear hA0 hval0
  refine (sames_calls hsh h0 h1 hb).mono fun e W' ⟨he, bel⟩ => ?_
  subst he
  have l0 : ∀ x ∈ p0, x.block < W.heap.size := fun x hx => hlt x (by simp [hx])
  have l1 : ∀ x ∈ p1, x.block < W.heap.size := fun x hx => hlt x (by simp [hx])
  exact ⟨_, rfl, _, _, _, [], _, [], hW', trodAll_mk1 (shut_bool Tryz.underlying4 _), (trodAll_cons_mk (Below.trod laidOut (by kernel_rfl) (of_decide_eq_true (by kernel_rfl)) h0 bel l0) (trodAll_cons_mk (Below.trod laidOut (by kernel_rfl) (of_decide_eq_true (by kernel_rfl)) h1 bel l1) trodAll_mk0)), rfl, bel.frame _, fun h => by cases h⟩
theorem syntaxSames_upto : Rows.SyntaxSamesUptoSaid :=
  OpenClaim.holds_of_cond 5 Tryz.f5 rfl rfl rfl rfl rfl rfl rfl ⟨rfl, rfl, rfl, rfl, rfl⟩ rfl rfl rfl rfl rfl (by kernel_rfl) Tryz.func5 closed5
    (of_decide_eq_true (by kernel_rfl)) (by unfold Func.isWrapper; first | (rw [if_pos (by decide +kernel)]; kernel_rfl) | (rw [if_neg (by decide +kernel)]; exact ⟨rfl, rfl⟩))
    (fun os started H enc _ F => by rw [OpenClaim.pre_eq_preRow]; exact sames_lifted os started H enc F)
theorem sames_plain (f : FuncId) (fn : Func) (hf : Tryz.pinned.checked.prog.funcNamed Rows.syntaxSamesUptoRow.func = some f) (hfn : Tryz.pinned.checked.prog.funcs[f]? = some fn) :
    true = Tryz.pinned.checked.prog.looks [] ∧ ∀ (j : Nat) t, fn.params[j]? = some t → Tryz.pinned.checked.prog.wantsStandIn t = false := by
  obtain rfl : f = 5 := Option.some.inj ((show Tryz.prog.funcNamed Rows.syntaxSamesUptoRow.func = some 5 by kernel_rfl).symm.trans hf) |>.symm
  obtain rfl : fn = Tryz.f5 := (Option.some.inj (Tryz.func5.symm.trans hfn)).symm
  refine ⟨by kernel_rfl, fun j t ht => ?_⟩
  rw [Tryz.params5] at ht
  obtain rfl : t = 28 := by simpa using Array.mem_of_getElem? ht
  exact (show Tryz.prog.wantsStandIn 28 = false by kernel_rfl)
/-- ████ THE STATEMENT ████ -/
theorem syntaxSames_card : Rows.SyntaxSamesUptoCardSaid :=
  Claim7.holds_tied_plain_at .later [] _ _ _ _ syntaxSames_upto (fun _ h => by cases h) (by kernel_rfl) (fun _ h => by cases h) syntaxSamesUpto_row_tie rfl ⟨rfl, rfl⟩ (by kernel_rfl) rfl sames_plain (by kernel_rfl)
#print axioms syntaxSames_card
end Go.Proofs.YtdkcfccepjimbaaGreatDoor
