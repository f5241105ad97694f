/- Proved: wherever the argument is of bulk at most 1048576 the law SyntaxWalks returns true, and its argument reads afterwards as before; the listed package variables hold what the program text lays. No other condition. -/
import Derived.Test.YtdkcfccepjimbaaGreatDoorWalksFacts
set_option linter.unusedSimpArgs false
set_option linter.unusedVariables false
namespace Go.Proofs.YtdkcfccepjimbaaGreatDoor
open Go Go.EvL Go.PE Go.ChangeShapes Go.WideShapes Go.ChangeAt Go.RowKit
theorem ext_ok : PCallOK Tryz.prog (puOf Γ) (extA 12) := extA_ok ⟨_, _, Tryz.func12, rfl⟩ awake_calls _
/-- SyntaxWalks at whatever node came in -/
theorem walks_calls {H : Type} {enc : TypeId × Value → H} {W : World} (hs : W.ShapedOpen Tryz.prog) {xs : Array Value} {d1 : DataW H} {p1 : List MemPlace} (h1 : DataW.Trod enc Tryz.prog W 0 (fun _ => true) true 28 (.agg xs) d1 p1)
    (hb : Rows.uptoBulk d1 ≤ 1048576) : Calls Tryz.prog 6 #[.agg xs] W fun e w' => e = .returned (.bool true) ∧ Below W.heap.size W w' := by
  obtain ⟨n1, h1⟩ := h1
  obtain ⟨B, hB, hfz⟩ := fz_bound W
  obtain ⟨M1, vs1, ps1, o1, t1, b1⟩ := open_val treeTys tree_tys (bulkFn H) hfz (var0 hs) n1 28 _ d1 p1 rfl h1 [] (fun v hv => by cases hv)
  have b1 : bulks ps1 ≤ Rows.uptoBulk d1 := b1
  obtain ⟨a, rfl, ha⟩ := node_of (N := 16777216) (by decide) (D := n1) n1 (by omega) ps1 t1 (by omega)
  refine pe_calls (pvs := [.agg a.cells]) (vs := [.agg vs1.toArray]) prog_env (opsOK prog_env prog_tys) nmix prog_parts tab_ok ext_ok rfl (of_shaped hs) hB o1.ok ?_ ?_ (walks_law ha (by omega) ps0)
  · exact .cons _ _ _ _ (.agg _ _ o1.vr) .nil
  · exact .cons _ _ _ _ (.cl _ _ (.agg _ _ o1.rc)) .nil
theorem reads6 (os : Os) {H : Type} (enc : TypeId × Value → H) : ∃ places, DataW.whole enc Tryz.prog ((witW os).forCall (fun _ _ => 0) ⟨#[], #[node0], []⟩).memory Tryz.f6.params.toList Rows.syntaxWalksSpec.vars false #[node0].toList 8 = some ([.agg [.lit (.int .i64 0), .lit (.int .i64 0), .lit (.string []), .lit (.bool false), .nil, .nil, .nil, .nil, .nil]], [], places) :=
  ⟨[], by kernel_rfl⟩
set_option maxRecDepth 100000 in
theorem walks_lifted (os : Os) (started : os.Started) (H : Type) (enc : TypeId × Value → H) (F : Stop.Interp) :
    ReturnsInHanded {} Tryz.checked os 6 .any ((Rows.OpenSpec.upto Rows.syntaxWalksSpec).preRow enc Tryz.prog Tryz.f6 Rows.syntaxWalksUptoRow.domain false Rows.syntaxWalksUptoRow.laid) (((Rows.OpenSpec.upto Rows.syntaxWalksSpec).at F).post enc Tryz.prog Tryz.f6 false true false false) := by
  obtain ⟨places, hx⟩ := reads6 os enc
  refine returnsInHanded_of_row (C := Tryz.checked) (s := Rows.OpenSpec.upto Rows.syntaxWalksSpec) own started (by kernel_rfl) Tryz.func6
    (witness_row_at (enc := enc) (C := Tryz.checked) false (witW os) #[node0] rfl (by kernel_rfl) (by kernel_rfl) (by kernel_rfl)
      (OpenSpec.preRow_of_cond 8 hx (by kernel_rfl) (fun k hk => by cases hk; kernel_rfl) (by kernel_rfl) (door_met os _))) ?_
  intro W base args ds gs before hval0 hW _ hcond _ hL hsh _
  have hval : ∀ (j : Nat) t v, Tryz.f6.params[j]? = some t → args[j]? = some v → Value.okWide Tryz.prog W .any base t v := hval0
  have hk := hcond _ rfl
  have hW' := hW
  have hlt := hW.lt
  obtain ⟨p, q, hA0, hV, rfl, hfz, hnd⟩ := hW
  have hA : DataW.TrodAll enc Tryz.prog W 0 (fun _ => true) true Tryz.f6.params.toList args.toList ds p := hA0
  rw [Tryz.params6] at hA hval
  obtain ⟨v0, vs0, d0, ds0, p0, q0, hargs, rfl, rfl, h0, r0⟩ := trodAll_cons hA
  obtain ⟨rfl, rfl, rfl⟩ := trodAll_nil r0
  obtain rfl : args = #[v0] := by cases args; simp_all
  obtain ⟨rfl, rfl⟩ := trodVars_none hV
  obtain ⟨xs, rfl⟩ := agg_of Tryz.underlying28 (hval 0 28 v0 rfl rfl)
  have hb : Rows.uptoBulk d0 ≤ 1048576 := by
    have h : Rows.uptoBulkAll ([d0] ++ []) ≤ 1048576 := of_decide_eq_true hk
    simp only [List.append_nil, Rows.uptoBulkAll] at h
    omega
  clear hA0 hval0
  refine (walks_calls hsh h0 hb).mono fun e W' ⟨he, bel⟩ => ?_
  subst he
  have l0 : ∀ x ∈ p0, x.block < W.heap.size := fun x hx => hlt x (by simp [hx])
  exact ⟨_, rfl, _, _, _, [], _, [], hW', trodAll_mk1 (shut_bool Tryz.underlying4 _), (trodAll_cons_mk (Below.trod laidOut (by kernel_rfl) (of_decide_eq_true (by kernel_rfl)) h0 bel l0) trodAll_mk0), rfl, bel.frame _, fun h => by cases h⟩
theorem syntaxWalks_upto : Rows.SyntaxWalksUptoSaid :=
  OpenClaim.holds_of_cond 6 Tryz.f6 rfl rfl rfl rfl rfl rfl rfl ⟨rfl, rfl, rfl, rfl, rfl⟩ rfl rfl rfl rfl rfl (by kernel_rfl) Tryz.func6 closed6
    (of_decide_eq_true (by kernel_rfl)) (by unfold Func.isWrapper; first | (rw [if_pos (by decide +kernel)]; kernel_rfl) | (rw [if_neg (by decide +kernel)]; exact ⟨rfl, rfl⟩))
    (fun os started H enc _ F => by rw [OpenClaim.pre_eq_preRow]; exact walks_lifted os started H enc F)
theorem walks_plain (f : FuncId) (fn : Func) (hf : Tryz.pinned.checked.prog.funcNamed Rows.syntaxWalksUptoRow.func = some f) (hfn : Tryz.pinned.checked.prog.funcs[f]? = some fn) :
    true = Tryz.pinned.checked.prog.looks [] ∧ ∀ (j : Nat) t, fn.params[j]? = some t → Tryz.pinned.checked.prog.wantsStandIn t = false := by
  obtain rfl : f = 6 := Option.some.inj ((show Tryz.prog.funcNamed Rows.syntaxWalksUptoRow.func = some 6 by kernel_rfl).symm.trans hf) |>.symm
  obtain rfl : fn = Tryz.f6 := (Option.some.inj (Tryz.func6.symm.trans hfn)).symm
  refine ⟨by kernel_rfl, fun j t ht => ?_⟩
  rw [Tryz.params6] at ht
  obtain rfl : t = 28 := by simpa using Array.mem_of_getElem? ht
  exact (show Tryz.prog.wantsStandIn 28 = false by kernel_rfl)
/-- ████ THE STATEMENT ████ -/
theorem syntaxWalks_card : Rows.SyntaxWalksUptoCardSaid :=
  Claim7.holds_tied_plain_at .later [] _ _ _ _ syntaxWalks_upto (fun _ h => by cases h) (by kernel_rfl) (fun _ h => by cases h) syntaxWalksUpto_row_tie rfl ⟨rfl, rfl⟩ (by kernel_rfl) rfl walks_plain (by kernel_rfl)
#print axioms syntaxWalks_card
end Go.Proofs.YtdkcfccepjimbaaGreatDoor
