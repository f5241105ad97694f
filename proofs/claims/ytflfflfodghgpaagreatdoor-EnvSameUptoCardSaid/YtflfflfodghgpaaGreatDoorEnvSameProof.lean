/- Proved: wherever the arguments are of bulk at most 1048576 the law EnvSame returns true, and its arguments read afterwards as before; the listed package variables hold what the program text lays. No other condition. -/
import Derived.Test.YtflfflfodghgpaaGreatDoorTxG
import Derived.Test.YtflfflfodghgpaaGreatDoorTxH
import Derived.Test.YtflfflfodghgpaaGreatDoorTxI
set_option linter.unusedSimpArgs false
set_option linter.unusedVariables false
namespace Go.Proofs.YtflfflfodghgpaaGreatDoor
open Go Go.EvL Go.PE Go.ChangeShapes Go.WideShapes Go.ChangeAt Go.RowKit
theorem ext_ok : PCallOK Tryz.prog (puOf Γ) (extA 32) := extA_ok ⟨_, _, Tryz.func32, rfl⟩ awake_calls _
/-- EnvSame at whatever nodes came in -/
theorem sames_calls {H : Type} {enc : TypeId × Value → H} {W : World} (hs : W.ShapedOpen Tryz.prog) {xs ys : Array Value} {d1 d2 : DataW H} {p1 p2 : List MemPlace} (h1 : DataW.Trod enc Tryz.prog W 0 (fun _ => true) true 56 (.agg xs) d1 p1) (h2 : DataW.Trod enc Tryz.prog W 0 (fun _ => true) true 56 (.agg ys) d2 p2)
    (hb : Rows.uptoBulk d1 + Rows.uptoBulk d2 ≤ 1048576) : Calls Tryz.prog 12 #[.agg xs, .agg ys] W fun e w' => e = .returned (.bool true) ∧ Below W.heap.size W w' := by
  obtain ⟨n1, h1⟩ := h1
  obtain ⟨n2, h2⟩ := h2
  obtain ⟨B, hB, hfz⟩ := fz_bound W
  obtain ⟨M1, vs1, ps1, o1, t1, b1⟩ := open_val treeTys tree_tys (bulkFn H) hfz (var0 hs) n1 56 _ d1 p1 rfl h1 [] (fun v hv => by cases hv)
  obtain ⟨M2, vs2, ps2, o2, t2, b2⟩ := open_val treeTys tree_tys (bulkFn H) hfz (var0 hs) n2 56 _ d2 p2 rfl h2 _ o1.ok
  have b1 : bulks ps1 ≤ Rows.uptoBulk d1 := b1
  have b2 : bulks ps2 ≤ Rows.uptoBulk d2 := b2
  obtain ⟨a, _, _, _, _, _, rfl, ha⟩ := env_of (D := n1 + n2) (by omega) t1 (by omega)
  obtain ⟨b, _, _, _, _, _, rfl, hb'⟩ := env_of (D := n1 + n2) (by omega) t2 (by omega)
  refine pe_calls (pvs := [.agg a.cells, .agg b.cells]) (vs := [.agg vs1.toArray, .agg vs2.toArray]) prog_env (opsOK prog_env prog_tys) nmix prog_parts tab_ok ext_ok rfl (of_shaped hs) hB o2.ok ?_ ?_ (env_law (ha.mono (d' := n1 + n2) (by omega)) (hb'.mono (d' := n1 + n2) (by omega)) ps0)
  · exact .cons _ _ _ _ (.agg _ _ (o1.vr.mono (phiV_ext _ _))) (.cons _ _ _ _ (.agg _ _ o2.vr) .nil)
  · exact .cons _ _ _ _ (.cl _ _ (.agg _ _ (o1.rc.mono (stV_fw _ _ _)))) (.cons _ _ _ _ (.cl _ _ (.agg _ _ o2.rc)) .nil)
theorem reads12 (os : Os) {H : Type} (enc : TypeId × Value → H) : ∃ places, DataW.whole enc Tryz.prog ((witW os).forCall (fun _ _ => 0) ⟨#[], #[env0, env0], []⟩).memory Tryz.f12.params.toList Rows.envSameSpec.vars false #[env0, env0].toList 8 = some ([.agg [.lit (.string []), .nil, .nil, .nil, .nil, .nil, .lit (.int .i64 0), .lit (.int .i64 0), .lit (.int .i64 0), .lit (.int .i64 0), .lit (.string []), .agg [.lit (.int .i64 0), .lit (.int .i64 0)], .lit (.int .i64 0), .lit (.bool false)], .agg [.lit (.string []), .nil, .nil, .nil, .nil, .nil, .lit (.int .i64 0), .lit (.int .i64 0), .lit (.int .i64 0), .lit (.int .i64 0), .lit (.string []), .agg [.lit (.int .i64 0), .lit (.int .i64 0)], .lit (.int .i64 0), .lit (.bool false)]], [], places) :=
  ⟨[], by kernel_rfl⟩
set_option maxRecDepth 100000 in
theorem sames_lifted (os : Os) (started : os.Started) (H : Type) (enc : TypeId × Value → H) (F : Stop.Interp) :
    ReturnsInHanded {} Tryz.checked os 12 .any ((Rows.OpenSpec.upto Rows.envSameSpec).preRow enc Tryz.prog Tryz.f12 Rows.envSameUptoRow.domain false Rows.envSameUptoRow.laid) (((Rows.OpenSpec.upto Rows.envSameSpec).at F).post enc Tryz.prog Tryz.f12 false true false false) := by
  obtain ⟨places, hx⟩ := reads12 os enc
  refine returnsInHanded_of_row (C := Tryz.checked) (s := Rows.OpenSpec.upto Rows.envSameSpec) own started (by kernel_rfl) Tryz.func12
    (witness_row_at (enc := enc) (C := Tryz.checked) false (witW os) #[env0, env0] rfl (by kernel_rfl) (by kernel_rfl) (by kernel_rfl)
      (OpenSpec.preRow_of_cond 8 hx (by kernel_rfl) (fun k hk => by cases hk; kernel_rfl) (by kernel_rfl) (door_met os _))) ?_
  intro W base args ds gs before hval0 hW _ hcond _ hL hsh _
  have hval : ∀ (j : Nat) t v, Tryz.f12.params[j]? = some t → args[j]? = some v → Value.okWide Tryz.prog W .any base t v := hval0
  have hk := hcond _ rfl
  have hW' := hW
  have hlt := hW.lt
  obtain ⟨p, q, hA0, hV, rfl, hfz, hnd⟩ := hW
  have hA : DataW.TrodAll enc Tryz.prog W 0 (fun _ => true) true Tryz.f12.params.toList args.toList ds p := hA0
  rw [Tryz.params12] at hA hval
  obtain ⟨v0, vs0, d0, ds0, p0, q0, hargs, rfl, rfl, h0, r0⟩ := trodAll_cons hA
  obtain ⟨v1, vs1, d1, ds1, p1, q1, rfl, rfl, rfl, h1, r1⟩ := trodAll_cons r0
  obtain ⟨rfl, rfl, rfl⟩ := trodAll_nil r1
  obtain rfl : args = #[v0, v1] := by cases args; simp_all
  obtain ⟨rfl, rfl⟩ := trodVars_none hV
  obtain ⟨xs, rfl⟩ := agg_of Tryz.underlying56 (hval 0 56 v0 rfl rfl)
  obtain ⟨ys, rfl⟩ := agg_of Tryz.underlying56 (hval 1 56 v1 rfl rfl)
  have hb : Rows.uptoBulk d0 + Rows.uptoBulk d1 ≤ 1048576 := by
    have h : Rows.uptoBulkAll ([d0, d1] ++ []) ≤ 1048576 := of_decide_eq_true hk
    simp only [List.append_nil, Rows.uptoBulkAll] at h
    omega
  clear hA0 hval0
  refine (sames_calls hsh h0 h1 hb).mono fun e W' ⟨he, bel⟩ => ?_
  subst he
  have l0 : ∀ x ∈ p0, x.block < W.heap.size := fun x hx => hlt x (by simp [hx])
  have l1 : ∀ x ∈ p1, x.block < W.heap.size := fun x hx => hlt x (by simp [hx])
  exact ⟨_, rfl, _, _, _, [], _, [], hW', trodAll_mk1 (shut_bool Tryz.underlying4 _), (trodAll_cons_mk (Below.trod laidOut (by kernel_rfl) (of_decide_eq_true (by kernel_rfl)) h0 bel l0) (trodAll_cons_mk (Below.trod laidOut (by kernel_rfl) (of_decide_eq_true (by kernel_rfl)) h1 bel l1) trodAll_mk0)), rfl, bel.frame _, fun h => by cases h⟩
theorem envSame_upto : Rows.EnvSameUptoSaid :=
  OpenClaim.holds_of_cond 12 Tryz.f12 rfl rfl rfl rfl rfl rfl rfl ⟨rfl, rfl, rfl, rfl, rfl⟩ rfl rfl rfl rfl rfl (by kernel_rfl) Tryz.func12 closed12
    (of_decide_eq_true (by kernel_rfl)) (by unfold Func.isWrapper; first | (rw [if_pos (by decide +kernel)]; kernel_rfl) | (rw [if_neg (by decide +kernel)]; exact ⟨rfl, rfl⟩))
    (fun os started H enc _ F => by rw [OpenClaim.pre_eq_preRow]; exact sames_lifted os started H enc F)
theorem sames_plain (f : FuncId) (fn : Func) (hf : Tryz.pinned.checked.prog.funcNamed Rows.envSameUptoRow.func = some f) (hfn : Tryz.pinned.checked.prog.funcs[f]? = some fn) :
    true = Tryz.pinned.checked.prog.looks [] ∧ ∀ (j : Nat) t, fn.params[j]? = some t → Tryz.pinned.checked.prog.wantsStandIn t = false := by
  obtain rfl : f = 12 := Option.some.inj ((show Tryz.prog.funcNamed Rows.envSameUptoRow.func = some 12 by kernel_rfl).symm.trans hf) |>.symm
  obtain rfl : fn = Tryz.f12 := (Option.some.inj (Tryz.func12.symm.trans hfn)).symm
  refine ⟨by kernel_rfl, fun j t ht => ?_⟩
  rw [Tryz.params12] at ht
  obtain rfl : t = 56 := by simpa using Array.mem_of_getElem? ht
  exact (show Tryz.prog.wantsStandIn 56 = false by kernel_rfl)
/-- ████ THE STATEMENT ████ -/
theorem envSame_card : Rows.EnvSameUptoCardSaid :=
  Claim7.holds_tied_plain_at .later [] _ _ _ _ envSame_upto (fun _ h => by cases h) wf12 (fun _ h => by cases h) envSameUpto_row_tie rfl ⟨rfl, rfl⟩ main12 rfl sames_plain goes12
#print axioms envSame_card
end Go.Proofs.YtflfflfodghgpaaGreatDoor
