/- Proved: wherever the arguments are of bulk at most 1048576 the law SyntaxPaths returns true, and its arguments read afterwards as before; the listed package variables hold what the program text lays. No other condition. -/
import Derived.Test.YtdkcfccepjimbaaGreatDoorPathsFacts
set_option linter.unusedSimpArgs false
set_option linter.unusedVariables false
namespace Go.Proofs.YtdkcfccepjimbaaGreatDoor
open Go Go.EvL Go.PE Go.ChangeShapes Go.WideShapes Go.ChangeAt Go.RowKit
theorem ext_ok : PCallOK Tryz.prog (puOf Γ) (extA 12) := extA_ok ⟨_, _, Tryz.func12, rfl⟩ awake_calls _
theorem one_of {A : AS} {β : Nat → Nat} {n : Nat} {vs : List Value} {p : PV} (h : Cs A β n vs [p]) : ∃ v, vs = [v] ∧ C1 A β n v p := by
  cases h with
  | cons v _ l _ h hs => cases hs; exact ⟨v, rfl, h⟩
theorem vone {phi : Emb} {v u : Value} (h : VRels phi [v] [u]) : VRel phi v u := by
  cases h with
  | cons _ _ _ _ h _ => exact h
/-- SyntaxPaths at whatever came in -/
theorem paths_calls {H : Type} {enc : TypeId × Value → H} {W : World} (hs : W.ShapedOpen Tryz.prog) {xs : Array Value} {z : Int} {a : Option Addr} {m c : Nat} {d1 d2 d3 : DataW H} {p1 p2 p3 : List MemPlace} (h1 : DataW.Trod enc Tryz.prog W 0 (fun _ => true) true 28 (.agg xs) d1 p1) (h2 : DataW.Trod enc Tryz.prog W 0 (fun _ => true) true 3 (.int .i64 z) d2 p2) (h3 : DataW.Trod enc Tryz.prog W 0 (fun _ => true) true 40 (.slice a m c) d3 p3)
    (hb : Rows.uptoBulk d1 + Rows.uptoBulk d2 + Rows.uptoBulk d3 ≤ 1048576) : Calls Tryz.prog 9 #[.agg xs, .int .i64 z, .slice a m c] W fun e w' => e = .returned (.bool true) ∧ Below W.heap.size W w' := by
  obtain ⟨n1, h1⟩ := h1
  obtain ⟨n2, h2⟩ := h2
  obtain ⟨n3, h3⟩ := h3
  obtain ⟨B, hB, hfz⟩ := fz_bound W
  obtain ⟨M1, vs1, ps1, o1, t1, b1⟩ := open_val treeTys tree_tys (bulkFn H) hfz (var0 hs) n1 28 _ d1 p1 rfl h1 [] (fun v hv => by cases hv)
  obtain ⟨M2, vs2, ps2, o2, t2, b2⟩ := open_val treeTys tree_tys (bulkFn H) hfz (var0 hs) n2 3 _ d2 p2 rfl h2 _ o1.ok
  obtain ⟨M3, vs3, ps3, o3, t3, b3⟩ := open_val treeTys tree_tys (bulkFn H) hfz (var0 hs) n3 40 _ d3 p3 rfl h3 _ o2.ok
  have b1 : bulks ps1 ≤ Rows.uptoBulk d1 := b1
  have b3 : bulks ps3 ≤ Rows.uptoBulk d3 := b3
  obtain ⟨x, rfl, hx⟩ := node_of (N := 16777216) (by decide) (D := n1) n1 (by omega) ps1 t1 (by omega)
  obtain ⟨p, rfl, _⟩ := of_int Tryz.underlying3 t2
  obtain ⟨q, pp, rfl, rfl, _, _⟩ := of_sl (c := intC) (Q := fun _ => True) (N := 16777216) Tryz.underlying40 t3 (fun d => by rw [intC_len]; omega) (by omega) (by decide) (fun k y hk hy _ => by
    obtain ⟨z, rfl, _⟩ := of_int Tryz.underlying3 hy
    exact ⟨z, rfl, trivial⟩)
  have hlen := len_slP (e := 3) (c := intC) (fun z => by rw [intC_len]; omega) pp
  have hbp : (slP 3 intC pp).bulk ≤ bulks [slP 3 intC pp] := bulks_mem (by simp)
  obtain ⟨u2, rfl, c2⟩ := one_of o2.rc
  obtain ⟨u3, rfl, c3⟩ := one_of o3.rc
  refine pe_calls (pvs := [.agg x.cells, .sc (.int .i64 p), slP 3 intC pp]) (vs := [.agg vs1.toArray, u2, u3]) prog_env (opsOK prog_env prog_tys) nmix prog_parts tab_ok ext_ok rfl (of_shaped hs) hB o3.ok ?_ ?_ (paths_law hx (by omega) p pp (by omega) ps0)
  · exact .cons _ _ _ _ (.agg _ _ ((o1.vr.mono (phiV_ext _ _)).mono (phiV_ext _ _))) (.cons _ _ _ _ (vone (o2.vr.mono (phiV_ext _ _))) (.cons _ _ _ _ (vone o3.vr) .nil))
  · exact .cons _ _ _ _ (.cl _ _ (.agg _ _ (RC.mono (stV_fw _ _ _) (RC.mono (stV_fw _ _ _) o1.rc)))) (.cons _ _ _ _ (.cl _ _ (RC.mono (stV_fw _ _ _) c2)) (.cons _ _ _ _ (.cl _ _ c3) .nil))
theorem reads9 (os : Os) {H : Type} (enc : TypeId × Value → H) : ∃ places, DataW.whole enc Tryz.prog ((witW os).forCall (fun _ _ => 0) ⟨#[], #[node0, .int .i64 0, .slice none 0 0], []⟩).memory Tryz.f9.params.toList Rows.syntaxPathsSpec.vars false #[node0, .int .i64 0, .slice none 0 0].toList 8 = some ([.agg [.lit (.int .i64 0), .lit (.int .i64 0), .lit (.string []), .lit (.bool false), .nil, .nil, .nil, .nil, .nil], .lit (.int .i64 0), .nil], [], places) :=
  ⟨[], by kernel_rfl⟩
set_option maxRecDepth 100000 in
theorem paths_lifted (os : Os) (started : os.Started) (H : Type) (enc : TypeId × Value → H) (F : Stop.Interp) :
    ReturnsInHanded {} Tryz.checked os 9 .any ((Rows.OpenSpec.upto Rows.syntaxPathsSpec).preRow enc Tryz.prog Tryz.f9 Rows.syntaxPathsUptoRow.domain false Rows.syntaxPathsUptoRow.laid) (((Rows.OpenSpec.upto Rows.syntaxPathsSpec).at F).post enc Tryz.prog Tryz.f9 false true false false) := by
  obtain ⟨places, hx⟩ := reads9 os enc
  refine returnsInHanded_of_row (C := Tryz.checked) (s := Rows.OpenSpec.upto Rows.syntaxPathsSpec) own started (by kernel_rfl) Tryz.func9
    (witness_row_at (enc := enc) (C := Tryz.checked) false (witW os) #[node0, .int .i64 0, .slice none 0 0] rfl (by kernel_rfl) (by kernel_rfl) (by kernel_rfl)
      (OpenSpec.preRow_of_cond 8 hx (by kernel_rfl) (fun k hk => by cases hk; kernel_rfl) (by kernel_rfl) (door_met os _))) ?_
  intro W base args ds gs before hval0 hW _ hcond _ hL hsh _
  have hval : ∀ (j : Nat) t v, Tryz.f9.params[j]? = some t → args[j]? = some v → Value.okWide Tryz.prog W .any base t v := hval0
  have hk := hcond _ rfl
  have hW' := hW
  have hlt := hW.lt
  obtain ⟨p, q, hA0, hV, rfl, hfz, hnd⟩ := hW
  have hA : DataW.TrodAll enc Tryz.prog W 0 (fun _ => true) true Tryz.f9.params.toList args.toList ds p := hA0
  rw [Tryz.params9] at hA hval
  obtain ⟨v0, vs0, d0, ds0, p0, q0, hargs, rfl, rfl, h0, r0⟩ := trodAll_cons hA
  obtain ⟨v1, vs1, d1, ds1, p1, q1, rfl, rfl, rfl, h1, r1⟩ := trodAll_cons r0
  obtain ⟨v2, vs2, d2, ds2, p2, q2, rfl, rfl, rfl, h2, r2⟩ := trodAll_cons r1
  obtain ⟨rfl, rfl, rfl⟩ := trodAll_nil r2
  obtain rfl : args = #[v0, v1, v2] := by cases args; simp_all
  obtain ⟨rfl, rfl⟩ := trodVars_none hV
  obtain ⟨xs, rfl⟩ := agg_of Tryz.underlying28 (hval 0 28 v0 rfl rfl)
  obtain ⟨z, rfl⟩ := okWide_int Tryz.underlying3 (hval 1 3 v1 rfl rfl)
  obtain ⟨a, m, c, rfl⟩ := okWide_slice Tryz.underlying40 (hval 2 40 v2 rfl rfl)
  have hb : Rows.uptoBulk d0 + Rows.uptoBulk d1 + Rows.uptoBulk d2 ≤ 1048576 := by
    have h : Rows.uptoBulkAll ([d0, d1, d2] ++ []) ≤ 1048576 := of_decide_eq_true hk
    simp only [List.append_nil, Rows.uptoBulkAll] at h
    omega
  clear hA0 hval0
  refine (paths_calls hsh h0 h1 h2 hb).mono fun e W' ⟨he, bel⟩ => ?_
  subst he
  have l0 : ∀ x ∈ p0, x.block < W.heap.size := fun x hx => hlt x (by simp [hx])
  have l1 : ∀ x ∈ p1, x.block < W.heap.size := fun x hx => hlt x (by simp [hx])
  have l2 : ∀ x ∈ p2, x.block < W.heap.size := fun x hx => hlt x (by simp [hx])
  exact ⟨_, rfl, _, _, _, [], _, [], hW', trodAll_mk1 (shut_bool Tryz.underlying4 _), (trodAll_cons_mk (Below.trod laidOut (by kernel_rfl) (of_decide_eq_true (by kernel_rfl)) h0 bel l0) (trodAll_cons_mk (Below.trod laidOut (by kernel_rfl) (of_decide_eq_true (by kernel_rfl)) h1 bel l1) (trodAll_cons_mk (Below.trod laidOut (by kernel_rfl) (of_decide_eq_true (by kernel_rfl)) h2 bel l2) trodAll_mk0))), rfl, bel.frame _, fun h => by cases h⟩
theorem syntaxPaths_upto : Rows.SyntaxPathsUptoSaid :=
  OpenClaim.holds_of_cond 9 Tryz.f9 rfl rfl rfl rfl rfl rfl rfl ⟨rfl, rfl, rfl, rfl, rfl⟩ rfl rfl rfl rfl rfl (by kernel_rfl) Tryz.func9 closed9
    (of_decide_eq_true (by kernel_rfl)) (by unfold Func.isWrapper; first | (rw [if_pos (by decide +kernel)]; kernel_rfl) | (rw [if_neg (by decide +kernel)]; exact ⟨rfl, rfl⟩))
    (fun os started H enc _ F => by rw [OpenClaim.pre_eq_preRow]; exact paths_lifted os started H enc F)
theorem paths_plain (f : FuncId) (fn : Func) (hf : Tryz.pinned.checked.prog.funcNamed Rows.syntaxPathsUptoRow.func = some f) (hfn : Tryz.pinned.checked.prog.funcs[f]? = some fn) :
    true = Tryz.pinned.checked.prog.looks [] ∧ ∀ (j : Nat) t, fn.params[j]? = some t → Tryz.pinned.checked.prog.wantsStandIn t = false := by
  obtain rfl : f = 9 := Option.some.inj ((show Tryz.prog.funcNamed Rows.syntaxPathsUptoRow.func = some 9 by kernel_rfl).symm.trans hf) |>.symm
  obtain rfl : fn = Tryz.f9 := (Option.some.inj (Tryz.func9.symm.trans hfn)).symm
  refine ⟨by kernel_rfl, fun j t ht => ?_⟩
  rw [Tryz.params9] at ht
  have hm : t = 28 ∨ t = 3 ∨ t = 40 := by simpa using Array.mem_of_getElem? ht
  rcases hm with rfl | rfl | rfl
  · exact (show Tryz.prog.wantsStandIn 28 = false by kernel_rfl)
  · exact (show Tryz.prog.wantsStandIn 3 = false by kernel_rfl)
  · exact (show Tryz.prog.wantsStandIn 40 = false by kernel_rfl)
/-- ████ THE STATEMENT ████ -/
theorem syntaxPaths_card : Rows.SyntaxPathsUptoCardSaid :=
  Claim7.holds_tied_plain_at .later [] _ _ _ _ syntaxPaths_upto (fun _ h => by cases h) (by kernel_rfl) (fun _ h => by cases h) syntaxPathsUpto_row_tie rfl ⟨rfl, rfl⟩ (by kernel_rfl) rfl paths_plain (by kernel_rfl)
#print axioms syntaxPaths_card
end Go.Proofs.YtdkcfccepjimbaaGreatDoor
