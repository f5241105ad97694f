/- Proved: for every input the law SyntaxNames returns true, and its argument reads afterwards as before, where what is read is of bulk at most 1048576 and the listed package variables hold what the program text lays. No other condition. -/
import Derived.Test.YtfdhkchglacccaaGreatDoorSnFY
import Derived.Test.YtfdhkchglacccaaGreatDoorSnB
import Derived.Test.YtfdhkchglacccaaGreatDoorSnJN
import Derived.Test.YtfdhkchglacccaaGreatDoorSnJYN
import Derived.Test.YtfdhkchglacccaaGreatDoorSnJZN
set_option linter.all false
namespace Go.Proofs.YtfdhkchglacccaaGreatDoor
open Go Go.EvL Go.ChangeShapes Go.WideShapes Go.ChangeAt Go.RowKit
/-- SyntaxNames at whatever node came in -/
theorem names_came {H : Type} {enc : TypeId × Value → H} {W : World} (hs : W.ShapedOpen Tryz.prog) {xs : Array Value} {d1 : DataW H} {p1 : List MemPlace} (h1 : DataW.Trod enc Tryz.prog W 0 (fun _ => true) true 28 (.agg xs) d1 p1)
    (hb : Rows.uptoBulk d1 ≤ 1048576) : Calls Tryz.prog 3 #[.agg xs] W fun e w' => e = .returned (.bool true) ∧ Below W.heap.size W w' := by
  obtain ⟨fuel, hf⟩ := h1
  obtain ⟨n, hn, hd, hsz⟩ := node_at (held := true) 1048576 (y := (d1, p1)) hb hf
  have hx : xs = (Go.Syn.encN n).toArray := by
    have : xs.toList = Go.Syn.encN n := hn
    rw [← this]
  rw [hx]
  exact law_calls 1048576 n W (Nat.le_trans hsz hb) (Nat.le_refl _) hd (of_shaped hs)
theorem reads3 (os : Os) {H : Type} (enc : TypeId × Value → H) : ∃ places, DataW.whole enc Tryz.prog ((witW os).forCall (fun _ _ => 0) ⟨#[], #[node0], []⟩).memory Tryz.f3.params.toList Rows.syntaxNamesSpec.vars false #[node0].toList 8 = some ([.agg [.lit (.int .i64 0), .lit (.int .i64 0), .lit (.string []), .lit (.bool false), .nil, .nil, .nil, .nil, .nil]], [], places) :=
  ⟨[], by kernel_rfl⟩
set_option maxRecDepth 100000 in
theorem names_lifted (os : Os) (started : os.Started) (H : Type) (enc : TypeId × Value → H) (F : Stop.Interp) :
    ReturnsInHanded {} Tryz.checked os 3 .any ((Rows.OpenSpec.upto Rows.syntaxNamesSpec).preRow enc Tryz.prog Tryz.f3 Rows.syntaxNamesUptoRow.domain false Rows.syntaxNamesUptoRow.laid) (((Rows.OpenSpec.upto Rows.syntaxNamesSpec).at F).post enc Tryz.prog Tryz.f3 false true false false) := by
  obtain ⟨places, hx⟩ := reads3 os enc
  refine returnsInHanded_of_row (C := Tryz.checked) (s := Rows.OpenSpec.upto Rows.syntaxNamesSpec) own started (by kernel_rfl) Tryz.func3
    (witness_row_at (enc := enc) (C := Tryz.checked) false (witW os) #[node0] rfl (by kernel_rfl) (by kernel_rfl) (by kernel_rfl)
      (OpenSpec.preRow_of_cond 8 hx (by kernel_rfl) (fun k hk => by cases hk; kernel_rfl) (by kernel_rfl) (door_met os _))) ?_
  intro W base args ds gs before hval0 hW _ hcond _ hL hsh _
  have hval : ∀ (j : Nat) t v, Tryz.f3.params[j]? = some t → args[j]? = some v → Value.okWide Tryz.prog W .any base t v := hval0
  have hk := hcond _ rfl
  have hW' := hW
  have hlt := hW.lt
  obtain ⟨p, q, hA0, hV, rfl, hfz, hnd⟩ := hW
  have hA : DataW.TrodAll enc Tryz.prog W 0 (fun _ => true) true Tryz.f3.params.toList args.toList ds p := hA0
  rw [Tryz.params3] at hA hval
  obtain ⟨v0, vs0, d0, ds0, p0, q0, hargs, rfl, rfl, h0, r0⟩ := trodAll_cons hA
  obtain ⟨rfl, rfl, rfl⟩ := trodAll_nil r0
  obtain rfl : args = #[v0] := by cases args; simp_all
  obtain ⟨rfl, rfl⟩ := trodVars_none hV
  obtain ⟨xs, rfl⟩ := agg_of Tryz.underlying28 (hval 0 28 v0 rfl rfl)
  have hb : Rows.uptoBulk d0 ≤ 1048576 := by
    have h : Rows.uptoBulkAll ([d0] ++ []) ≤ 1048576 := of_decide_eq_true hk
    simp only [List.append_nil, Rows.uptoBulkAll] at h
    omega
  clear hA0 hval0
  refine (names_came hsh h0 hb).mono fun e W' ⟨he, bel⟩ => ?_
  subst he
  have l0 : ∀ x ∈ p0, x.block < W.heap.size := fun x hx => hlt x (by simp [hx])
  exact ⟨_, rfl, _, _, _, [], _, [], hW', trodAll_mk1 (shut_bool Tryz.underlying4 _), (trodAll_cons_mk (Below.trod laidOut (by kernel_rfl) (of_decide_eq_true (by kernel_rfl)) h0 bel l0) trodAll_mk0), rfl, bel.frame _, fun h => by cases h⟩
theorem syntaxNames_upto : Rows.SyntaxNamesUptoSaid :=
  OpenClaim.holds_of_cond 3 Tryz.f3 rfl rfl rfl rfl rfl rfl rfl ⟨rfl, rfl, rfl, rfl, rfl⟩ rfl rfl rfl rfl rfl (by kernel_rfl) Tryz.func3 closed3
    (of_decide_eq_true (by kernel_rfl)) (by unfold Func.isWrapper; first | (rw [if_pos (by decide +kernel)]; kernel_rfl) | (rw [if_neg (by decide +kernel)]; exact ⟨rfl, rfl⟩))
    (fun os started H enc _ F => by rw [OpenClaim.pre_eq_preRow]; exact names_lifted os started H enc F)
theorem names_plain (f : FuncId) (fn : Func) (hf : Tryz.pinned.checked.prog.funcNamed Rows.syntaxNamesUptoRow.func = some f) (hfn : Tryz.pinned.checked.prog.funcs[f]? = some fn) :
    true = Tryz.pinned.checked.prog.looks [] ∧ ∀ (j : Nat) t, fn.params[j]? = some t → Tryz.pinned.checked.prog.wantsStandIn t = false := by
  obtain rfl : f = 3 := Option.some.inj ((show Tryz.prog.funcNamed Rows.syntaxNamesUptoRow.func = some 3 by kernel_rfl).symm.trans hf) |>.symm
  obtain rfl : fn = Tryz.f3 := (Option.some.inj (Tryz.func3.symm.trans hfn)).symm
  refine ⟨by kernel_rfl, fun j t ht => ?_⟩
  rw [Tryz.params3] at ht
  obtain rfl : t = 28 := by simpa using Array.mem_of_getElem? ht
  exact (show Tryz.prog.wantsStandIn 28 = false by kernel_rfl)
/-- ████ THE STATEMENT ████ -/
theorem syntaxNames_card : Rows.SyntaxNamesUptoCardSaid :=
  Claim7.holds_tied_plain_at .later [] _ _ _ _ syntaxNames_upto (fun _ h => by cases h) wf3 (fun _ h => by cases h) syntaxNamesUpto_row_tie rfl ⟨rfl, rfl⟩ main3 rfl names_plain goes3
end Go.Proofs.YtfdhkchglacccaaGreatDoor
