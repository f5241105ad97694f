/- PrintLong: for every k the law returns true and its argument read afterwards as before, where the listed package variables hold what the text of the program lays (the given tie). No other condition. -/
import Derived.Test.YtnocibbhognbeaaGreatDoorTxI
import Derived.Test.YtnocibbhognbeaaGreatDoorTxJ
import Derived.Test.YtnocibbhognbeaaGreatDoorTxK
import Derived.Test.YtnocibbhognbeaaGreatDoorTxL
import Derived.SliceStrings
set_option linter.unusedSimpArgs false
set_option linter.unusedVariables false
namespace Go.Proofs.YtnocibbhognbeaaGreatDoor
open Go Go.EvL Go.PE Go.ChangeShapes Go.WideShapes Go.ChangeAt Go.RowKit
/-- a table of strings, as it reads, is the row of its strings -/
theorem strs_cells {w : World} {base n fuel : Nat} {sp : Nat → Bool} {held : Bool} {t e : TypeId} {cs vs : List Value} {enc : TypeId × Value → Unit} {p : List MemPlace} {zs : List (List UInt8)} (ht : Tryz.prog.underlying t = some (.array n e)) (he : Tryz.prog.underlying e = some .string) (hc : Tryz.prog.cellsOf e = 1) (hn : zs.length = n) (hct : Tryz.prog.cellsOf t = n) (hvs : vs = zs.map fun z => Value.string ⟨z.toArray⟩)
    (h : DataW.trod enc Tryz.prog w base sp held fuel t cs = some (.agg (zs.map fun z => .lit (.string z)), p)) : cs = vs := by
  subst hvs
  obtain ⟨xs, m, _, hx, hlen, hxl, hel⟩ := DataW.trod_array ht h
  have hx1 : xs.map (·.1) = zs.map fun z => DataW.lit (.string z) := by
    have h1 := (Prod.mk.inj hx).1
    exact (DataW.agg.inj h1).symm
  apply List.ext_getElem?
  intro i
  by_cases hi : i < n
  · have hi1 : i < cs.length := by rw [hlen, hct]; exact hi
    have h1 := hel i hi
    rw [hc, Nat.mul_one] at h1
    rw [List.getElem?_eq_getElem (by omega : i < xs.length)] at h1
    obtain ⟨k, e1, e2, _⟩ := DataW.trod_string he h1
    have h2 : (xs.map (·.1))[i]? = some (DataW.lit (.string k.data.toList)) := by rw [List.getElem?_map, List.getElem?_eq_getElem (by omega : i < xs.length), e2]; rfl
    rw [hx1, List.getElem?_map] at h2
    have h3 : cs[i]? = some (.string k) := by
      have : ((cs.drop i).take 1)[0]? = some (.string k) := by rw [e1]; rfl
      simpa using this
    rw [h3, List.getElem?_map]
    cases hz : zs[i]? with
    | none => rw [hz] at h2; cases h2
    | some z =>
      rw [hz] at h2
      have h4 := Lit.string.inj (DataW.lit.inj (Option.some.inj h2))
      rw [h4]; rfl
  · rw [List.getElem?_eq_none (by rw [hlen, hct]; omega), List.getElem?_eq_none (by rw [List.length_map]; omega)]
theorem gOps : Tryz.prog.globalNamed "jobshell/print.operators" = some 0 := by kernel_rfl
theorem tOps : (Tryz.prog.globals[0]?).map (·.type) = some 76 := by kernel_rfl
set_option maxRecDepth 100000 in
theorem of_laid {W : World} (hs : W.ShapedOpen Tryz.prog) (h : laidMetH Tryz.prog laidP W) : LaidIn W := by
  rw [MakeChecks.laidMetH_plain _ _ _ (by kernel_rfl)] at h
  obtain ⟨ps, ⟨g0, t0, cs0, f0, p0, q0, hg0, ht0, hv0, hd0, ⟨g1, t1, cs1, f1, p1, q1, hg1, ht1, hv1, hd1, ⟨g2, t2, cs2, f2, p2, q2, hg2, ht2, hv2, hd2, ⟨g3, t3, cs3, f3, p3, q3, hg3, ht3, hv3, hd3, ⟨g4, t4, cs4, f4, p4, q4, hg4, ht4, hv4, hd4, _, _⟩, _⟩, _⟩, _⟩, _⟩, _, _⟩ := h
  obtain rfl := Option.some.inj (gOps.symm.trans hg4)
  obtain rfl := Option.some.inj (tOps.symm.trans ht4)
  have hk0 : (((begin Tryz.prog (fun _ _ => 0) default).world.heap[0]?).bind Obj.row?).map (·.2) = some 76 := by kernel_rfl
  obtain ⟨zero, hz⟩ : ∃ zero, ((begin Tryz.prog (fun _ _ => 0) default).world.heap[0]?).bind Obj.row? = some (zero, 76) := by
    obtain ⟨⟨a, b⟩, h1, h2⟩ := Option.map_eq_some_iff.1 hk0
    exact ⟨a, by rw [h1]; exact congrArg (fun x => some (a, x)) h2⟩
  obtain ⟨cs, hcs, _⟩ := hs.1 0 zero 76 (by rw [nglob]; decide) hz
  intro x hx
  obtain rfl : x = ⟨0, opsL, 76⟩ := by simpa [laidsP] using hx
  have hv : cs4 = cs := by
    simp only [World.var?, hg4, Option.bind_some, hcs] at hv4
    injection hv4 with hv4
    exact hv4.symm
  have hbc := strs_cells (vs := opsL) (zs := [[], [60], [62], [62, 62], [60, 38], [62, 38], [60, 62], [62, 124], [60, 60]]) (show Tryz.prog.underlying 76 = some (.array 9 9) by kernel_rfl) Tryz.underlying9 (by kernel_rfl) (by kernel_rfl) (by kernel_rfl) (by kernel_rfl) hd4
  refine ⟨cs, _, hcs, ?_, Nat.zero_le _⟩
  rw [← hv, hbc]
  rfl
theorem reads3 (os : Os) {H : Type} (enc : TypeId × Value → H) : ∃ places, DataW.whole enc Tryz.prog ((witW os).forCall (fun _ _ => 0) ⟨#[], #[.int .u8 0], []⟩).memory Tryz.f3.params.toList Rows.printLongSpec.vars false #[.int .u8 0].toList 8 = some ([.lit (.int .u8 0)], [], places) :=
  ⟨[], by kernel_rfl⟩
set_option maxRecDepth 100000 in
theorem long_lifted (os : Os) (started : os.Started) (H : Type) (enc : TypeId × Value → H) (F : Stop.Interp) :
    ReturnsInHanded {} Tryz.checked os 3 .any ((OpenSpec.ofChange Rows.printLongSpec).preRow enc Tryz.prog Tryz.f3 Rows.printLongRow.domain false Rows.printLongRow.laid) (((OpenSpec.ofChange Rows.printLongSpec).at F).post enc Tryz.prog Tryz.f3 false true false false) := by
  obtain ⟨places, hx⟩ := reads3 os enc
  refine returnsInHanded_of_row (C := Tryz.checked) (s := OpenSpec.ofChange Rows.printLongSpec) own started (by kernel_rfl) Tryz.func3
    (witness_row_at (enc := enc) (C := Tryz.checked) false (witW os) #[.int .u8 0] rfl (by kernel_rfl) (by kernel_rfl) (by kernel_rfl)
      (OpenSpec.preRow_of_cond 8 hx (by kernel_rfl) (fun k hk => by cases hk) (by kernel_rfl) (door_met os _))) ?_
  intro W base args ds gs before hval0 hW _ hcond _ hL hsh _
  have hval : ∀ (j : Nat) t v, Tryz.f3.params[j]? = some t → args[j]? = some v → Value.okWide Tryz.prog W .any base t v := hval0
  have hW' := hW
  have hlt := hW.lt
  obtain ⟨p, q, hA0, hV, rfl, hfz, hnd⟩ := hW
  have hA : DataW.TrodAll enc Tryz.prog W 0 (fun _ => true) true Tryz.f3.params.toList args.toList ds p := hA0
  rw [Tryz.params3] at hA hval
  obtain ⟨v0, vs0, d0, ds0, p0, q0, hargs, rfl, rfl, h0, r0⟩ := trodAll_cons hA
  obtain ⟨rfl, rfl, rfl⟩ := trodAll_nil r0
  obtain rfl : args = #[v0] := by cases args; simp_all
  obtain ⟨rfl, rfl⟩ := trodVars_none hV
  obtain ⟨x0, rfl, _, _, hwf⟩ := open_int Tryz.underlying5 (hval 0 5 v0 rfl rfl) h0
  clear hA0 hval0
  refine (long_calls (of_shaped hsh) (of_laid hsh hL) hwf).mono fun e W' ⟨he, bel⟩ => ?_
  subst he
  have l0 : ∀ x ∈ p0, x.block < W.heap.size := fun x hx => hlt x (by simp [hx])
  exact ⟨_, rfl, _, _, _, [], _, [], hW', trodAll_mk1 (shut_bool Tryz.underlying4 _), (trodAll_cons_mk (Below.trod laidOut (by kernel_rfl) (of_decide_eq_true (by kernel_rfl)) h0 bel l0) trodAll_mk0), rfl, bel.frame _, fun h => by cases h⟩
theorem printLong_said : Rows.PrintLongSaid :=
  OpenClaim.holds_of_cond 3 Tryz.f3 rfl rfl rfl rfl rfl rfl rfl ⟨rfl, rfl, rfl, rfl, rfl⟩ rfl rfl rfl rfl rfl (by kernel_rfl) Tryz.func3 closed3
    (of_decide_eq_true (by kernel_rfl)) (by unfold Func.isWrapper; first | (rw [if_pos (by decide +kernel)]; kernel_rfl) | (rw [if_neg (by decide +kernel)]; exact ⟨rfl, rfl⟩))
    (fun os started H enc _ F => by rw [OpenClaim.pre_eq_preRow]; exact long_lifted os started H enc F)
theorem long_plain (f : FuncId) (fn : Func) (hf : Tryz.pinned.checked.prog.funcNamed Rows.printLongRow.func = some f) (hfn : Tryz.pinned.checked.prog.funcs[f]? = some fn) :
    true = Tryz.pinned.checked.prog.looks [] ∧ ∀ (j : Nat) t, fn.params[j]? = some t → Tryz.pinned.checked.prog.wantsStandIn t = false := by
  obtain rfl : f = 3 := Option.some.inj ((show Tryz.prog.funcNamed Rows.printLongRow.func = some 3 by kernel_rfl).symm.trans hf) |>.symm
  obtain rfl : fn = Tryz.f3 := (Option.some.inj (Tryz.func3.symm.trans hfn)).symm
  refine ⟨by kernel_rfl, fun j t ht => ?_⟩
  rw [Tryz.params3] at ht
  obtain rfl : t = 5 := by simpa using Array.mem_of_getElem? ht
  exact (show Tryz.prog.wantsStandIn 5 = false by kernel_rfl)
/-- ████ THE STATEMENT ████ -/
theorem printLong_card : Rows.PrintLongCardSaid :=
  Claim7.holds_tied_plain_at .later [] _ _ _ _ printLong_said (fun _ h => by cases h) wf3 (fun _ h => by cases h) printLong_row_tie rfl ⟨rfl, rfl⟩ main3 rfl long_plain goes3
#print axioms printLong_card
end Go.Proofs.YtnocibbhognbeaaGreatDoor
