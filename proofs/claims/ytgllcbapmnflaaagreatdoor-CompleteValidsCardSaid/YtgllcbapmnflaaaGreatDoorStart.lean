/- The tables as they lie when the call begins, and a world in which they lie so. No statement is proved here. -/
import Derived.Test.YtgllcbapmnflaaaGreatDoorLaw
import Derived.Test.YtgllcbapmnflaaaGreatDoorTie
import Derived.Test.YtgllcbapmnflaaaGreatDoorCards
import Derived.WalkKit
import Derived.ProofKit
import Derived.OpenShut
import Derived.SliceStrings
import Derived.ShutString
import Derived.ChangeOld
import Derived.LaidMore
import Derived.Stop.Joined
import Derived.SevenTiedAt
import Derived.LaidOnce
namespace Go.Proofs.YtgllcbapmnflaaaGreatDoor
open Go.ChangeShapes Go.WideShapes Go.ChangeAt Go.RowKit
open Go.ChangeMaps (open_string shut_string)
set_option linter.unusedVariables false
theorem own : ownKnob Tryz.prog.godebug = none := by kernel_rfl
theorem laidOut : laidOutB Tryz.prog = true := by kernel_rfl
/-- as the kit's builder, and the contract is told that the world is shaped -/
theorem returns_shaped {H : Type} {enc : TypeId × Value → H} {a : Assume} {C : Checked} {os : Os} {f : FuncId} {fn : Func} {s : ChangeSpec} {conds : List PathCond} {apart fresh handsOn again : Bool} {X : World → Array Value → Prop}
    (hX : ∀ (w w' : World) (args : Array Value), w.heap = w'.heap → X w args → X w' args)
    (own : ownKnob C.prog.godebug = none) (started : os.Started) (noInit : C.prog.inits.idxOf? f = none) (hfn : C.prog.funcs[f]? = some fn)
    (witness : ∃ (w : World) (tape : Tape) (i : Input), w.os = os ∧ (w.forCall tape i).Shaped C.prog ∧ i.vars = [] ∧ Input.okWide C.prog (w.forCall tape i) .any w.heap.size f i ∧
      ((s.pre enc C.prog fn conds apart (w.forCall tape i).memory i.args ∧ X (w.forCall tape i).memory i.args) ∧ sizedMet enc C.prog fn (OpenSpec.ofChange s) apart (w.forCall tape i).memory i.args) ∧ a.holds C.prog (lone (Frame.enter C.prog f i.args .normal) [] (w.forCall tape i)))
    (contract : ∀ (W : World) (base : Nat) (args : Array Value) (ds gs : List (DataW H)) (before : List MemPlace), W.ShapedOpen C.prog →
      (∀ (j : Nat) t v, fn.params[j]? = some t → args[j]? = some v → Value.okWide C.prog W .any base t v) →
      DataW.Whole enc C.prog fn.params.toList s.vars apart W args.toList ds gs before → X W args →
      Calls C.prog f args W fun e W' => ∃ v, e = .returned v ∧ s.post enc C.prog fn apart fresh handsOn again W args v W') :
    ReturnsInHanded a C os f .any (fun w args => (s.pre enc C.prog fn conds apart w args ∧ X w args) ∧ sizedMet enc C.prog fn (OpenSpec.ofChange s) apart w args) (s.post enc C.prog fn apart fresh handsOn again) := by
  refine returnsInHanded_of_calls own started noInit witness ?_
  intro w tape i _ hsh _ hok hpre hholds
  obtain ⟨_, _, _, fn', hfn', _, _, _, _, hval⟩ := hok
  have e : fn' = fn := Option.some.inj (hfn'.symm.trans hfn)
  subst e
  obtain ⟨⟨⟨ds, gs, before, hw, hc⟩, hx⟩, hz⟩ := hpre
  have hw' := DataW.Whole.of_heap (w' := w.forCall tape i) (by rfl) hw
  refine (contract (w.forCall tape i) w.heap.size i.args ds gs before hsh hval hw' (hX _ _ _ (by rfl) hx)).mono fun e W' ⟨v, he, hp⟩ => ?_
  subst he
  exact ChangeSpec.post_blind hp
def ascZ : List Int := (List.range 256).map fun i => if i == 32 || (9 ≤ i && i ≤ 13) then 1 else 0
set_option maxRecDepth 100000 in
theorem asc_eq : asc = ascZ.map (Value.int .u8) := by kernel_rfl
set_option maxRecDepth 100000 in
theorem laid_eq : (Rows.laid_strings_asciiSpace : DataW Unit) = .agg (ascZ.map fun z => .lit (.int .u8 z)) := by kernel_rfl
abbrev laid4 : List (String × DataW Unit) := [("unicode/utf8.acceptRanges", Rows.laid_unicode_utf8_acceptRanges), ("unicode.White_Space", Rows.laid_unicode_White_Space), ("strings.asciiSpace", Rows.laid_strings_asciiSpace), ("unicode/utf8.first", Rows.laid_unicode_utf8_first)]
theorem bytes_cells {w : World} {base n fuel : Nat} {sp : Nat → Bool} {held : Bool} {t e : TypeId} {cs : List Value} {zs : List Int} {enc : TypeId × Value → Unit} {p : List MemPlace} (ht : Tryz.prog.underlying t = some (.array n e)) (he : Tryz.prog.underlying e = some (.int .u8)) (hc : Tryz.prog.cellsOf e = 1) (hn : zs.length = n) (hct : Tryz.prog.cellsOf t = n)
    (h : DataW.trod enc Tryz.prog w base sp held fuel t cs = some (.agg (zs.map fun z => .lit (.int .u8 z)), p)) : cs = zs.map (Value.int .u8) := by
  obtain ⟨xs, m, _, hx, hlen, hxl, hel⟩ := DataW.trod_array ht h
  have hx1 : xs.map (·.1) = zs.map fun z => DataW.lit (.int .u8 z) := by
    have h1 := (Prod.mk.inj hx).1
    exact (DataW.agg.inj h1).symm
  apply List.ext_getElem?
  intro i
  by_cases hi : i < n
  · have hi1 : i < cs.length := by rw [hlen, hct]; exact hi
    have h1 := hel i hi
    rw [hc, Nat.mul_one] at h1
    rw [List.getElem?_eq_getElem (by omega : i < xs.length)] at h1
    obtain ⟨k, e1, e2, _⟩ := DataW.trod_int he h1
    have h2 : (xs.map (·.1))[i]? = some (DataW.lit (.int .u8 k)) := by rw [List.getElem?_map, List.getElem?_eq_getElem (by omega : i < xs.length), e2]; rfl
    rw [hx1, List.getElem?_map] at h2
    have h3 : cs[i]? = some (.int .u8 k) := by
      have : ((cs.drop i).take 1)[0]? = some (.int .u8 k) := by rw [e1]; rfl
      simpa using this
    rw [h3, List.getElem?_map]
    cases hz : zs[i]? with
    | none => rw [hz] at h2; cases h2
    | some z =>
      rw [hz] at h2
      have h4 := (Lit.int.inj (DataW.lit.inj (Option.some.inj h2))).2
      rw [← h4]; rfl
  · rw [List.getElem?_eq_none (by rw [hlen, hct]; omega), List.getElem?_eq_none (by rw [List.length_map]; omega)]
theorem gAsc : Tryz.prog.globalNamed "strings.asciiSpace" = some 0 := by kernel_rfl
theorem tAsc : (Tryz.prog.globals[0]?).map (·.type) = some 142 := by kernel_rfl
set_option maxRecDepth 100000 in
theorem of_laid {W : World} (hs : W.ShapedOpen Tryz.prog) (h : laidMetH Tryz.prog laid4 W) : LaidW W := by
  rw [MakeChecks.laidMetH_plain _ _ _ (by kernel_rfl)] at h
  obtain ⟨ps, ⟨g0, t0, cs0, f0, p0, q0, hg0, ht0, hv0, hd0, ⟨g1, t1, cs1, f1, p1, q1, hg1, ht1, hv1, hd1, ⟨g2, t2, cs2, f2, p2, q2, hg2, ht2, hv2, hd2, _, _⟩, _⟩, _⟩, _, _⟩ := h
  obtain rfl := Option.some.inj (gAsc.symm.trans hg2)
  obtain rfl := Option.some.inj (tAsc.symm.trans ht2)
  have hk0 : (((begin Tryz.prog (fun _ _ => 0) default).world.heap[0]?).bind Obj.row?).map (·.2) = some 142 := by kernel_rfl
  have hk5 : (((begin Tryz.prog (fun _ _ => 0) default).world.heap[5]?).bind Obj.row?).isSome = true := by kernel_rfl
  obtain ⟨zero, hz⟩ : ∃ zero, ((begin Tryz.prog (fun _ _ => 0) default).world.heap[0]?).bind Obj.row? = some (zero, 142) := by
    obtain ⟨⟨a, b⟩, h1, h2⟩ := Option.map_eq_some_iff.1 hk0
    exact ⟨a, by rw [h1]; exact congrArg (fun x => some (a, x)) h2⟩
  obtain ⟨⟨zero5, t5⟩, hz5⟩ := Option.isSome_iff_exists.1 hk5
  have hg : Tryz.prog.globals.size = 6 := by kernel_rfl
  obtain ⟨cs, hcs, _⟩ := hs.1 0 zero 142 (by rw [hg]; decide) hz
  obtain ⟨cs', hcs', _⟩ := hs.1 5 zero5 t5 (by rw [hg]; decide) hz5
  have hsize : 6 ≤ W.heap.size := by
    rcases Nat.lt_or_ge 5 W.heap.size with h | h
    · exact h
    · rw [Array.getElem?_eq_none h] at hcs'; cases hcs'
  refine ⟨hsize, (0, 0), ?_, by decide⟩
  have hv : cs2 = cs := by
    simp only [World.var?, hg2, Option.bind_some, hcs] at hv2
    injection hv2 with hv2
    exact hv2.symm
  rw [laid_eq] at hd2
  have hbc := bytes_cells (show Tryz.prog.underlying 142 = some (.array 256 5) by kernel_rfl) (show Tryz.prog.underlying 5 = some (.int .u8) by kernel_rfl) (by kernel_rfl) (by kernel_rfl) (by kernel_rfl) hd2
  rw [hcs, ← hv, asc_eq, ← hbc]
end Go.Proofs.YtgllcbapmnflaaaGreatDoor

namespace Go.Proofs.YtgllcbapmnflaaaGreatDoor
open Go.ChangeShapes Go.WideShapes Go.ChangeAt Go.RowKit
/-- the heap that the program's own initialisers leave, with the one table that the translation leaves out -/
noncomputable def witW (os : Os) : World :=
  { World.doorLaid Tryz.prog 43 os with heap := (World.doorLaid Tryz.prog 43 os).heap.setIfInBounds 3 (.cells (Pinned.utf8FirstZ.map fun (n : Nat) => Value.int .u8 (n : Int)).toArray 142) }
noncomputable def metB (P : Program) (w : World) (fuel M : Nat) (names : List String) : Option (List (String × DataW Unit)) :=
  (DataW.laidRun P w fuel names).bind fun x => if nodupBits M x.2 0 && laidRowsB P w x.2 then some x.1 else none
theorem met_of {P : Program} {w : World} {l : List (String × DataW Unit)} (fuel M : Nat) (h : metB P w fuel M (l.map (·.1)) = some l) : laidMet P l w := by
  unfold metB at h
  rw [Option.bind_eq_some_iff] at h
  obtain ⟨x, hx, h⟩ := h
  split at h
  · rename_i hb
    simp only [Bool.and_eq_true] at hb
    have e := Option.some.inj h
    exact laidMet_of_run (ps := x.2) fuel (by rw [hx, ← e]) (decide_eq_true (nodupBits_sound hb.1).1) hb.2
  · cases h
set_option maxRecDepth 100000 in
theorem door_met (os : Os) (args : Array Value) : laidMetH Tryz.prog laid4 ((witW os).forCall (fun _ _ => 0) ⟨#[], args, []⟩).memory :=
  laidMetH_of_parts3 (fuel := 8) (met_of 8 257 (by kernel_rfl)) (by kernel_rfl) (by kernel_rfl)
end Go.Proofs.YtgllcbapmnflaaaGreatDoor
