/- What came in, read; a world in which the tables lie as the program lays them. No statement is proved here. -/
import Derived.Test.YtdifffdfiimlpaaGreatDoorEnFX
import Derived.Test.YtdifffdfiimlpaaGreatDoorTie
import Derived.Test.YtdifffdfiimlpaaGreatDoorCards
import Derived.WalkKit
import Derived.ProofKit
import Derived.OpenShut
import Derived.SliceStrings
import Derived.ShutString
import Derived.ChangeOld
import Derived.LaidMore
import Derived.Stop.Joined
import Derived.SevenTiedAt
import Derived.LaidOnce
import Derived.Carry
import Derived.Deep.DeepHandedRow
set_option linter.all false
namespace Go.Proofs.YtdifffdfiimlpaaGreatDoor
open Go Go.EvL Go.ChangeShapes Go.WideShapes Go.ChangeAt Go.RowKit
theorem own : ownKnob Tryz.prog.godebug = none := by kernel_rfl
theorem laidOut : laidOutB Tryz.prog = true := by kernel_rfl
abbrev laidP : List (String × DataW Unit) := Rows.envNewsRow.laid
theorem nglob : Tryz.prog.globals.size = 3 := by kernel_rfl
/-- a variable of the program is a row of cells -/
theorem var_row {W : World} (hs : W.ShapedOpen Tryz.prog) (b : Nat) (hb : b < 3) (hk : (((begin Tryz.prog (fun _ _ => 0) default).world.heap[b]?).bind Obj.row?).isSome = true) : ∃ C e fz, W.heap[b]? = some (.cells C e fz) := by
  obtain ⟨⟨zero, t⟩, hz⟩ := Option.isSome_iff_exists.1 hk
  obtain ⟨cs, hcs, _⟩ := hs.1 b zero t (by rw [nglob]; exact hb) hz
  exact ⟨cs, t, _, hcs⟩
set_option maxRecDepth 100000 in
theorem of_shaped {W : World} (hs : W.ShapedOpen Tryz.prog) : Tryz.prog.globals.size ≤ W.heap.size := by
  obtain ⟨C, e, fz, h⟩ := var_row hs 2 (by decide) (by kernel_rfl)
  have := (Array.getElem?_eq_some_iff.1 h).1
  rw [nglob]
  omega
/-- the heap that the program's own initialisers leave, with the one table that the translation leaves out -/
noncomputable def witW (os : Os) : World :=
  { World.doorLaid Tryz.prog 1000 os with heap := (World.doorLaid Tryz.prog 1000 os).heap.setIfInBounds 1 (.cells (Pinned.utf8FirstZ.map fun (n : Nat) => Value.int .u8 (n : Int)).toArray 255) }
noncomputable def metB (P : Program) (w : World) (fuel M : Nat) (names : List String) : Option (List (String × DataW Unit)) :=
  (DataW.laidRun P w fuel names).bind fun x => if nodupBits M x.2 0 && laidRowsB P w x.2 then some x.1 else none
theorem met_of {P : Program} {w : World} {l : List (String × DataW Unit)} (fuel M : Nat) (h : metB P w fuel M (l.map (·.1)) = some l) : laidMet P l w := by
  unfold metB at h
  rw [Option.bind_eq_some_iff] at h
  obtain ⟨x, hx, h⟩ := h
  split at h
  · rename_i hb
    simp only [Bool.and_eq_true] at hb
    have e := Option.some.inj h
    exact laidMet_of_run (ps := x.2) fuel (by rw [hx, ← e]) (decide_eq_true (nodupBits_sound hb.1).1) hb.2
  · cases h
set_option maxRecDepth 100000 in
theorem door_met (os : Os) (args : Array Value) : laidMetH Tryz.prog laidP ((witW os).forCall (fun _ _ => 0) ⟨#[], args, []⟩).memory :=
  laidMetH_of_parts3 (fuel := 8) (met_of 8 257 (by kernel_rfl)) (by kernel_rfl) (by kernel_rfl)
/-- as the kit's builder, and the contract is told that the world is shaped -/
theorem returns_shaped {H : Type} {enc : TypeId × Value → H} {a : Assume} {C : Checked} {os : Os} {f : FuncId} {fn : Func} {s : ChangeSpec} {conds : List PathCond} {apart fresh handsOn again : Bool} {X : World → Array Value → Prop}
    (hX : ∀ (w w' : World) (args : Array Value), w.heap = w'.heap → X w args → X w' args)
    (own : ownKnob C.prog.godebug = none) (started : os.Started) (noInit : C.prog.inits.idxOf? f = none) (hfn : C.prog.funcs[f]? = some fn)
    (witness : ∃ (w : World) (tape : Tape) (i : Input), w.os = os ∧ (w.forCall tape i).Shaped C.prog ∧ i.vars = [] ∧ Input.okWide C.prog (w.forCall tape i) .any w.heap.size f i ∧
      ((s.pre enc C.prog fn conds apart (w.forCall tape i).memory i.args ∧ X (w.forCall tape i).memory i.args) ∧ sizedMet enc C.prog fn (OpenSpec.ofChange s) apart (w.forCall tape i).memory i.args) ∧ a.holds C.prog (lone (Frame.enter C.prog f i.args .normal) [] (w.forCall tape i)))
    (contract : ∀ (W : World) (base : Nat) (args : Array Value) (ds gs : List (DataW H)) (before : List MemPlace), W.ShapedOpen C.prog →
      (∀ (j : Nat) t v, fn.params[j]? = some t → args[j]? = some v → Value.okWide C.prog W .any base t v) →
      DataW.Whole enc C.prog fn.params.toList s.vars apart W args.toList ds gs before → X W args →
      Calls C.prog f args W fun e W' => ∃ v, e = .returned v ∧ s.post enc C.prog fn apart fresh handsOn again W args v W') :
    ReturnsInHanded a C os f .any (fun w args => (s.pre enc C.prog fn conds apart w args ∧ X w args) ∧ sizedMet enc C.prog fn (OpenSpec.ofChange s) apart w args) (s.post enc C.prog fn apart fresh handsOn again) := by
  refine returnsInHanded_of_calls own started noInit witness ?_
  intro w tape i _ hsh _ hok hpre hholds
  obtain ⟨_, _, _, fn', hfn', _, _, _, _, hval⟩ := hok
  have e : fn' = fn := Option.some.inj (hfn'.symm.trans hfn)
  subst e
  obtain ⟨⟨⟨ds, gs, before, hw, hc⟩, hx⟩, hz⟩ := hpre
  have hw' := DataW.Whole.of_heap (w' := w.forCall tape i) (by rfl) hw
  refine (contract (w.forCall tape i) w.heap.size i.args ds gs before hsh hval hw' (hX _ _ _ (by rfl) hx)).mono fun e W' ⟨v, he, hp⟩ => ?_
  subst he
  exact ChangeSpec.post_blind hp
/-- a row of texts that came in, read as a list of texts -/
theorem texts_rd {w : World} {x : Addr} {len cap : Nat} {ss : List ByteArray} (hl : len ≤ cap) (hz : ss.length = cap) (hcell : ∀ i, i < ss.length → w.cell? (x.add i) = some (.string (ss.getD i ByteArray.empty))) (hm : ∀ s ∈ ss, s.size ≤ maxLen) :
    ∃ d : List (List UInt8), len = d.length ∧ RdT w (some x) d ∧ ∀ s ∈ d, s.length ≤ maxLen := by
  have hlen : ((ss.take len).map fun s => s.data.toList).length = len := by simp; omega
  refine ⟨(ss.take len).map fun s => s.data.toList, hlen.symm, ?_, fun s hs => ?_⟩
  · intro k t hk
    rw [List.getElem?_map, Option.map_eq_some_iff] at hk
    obtain ⟨s, hs, rfl⟩ := hk
    rw [List.getElem?_take] at hs
    split at hs
    · have hj : k < ss.length := by omega
      have h1 := hcell k hj
      rw [List.getElem?_eq_getElem hj] at hs
      injection hs with hs
      simp only [List.getD_eq_getElem?_getD, List.getElem?_eq_getElem hj, Option.getD_some, hs] at h1
      obtain ⟨b, o, sp⟩ := x
      have hsp : sp = none := by
        have h0 := hcell 0 (by omega)
        simpa [Addr.add] using World.cell?_spot h0
      subst hsp
      rw [add_none] at h1
      exact ⟨b, o, rfl, h1⟩
    · cases hs
  · rw [List.mem_map] at hs
    obtain ⟨b, hb, rfl⟩ := hs
    have h1 := hm b (List.mem_of_mem_take hb)
    have h2 : b.data.toList.length = b.size := by simp
    omega
theorem open_texts {W : World} {H : Type} {enc : TypeId × Value → H} {a0 : Option Addr} {len0 cap0 : Nat} {d0 : DataW H} {p0 : List MemPlace} (h0 : DataW.Trod enc Tryz.prog W 0 (fun _ => true) true 22 (.slice a0 len0 cap0) d0 p0) :
    ∃ d : List (List UInt8), len0 = d.length ∧ d.length ≤ maxLen ∧ RdT W a0 d ∧ ∀ s ∈ d, s.length ≤ maxLen := by
  obtain ⟨fuel, hf⟩ := h0
  rcases open_strings (show Tryz.prog.underlying 22 = some (.slice 9) by kernel_rfl) (show Tryz.prog.underlying 9 = some .string by kernel_rfl) (by kernel_rfl) hf with ⟨hcs, _⟩ | ⟨x, l, c, ss, hcs, _, hl, hm, hz, _, hcell, hsm⟩
  · simp [Value.cells] at hcs
    obtain ⟨rfl, rfl, rfl⟩ := hcs
    exact ⟨[], rfl, by simp, fun k t hk => by simp at hk, fun s hs => by cases hs⟩
  · simp [Value.cells] at hcs
    obtain ⟨rfl, rfl, rfl⟩ := hcs
    obtain ⟨d, rfl, hr, hdl⟩ := texts_rd hl (by simpa using hz) hcell hsm
    exact ⟨d, rfl, by omega, hr, hdl⟩
end Go.Proofs.YtdifffdfiimlpaaGreatDoor
