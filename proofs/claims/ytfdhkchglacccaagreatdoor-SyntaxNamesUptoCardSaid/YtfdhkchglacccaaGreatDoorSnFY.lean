/- A world in which the tables lie as the program lays them. No statement is proved here. -/
import Derived.Test.YtfdhkchglacccaaGreatDoorSnPZ
import Derived.Test.YtfdhkchglacccaaGreatDoorTie
import Derived.Test.YtfdhkchglacccaaGreatDoorCards
import Derived.WalkKit
import Derived.ProofKit
import Derived.OpenShut
import Derived.SliceStrings
import Derived.ShutString
import Derived.ChangeOld
import Derived.LaidMore
import Derived.Stop.Joined
import Derived.SevenTiedAt
import Derived.LaidOnce
import Derived.Carry
import Derived.Deep.DeepHandedRow
set_option linter.all false
namespace Go.Proofs.YtfdhkchglacccaaGreatDoor
open Go Go.EvL Go.ChangeShapes Go.WideShapes Go.ChangeAt Go.RowKit
theorem own : ownKnob Tryz.prog.godebug = none := by kernel_rfl
theorem laidOut : laidOutB Tryz.prog = true := by kernel_rfl
abbrev laidP : List (String × DataW Unit) := Rows.syntaxNamesUptoRow.laid
theorem nglob : Tryz.prog.globals.size = 3 := by kernel_rfl
/-- a variable of the program is a row of cells -/
theorem var_row {W : World} (hs : W.ShapedOpen Tryz.prog) (b : Nat) (hb : b < 3) (hk : (((begin Tryz.prog (fun _ _ => 0) default).world.heap[b]?).bind Obj.row?).isSome = true) : ∃ C e fz, W.heap[b]? = some (.cells C e fz) := by
  obtain ⟨⟨zero, t⟩, hz⟩ := Option.isSome_iff_exists.1 hk
  obtain ⟨cs, hcs, _⟩ := hs.1 b zero t (by rw [nglob]; exact hb) hz
  exact ⟨cs, t, _, hcs⟩
set_option maxRecDepth 100000 in
theorem of_shaped {W : World} (hs : W.ShapedOpen Tryz.prog) : Tryz.prog.globals.size ≤ W.heap.size := by
  obtain ⟨C, e, fz, h⟩ := var_row hs 2 (by decide) (by kernel_rfl)
  have := (Array.getElem?_eq_some_iff.1 h).1
  rw [nglob]
  omega
/-- the heap that the program's own initialisers leave, with the one table that the translation leaves out -/
noncomputable def witW (os : Os) : World :=
  { World.doorLaid Tryz.prog 1000 os with heap := (World.doorLaid Tryz.prog 1000 os).heap.setIfInBounds 1 (.cells (Pinned.utf8FirstZ.map fun (n : Nat) => Value.int .u8 (n : Int)).toArray 217) }
noncomputable def metB (P : Program) (w : World) (fuel M : Nat) (names : List String) : Option (List (String × DataW Unit)) :=
  (DataW.laidRun P w fuel names).bind fun x => if nodupBits M x.2 0 && laidRowsB P w x.2 then some x.1 else none
theorem met_of {P : Program} {w : World} {l : List (String × DataW Unit)} (fuel M : Nat) (h : metB P w fuel M (l.map (·.1)) = some l) : laidMet P l w := by
  unfold metB at h
  rw [Option.bind_eq_some_iff] at h
  obtain ⟨x, hx, h⟩ := h
  split at h
  · rename_i hb
    simp only [Bool.and_eq_true] at hb
    have e := Option.some.inj h
    exact laidMet_of_run (ps := x.2) fuel (by rw [hx, ← e]) (decide_eq_true (nodupBits_sound hb.1).1) hb.2
  · cases h
set_option maxRecDepth 100000 in
theorem door_met (os : Os) (args : Array Value) : laidMetH Tryz.prog laidP ((witW os).forCall (fun _ _ => 0) ⟨#[], args, []⟩).memory :=
  laidMetH_of_parts3 (fuel := 8) (met_of 8 257 (by kernel_rfl)) (by kernel_rfl) (by kernel_rfl)
/-- a struct that came in -/
theorem agg_of {P : Program} {t : TypeId} {fs : Array Field} (hu : P.underlying t = some (.struct fs)) {W : World} {base : Nat} {v : Value} (h : Value.okWide P W .any base t v) : ∃ cs, v = .agg cs := by
  unfold Value.okWide at h
  rw [hu] at h
  obtain ⟨cs, h1, _⟩ := h
  exact ⟨cs, h1⟩
abbrev node0 : Value := .agg #[.int .i64 0, .int .i64 0, .string ⟨#[]⟩, .bool false, .slice none 0 0, .slice none 0 0, .slice none 0 0, .slice none 0 0, .slice none 0 0]
end Go.Proofs.YtfdhkchglacccaaGreatDoor
