/- The reference: Same. No statement is proved here. -/
import Derived.Test.YtdifffdfiimlpaaGreatDoorEnFT
import Derived.BigQuiet
import Derived.Deep.QuietTactic
set_option linter.all false
namespace Go.Proofs.YtdifffdfiimlpaaGreatDoor
open Go Go.RowKit Go.Mir Go.Maps Go.Sort
set_option maxHeartbeats 1000000
set_option maxRecDepth 100000
theorem nil28 (w : World) : Calls Tryz.prog 28 #[.slice none 0 0, .slice none 0 0] w fun e w' => e = .returned (.bool true) ∧ w = w' := by
  go_enter Tryz.func28, Tryz.ntmps28
  go_wp2
  go_loopg [5] 0 (fun g s wx => g = 0 ∧ s = .int .i64 0 ∧ wx = w)
  case atStart => exact ⟨rfl, rfl, rfl⟩
  case round =>
    obtain ⟨rfl, rfl, rfl⟩ := hrel
    go_wp2
    go_ret
    exact ⟨rfl, rfl⟩
theorem nil29 (w : World) : Calls Tryz.prog 29 #[.slice none 0 0, .slice none 0 0] w fun e w' => e = .returned (.bool true) ∧ w = w' := by
  go_enter Tryz.func29, Tryz.ntmps29
  go_wp2
  go_loopg [5] 0 (fun g s wx => g = 0 ∧ s = .int .i64 0 ∧ wx = w)
  case atStart => exact ⟨rfl, rfl, rfl⟩
  case round =>
    obtain ⟨rfl, rfl, rfl⟩ := hrel
    go_wp2
    go_ret
    exact ⟨rfl, rfl⟩
theorem nil30 (w : World) : Calls Tryz.prog 30 #[.slice none 0 0, .slice none 0 0] w fun e w' => e = .returned (.bool true) ∧ w = w' := by
  go_enter Tryz.func30, Tryz.ntmps30
  go_wp2
  go_loopg [5] 0 (fun g s wx => g = 0 ∧ s = .int .i64 0 ∧ wx = w)
  case atStart => exact ⟨rfl, rfl, rfl⟩
  case round =>
    obtain ⟨rfl, rfl, rfl⟩ := hrel
    go_wp2
    go_ret
    exact ⟨rfl, rfl⟩
noncomputable abbrev envE (nm cwd : List UInt8) (ix : Int) (s p : Value) : Value := .agg #[.string ⟨nm.toArray⟩, s, p, .slice none 0 0, .slice none 0 0, .slice none 0 0, .int .i64 0, .int .i64 0, .int .i64 0, .int .i64 0, .string ⟨cwd.toArray⟩, .int .i64 ix, .int .i64 0, .int .i64 0, .bool false]
noncomputable abbrev boxE (w : World) (nm cwd : List UInt8) (ix : Int) (s p : Value) : World := w.alloc (.cells #[.string ⟨nm.toArray⟩, s, p, .slice none 0 0, .slice none 0 0, .slice none 0 0, .int .i64 0, .int .i64 0, .int .i64 0, .int .i64 0, .string ⟨cwd.toArray⟩, .int .i64 ix, .int .i64 0, .int .i64 0, .bool false] 32)
theorem two_in {w W : World} {nm cwd : List UInt8} {ix : Int} {s1 p1 s2 p2 : Value} (h : Below (boxE (boxE w nm cwd ix s1 p1) nm cwd ix s2 p2).heap.size (boxE (boxE w nm cwd ix s1 p1) nm cwd ix s2 p2) W) : W.cell? ⟨w.heap.size, 0, none⟩ = some (.string ⟨nm.toArray⟩) ∧ W.cell? ⟨w.heap.size, 1, none⟩ = some (s1) ∧ W.cell? ⟨w.heap.size, 2, none⟩ = some (p1) ∧ W.cell? ⟨w.heap.size, 3, none⟩ = some (.slice none 0 0) ∧ W.cell? ⟨w.heap.size, 4, none⟩ = some (.slice none 0 0) ∧ W.cell? ⟨w.heap.size, 5, none⟩ = some (.slice none 0 0) ∧ W.cell? ⟨w.heap.size + 1, 0, none⟩ = some (.string ⟨nm.toArray⟩) ∧ W.cell? ⟨w.heap.size + 1, 1, none⟩ = some (s2) ∧ W.cell? ⟨w.heap.size + 1, 2, none⟩ = some (p2) ∧ W.cell? ⟨w.heap.size + 1, 3, none⟩ = some (.slice none 0 0) ∧ W.cell? ⟨w.heap.size + 1, 4, none⟩ = some (.slice none 0 0) ∧ W.cell? ⟨w.heap.size + 1, 5, none⟩ = some (.slice none 0 0) := by
  have hl1 : w.heap.size < (boxE (boxE w nm cwd ix s1 p1) nm cwd ix s2 p2).heap.size := by simp; omega
  have hl2 : w.heap.size + 1 < (boxE (boxE w nm cwd ix s1 p1) nm cwd ix s2 p2).heap.size := by simp
  refine ⟨?_, ?_, ?_, ?_, ?_, ?_, ?_, ?_, ?_, ?_, ?_, ?_⟩
  all_goals first
    | exact (h.cell (p := ⟨w.heap.size, _, none⟩) hl1).trans (by simp)
    | exact (h.cell (p := ⟨w.heap.size + 1, _, none⟩) hl2).trans (by simp)
theorem same_calls (nm cwd : List UInt8) (ix : Int) (l : List NV) (ps : List (List UInt8)) (hl : l.length ≤ maxLen) (hp : ps.length ≤ maxLen) (a1 a2 a3 a4 : Option Addr) (n m c1 c2 c3 c4 : Nat) (hn : Aside (n = l.length)) (hm : Aside (m = ps.length)) (w : World) (h1 : RdV w a1 l) (h2 : RdV w a2 l) (h3 : RdT w a3 ps) (h4 : RdT w a4 ps) :
    Calls Tryz.prog 9 #[envE nm cwd ix (.slice a1 n c1) (.slice a3 m c3), envE nm cwd ix (.slice a2 n c2) (.slice a4 m c4)] w fun e w' => e = .returned (.bool true) ∧ Below w.heap.size w w' := by
  have c26 := fun (W : World) (hb : Below w.heap.size w W) => same15_calls l l hl hl a1 a2 c1 c2 W (h1.below hb) (h2.below hb) rfl
  have c27 := fun (W : World) (hb : Below w.heap.size w W) => sameT_calls ps hp a3 a4 c3 c4 W (h3.below hb) (h4.below hb)
  rw [← hn.out] at c26
  rw [← hm.out] at c27
  go_enter Tryz.func9, Tryz.ntmps9
  go_wp2_with (first
    | (go_at_call 26; refine (c26 _ (((Below.refl _ _).alloc (Nat.le_refl _) _).alloc (by simp) _)).mono ?_; rintro e W1 ⟨rfl, hB1⟩; have hb1 : Below w.heap.size w W1 := (((Below.refl _ _).alloc (Nat.le_refl _) _).alloc (by simp) _).trans (hB1.mono (by simp; omega)); obtain ⟨z0, z1, z2, z3, z4, z5, y0, y1, y2, y3, y4, y5⟩ := two_in hB1)
    | (go_at_call 27; refine (c27 _ hb1).mono ?_; rintro e W2 ⟨rfl, hB2⟩; have hb2 : Below w.heap.size w W2 := hb1.trans (hB2.mono hb1.size); obtain ⟨z0, z1, z2, z3, z4, z5, y0, y1, y2, y3, y4, y5⟩ := two_in (hB1.trans (hB2.mono hB1.size)))
    | (go_at_call 28; refine (nil28 _).mono ?_; rintro e W3 ⟨rfl, rfl⟩)
    | (go_at_call 29; refine (nil29 _).mono ?_; rintro e W3 ⟨rfl, rfl⟩)
    | (go_at_call 30; refine (nil30 _).mono ?_; rintro e W3 ⟨rfl, rfl⟩))
  go_ret
  exact ⟨rfl, hb2⟩
end Go.Proofs.YtdifffdfiimlpaaGreatDoor
