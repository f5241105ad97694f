/- The reference: Valid. No statement is proved here. -/
import Derived.Test.YtdifffdfiimlpaaGreatDoorEnFV
set_option linter.all false
namespace Go.Proofs.YtdifffdfiimlpaaGreatDoor
open Go Go.RowKit Go.Mir Go.Maps Go.Sort
set_option maxHeartbeats 1000000
set_option maxRecDepth 100000
theorem one_in {w W : World} {nm cwd : List UInt8} {ix : Int} {s p : Value} (h : Below (boxE w nm cwd ix s p).heap.size (boxE w nm cwd ix s p) W) : W.cell? ⟨w.heap.size, 0, none⟩ = some (.string ⟨nm.toArray⟩) ∧ W.cell? ⟨w.heap.size, 1, none⟩ = some s ∧ W.cell? ⟨w.heap.size, 2, none⟩ = some p ∧ W.cell? ⟨w.heap.size, 3, none⟩ = some (.slice none 0 0) ∧ W.cell? ⟨w.heap.size, 4, none⟩ = some (.slice none 0 0) ∧ W.cell? ⟨w.heap.size, 5, none⟩ = some (.slice none 0 0) ∧ W.cell? ⟨w.heap.size, 6, none⟩ = some (.int .i64 0) ∧ W.cell? ⟨w.heap.size, 7, none⟩ = some (.int .i64 0) ∧ W.cell? ⟨w.heap.size, 8, none⟩ = some (.int .i64 0) ∧ W.cell? ⟨w.heap.size, 9, none⟩ = some (.int .i64 0) ∧ W.cell? ⟨w.heap.size, 10, none⟩ = some (.string ⟨cwd.toArray⟩) ∧ W.cell? ⟨w.heap.size, 11, none⟩ = some (.int .i64 ix) ∧ W.cell? ⟨w.heap.size, 12, none⟩ = some (.int .i64 0) ∧ W.cell? ⟨w.heap.size, 13, none⟩ = some (.int .i64 0) ∧ W.cell? ⟨w.heap.size, 14, none⟩ = some (.bool false) := by
  have hl1 : w.heap.size < (boxE w nm cwd ix s p).heap.size := by simp
  refine ⟨?_, ?_, ?_, ?_, ?_, ?_, ?_, ?_, ?_, ?_, ?_, ?_, ?_, ?_, ?_⟩
  all_goals exact (h.cell (p := ⟨w.heap.size, _, none⟩) hl1).trans (by simp)
theorem valid_calls (nm : List UInt8) (l : List NV) (ps : List (List UInt8)) (hnm : nm.length ≤ 4096) (hg : GoodV l) (hl : l.length ≤ 128) (hp : ps.length ≤ maxLen) (ha : argsL ps = 0) (a1 a3 : Option Addr) (n m c1 c3 : Nat) (hn : Aside (n = l.length)) (hm : Aside (m = ps.length)) (w : World) (h1 : RdV w a1 l) (h3 : RdT w a3 ps) :
    Calls Tryz.prog 10 #[envE nm [47] 1 (.slice a1 n c1) (.slice a3 m c3)] w fun e w' => e = .returned (.int .i64 0) ∧ Below w.heap.size w w' := by
  have c31 := fun (W : World) (hb : Below w.heap.size w W) => valid15_calls l hg hl a1 n c1 hn W (h1.below hb)
  have c24 := fun (W : World) (hb : Below w.heap.size w W) => params_calls ps hp a3 c3 W (h3.below hb)
  rw [← hm.out, ha] at c24
  have hnm' : ¬ (4096 : Int) < (nm.length : Int) := by omega
  clear hg hl hp ha
  go_enter Tryz.func10, Tryz.ntmps10
  go_wp2_with (first
    | (go_at_call 31; refine (c31 _ ((Below.refl _ _).alloc (Nat.le_refl _) _)).mono ?_; rintro e W1 ⟨rfl, hB1⟩; have hb1 : Below w.heap.size w W1 := ((Below.refl _ _).alloc (Nat.le_refl _) _).trans (hB1.mono (by simp)); obtain ⟨z0, z1, z2, z3, z4, z5, z6, z7, z8, z9, z10, z11, z12, z13, z14⟩ := one_in hB1)
    | (go_at_call 24; refine (c24 _ hb1).mono ?_; rintro e W2 ⟨rfl, rfl⟩)
    | (go_at_call 32; refine (vnil32 _).mono ?_; rintro e W3 ⟨rfl, rfl⟩)
    | (go_at_call 33; refine (vnil33 _).mono ?_; rintro e W3 ⟨rfl, rfl⟩)
    | (go_at_call 34; refine (vnil34 _).mono ?_; rintro e W3 ⟨rfl, rfl⟩)
    | (go_at_call 35; refine (numbers_calls nm _ _ _).mono ?_; rintro e W4 ⟨rfl, hB4⟩))
  go_ret
  exact ⟨rfl, hb1.trans (hB4.mono hb1.size)⟩
end Go.Proofs.YtdifffdfiimlpaaGreatDoor
