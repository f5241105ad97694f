/- TakeTexts of the codec, with its deferred function (printed by gen_take.py). -/
import Derived.Test.YtoljigllnhenoaaTexts
import Derived.Deep.Onto
namespace Go.Proofs.Ytoljigllnhenoaa
open Go.RowKit

theorem catch_idleS (p q r : Addr) (w : World) :
    CallsD Try.prog 38 #[.pointer (some p), .pointer (some q), .pointer (some r)] .returning w fun e u' w' => e = .returned (.tuple #[]) ∧ u' = .returning ∧ w' = w := by
  refine callsD_of_wpS Try.func38 rfl fun c₀ cs hu => ?_
  apply wpS_seq
  apply wpS_region
  simp [wpOpsS, go_sem, recoverD, hu, Try.ntmps38, Exit.thenS]
  refine wpS_of_wp ?_
  go_wp2
  cases c₀
  simp_all [bodyPostS, results, Try.results38]

theorem catch_panickingS (p q r : Nat) (er : Int) (x y z : Value) (w : World) (hp : w.cell? ⟨p, 0, none⟩ = some x) (hq : w.cell? ⟨q, 0, none⟩ = some y) (hr : w.cell? ⟨r, 0, none⟩ = some z)
    (fp : w.frozen? ⟨p, 0, none⟩ = false) (fq : w.frozen? ⟨q, 0, none⟩ = false) (fr : w.frozen? ⟨r, 0, none⟩ = false) (hpq : p ≠ q) (hpr : p ≠ r) (hqr : q ≠ r) :
    CallsD Try.prog 38 #[.pointer (some ⟨p, 0, none⟩), .pointer (some ⟨q, 0, none⟩), .pointer (some ⟨r, 0, none⟩)] (.panicking [{ v := .iface 71 (.agg #[.int .i64 er]), recovered := false }]) w fun e u' w' =>
      e = .returned (.tuple #[]) ∧ u' = .panicking [{ v := .iface 71 (.agg #[.int .i64 er]), recovered := true }] ∧
      ∃ o, w' = (((w.setCell ⟨p, 0, none⟩ (.slice none 0 0)).setCell ⟨q, 0, none⟩ (.int .i64 0)).setCell ⟨r, 0, none⟩ (.int .i64 er)).alloc o := by
  refine callsD_of_wpS Try.func38 rfl fun c₀ cs hu => ?_
  apply wpS_seq
  apply wpS_region
  simp [wpOpsS, go_sem, recoverD, hu, Try.ntmps38, Exit.thenS]
  refine wpS_of_wp ?_
  simp only [Array.replicate, List.replicate, Array.setIfInBounds, List.size_toArray, List.length_cons, List.length_nil, Nat.reduceAdd, Nat.reduceLT, dite_true, List.set, Array.set, List.append_toArray, List.cons_append, List.nil_append]
  go_wp2_with fail
  refine (reason_any _ _).mono ?_
  rintro e w' ⟨rfl, o, rfl⟩
  have bp := World.block_lt_of_cell? w _ hp
  have bq := World.block_lt_of_cell? w _ hq
  have br := World.block_lt_of_cell? w _ hr
  have hp' : (w.alloc o).cell? ⟨p, 0, none⟩ = some x := by rw [World.cell?_alloc_lt w o _ bp]; exact hp
  have hq' : (w.alloc o).cell? ⟨q, 0, none⟩ = some y := by rw [World.cell?_alloc_lt w o _ bq]; exact hq
  have hr' : (w.alloc o).cell? ⟨r, 0, none⟩ = some z := by rw [World.cell?_alloc_lt w o _ br]; exact hr
  have fp' : (w.alloc o).frozen? ⟨p, 0, none⟩ = false := by rw [World.frozen?_of_block (w := w) (Below.heap_alloc w o _ bp)]; exact fp
  have fq' : (w.alloc o).frozen? ⟨q, 0, none⟩ = false := by rw [World.frozen?_of_block (w := w) (Below.heap_alloc w o _ bq)]; exact fq
  have fr' : (w.alloc o).frozen? ⟨r, 0, none⟩ = false := by rw [World.frozen?_of_block (w := w) (Below.heap_alloc w o _ br)]; exact fr
  go_wp2
  cases c₀
  simp_all [bodyPostS, results, Try.results38]
  exact ⟨_, rfl⟩

set_option maxHeartbeats 1000000 in
theorem takeTexts_yes (A : Option Addr) (c : Nat) (l : List UInt8) (ts : List (List UInt8)) (k : Nat) (w : World) (h : Reads w w.heap.size 1 A l.length (bv l)) (hl : l.length ≤ 1000000) (hlc : l.length ≤ c) (hz : takeTexts l = .ok (ts, k)) :
    Calls Try.prog 21 #[.slice A l.length c] w fun e w' => ∃ v, e = .returned (.tuple #[v, .int .i64 k, .int .i64 0]) ∧ w'.ownsRow w.heap.size 9 1 v ts.length (sv ts) ∧ Below w.heap.size w w' := by
  have hmf : ∀ (fn : Fn) (first cap : Array Value) (w : World), (Instr.makeFunc fn first cap).run Try.prog w = .ok (.func fn first cap) w := fun _ _ _ _ => rfl
  have HZ := Lib.hid hz
  clear hz
  go_enter_defers Try.func21, Try.ntmps21
  go_wp2_with fail
  have hd0 := dec_new (c := c) h (below3 w (.cells #[.slice none 0 0] 38) (.cells #[.int .i64 0] 3) (.cells #[.int .i64 0] 25)) (by simp; omega) hlc
  simp only [World.size_alloc] at hd0
  refine (texts_yes (w.heap.size + 1 + 1 + 1) A c l 0 ts k _ hd0 (by omega) hl (by rw [List.drop_zero]; exact HZ.out)).mono ?_
  rintro e w1 ⟨A', c', rfl, hown, hd, hg⟩
  have b0 : Blk w1 w.heap.size 38 #[.slice none 0 0] := ((((Blk.new w 38 #[.slice none 0 0]).alloc _).alloc _).alloc _).grown hg (by simp; omega)
  have b1 : Blk w1 (w.heap.size + 1) 3 #[.int .i64 0] := by
    have := (((Blk.new (w.alloc (.cells #[.slice none 0 0] 38)) 3 #[.int .i64 0]).alloc (.cells #[.int .i64 0] 25)).alloc (.cells #[.slice A l.length c, .int .i64 0] 63)).grown hg (by simp)
    simpa using this
  have b2 : Blk w1 (w.heap.size + 1 + 1) 25 #[.int .i64 0] := by
    have := ((Blk.new ((w.alloc (.cells #[.slice none 0 0] 38)).alloc (.cells #[.int .i64 0] 3)) 25 #[.int .i64 0]).alloc (.cells #[.slice A l.length c, .int .i64 0] 63)).grown hg (by simp)
    simpa using this
  have hbel : Below w.heap.size w w1 := ((below3 w _ _ _).alloc (by simp; omega) _).grown hg (by simp; omega) (fun k hk => by injection hk; omega)
  have hs := hbel.size
  have q0 : w1.cell? ⟨w.heap.size, 0, none⟩ = some (.slice none 0 0) := b0.cell 0
  have q1 : w1.cell? ⟨w.heap.size + 1, 0, none⟩ = some (.int .i64 0) := b1.cell 0
  have q2 : w1.cell? ⟨w.heap.size + 1 + 1, 0, none⟩ = some (.int .i64 0) := b2.cell 0
  have f0 := b0.frozen 0
  have f1 := b1.frozen 0
  have f2 := b2.frozen 0
  have q3 : w1.cell? ⟨w.heap.size + 1 + 1 + 1, 0 + 1, none⟩ = some (.int .i64 ((0 + k : Nat) : Int)) := hd.1.cell 1
  clear hg b0 b1 b2 hd hd0
  go_wp2
  go_region
  go_wp2
  refine leaves_cons (f := 38) (args := #[.pointer (some ⟨w.heap.size, 0, none⟩), .pointer (some ⟨w.heap.size + 1, 0, none⟩), .pointer (some ⟨w.heap.size + 1 + 1, 0, none⟩)]) (by simp) (by simp [go_sem]) ?_
  refine (catch_idleS _ _ _ _).mono ?_
  rintro e u' w2 ⟨rfl, rfl, rfl⟩
  simp only [World.size_alloc] at hown
  have hset : ∀ (W : World) (b : Nat) (u : Value), b < w.heap.size + 1 + 1 + 1 + 1 → W.ownsRow (w.heap.size + 1 + 1 + 1 + 1) 9 1 (.slice A' ts.length c') ts.length (sv ts) → (W.setCell ⟨b, 0, none⟩ u).ownsRow (w.heap.size + 1 + 1 + 1 + 1) 9 1 (.slice A' ts.length c') ts.length (sv ts) :=
    fun W b u hb ho => ownsRow_setCell_below ho (a := ⟨b, 0, none⟩) hb u
  refine ⟨.tuple #[.slice A' ts.length c', .int .i64 k, .int .i64 0], by simp [results, Try.results21, go_sem, q0, q1, q2], _, rfl, ?_, ?_⟩
  · exact World.ownsRow.mono (hset _ _ _ (by omega) (hset _ _ _ (by omega) (hset _ _ _ (by omega) (hset _ _ _ (by omega) hown)))) (by omega)
  exact ((((hbel.setCell (p := ⟨w.heap.size, 0, none⟩) (Nat.le_refl _) _).setCell (p := ⟨w.heap.size, 0, none⟩) (Nat.le_refl _) _).setCell (p := ⟨w.heap.size + 1, 0, none⟩) (Nat.le_succ _) _).setCell (p := ⟨w.heap.size + 1 + 1, 0, none⟩) (Nat.le_trans (Nat.le_succ _) (Nat.le_succ _)) _).drew

set_option maxHeartbeats 1000000 in
theorem takeTexts_no (A : Option Addr) (c : Nat) (l : List UInt8) (er : Int) (w : World) (h : Reads w w.heap.size 1 A l.length (bv l)) (hl : l.length ≤ 1000000) (hlc : l.length ≤ c) (hz : takeTexts l = .error er) :
    Calls Try.prog 21 #[.slice A l.length c] w fun e w' => e = .returned (.tuple #[.slice none 0 0, .int .i64 0, .int .i64 er]) ∧ Below w.heap.size w w' := by
  have hmf : ∀ (fn : Fn) (first cap : Array Value) (w : World), (Instr.makeFunc fn first cap).run Try.prog w = .ok (.func fn first cap) w := fun _ _ _ _ => rfl
  have HZ := Lib.hid hz
  clear hz
  go_enter_defers Try.func21, Try.ntmps21
  go_wp2_with fail
  have hd0 := dec_new (c := c) h (below3 w (.cells #[.slice none 0 0] 38) (.cells #[.int .i64 0] 3) (.cells #[.int .i64 0] 25)) (by simp; omega) hlc
  simp only [World.size_alloc] at hd0
  refine (texts_no (w.heap.size + 1 + 1 + 1) A c l 0 er _ hd0 (by omega) hl (by rw [List.drop_zero]; exact HZ.out)).mono ?_
  rintro e w1 ⟨rfl, hg⟩
  have b0 : Blk w1 w.heap.size 38 #[.slice none 0 0] := ((((Blk.new w 38 #[.slice none 0 0]).alloc _).alloc _).alloc _).grown hg (by simp; omega)
  have b1 : Blk w1 (w.heap.size + 1) 3 #[.int .i64 0] := by
    have := (((Blk.new (w.alloc (.cells #[.slice none 0 0] 38)) 3 #[.int .i64 0]).alloc (.cells #[.int .i64 0] 25)).alloc (.cells #[.slice A l.length c, .int .i64 0] 63)).grown hg (by simp)
    simpa using this
  have b2 : Blk w1 (w.heap.size + 1 + 1) 25 #[.int .i64 0] := by
    have := ((Blk.new ((w.alloc (.cells #[.slice none 0 0] 38)).alloc (.cells #[.int .i64 0] 3)) 25 #[.int .i64 0]).alloc (.cells #[.slice A l.length c, .int .i64 0] 63)).grown hg (by simp)
    simpa using this
  have hbel : Below w.heap.size w w1 := ((below3 w _ _ _).alloc (by simp; omega) _).grown hg (by simp; omega) (fun k hk => by injection hk; omega)
  have hs := hbel.size
  have q0 : w1.cell? ⟨w.heap.size, 0, none⟩ = some (.slice none 0 0) := b0.cell 0
  have q1 : w1.cell? ⟨w.heap.size + 1, 0, none⟩ = some (.int .i64 0) := b1.cell 0
  have q2 : w1.cell? ⟨w.heap.size + 1 + 1, 0, none⟩ = some (.int .i64 0) := b2.cell 0
  have f0 := b0.frozen 0
  have f1 := b1.frozen 0
  have f2 := b2.frozen 0
  have l2 := b2.lt
  clear hg b0 b1 b2 hd0
  go_wp2
  refine leaves_cons (f := 38) (args := #[.pointer (some ⟨w.heap.size, 0, none⟩), .pointer (some ⟨w.heap.size + 1, 0, none⟩), .pointer (some ⟨w.heap.size + 1 + 1, 0, none⟩)]) (by simp) (by simp [go_sem]) ?_
  refine (catch_panickingS w.heap.size (w.heap.size + 1) (w.heap.size + 1 + 1) er _ _ _ _ q0 q1 q2 f0 f1 f2 (by omega) (by omega) (by omega)).mono ?_
  rintro e u' w2 ⟨rfl, rfl, o, rfl⟩
  refine ⟨.tuple #[.slice none 0 0, .int .i64 0, .int .i64 er], ?_, rfl, ?_⟩
  · have z0 : w.heap.size < w1.heap.size := by omega
    have z1 : w.heap.size + 1 < w1.heap.size := by omega
    simp [results, Try.results21, go_sem, World.cell?_alloc_past, q0, q1, q2, z0, z1, l2]
  exact (((hbel.setCell (p := ⟨w.heap.size, 0, none⟩) (Nat.le_refl _) _).setCell (p := ⟨w.heap.size + 1, 0, none⟩) (Nat.le_succ _) _).setCell (p := ⟨w.heap.size + 1 + 1, 0, none⟩) (Nat.le_trans (Nat.le_succ _) (Nat.le_succ _)) _).alloc (by simpa [World.setCell] using hs) _
end Go.Proofs.Ytoljigllnhenoaa
