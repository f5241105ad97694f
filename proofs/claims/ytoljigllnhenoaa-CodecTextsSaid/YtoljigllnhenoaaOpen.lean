/- Open of the codec, with its deferred function (printed by gen_open.py). -/
import Derived.Test.YtoljigllnhenoaaFrame
namespace Go.Proofs.Ytoljigllnhenoaa
open Go.RowKit
theorem catch_idleO (p q r s : Addr) (w : World) :
    CallsD Try.prog 41 #[.pointer (some p), .pointer (some q), .pointer (some r), .pointer (some s)] .returning w fun e u' w' => e = .returned (.tuple #[]) ∧ u' = .returning ∧ w' = w := by
  refine callsD_of_wpS Try.func41 rfl fun c₀ cs hu => ?_
  apply wpS_seq
  apply wpS_region
  simp [wpOpsS, go_sem, recoverD, hu, Try.ntmps41, Exit.thenS]
  refine wpS_of_wp ?_
  go_wp2
  cases c₀
  simp_all [bodyPostS, results, Try.results41]

theorem catch_panickingO (p q r s : Nat) (er : Int) (xp xq xr xs : Value) (w : World) (hp : w.cell? ⟨p, 0, none⟩ = some xp) (hq : w.cell? ⟨q, 0, none⟩ = some xq) (hr : w.cell? ⟨r, 0, none⟩ = some xr) (hs : w.cell? ⟨s, 0, none⟩ = some xs)
    (fp : w.frozen? ⟨p, 0, none⟩ = false) (fq : w.frozen? ⟨q, 0, none⟩ = false) (fr : w.frozen? ⟨r, 0, none⟩ = false) (fs : w.frozen? ⟨s, 0, none⟩ = false) (hpq : p ≠ q) (hpr : p ≠ r) (hps : p ≠ s) (hqr : q ≠ r) (hqs : q ≠ s) (hrs : r ≠ s) :
    CallsD Try.prog 41 #[.pointer (some ⟨p, 0, none⟩), .pointer (some ⟨q, 0, none⟩), .pointer (some ⟨r, 0, none⟩), .pointer (some ⟨s, 0, none⟩)] (.panicking [{ v := .iface 71 (.agg #[.int .i64 er]), recovered := false }]) w fun e u' w' =>
      e = .returned (.tuple #[]) ∧ u' = .panicking [{ v := .iface 71 (.agg #[.int .i64 er]), recovered := true }] ∧
      ∃ o, w' = ((((w.setCell ⟨p, 0, none⟩ (.int .i64 0)).setCell ⟨q, 0, none⟩ (.slice none 0 0)).setCell ⟨r, 0, none⟩ (.int .i64 0)).setCell ⟨s, 0, none⟩ (.int .i64 er)).alloc o := by
  refine callsD_of_wpS Try.func41 rfl fun c₀ cs hu => ?_
  apply wpS_seq
  apply wpS_region
  simp [wpOpsS, go_sem, recoverD, hu, Try.ntmps41, Exit.thenS]
  refine wpS_of_wp ?_
  simp only [Array.replicate, List.replicate, Array.setIfInBounds, List.size_toArray, List.length_cons, List.length_nil, Nat.reduceAdd, Nat.reduceLT, dite_true, List.set, Array.set, List.append_toArray, List.cons_append, List.nil_append]
  go_wp2_with fail
  refine (reason_any _ _).mono ?_
  rintro e w' ⟨rfl, o, rfl⟩
  have bp := World.block_lt_of_cell? w _ hp
  have bq := World.block_lt_of_cell? w _ hq
  have br := World.block_lt_of_cell? w _ hr
  have bs := World.block_lt_of_cell? w _ hs
  have hp' : (w.alloc o).cell? ⟨p, 0, none⟩ = some xp := by rw [World.cell?_alloc_lt w o _ bp]; exact hp
  have hq' : (w.alloc o).cell? ⟨q, 0, none⟩ = some xq := by rw [World.cell?_alloc_lt w o _ bq]; exact hq
  have hr' : (w.alloc o).cell? ⟨r, 0, none⟩ = some xr := by rw [World.cell?_alloc_lt w o _ br]; exact hr
  have hs' : (w.alloc o).cell? ⟨s, 0, none⟩ = some xs := by rw [World.cell?_alloc_lt w o _ bs]; exact hs
  have fp' : (w.alloc o).frozen? ⟨p, 0, none⟩ = false := by rw [World.frozen?_of_block (w := w) (Below.heap_alloc w o _ bp)]; exact fp
  have fq' : (w.alloc o).frozen? ⟨q, 0, none⟩ = false := by rw [World.frozen?_of_block (w := w) (Below.heap_alloc w o _ bq)]; exact fq
  have fr' : (w.alloc o).frozen? ⟨r, 0, none⟩ = false := by rw [World.frozen?_of_block (w := w) (Below.heap_alloc w o _ br)]; exact fr
  have fs' : (w.alloc o).frozen? ⟨s, 0, none⟩ = false := by rw [World.frozen?_of_block (w := w) (Below.heap_alloc w o _ bs)]; exact fs
  go_wp2
  cases c₀
  simp_all [bodyPostS, results, Try.results41]
  exact ⟨_, rfl⟩

theorem below4 (w : World) (a b c d : Obj) : Below w.heap.size w ((((w.alloc a).alloc b).alloc c).alloc d) :=
  (below3 w a b c).alloc (by simp; omega) d

theorem cs_same {w : World} {a : Addr} {u v : Value} (h : w.cell? a = some u) : (w.setCell a v).cell? a = some v := World.cell?_setCell_same _ _ _ h
theorem cs_other {w : World} {a b : Addr} {u v : Value} (hne : a ≠ b) (h : w.cell? b = some u) : (w.setCell a v).cell? b = some u := (World.cell?_setCell_other _ _ _ _ hne).trans h
def FrameFails (er : Int) (l : List UInt8) (c : Nat) : Prop := ∀ (g : Nat) (A : Option Addr) (w : World), Dec w g A c l 0 →
  Calls Try.prog 42 #[.pointer (some ⟨g, 0, none⟩)] w fun e w' => e = .panicked [{ v := .iface 71 (.agg #[.int .i64 er]), recovered := false }] ∧ w.grownBy w' (some g)
set_option maxHeartbeats 1000000 in
theorem open_fails (A : Option Addr) (c : Nat) (l : List UInt8) (er : Int) (w : World) (h : Reads w w.heap.size 1 A l.length (bv l)) (hlc : l.length ≤ c) (hf : FrameFails er l c) :
    Calls Try.prog 31 #[.slice A l.length c] w fun e w' => e = .returned (.tuple #[.int .i64 0, .slice none 0 0, .int .i64 0, .int .i64 er]) ∧ Below w.heap.size w w' := by
  have hmf : ∀ (fn : Fn) (first cap : Array Value) (w : World), (Instr.makeFunc fn first cap).run Try.prog w = .ok (.func fn first cap) w := fun _ _ _ _ => rfl
  go_enter_defers Try.func31, Try.ntmps31
  go_wp2_with fail
  have hd0 := dec_new (c := c) h (below4 w (.cells #[.int .i64 0] 3) (.cells #[.slice none 0 0] 22) (.cells #[.int .i64 0] 3) (.cells #[.int .i64 0] 25)) (by simp; omega) hlc
  simp only [World.size_alloc] at hd0
  refine (hf (w.heap.size + 1 + 1 + 1 + 1) A _ hd0).mono ?_
  rintro e w1 ⟨rfl, hg⟩
  have b0 : Blk w1 (w.heap.size) 3 #[.int .i64 0] := by
    have := (((((Blk.new w 3 #[.int .i64 0]).alloc (.cells #[.slice none 0 0] 22)).alloc (.cells #[.int .i64 0] 3)).alloc (.cells #[.int .i64 0] 25)).alloc (.cells #[.slice A l.length c, .int .i64 0] 63)).grown hg (by simp; try omega)
    simpa using this
  have b1 : Blk w1 (w.heap.size + 1) 22 #[.slice none 0 0] := by
    have := ((((Blk.new (w.alloc (.cells #[.int .i64 0] 3)) 22 #[.slice none 0 0]).alloc (.cells #[.int .i64 0] 3)).alloc (.cells #[.int .i64 0] 25)).alloc (.cells #[.slice A l.length c, .int .i64 0] 63)).grown hg (by simp; try omega)
    simpa using this
  have b2 : Blk w1 (w.heap.size + 1 + 1) 3 #[.int .i64 0] := by
    have := (((Blk.new ((w.alloc (.cells #[.int .i64 0] 3)).alloc (.cells #[.slice none 0 0] 22)) 3 #[.int .i64 0]).alloc (.cells #[.int .i64 0] 25)).alloc (.cells #[.slice A l.length c, .int .i64 0] 63)).grown hg (by simp; try omega)
    simpa using this
  have b3 : Blk w1 (w.heap.size + 1 + 1 + 1) 25 #[.int .i64 0] := by
    have := ((Blk.new (((w.alloc (.cells #[.int .i64 0] 3)).alloc (.cells #[.slice none 0 0] 22)).alloc (.cells #[.int .i64 0] 3)) 25 #[.int .i64 0]).alloc (.cells #[.slice A l.length c, .int .i64 0] 63)).grown hg (by simp)
    simpa using this
  have hbel : Below w.heap.size w w1 := ((below4 w _ _ _ _).alloc (by simp; omega) _).grown hg (by simp; omega) (fun k hk => by injection hk; omega)
  have hs := hbel.size
  have q0 : w1.cell? ⟨w.heap.size, 0, none⟩ = some (.int .i64 0) := b0.cell 0
  have f0 := b0.frozen 0
  have q1 : w1.cell? ⟨w.heap.size + 1, 0, none⟩ = some (.slice none 0 0) := b1.cell 0
  have f1 := b1.frozen 0
  have q2 : w1.cell? ⟨w.heap.size + 1 + 1, 0, none⟩ = some (.int .i64 0) := b2.cell 0
  have f2 := b2.frozen 0
  have q3 : w1.cell? ⟨w.heap.size + 1 + 1 + 1, 0, none⟩ = some (.int .i64 0) := b3.cell 0
  have f3 := b3.frozen 0
  have l3 := b3.lt
  clear hg b0 b1 b2 b3 hd0
  go_wp2
  refine leaves_cons (f := 41) (args := #[.pointer (some ⟨w.heap.size, 0, none⟩), .pointer (some ⟨w.heap.size + 1, 0, none⟩), .pointer (some ⟨w.heap.size + 1 + 1, 0, none⟩), .pointer (some ⟨w.heap.size + 1 + 1 + 1, 0, none⟩)]) (by simp) (by simp [go_sem]) ?_
  refine (catch_panickingO (w.heap.size) (w.heap.size + 1) (w.heap.size + 1 + 1) (w.heap.size + 1 + 1 + 1) er _ _ _ _ _ q0 q1 q2 q3 f0 f1 f2 f3 (by omega) (by omega) (by omega) (by omega) (by omega) (by omega)).mono ?_
  rintro e u' w2 ⟨rfl, rfl, o, rfl⟩
  refine ⟨.tuple #[.int .i64 0, .slice none 0 0, .int .i64 0, .int .i64 er], ?_, rfl, ?_⟩
  · have z0 : w.heap.size < w1.heap.size := by omega
    have z1 : w.heap.size + 1 < w1.heap.size := by omega
    have z2 : w.heap.size + 1 + 1 < w1.heap.size := by omega
    simp [results, Try.results31, go_sem, World.cell?_alloc_past, q0, q1, q2, q3, z0, z1, z2, l3]
  exact ((((hbel.setCell (p := ⟨w.heap.size, 0, none⟩) (Nat.le_refl _) _).setCell (p := ⟨w.heap.size + 1, 0, none⟩) (show w.heap.size ≤ w.heap.size + 1 from by omega) _).setCell (p := ⟨w.heap.size + 1 + 1, 0, none⟩) (show w.heap.size ≤ w.heap.size + 1 + 1 from by omega) _).setCell (p := ⟨w.heap.size + 1 + 1 + 1, 0, none⟩) (show w.heap.size ≤ w.heap.size + 1 + 1 + 1 from by omega) _).alloc (by simpa [World.setCell] using hs) _

def FrameGives (k : Nat) (t : List UInt8) (s : Nat) (l : List UInt8) (c : Nat) : Prop := ∀ (g : Nat) (A : Option Addr) (w : World), Dec w g A c l 0 →
  Calls Try.prog 42 #[.pointer (some ⟨g, 0, none⟩)] w fun e w' => ∃ v, e = .returned (.tuple #[.int .i64 k, v]) ∧ Dec w' g A c l s ∧ w'.ownsRow w.heap.size 5 1 v t.length (bv t) ∧ w.grownBy w' (some g)
set_option maxHeartbeats 1000000 in
theorem open_gives (A : Option Addr) (c : Nat) (l : List UInt8) (k s : Nat) (t : List UInt8) (w : World) (h : Reads w w.heap.size 1 A l.length (bv l)) (hlc : l.length ≤ c) (hf : FrameGives k t s l c) :
    Calls Try.prog 31 #[.slice A l.length c] w fun e w' => ∃ v, e = .returned (.tuple #[.int .i64 k, v, .int .i64 s, .int .i64 0]) ∧ w'.ownsRow w.heap.size 5 1 v t.length (bv t) ∧ Below w.heap.size w w' := by
  have hmf : ∀ (fn : Fn) (first cap : Array Value) (w : World), (Instr.makeFunc fn first cap).run Try.prog w = .ok (.func fn first cap) w := fun _ _ _ _ => rfl
  go_enter_defers Try.func31, Try.ntmps31
  go_wp2_with fail
  have hd0 := dec_new (c := c) h (below4 w (.cells #[.int .i64 0] 3) (.cells #[.slice none 0 0] 22) (.cells #[.int .i64 0] 3) (.cells #[.int .i64 0] 25)) (by simp; omega) hlc
  simp only [World.size_alloc] at hd0
  refine (hf (w.heap.size + 1 + 1 + 1 + 1) A _ hd0).mono ?_
  rintro e w1 ⟨v, rfl, hd, hown, hg⟩
  obtain ⟨A1, c1, rfl, hc1, hr1⟩ := own_slice hown
  have b0 : Blk w1 (w.heap.size) 3 #[.int .i64 0] := by
    have := (((((Blk.new w 3 #[.int .i64 0]).alloc (.cells #[.slice none 0 0] 22)).alloc (.cells #[.int .i64 0] 3)).alloc (.cells #[.int .i64 0] 25)).alloc (.cells #[.slice A l.length c, .int .i64 0] 63)).grown hg (by simp; try omega)
    simpa using this
  have b1 : Blk w1 (w.heap.size + 1) 22 #[.slice none 0 0] := by
    have := ((((Blk.new (w.alloc (.cells #[.int .i64 0] 3)) 22 #[.slice none 0 0]).alloc (.cells #[.int .i64 0] 3)).alloc (.cells #[.int .i64 0] 25)).alloc (.cells #[.slice A l.length c, .int .i64 0] 63)).grown hg (by simp; try omega)
    simpa using this
  have b2 : Blk w1 (w.heap.size + 1 + 1) 3 #[.int .i64 0] := by
    have := (((Blk.new ((w.alloc (.cells #[.int .i64 0] 3)).alloc (.cells #[.slice none 0 0] 22)) 3 #[.int .i64 0]).alloc (.cells #[.int .i64 0] 25)).alloc (.cells #[.slice A l.length c, .int .i64 0] 63)).grown hg (by simp; try omega)
    simpa using this
  have b3 : Blk w1 (w.heap.size + 1 + 1 + 1) 25 #[.int .i64 0] := by
    have := ((Blk.new (((w.alloc (.cells #[.int .i64 0] 3)).alloc (.cells #[.slice none 0 0] 22)).alloc (.cells #[.int .i64 0] 3)) 25 #[.int .i64 0]).alloc (.cells #[.slice A l.length c, .int .i64 0] 63)).grown hg (by simp)
    simpa using this
  have hbel : Below w.heap.size w w1 := ((below4 w _ _ _ _).alloc (by simp; omega) _).grown hg (by simp; omega) (fun k hk => by injection hk; omega)
  have hs := hbel.size
  have q0 : w1.cell? ⟨w.heap.size, 0, none⟩ = some (.int .i64 0) := b0.cell 0
  have f0 := b0.frozen 0
  have q1 : w1.cell? ⟨w.heap.size + 1, 0, none⟩ = some (.slice none 0 0) := b1.cell 0
  have f1 := b1.frozen 0
  have q2 : w1.cell? ⟨w.heap.size + 1 + 1, 0, none⟩ = some (.int .i64 0) := b2.cell 0
  have f2 := b2.frozen 0
  have q3 : w1.cell? ⟨w.heap.size + 1 + 1 + 1, 0, none⟩ = some (.int .i64 0) := b3.cell 0
  have f3 := b3.frozen 0
  have q4 : w1.cell? ⟨w.heap.size + 1 + 1 + 1 + 1, 0 + 1, none⟩ = some (.int .i64 (s : Int)) := hd.1.cell 1
  simp only [World.size_alloc] at hown
  clear hg b0 b1 b2 b3 hd hd0
  go_wp2
  go_region
  go_wp2
  refine leaves_cons (f := 41) (args := #[.pointer (some ⟨w.heap.size, 0, none⟩), .pointer (some ⟨w.heap.size + 1, 0, none⟩), .pointer (some ⟨w.heap.size + 1 + 1, 0, none⟩), .pointer (some ⟨w.heap.size + 1 + 1 + 1, 0, none⟩)]) (by simp) (by simp [go_sem]) ?_
  refine (catch_idleO _ _ _ _ _).mono ?_
  rintro e u' w2 ⟨rfl, rfl, rfl⟩
  have r0 : ((((((w1.setCell ⟨w.heap.size, 0, none⟩ (.int .i64 k)).setCell ⟨w.heap.size + 1, 0, none⟩ (.slice A1 t.length c1)).setCell ⟨w.heap.size, 0, none⟩ (.int .i64 k)).setCell ⟨w.heap.size + 1, 0, none⟩ (.slice A1 t.length c1)).setCell ⟨w.heap.size + 1 + 1, 0, none⟩ (.int .i64 s)).setCell ⟨w.heap.size + 1 + 1 + 1, 0, none⟩ (.int .i64 0)).cell? ⟨w.heap.size, 0, none⟩ = some (.int .i64 k) := (cs_other (by simp) (cs_other (by simp) (cs_other (by simp) (cs_same (cs_other (by simp) (cs_same q0))))))
  have r1 : ((((((w1.setCell ⟨w.heap.size, 0, none⟩ (.int .i64 k)).setCell ⟨w.heap.size + 1, 0, none⟩ (.slice A1 t.length c1)).setCell ⟨w.heap.size, 0, none⟩ (.int .i64 k)).setCell ⟨w.heap.size + 1, 0, none⟩ (.slice A1 t.length c1)).setCell ⟨w.heap.size + 1 + 1, 0, none⟩ (.int .i64 s)).setCell ⟨w.heap.size + 1 + 1 + 1, 0, none⟩ (.int .i64 0)).cell? ⟨w.heap.size + 1, 0, none⟩ = some (.slice A1 t.length c1) := (cs_other (by simp) (cs_other (by simp) (cs_same (cs_other (by simp) (cs_same (cs_other (by simp) q1))))))
  have r2 : ((((((w1.setCell ⟨w.heap.size, 0, none⟩ (.int .i64 k)).setCell ⟨w.heap.size + 1, 0, none⟩ (.slice A1 t.length c1)).setCell ⟨w.heap.size, 0, none⟩ (.int .i64 k)).setCell ⟨w.heap.size + 1, 0, none⟩ (.slice A1 t.length c1)).setCell ⟨w.heap.size + 1 + 1, 0, none⟩ (.int .i64 s)).setCell ⟨w.heap.size + 1 + 1 + 1, 0, none⟩ (.int .i64 0)).cell? ⟨w.heap.size + 1 + 1, 0, none⟩ = some (.int .i64 s) := (cs_other (by simp) (cs_same (cs_other (by simp) (cs_other (by simp) (cs_other (by simp) (cs_other (by simp) q2))))))
  have r3 : ((((((w1.setCell ⟨w.heap.size, 0, none⟩ (.int .i64 k)).setCell ⟨w.heap.size + 1, 0, none⟩ (.slice A1 t.length c1)).setCell ⟨w.heap.size, 0, none⟩ (.int .i64 k)).setCell ⟨w.heap.size + 1, 0, none⟩ (.slice A1 t.length c1)).setCell ⟨w.heap.size + 1 + 1, 0, none⟩ (.int .i64 s)).setCell ⟨w.heap.size + 1 + 1 + 1, 0, none⟩ (.int .i64 0)).cell? ⟨w.heap.size + 1 + 1 + 1, 0, none⟩ = some (.int .i64 0) := (cs_same (cs_other (by simp) (cs_other (by simp) (cs_other (by simp) (cs_other (by simp) (cs_other (by simp) q3))))))
  refine ⟨.tuple #[.int .i64 k, .slice A1 t.length c1, .int .i64 s, .int .i64 0], by simp [results, Try.results31, go_sem, r0, r1, r2, r3], _, rfl, ?_, ?_⟩
  · exact own_base ((ownsRow_setCell_below (ownsRow_setCell_below (ownsRow_setCell_below (ownsRow_setCell_below (ownsRow_setCell_below (ownsRow_setCell_below hown (a := ⟨w.heap.size, 0, none⟩) (show w.heap.size < w.heap.size + 1 + 1 + 1 + 1 + 1 from by omega) _) (a := ⟨w.heap.size + 1, 0, none⟩) (show w.heap.size + 1 < w.heap.size + 1 + 1 + 1 + 1 + 1 from by omega) _) (a := ⟨w.heap.size, 0, none⟩) (show w.heap.size < w.heap.size + 1 + 1 + 1 + 1 + 1 from by omega) _) (a := ⟨w.heap.size + 1, 0, none⟩) (show w.heap.size + 1 < w.heap.size + 1 + 1 + 1 + 1 + 1 from by omega) _) (a := ⟨w.heap.size + 1 + 1, 0, none⟩) (show w.heap.size + 1 + 1 < w.heap.size + 1 + 1 + 1 + 1 + 1 from by omega) _) (a := ⟨w.heap.size + 1 + 1 + 1, 0, none⟩) (show w.heap.size + 1 + 1 + 1 < w.heap.size + 1 + 1 + 1 + 1 + 1 from by omega) _)).drew (by omega)
  · exact ((((((hbel.setCell (p := ⟨w.heap.size, 0, none⟩) (Nat.le_refl _) _).setCell (p := ⟨w.heap.size + 1, 0, none⟩) (show w.heap.size ≤ w.heap.size + 1 from by omega) _).setCell (p := ⟨w.heap.size, 0, none⟩) (Nat.le_refl _) _).setCell (p := ⟨w.heap.size + 1, 0, none⟩) (show w.heap.size ≤ w.heap.size + 1 from by omega) _).setCell (p := ⟨w.heap.size + 1 + 1, 0, none⟩) (show w.heap.size ≤ w.heap.size + 1 + 1 from by omega) _).setCell (p := ⟨w.heap.size + 1 + 1 + 1, 0, none⟩) (show w.heap.size ≤ w.heap.size + 1 + 1 + 1 from by omega) _).drew
end Go.Proofs.Ytoljigllnhenoaa
