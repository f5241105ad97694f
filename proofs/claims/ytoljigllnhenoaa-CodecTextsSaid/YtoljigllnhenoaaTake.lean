/- TakeInt of the codec, with its deferred function. -/
import Derived.Test.YtoljigllnhenoaaNum
import Derived.Defers
import Derived.Recover
import Derived.Laws.Pointers
namespace Go.Proofs.Ytoljigllnhenoaa
open Go.RowKit

theorem ta71 (er : Int) (w : World) : (Instr.typeAssert (.iface 71 (.agg #[.int .i64 er])) 20 71 true).run Try.prog w = .ok (.tuple #[.agg #[.int .i64 er], .bool true]) w := by kernel_rfl

theorem reason_any (er : Int) (w : World) :
    Calls Try.prog 34 #[.iface 71 (.agg #[.int .i64 er])] w fun e w' => e = .returned (.int .i64 er) ∧ ∃ o, w' = w.alloc o := by
  have hta : (Instr.typeAssert (.iface 71 (.agg #[.int .i64 er])) 20 71 true).run Try.prog w = .ok (.tuple #[.agg #[.int .i64 er], .bool true]) w := ta71 er w
  go_enter Try.func34, Try.ntmps34
  go_wp2
  go_ret
  exact ⟨rfl, _, rfl⟩

theorem catch_idle (p q r : Addr) (w : World) :
    CallsD Try.prog 33 #[.pointer (some p), .pointer (some q), .pointer (some r)] .returning w fun e u' w' => e = .returned (.tuple #[]) ∧ u' = .returning ∧ w' = w := by
  refine callsD_of_wpS Try.func33 rfl fun c₀ cs hu => ?_
  apply wpS_seq
  apply wpS_region
  simp [wpOpsS, go_sem, recoverD, hu, Try.ntmps33, Exit.thenS]
  refine wpS_of_wp ?_
  go_wp2
  cases c₀
  simp_all [bodyPostS, results, Try.results33]

theorem catch_panicking (p q r : Nat) (er : Int) (x y z : Value) (w : World) (hp : w.cell? ⟨p, 0, none⟩ = some x) (hq : w.cell? ⟨q, 0, none⟩ = some y) (hr : w.cell? ⟨r, 0, none⟩ = some z)
    (fp : w.frozen? ⟨p, 0, none⟩ = false) (fq : w.frozen? ⟨q, 0, none⟩ = false) (fr : w.frozen? ⟨r, 0, none⟩ = false) (hpq : p ≠ q) (hpr : p ≠ r) (hqr : q ≠ r) :
    CallsD Try.prog 33 #[.pointer (some ⟨p, 0, none⟩), .pointer (some ⟨q, 0, none⟩), .pointer (some ⟨r, 0, none⟩)] (.panicking [{ v := .iface 71 (.agg #[.int .i64 er]), recovered := false }]) w fun e u' w' =>
      e = .returned (.tuple #[]) ∧ u' = .panicking [{ v := .iface 71 (.agg #[.int .i64 er]), recovered := true }] ∧
      ∃ o, w' = (((w.setCell ⟨p, 0, none⟩ (.int .i64 0)).setCell ⟨q, 0, none⟩ (.int .i64 0)).setCell ⟨r, 0, none⟩ (.int .i64 er)).alloc o := by
  refine callsD_of_wpS Try.func33 rfl fun c₀ cs hu => ?_
  apply wpS_seq
  apply wpS_region
  simp [wpOpsS, go_sem, recoverD, hu, Try.ntmps33, Exit.thenS]
  refine wpS_of_wp ?_
  simp only [Array.replicate, List.replicate, Array.setIfInBounds, List.size_toArray, List.length_cons, List.length_nil, Nat.reduceAdd, Nat.reduceLT, dite_true, List.set, Array.set, List.append_toArray, List.cons_append, List.nil_append]
  go_wp2_with fail
  refine (reason_any _ _).mono ?_
  rintro e w' ⟨rfl, o, rfl⟩
  have bp := World.block_lt_of_cell? w _ hp
  have bq := World.block_lt_of_cell? w _ hq
  have br := World.block_lt_of_cell? w _ hr
  have hp' : (w.alloc o).cell? ⟨p, 0, none⟩ = some x := by rw [World.cell?_alloc_lt w o _ bp]; exact hp
  have hq' : (w.alloc o).cell? ⟨q, 0, none⟩ = some y := by rw [World.cell?_alloc_lt w o _ bq]; exact hq
  have hr' : (w.alloc o).cell? ⟨r, 0, none⟩ = some z := by rw [World.cell?_alloc_lt w o _ br]; exact hr
  have fp' : (w.alloc o).frozen? ⟨p, 0, none⟩ = false := by rw [World.frozen?_of_block (w := w) (Below.heap_alloc w o _ bp)]; exact fp
  have fq' : (w.alloc o).frozen? ⟨q, 0, none⟩ = false := by rw [World.frozen?_of_block (w := w) (Below.heap_alloc w o _ bq)]; exact fq
  have fr' : (w.alloc o).frozen? ⟨r, 0, none⟩ = false := by rw [World.frozen?_of_block (w := w) (Below.heap_alloc w o _ br)]; exact fr
  go_wp2
  cases c₀
  simp_all [bodyPostS, results, Try.results33]
  exact ⟨_, rfl⟩

theorem number_ok (g : Nat) (A : Option Addr) (c : Nat) (l : List UInt8) (at_ z k : Nat) (w : World) (h : Dec w g A c l at_) (hat : at_ ≤ l.length) (hl : l.length ≤ 1000000000) (hz : takeZ 0 0 (l.drop at_) = .ok (z, k)) :
    Calls Try.prog 35 #[.pointer (some ⟨g, 0, none⟩)] w fun e w' => e = .returned (.int .i64 (unzig z)) ∧ Dec w' g A c l (at_ + k) ∧ w.grownBy w' (some g) :=
  (number_any g A c l at_ w h hat hl).mono fun e w' h => by
    obtain ⟨h1, h2⟩ := h
    rw [hz] at h2
    exact ⟨h2.1, h2.2, h1⟩
theorem number_err (g : Nat) (A : Option Addr) (c : Nat) (l : List UInt8) (at_ : Nat) (er : Int) (w : World) (h : Dec w g A c l at_) (hat : at_ ≤ l.length) (hl : l.length ≤ 1000000000) (hz : takeZ 0 0 (l.drop at_) = .error er) :
    Calls Try.prog 35 #[.pointer (some ⟨g, 0, none⟩)] w fun e w' => e = .panicked [{ v := .iface 71 (.agg #[.int .i64 er]), recovered := false }] ∧ w.grownBy w' (some g) :=
  (number_any g A c l at_ w h hat hl).mono fun e w' h => by
    obtain ⟨h1, h2⟩ := h
    rw [hz] at h2
    exact ⟨h2.1, h1⟩

theorem dec_new {w W : World} {A : Option Addr} {c : Nat} {l : List UInt8} (h : Reads w w.heap.size 1 A l.length (bv l)) (hb : Below w.heap.size w W) (hs : w.heap.size ≤ W.heap.size) (hc : l.length ≤ c) :
    Dec (W.alloc (.cells #[.slice A l.length c, .int .i64 0] 63)) W.heap.size A c l 0 :=
  ⟨Blk.new W 63 _, ((h.below hb).alloc hs _).more hs, hc⟩
theorem below3 (w : World) (a b c : Obj) : Below w.heap.size w (((w.alloc a).alloc b).alloc c) :=
  (((Below.refl _ w).alloc (Nat.le_refl _) a).alloc (by simp) b).alloc (by simp; omega) c

set_option maxHeartbeats 1000000 in
theorem takeInt_ok (A : Option Addr) (c : Nat) (l : List UInt8) (z k : Nat) (w : World) (h : Reads w w.heap.size 1 A l.length (bv l)) (hl : l.length ≤ 1000000000) (hlc : l.length ≤ c) (hz : takeZ 0 0 l = .ok (z, k)) :
    Calls Try.prog 13 #[.slice A l.length c] w fun e w' => e = .returned (.tuple #[.int .i64 (unzig z), .int .i64 k, .int .i64 0]) ∧ Below w.heap.size w w' := by
  have hmf : ∀ (fn : Fn) (first cap : Array Value) (w : World), (Instr.makeFunc fn first cap).run Try.prog w = .ok (.func fn first cap) w := fun _ _ _ _ => rfl
  have HZ := Lib.hid hz
  clear hz
  go_enter_defers Try.func13, Try.ntmps13
  go_wp2_with fail
  have hd0 := dec_new (c := c) h (below3 w (.cells #[.int .i64 0] 3) (.cells #[.int .i64 0] 3) (.cells #[.int .i64 0] 25)) (by simp; omega) hlc
  simp only [World.size_alloc] at hd0
  refine (number_ok (w.heap.size + 1 + 1 + 1) A c l 0 z k _ hd0 (by omega) hl (by rw [List.drop_zero]; exact HZ.out)).mono ?_
  rintro e w1 ⟨rfl, hd, hg⟩
  have b0 : Blk w1 w.heap.size 3 #[.int .i64 0] := ((((Blk.new w 3 #[.int .i64 0]).alloc _).alloc _).alloc _).grown hg (by simp; omega)
  have b1 : Blk w1 (w.heap.size + 1) 3 #[.int .i64 0] := by
    have := (((Blk.new (w.alloc (.cells #[.int .i64 0] 3)) 3 #[.int .i64 0]).alloc (.cells #[.int .i64 0] 25)).alloc (.cells #[.slice A l.length c, .int .i64 0] 63)).grown hg (by simp)
    simpa using this
  have b2 : Blk w1 (w.heap.size + 1 + 1) 25 #[.int .i64 0] := by
    have := ((Blk.new ((w.alloc (.cells #[.int .i64 0] 3)).alloc (.cells #[.int .i64 0] 3)) 25 #[.int .i64 0]).alloc (.cells #[.slice A l.length c, .int .i64 0] 63)).grown hg (by simp)
    simpa using this
  have hbel : Below w.heap.size w w1 := ((below3 w _ _ _).alloc (by simp; omega) _).grown hg (by simp; omega) (fun k hk => by injection hk; omega)
  have hs := hbel.size
  have q0 : w1.cell? ⟨w.heap.size, 0, none⟩ = some (.int .i64 0) := b0.cell 0
  have q1 : w1.cell? ⟨w.heap.size + 1, 0, none⟩ = some (.int .i64 0) := b1.cell 0
  have q2 : w1.cell? ⟨w.heap.size + 1 + 1, 0, none⟩ = some (.int .i64 0) := b2.cell 0
  have f0 := b0.frozen 0
  have f1 := b1.frozen 0
  have f2 := b2.frozen 0
  have q3 : w1.cell? ⟨w.heap.size + 1 + 1 + 1, 0 + 1, none⟩ = some (.int .i64 ((0 + k : Nat) : Int)) := hd.1.cell 1
  clear hg b0 b1 b2 hd hd0
  go_wp2
  go_region
  go_wp2
  refine leaves_cons (f := 33) (args := #[.pointer (some ⟨w.heap.size, 0, none⟩), .pointer (some ⟨w.heap.size + 1, 0, none⟩), .pointer (some ⟨w.heap.size + 1 + 1, 0, none⟩)]) (by simp) (by simp [go_sem]) ?_
  refine (catch_idle _ _ _ _).mono ?_
  rintro e u' w2 ⟨rfl, rfl, rfl⟩
  refine ⟨.tuple #[.int .i64 (unzig z), .int .i64 k, .int .i64 0], by simp [results, Try.results13, go_sem, q0, q1, q2], rfl, ?_⟩
  exact ((((hbel.setCell (p := ⟨w.heap.size, 0, none⟩) (Nat.le_refl _) _).setCell (p := ⟨w.heap.size, 0, none⟩) (Nat.le_refl _) _).setCell (p := ⟨w.heap.size + 1, 0, none⟩) (Nat.le_succ _) _).setCell (p := ⟨w.heap.size + 1 + 1, 0, none⟩) (Nat.le_trans (Nat.le_succ _) (Nat.le_succ _)) _).drew

set_option maxHeartbeats 1000000 in
theorem takeInt_err (A : Option Addr) (c : Nat) (l : List UInt8) (er : Int) (w : World) (h : Reads w w.heap.size 1 A l.length (bv l)) (hl : l.length ≤ 1000000000) (hlc : l.length ≤ c) (hz : takeZ 0 0 l = .error er) :
    Calls Try.prog 13 #[.slice A l.length c] w fun e w' => e = .returned (.tuple #[.int .i64 0, .int .i64 0, .int .i64 er]) ∧ Below w.heap.size w w' := by
  have hmf : ∀ (fn : Fn) (first cap : Array Value) (w : World), (Instr.makeFunc fn first cap).run Try.prog w = .ok (.func fn first cap) w := fun _ _ _ _ => rfl
  have HZ := Lib.hid hz
  clear hz
  go_enter_defers Try.func13, Try.ntmps13
  go_wp2_with fail
  have hd0 := dec_new (c := c) h (below3 w (.cells #[.int .i64 0] 3) (.cells #[.int .i64 0] 3) (.cells #[.int .i64 0] 25)) (by simp; omega) hlc
  simp only [World.size_alloc] at hd0
  refine (number_err (w.heap.size + 1 + 1 + 1) A c l 0 er _ hd0 (by omega) hl (by rw [List.drop_zero]; exact HZ.out)).mono ?_
  rintro e w1 ⟨rfl, hg⟩
  have b0 : Blk w1 w.heap.size 3 #[.int .i64 0] := ((((Blk.new w 3 #[.int .i64 0]).alloc _).alloc _).alloc _).grown hg (by simp; omega)
  have b1 : Blk w1 (w.heap.size + 1) 3 #[.int .i64 0] := by
    have := (((Blk.new (w.alloc (.cells #[.int .i64 0] 3)) 3 #[.int .i64 0]).alloc (.cells #[.int .i64 0] 25)).alloc (.cells #[.slice A l.length c, .int .i64 0] 63)).grown hg (by simp)
    simpa using this
  have b2 : Blk w1 (w.heap.size + 1 + 1) 25 #[.int .i64 0] := by
    have := ((Blk.new ((w.alloc (.cells #[.int .i64 0] 3)).alloc (.cells #[.int .i64 0] 3)) 25 #[.int .i64 0]).alloc (.cells #[.slice A l.length c, .int .i64 0] 63)).grown hg (by simp)
    simpa using this
  have hbel : Below w.heap.size w w1 := ((below3 w _ _ _).alloc (by simp; omega) _).grown hg (by simp; omega) (fun k hk => by injection hk; omega)
  have hs := hbel.size
  have q0 : w1.cell? ⟨w.heap.size, 0, none⟩ = some (.int .i64 0) := b0.cell 0
  have q1 : w1.cell? ⟨w.heap.size + 1, 0, none⟩ = some (.int .i64 0) := b1.cell 0
  have q2 : w1.cell? ⟨w.heap.size + 1 + 1, 0, none⟩ = some (.int .i64 0) := b2.cell 0
  have f0 := b0.frozen 0
  have f1 := b1.frozen 0
  have f2 := b2.frozen 0
  have l2 := b2.lt
  clear hg b0 b1 b2 hd0
  go_wp2
  refine leaves_cons (f := 33) (args := #[.pointer (some ⟨w.heap.size, 0, none⟩), .pointer (some ⟨w.heap.size + 1, 0, none⟩), .pointer (some ⟨w.heap.size + 1 + 1, 0, none⟩)]) (by simp) (by simp [go_sem]) ?_
  refine (catch_panicking w.heap.size (w.heap.size + 1) (w.heap.size + 1 + 1) er _ _ _ _ q0 q1 q2 f0 f1 f2 (by omega) (by omega) (by omega)).mono ?_
  rintro e u' w2 ⟨rfl, rfl, o, rfl⟩
  refine ⟨.tuple #[.int .i64 0, .int .i64 0, .int .i64 er], ?_, rfl, ?_⟩
  · have z0 : w.heap.size < w1.heap.size := by omega
    have z1 : w.heap.size + 1 < w1.heap.size := by omega
    simp [results, Try.results13, go_sem, World.cell?_alloc_past, q0, q1, q2, z0, z1, l2]
  exact (((hbel.setCell (p := ⟨w.heap.size, 0, none⟩) (Nat.le_refl _) _).setCell (p := ⟨w.heap.size + 1, 0, none⟩) (Nat.le_succ _) _).setCell (p := ⟨w.heap.size + 1 + 1, 0, none⟩) (Nat.le_trans (Nat.le_succ _) (Nat.le_succ _)) _).alloc (by simpa [World.setCell] using hs) _
end Go.Proofs.Ytoljigllnhenoaa
