/- What functions of the program and of the reference compute, on values. No statement is proved here. -/
import Derived.Test.YtnocibbhognbeaaGreatDoorTxE
set_option linter.unusedSimpArgs false
set_option linter.unusedVariables false
namespace Go.Proofs.YtnocibbhognbeaaGreatDoor
open Go Go.EvL Go.RowKit Go.Shelf
theorem ex02 : sBN.extract 0 2 = sBN := by decide +kernel
theorem ex22 : sBN.extract 2 2 = ⟨#[]⟩ := by decide +kernel
theorem emp : sBN.toList.isEmpty = false := by decide +kernel
attribute [local go_sem] ex02 ex22 emp
theorem grown_of_below {W W' : World} (h : Below W.heap.size W W') : W.grownBy W' none := ⟨h.os, h.tape, h.output, h.size, fun i hi _ => h.block i hi⟩
set_option maxRecDepth 100000 in
set_option maxHeartbeats 2000000 in
theorem stops86 (F : Fence) (n : Nat) (h86 : F.fn 86) (hro : F.round = none) (hn : 1 ≤ n) (hw87 : F = Fence.wide) (B0 B1 : Nat) (w : World) (hg : 8 ≤ w.heap.size) (hs : w.cell? ⟨B0, 0, none⟩ = some (.string sBN)) (he : w.cell? ⟨B1, 0, none⟩ = some (.int .i64 0)) :
    SeqStopsK F n Tryz.prog 86 #[.pointer (some ⟨B0, 0, none⟩), .pointer (some ⟨B1, 0, none⟩)] (fun _ : Unit => #[.string sBN]) (fun _ _ => True) (fun xs => xs = [()]) (fun _ => True) 1 w := fun l J Jx W hW hJ hJx hY h0 => by
  subst hw87
  have hs' : W.cell? ⟨B0, 0, none⟩ = some (.string sBN) := (hW.cell (p := ⟨B0, 0, none⟩) (World.block_lt_of_cell? w _ hs)).trans hs
  have he' : W.cell? ⟨B1, 0, none⟩ = some (.int .i64 0) := (hW.cell (p := ⟨B1, 0, none⟩) (World.block_lt_of_cell? w _ he)).trans he
  refine callsIn_of_wp Tryz.func86 rfl h86 ?_ hro
  simp only [Tryz.ntmps86, List.size_toArray, List.length_cons, List.length_nil, Nat.reduceAdd, Nat.reduceSub, Array.replicate_succ, Array.replicate_zero, List.push_toArray, List.append_toArray, List.nil_append, List.cons_append]
  gi_wp2
  refine wpIn_loop_rounds 2 ?_
  rw [roundsIn_succ]
  gi_wp2
  refine ⟨trivial, (callsIn_wide.2 (ind87 W (Nat.le_trans hg hW.size))).mono ?_⟩
  rintro e W1 ⟨rfl, hb1⟩
  have h1 : J [] W1 := hJ [] W W1 none h0 (grown_of_below hb1) (fun r e => by cases e)
  obtain ⟨f1, t1, a1, b1, hy1, hR1⟩ := hY [] () W1 h1 (by simp)
  gi_wp2
  refine hR1.mono ?_
  rintro e W3 (⟨rfl, hJ3, _⟩ | ⟨rfl, hJx3⟩)
  · gi_wp2
    rw [roundsIn_succ]
    gi_wp2
    go_end0
    exact ⟨⟨_, rfl⟩, .inl ⟨_, rfl, hJ3⟩⟩
  · gi_wp2
    refine bodyPost_ret (results_none rfl _ _ _) rfl ?_
    exact ⟨⟨_, rfl⟩, .inr ⟨_, trivial, hJx3⟩⟩
end Go.Proofs.YtnocibbhognbeaaGreatDoor
