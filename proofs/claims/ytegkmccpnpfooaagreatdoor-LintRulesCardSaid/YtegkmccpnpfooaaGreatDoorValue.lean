/- What slices.Backward over one entry and the lookup of a variable compute. No statement is proved here. -/
import Derived.Test.YtegkmccpnpfooaaGreatDoorLayOwn
import Derived.Test.YtegkmccpnpfooaaGreatDoorEvF
import Derived.RangeFuncFrom
import Derived.RangeFuncCalls
import Derived.RangeFuncLeaves
import Derived.TacticsInMore
import Derived.BigFrameIn
import Derived.Shelf.RegionOpen
import Derived.RegionIn
import Derived.LoopIn
import Derived.LoopNIn
import Derived.WalkKit
namespace Go.Proofs.YtegkmccpnpfooaaGreatDoor
open Go Go.EvL Go.RowKit Go.Shelf
set_option maxHeartbeats 1000000 in
theorem back65 (F : Fence) (n : Nat) (h65 : F.fn 65) (hro : F.round = none) (a : Option Addr) (l c : Nat) (w : World) :
    CallsIn F n Tryz.prog 65 #[.slice a l c] w fun e w' => e = .returned (.func (.func 107) #[] #[.pointer (some ⟨w.heap.size, 0, none⟩)]) ∧ w' = w.alloc (.cells #[.slice a l c] 35) := by
  refine callsIn_of_wp Tryz.func65 rfl h65 ?_ hro
  simp only [Tryz.ntmps65, List.size_toArray, List.length_cons, List.length_nil, Nat.reduceAdd, Nat.reduceSub, Array.replicate_succ, Array.replicate_zero, List.push_toArray, List.append_toArray, List.nil_append, List.cons_append]
  gi_wp2
  go_ret
  exact ⟨rfl, rfl⟩
set_option maxRecDepth 100000 in
set_option maxHeartbeats 2000000 in
theorem back_stops (F : Fence) (n : Nat) (h107 : F.fn 107) (hro : F.round = none) (hn : 1 ≤ n) (Bs vb vo vc : Nat) (e : ByteArray) (w : World) (hs : w.cell? ⟨Bs, 0, none⟩ = some (.slice (some ⟨vb, vo, none⟩) 1 vc)) (he : w.cell? ⟨vb, vo, none⟩ = some (.string e)) :
    SeqStopsK F n Tryz.prog 107 #[.pointer (some ⟨Bs, 0, none⟩)] (fun _ : Unit => #[.int .i64 0, .string e]) (fun _ _ => True) (fun xs => xs ≠ []) (fun _ => True) 1 w := fun l J Jx W hW hJ hJx hY h0 => by
  have hs' : W.cell? ⟨Bs, 0, none⟩ = some (.slice (some ⟨vb, vo, none⟩) 1 vc) := (hW.cell (p := ⟨Bs, 0, none⟩) (World.block_lt_of_cell? w _ hs)).trans hs
  have he' : W.cell? ⟨vb, vo, none⟩ = some (.string e) := (hW.cell (p := ⟨vb, vo, none⟩) (World.block_lt_of_cell? w _ he)).trans he
  refine callsIn_of_wp Tryz.func107 rfl h107 ?_ hro
  simp only [Tryz.ntmps107, List.size_toArray, List.length_cons, List.length_nil, Nat.reduceAdd, Nat.reduceSub, Array.replicate_succ, Array.replicate_zero, List.push_toArray, List.append_toArray, List.nil_append, List.cons_append]
  obtain ⟨f1, t1, a1, b1, hy1, hR1⟩ := hY [] () W h0 (by simp)
  gi_wp2
  refine wpIn_loop_rounds 2 ?_
  rw [roundsIn_succ]
  gi_wp2
  refine hR1.mono ?_
  rintro e W3 (⟨rfl, hJ3, _⟩ | ⟨rfl, hJx3⟩)
  · gi_wp2
    rw [roundsIn_succ]
    gi_wp2
    go_end0
    exact ⟨⟨_, rfl⟩, .inl ⟨_, by simp, hJ3⟩⟩
  · gi_wp2
    refine bodyPost_ret (results_none rfl _ _ _) rfl ?_
    exact ⟨⟨_, rfl⟩, .inr ⟨_, trivial, hJx3⟩⟩
end Go.Proofs.YtegkmccpnpfooaaGreatDoor

namespace Go.Proofs.YtegkmccpnpfooaaGreatDoor
open Go Go.EvL Go.RowKit Go.Shelf
set_option maxRecDepth 1000000 in
theorem prog_env : Env Tryz.prog := env_of 157 (by kernel_rfl) (by kernel_rfl) (fun v w => by kernel_rfl)
set_option maxRecDepth 1000000 in
theorem prog_tys : Tys Tryz.prog := tys_of (by kernel_rfl)
theorem nglob : Tryz.prog.globals.size = 3 := by kernel_rfl
theorem nmix : Tryz.prog.follows .mixedOrders = true := by kernel_rfl
set_option maxRecDepth 1000000 in
theorem cut_ok : closedVal Tryz.prog noOrc [] 100 66 [.string ⟨#[120, 61, 97]⟩, .string ⟨#[120, 61]⟩] = some (.tuple #[.string ⟨#[97]⟩, .bool true]) := by kernel_rfl
theorem cut66 (w : World) (hw : 3 ≤ w.heap.size) : Calls Tryz.prog 66 #[.string ⟨#[120, 61, 97]⟩, .string ⟨#[120, 61]⟩] w fun e w' => e = .returned (.tuple #[.string ⟨#[97]⟩, .bool true]) ∧ Below w.heap.size w w' :=
  closed_val prog_env prog_tys nmix (noOrcOK _) (by rw [nglob]; decide) [] (fun x hx => by cases hx) cut_ok w (by rw [nglob]; exact hw) (fun x hx => by cases hx)
set_option maxRecDepth 1000000 in
theorem cut_no : closedVal Tryz.prog noOrc [] 100 66 [.string ⟨#[120, 61, 97]⟩, .string ⟨#[73, 70, 83, 61]⟩] = some (.tuple #[.string ⟨#[120, 61, 97]⟩, .bool false]) := by kernel_rfl
theorem cutMiss (w : World) (hw : 3 ≤ w.heap.size) : Calls Tryz.prog 66 #[.string ⟨#[120, 61, 97]⟩, .string ⟨#[73, 70, 83, 61]⟩] w fun e w' => e = .returned (.tuple #[.string ⟨#[120, 61, 97]⟩, .bool false]) ∧ Below w.heap.size w w' :=
  closed_val prog_env prog_tys nmix (noOrcOK _) (by rw [nglob]; decide) [] (fun x hx => by cases hx) cut_no w (by rw [nglob]; exact hw) (fun x hx => by cases hx)
theorem cell_of_box51 {W : World} {B : Nat} {v : Value} {t : TypeId} (h : W.heap[B]? = some (.cells #[v] t (0, 0))) : W.cell? ⟨B, 0, none⟩ = some v ∧ W.frozen? ⟨B, 0, none⟩ = false := by
  simp [World.cell?, World.frozen?, h]
set_option maxRecDepth 100000 in
set_option maxHeartbeats 2000000 in
theorem value_one (b o vb vo vc : Nat) (w : World) (hg : 3 ≤ w.heap.size) (h1 : w.cell? ⟨b, o + 2, none⟩ = some (.slice (some ⟨vb, vo, none⟩) 1 vc)) (h2 : w.cell? ⟨vb, vo, none⟩ = some (.string ⟨#[120, 61, 97]⟩)) :
    Calls Tryz.prog 26 #[.pointer (some ⟨b, o, none⟩), .string ⟨#[120]⟩] w fun e w' => e = .returned (.tuple #[.string ⟨#[97]⟩, .bool true]) ∧ Below w.heap.size w w' := by
  have hbl : b < w.heap.size := World.block_lt_of_cell? w _ h1
  have hvl : vb < w.heap.size := World.block_lt_of_cell? w _ h2
  obtain ⟨W0, hW0⟩ : ∃ W0, ((w.alloc (.cells #[.string ⟨#[120]⟩] 9)).alloc (.cells #[.string ⟨#[]⟩] 9)).alloc (.cells #[.bool false] 4) = W0 := ⟨_, rfl⟩
  have hs0 : W0.heap.size = w.heap.size + 3 := by rw [← hW0]; simp
  have hb0 : Below w.heap.size w W0 := by
    rw [← hW0]; exact ((((Below.refl _ w).alloc (Nat.le_refl _) _).alloc (by simp) _).alloc (by simp; omega) _)
  have h1' : W0.cell? ⟨b, o + 2, none⟩ = some (.slice (some ⟨vb, vo, none⟩) 1 vc) := (hb0.cell (p := ⟨b, o + 2, none⟩) hbl).trans h1
  have h2' : W0.cell? ⟨vb, vo, none⟩ = some (.string ⟨#[120, 61, 97]⟩) := (hb0.cell (p := ⟨vb, vo, none⟩) hvl).trans h2
  refine (callsIn_wide (n := 9)).1 ?_
  refine callsIn_of_wp_marks Tryz.func26 rfl trivial ?_ rfl
  simp only [Tryz.ntmps26, List.size_toArray, List.length_cons, List.length_nil, Nat.reduceAdd, Nat.reduceSub, Array.replicate_succ, Array.replicate_zero, List.push_toArray, List.append_toArray, List.nil_append, List.cons_append]
  gi_wp2_with (rw [hW0]; gi_in)
  refine ⟨trivial, (back65 Fence.wide _ trivial rfl _ _ _ _).mono ?_⟩
  rintro e w' ⟨rfl, rfl⟩
  have hB0 : W0.heap[w.heap.size]? = some (.cells #[.string ⟨#[120]⟩] 9 (0, 0)) := by
    rw [← hW0]; exact ((Below.heap_alloc _ _ _ (by simp; omega)).trans (Below.heap_alloc _ _ _ (by simp))).trans (World.alloc_heap_new w _)
  have hB1 : W0.heap[w.heap.size + 1]? = some (.cells #[.string ⟨#[]⟩] 9 (0, 0)) := by
    rw [← hW0]; refine (Below.heap_alloc _ _ _ (by simp)).trans ?_
    have := World.alloc_heap_new (w.alloc (.cells #[.string ⟨#[120]⟩] 9)) (.cells #[.string ⟨#[]⟩] 9); rwa [World.size_alloc] at this
  have hB2 : W0.heap[w.heap.size + 1 + 1]? = some (.cells #[.bool false] 4 (0, 0)) := by
    rw [← hW0]; have := World.alloc_heap_new ((w.alloc (.cells #[.string ⟨#[120]⟩] 9)).alloc (.cells #[.string ⟨#[]⟩] 9)) (.cells #[.bool false] 4); rwa [World.size_alloc, World.size_alloc] at this
  have hc0 : W0.cell? ⟨w.heap.size, 0, none⟩ = some (.string ⟨#[120]⟩) := (cell_of_box51 hB0).1
  have hc1 : W0.cell? ⟨w.heap.size + 1, 0, none⟩ = some (.string ⟨#[]⟩) := (cell_of_box51 hB1).1
  have hc2 : W0.cell? ⟨w.heap.size + 1 + 1, 0, none⟩ = some (.bool false) := (cell_of_box51 hB2).1
  have hf1 : W0.frozen? ⟨w.heap.size + 1, 0, none⟩ = false := (cell_of_box51 hB1).2
  have hf2 : W0.frozen? ⟨w.heap.size + 1 + 1, 0, none⟩ = false := (cell_of_box51 hB2).2
  clear hW0
  obtain ⟨W1, hW1⟩ : ∃ W1, W0.alloc (.cells #[.slice (some ⟨vb, vo, none⟩) 1 vc] 35) = W1 := ⟨_, rfl⟩
  have hs1 : W1.heap.size = w.heap.size + 4 := by rw [← hW1]; simp; omega
  have hb01 : Below W0.heap.size W0 W1 := by rw [← hW1]; exact (Below.refl _ _).alloc (Nat.le_refl _) _
  have hb1 : Below w.heap.size w W1 := hb0.trans (hb01.mono (by omega))
  have hcs : W1.cell? ⟨w.heap.size + 3, 0, none⟩ = some (.slice (some ⟨vb, vo, none⟩) 1 vc) := by rw [← hW1, ← hs0]; simp
  have hce : W1.cell? ⟨vb, vo, none⟩ = some (.string ⟨#[120, 61, 97]⟩) := (hb1.cell (p := ⟨vb, vo, none⟩) hvl).trans h2
  have hc0 := (hb01.cell (p := ⟨w.heap.size, 0, none⟩) (by show w.heap.size < _; omega)).trans hc0
  have hc1 := (hb01.cell (p := ⟨w.heap.size + 1, 0, none⟩) (by show w.heap.size + 1 < _; omega)).trans hc1
  have hc2 := (hb01.cell (p := ⟨w.heap.size + 1 + 1, 0, none⟩) (by show w.heap.size + 1 + 1 < _; omega)).trans hc2
  have hf1 := (World.frozen?_of_block (a := ⟨w.heap.size + 1, 0, none⟩) (hb01.block (w.heap.size + 1) (by omega))).trans hf1
  have hf2 := (World.frozen?_of_block (a := ⟨w.heap.size + 1 + 1, 0, none⟩) (hb01.block (w.heap.size + 1 + 1) (by omega))).trans hf2
  rw [hW1, hs0]
  clear hW1
  gi_wp2
  refine wpIn_rangeFunc_ownF rfl (by decide) (gf := 107) (lb := #[.pointer (some ⟨w.heap.size + 3, 0, none⟩)]) rfl trivial (enters_of Tryz.func107 (by kernel_rfl) rfl)
    (back_stops Fence.wide _ trivial rfl (by decide) (w.heap.size + 3) vb vo vc ⟨#[120, 61, 97]⟩ W1 hcs hce) (fun _ _ => trivial) (fun _ _ _ _ _ _ _ _ => trivial) (Below.refl _ _) (fun _ => rfl)
    (fun pre W => pre = [] ∧ Below w.heap.size w W ∧ W.cell? ⟨w.heap.size, 0, none⟩ = some (.string ⟨#[120]⟩) ∧ W.cell? ⟨w.heap.size + 1, 0, none⟩ = some (.string ⟨#[]⟩) ∧ W.cell? ⟨w.heap.size + 1 + 1, 0, none⟩ = some (.bool false) ∧
      W.frozen? ⟨w.heap.size + 1, 0, none⟩ = false ∧ W.frozen? ⟨w.heap.size + 1 + 1, 0, none⟩ = false)
    (fun c _ W => c = .ret ∧ Below w.heap.size w W ∧ W.cell? ⟨w.heap.size + 1, 0, none⟩ = some (.string ⟨#[97]⟩) ∧ W.cell? ⟨w.heap.size + 1 + 1, 0, none⟩ = some (.bool true))
    ?ownI ?ownX ⟨rfl, hb1, hc0, hc1, hc2, hf1, hf2⟩ (fun _ => { tmps := #[Value.pointer (some { block := b, off := o }), Value.string { data := #[120] }, undef,
          Value.pointer (some { block := w.heap.size, off := 0 }),
          Value.pointer (some { block := w.heap.size + 1, off := 0 }),
          Value.pointer (some { block := w.heap.size + 1 + 1, off := 0 }), undef, .string ⟨#[120, 61, 97]⟩, undef, undef,
          Value.pointer (some { block := b, off := o }), Value.pointer (some { block := b, off := o }),
          Value.pointer (some { block := b, off := o }), Value.pointer (some { block := b, off := o + 2 }),
          Value.slice (some { block := vb, off := vo }) 1 vc,
          Value.func (Fn.func 107) #[] #[Value.pointer (some { block := w.heap.size + 3, off := 0 })], .int .i64 0, .string ⟨#[120, 61, 97]⟩,
          undef, undef, undef, undef, undef, undef, undef, undef, undef], defers := [] }) ?assign ?body ?done ?stop
  case ownI =>
    rintro s A B row ⟨e1, e2, e3, e4, e5, e6, e7⟩ hg hr
    have hr' : ∀ r, row = some r → ∃ o : Obj, A.heap[r]? = some o ∧ o.isCells = false := fun r e => (hr r e).2
    exact ⟨e1, e2.grown hg e2.size (fun k e => by have := (hr k e).1; omega), cell_kept e3 hg hr', cell_kept e4 hg hr', cell_kept e5 hg hr', (frozen_kept e4 hg hr').trans e6, (frozen_kept e5 hg hr').trans e7⟩
  case ownX =>
    rintro c s A B row ⟨e1, e2, e3, e4⟩ hg hr
    have hr' : ∀ r, row = some r → ∃ o : Obj, A.heap[r]? = some o ∧ o.isCells = false := fun r e => (hr r e).2
    exact ⟨e1, e2.grown hg e2.size (fun k e => by have := (hr k e).1; omega), cell_kept e3 hg hr', cell_kept e4 hg hr'⟩
  case assign =>
    intro l x W K hK
    gi_wp2_with (rw [Oper.semAt_eq _ _ _ (fun c h => by cases h)]; go_simp; try go_bits)
    exact hK
  case body =>
    rintro l pre x W ⟨rfl, hb, q0, q1, q2, r1, r2⟩ _
    gi_wp2_with (rw [Oper.semAt_eq _ _ _ (fun c h => by cases h)]; go_simp; try go_bits)
    refine ⟨trivial, (CallsIn.inRound l (callsIn_wide.2 (cut66 W (Nat.le_trans hg hb.size)))).mono ?_⟩
    rintro e W' ⟨rfl, hW'⟩
    have lt1 := World.block_lt_of_cell? W _ q1
    have lt2 := World.block_lt_of_cell? W _ q2
    have p1 := (hW'.cell (p := ⟨w.heap.size + 1, 0, none⟩) lt1).trans q1
    have p2 := (hW'.cell (p := ⟨w.heap.size + 1 + 1, 0, none⟩) lt2).trans q2
    have s1 := (World.frozen?_of_block (a := ⟨w.heap.size + 1, 0, none⟩) (hW'.block (w.heap.size + 1) lt1)).trans r1
    have s2 := (World.frozen?_of_block (a := ⟨w.heap.size + 1 + 1, 0, none⟩) (hW'.block (w.heap.size + 1 + 1) lt2)).trans r2
    gi_wp2_with (rw [Oper.semAt_eq _ _ _ (fun c h => by cases h)]; go_simp; try go_bits)
    have hko : KeepsOthers W W' := ⟨hW'.size, fun k o hk _ => (hW'.block k (Array.getElem?_eq_some_iff.1 hk).1).trans hk⟩
    refine ⟨(hko.trans (KeepsOthers.setCell _ _ _)).trans (KeepsOthers.setCell _ _ _), rfl, ?_, ?_, ?_⟩
    · have hbW' : Below w.heap.size w W' := hb.trans (hW'.mono hb.size)
      exact (hbW'.setCell (by show w.heap.size ≤ w.heap.size + 1; omega) _).setCell (by show w.heap.size ≤ w.heap.size + 1 + 1; omega) _
    · exact (World.cell?_setCell_other _ _ _ _ (fun h => by injection h with h; omega)).trans (World.cell?_setCell_same' _ _ _ (by rw [p1]; rfl))
    · refine World.cell?_setCell_same' _ _ _ ?_
      rw [(World.cell?_setCell_other _ _ _ _ (fun h => by injection h with h; omega)).trans p2]; rfl
  case done =>
    rintro D xs W _ hx ⟨rfl, _⟩ _
    exact absurd rfl hx
  case stop =>
    rintro D c pre W hD _ ⟨rfl, hb, q1, q2⟩ hK
    gi_wp2
    refine ⟨by simp, .inl ⟨_, _, rfl, run_takeDeferred hK, ?_⟩⟩
    have hr : ∀ r, some D = some r → ∃ o : Obj, W.heap[r]? = some o ∧ o.isCells = false := fun r e => by cases e; exact ⟨_, hK, rfl⟩
    have c1 := cell_kept q1 (grownBy_putObj' _ D (.deferred none)) hr
    have c2 := cell_kept q2 (grownBy_putObj' _ D (.deferred none)) hr
    have hDl := (Array.getElem?_eq_some_iff.1 hK).1
    refine ⟨.tuple #[.string ⟨#[97]⟩, .bool true], ?_, rfl, hb.grown (grownBy_putObj' _ D (.deferred none)) hb.size (fun k e => by cases e; omega)⟩
    simp [results, Tryz.f26, go_sem, c1, c2]
set_option maxRecDepth 100000 in
set_option maxHeartbeats 2000000 in
theorem value_miss (b o vb vo vc : Nat) (w : World) (hg : 3 ≤ w.heap.size) (h1 : w.cell? ⟨b, o + 2, none⟩ = some (.slice (some ⟨vb, vo, none⟩) 1 vc)) (h2 : w.cell? ⟨vb, vo, none⟩ = some (.string ⟨#[120, 61, 97]⟩)) :
    Calls Tryz.prog 26 #[.pointer (some ⟨b, o, none⟩), .string ⟨#[73, 70, 83]⟩] w fun e w' => e = .returned (.tuple #[.string ⟨#[]⟩, .bool false]) ∧ Below w.heap.size w w' := by
  have hbl : b < w.heap.size := World.block_lt_of_cell? w _ h1
  have hvl : vb < w.heap.size := World.block_lt_of_cell? w _ h2
  obtain ⟨W0, hW0⟩ : ∃ W0, ((w.alloc (.cells #[.string ⟨#[73, 70, 83]⟩] 9)).alloc (.cells #[.string ⟨#[]⟩] 9)).alloc (.cells #[.bool false] 4) = W0 := ⟨_, rfl⟩
  have hs0 : W0.heap.size = w.heap.size + 3 := by rw [← hW0]; simp
  have hb0 : Below w.heap.size w W0 := by
    rw [← hW0]; exact ((((Below.refl _ w).alloc (Nat.le_refl _) _).alloc (by simp) _).alloc (by simp; omega) _)
  have h1' : W0.cell? ⟨b, o + 2, none⟩ = some (.slice (some ⟨vb, vo, none⟩) 1 vc) := (hb0.cell (p := ⟨b, o + 2, none⟩) hbl).trans h1
  have h2' : W0.cell? ⟨vb, vo, none⟩ = some (.string ⟨#[120, 61, 97]⟩) := (hb0.cell (p := ⟨vb, vo, none⟩) hvl).trans h2
  refine (callsIn_wide (n := 9)).1 ?_
  refine callsIn_of_wp_marks Tryz.func26 rfl trivial ?_ rfl
  simp only [Tryz.ntmps26, List.size_toArray, List.length_cons, List.length_nil, Nat.reduceAdd, Nat.reduceSub, Array.replicate_succ, Array.replicate_zero, List.push_toArray, List.append_toArray, List.nil_append, List.cons_append]
  gi_wp2_with (rw [hW0]; gi_in)
  refine ⟨trivial, (back65 Fence.wide _ trivial rfl _ _ _ _).mono ?_⟩
  rintro e w' ⟨rfl, rfl⟩
  have hB0 : W0.heap[w.heap.size]? = some (.cells #[.string ⟨#[73, 70, 83]⟩] 9 (0, 0)) := by
    rw [← hW0]; exact ((Below.heap_alloc _ _ _ (by simp; omega)).trans (Below.heap_alloc _ _ _ (by simp))).trans (World.alloc_heap_new w _)
  have hB1 : W0.heap[w.heap.size + 1]? = some (.cells #[.string ⟨#[]⟩] 9 (0, 0)) := by
    rw [← hW0]; refine (Below.heap_alloc _ _ _ (by simp)).trans ?_
    have := World.alloc_heap_new (w.alloc (.cells #[.string ⟨#[73, 70, 83]⟩] 9)) (.cells #[.string ⟨#[]⟩] 9); rwa [World.size_alloc] at this
  have hB2 : W0.heap[w.heap.size + 1 + 1]? = some (.cells #[.bool false] 4 (0, 0)) := by
    rw [← hW0]; have := World.alloc_heap_new ((w.alloc (.cells #[.string ⟨#[73, 70, 83]⟩] 9)).alloc (.cells #[.string ⟨#[]⟩] 9)) (.cells #[.bool false] 4); rwa [World.size_alloc, World.size_alloc] at this
  have hc0 : W0.cell? ⟨w.heap.size, 0, none⟩ = some (.string ⟨#[73, 70, 83]⟩) := (cell_of_box51 hB0).1
  have hc1 : W0.cell? ⟨w.heap.size + 1, 0, none⟩ = some (.string ⟨#[]⟩) := (cell_of_box51 hB1).1
  have hc2 : W0.cell? ⟨w.heap.size + 1 + 1, 0, none⟩ = some (.bool false) := (cell_of_box51 hB2).1
  have hf1 : W0.frozen? ⟨w.heap.size + 1, 0, none⟩ = false := (cell_of_box51 hB1).2
  have hf2 : W0.frozen? ⟨w.heap.size + 1 + 1, 0, none⟩ = false := (cell_of_box51 hB2).2
  clear hW0
  obtain ⟨W1, hW1⟩ : ∃ W1, W0.alloc (.cells #[.slice (some ⟨vb, vo, none⟩) 1 vc] 35) = W1 := ⟨_, rfl⟩
  have hs1 : W1.heap.size = w.heap.size + 4 := by rw [← hW1]; simp; omega
  have hb01 : Below W0.heap.size W0 W1 := by rw [← hW1]; exact (Below.refl _ _).alloc (Nat.le_refl _) _
  have hb1 : Below w.heap.size w W1 := hb0.trans (hb01.mono (by omega))
  have hcs : W1.cell? ⟨w.heap.size + 3, 0, none⟩ = some (.slice (some ⟨vb, vo, none⟩) 1 vc) := by rw [← hW1, ← hs0]; simp
  have hce : W1.cell? ⟨vb, vo, none⟩ = some (.string ⟨#[120, 61, 97]⟩) := (hb1.cell (p := ⟨vb, vo, none⟩) hvl).trans h2
  have hc0 := (hb01.cell (p := ⟨w.heap.size, 0, none⟩) (by show w.heap.size < _; omega)).trans hc0
  have hc1 := (hb01.cell (p := ⟨w.heap.size + 1, 0, none⟩) (by show w.heap.size + 1 < _; omega)).trans hc1
  have hc2 := (hb01.cell (p := ⟨w.heap.size + 1 + 1, 0, none⟩) (by show w.heap.size + 1 + 1 < _; omega)).trans hc2
  have hf1 := (World.frozen?_of_block (a := ⟨w.heap.size + 1, 0, none⟩) (hb01.block (w.heap.size + 1) (by omega))).trans hf1
  have hf2 := (World.frozen?_of_block (a := ⟨w.heap.size + 1 + 1, 0, none⟩) (hb01.block (w.heap.size + 1 + 1) (by omega))).trans hf2
  rw [hW1, hs0]
  clear hW1
  gi_wp2
  refine wpIn_rangeFunc_ownF rfl (by decide) (gf := 107) (lb := #[.pointer (some ⟨w.heap.size + 3, 0, none⟩)]) rfl trivial (enters_of Tryz.func107 (by kernel_rfl) rfl)
    (back_stops Fence.wide _ trivial rfl (by decide) (w.heap.size + 3) vb vo vc ⟨#[120, 61, 97]⟩ W1 hcs hce) (fun _ _ => trivial) (fun _ _ _ _ _ _ _ _ => trivial) (Below.refl _ _) (fun _ => rfl)
    (fun _ W => Below w.heap.size w W ∧ W.cell? ⟨w.heap.size, 0, none⟩ = some (.string ⟨#[73, 70, 83]⟩) ∧ W.cell? ⟨w.heap.size + 1, 0, none⟩ = some (.string ⟨#[]⟩) ∧ W.cell? ⟨w.heap.size + 1 + 1, 0, none⟩ = some (.bool false) ∧
      W.frozen? ⟨w.heap.size + 1, 0, none⟩ = false ∧ W.frozen? ⟨w.heap.size + 1 + 1, 0, none⟩ = false)
    (fun _ _ _ => False)
    ?ownI ?ownX ⟨hb1, hc0, hc1, hc2, hf1, hf2⟩ (fun _ => { tmps := #[Value.pointer (some { block := b, off := o }), Value.string { data := #[73, 70, 83] }, undef,
          Value.pointer (some { block := w.heap.size, off := 0 }),
          Value.pointer (some { block := w.heap.size + 1, off := 0 }),
          Value.pointer (some { block := w.heap.size + 1 + 1, off := 0 }), undef, .string ⟨#[120, 61, 97]⟩, undef, undef,
          Value.pointer (some { block := b, off := o }), Value.pointer (some { block := b, off := o }),
          Value.pointer (some { block := b, off := o }), Value.pointer (some { block := b, off := o + 2 }),
          Value.slice (some { block := vb, off := vo }) 1 vc,
          Value.func (Fn.func 107) #[] #[Value.pointer (some { block := w.heap.size + 3, off := 0 })], .int .i64 0, .string ⟨#[120, 61, 97]⟩,
          undef, undef, undef, undef, undef, undef, undef, undef, undef], defers := [] }) ?assign ?body ?done ?stop
  case ownI =>
    rintro s A B row ⟨e2, e3, e4, e5, e6, e7⟩ hg hr
    have hr' : ∀ r, row = some r → ∃ o : Obj, A.heap[r]? = some o ∧ o.isCells = false := fun r e => (hr r e).2
    exact ⟨e2.grown hg e2.size (fun k e => by have := (hr k e).1; omega), cell_kept e3 hg hr', cell_kept e4 hg hr', cell_kept e5 hg hr', (frozen_kept e4 hg hr').trans e6, (frozen_kept e5 hg hr').trans e7⟩
  case ownX => rintro c s A B row h hg hr; exact h
  case assign =>
    intro l x W K hK
    gi_wp2_with (rw [Oper.semAt_eq _ _ _ (fun c h => by cases h)]; go_simp; try go_bits)
    exact hK
  case body =>
    rintro l pre x W ⟨hb, q0, q1, q2, r1, r2⟩ _
    gi_wp2_with (rw [Oper.semAt_eq _ _ _ (fun c h => by cases h)]; go_simp; try go_bits)
    refine ⟨trivial, (CallsIn.inRound l (callsIn_wide.2 (cutMiss W (Nat.le_trans hg hb.size)))).mono ?_⟩
    rintro e W' ⟨rfl, hW'⟩
    have lt0 := World.block_lt_of_cell? W _ q0
    have lt1 := World.block_lt_of_cell? W _ q1
    have lt2 := World.block_lt_of_cell? W _ q2
    have p0 := (hW'.cell (p := ⟨w.heap.size, 0, none⟩) lt0).trans q0
    have p1 := (hW'.cell (p := ⟨w.heap.size + 1, 0, none⟩) lt1).trans q1
    have p2 := (hW'.cell (p := ⟨w.heap.size + 1 + 1, 0, none⟩) lt2).trans q2
    have s1 := (World.frozen?_of_block (a := ⟨w.heap.size + 1, 0, none⟩) (hW'.block (w.heap.size + 1) lt1)).trans r1
    have s2 := (World.frozen?_of_block (a := ⟨w.heap.size + 1 + 1, 0, none⟩) (hW'.block (w.heap.size + 1 + 1) lt2)).trans r2
    gi_wp2_with (rw [Oper.semAt_eq _ _ _ (fun c h => by cases h)]; go_simp; try go_bits)
    have hko : KeepsOthers W W' := ⟨hW'.size, fun k o hk _ => (hW'.block k (Array.getElem?_eq_some_iff.1 hk).1).trans hk⟩
    exact ⟨hko, trivial, hb.trans (hW'.mono hb.size), p0, p1, p2, s1, s2⟩
  case done =>
    rintro D xs W hD _ ⟨hb, q0, q1, q2, r1, r2⟩ hK
    gi_wp2
    have hK' : ((W.setCell ⟨w.heap.size + 1, 0, none⟩ (.string ⟨#[]⟩)).setCell ⟨w.heap.size + 1 + 1, 0, none⟩ (.bool false)).heap[D]? = some (.deferred (some [])) := ((KeepsOthers.setCell _ _ _).trans (KeepsOthers.setCell _ _ _)).same D _ hK rfl
    have t1 : ((W.setCell ⟨w.heap.size + 1, 0, none⟩ (.string ⟨#[]⟩)).setCell ⟨w.heap.size + 1 + 1, 0, none⟩ (.bool false)).cell? ⟨w.heap.size + 1, 0, none⟩ = some (.string ⟨#[]⟩) :=
      (World.cell?_setCell_other _ _ _ _ (fun h => by injection h with h; omega)).trans (World.cell?_setCell_same' _ _ _ (by rw [q1]; rfl))
    have t2 : ((W.setCell ⟨w.heap.size + 1, 0, none⟩ (.string ⟨#[]⟩)).setCell ⟨w.heap.size + 1 + 1, 0, none⟩ (.bool false)).cell? ⟨w.heap.size + 1 + 1, 0, none⟩ = some (.bool false) :=
      World.cell?_setCell_same' _ _ _ (by rw [(World.cell?_setCell_other _ _ _ _ (fun h => by injection h with h; omega)).trans q2]; rfl)
    refine ⟨by simp, .inl ⟨_, _, rfl, run_takeDeferred hK', ?_⟩⟩
    have hr : ∀ r, some D = some r → ∃ o : Obj, ((W.setCell ⟨w.heap.size + 1, 0, none⟩ (.string ⟨#[]⟩)).setCell ⟨w.heap.size + 1 + 1, 0, none⟩ (.bool false)).heap[r]? = some o ∧ o.isCells = false := fun r e => by cases e; exact ⟨_, hK', rfl⟩
    have c1 := cell_kept t1 (grownBy_putObj' _ D (.deferred none)) hr
    have c2 := cell_kept t2 (grownBy_putObj' _ D (.deferred none)) hr
    have hb' := (hb.setCell (p := ⟨w.heap.size + 1, 0, none⟩) (by show w.heap.size ≤ w.heap.size + 1; omega) (.string ⟨#[]⟩)).setCell (p := ⟨w.heap.size + 1 + 1, 0, none⟩) (by show w.heap.size ≤ w.heap.size + 1 + 1; omega) (.bool false)
    refine ⟨.tuple #[.string ⟨#[]⟩, .bool false], ?_, rfl, hb'.grown (grownBy_putObj' _ D (.deferred none)) hb'.size (fun k e => by cases e; omega)⟩
    simp [results, Tryz.f26, go_sem, c1, c2]
  case stop =>
    rintro D c pre W hD _ h hK
    exact h.elim
end Go.Proofs.YtegkmccpnpfooaaGreatDoor
