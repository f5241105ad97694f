/- What functions of the program and of the reference compute, on values. No statement is proved here. -/
import Derived.Test.YtnocibbhognbeaaGreatDoorTxF
set_option linter.unusedSimpArgs false
set_option linter.unusedVariables false
namespace Go.Proofs.YtnocibbhognbeaaGreatDoor
open Go Go.EvL Go.RowKit Go.Shelf
attribute [local go_sem] Oper.semAt_some
theorem cell_of_boxP {W : World} {B : Nat} {v : Value} {t : TypeId} (h : W.heap[B]? = some (.cells #[v] t (0, 0))) : W.cell? ⟨B, 0, none⟩ = some v ∧ W.frozen? ⟨B, 0, none⟩ = false := by
  constructor <;> simp [World.cell?, World.frozen?, h]
theorem cell_newP (W : World) (v : Value) (t : TypeId) : (W.alloc (.cells #[v] t)).cell? ⟨W.heap.size, 0, none⟩ = some v ∧ (W.alloc (.cells #[v] t)).frozen? ⟨W.heap.size, 0, none⟩ = false :=
  cell_of_boxP (World.alloc_heap_new W _)
theorem cell_allocP {W : World} {a : Addr} {v : Value} (o : Obj) (h : W.cell? a = some v) : (W.alloc o).cell? a = some v := cell_kept h (World.grownBy_alloc W o none) (fun r e => by cases e)
abbrev D1 : DataW Unit := (DataW.map []).put (.string [98]) (.lit (.bool true))
theorem upd {W w' : World} {b : Nat} (hown : W.ownsMap Tryz.prog 9 (plainElem (H := Unit) Tryz.prog 4) b 0 (DataW.map [])) (hb : Below W.drew.heap.size W.drew w') :
    ∃ w2, (Instr.mapUpdate 101 (.map (some b)) (.string ⟨#[98]⟩) (.bool true)).run Tryz.prog w' = .ok () w2 ∧ w2.ownsMap Tryz.prog 9 (plainElem (H := Unit) Tryz.prog 4) b 1 D1 ∧ w'.grownBy w2 (some b) :=
  (hown.drew.kept (grown_of_below hb) (by simp)).update (Maps.string_keyed Tryz.underlying9) Tryz.underlying101 (by decide) (WideMaps.keyOf_string_mk Tryz.underlying9 (by decide)) (plainElem_bool Tryz.underlying4 true)
open Classical in
noncomputable def updW (W w' : World) (b : Nat) : World := if h : W.ownsMap Tryz.prog 9 (plainElem (H := Unit) Tryz.prog 4) b 0 (DataW.map []) ∧ Below W.drew.heap.size W.drew w' then Classical.choose (upd h.1 h.2) else w'
theorem updS {W w' : World} {b : Nat} (hown : W.ownsMap Tryz.prog 9 (plainElem (H := Unit) Tryz.prog 4) b 0 (DataW.map [])) (hb : Below W.drew.heap.size W.drew w') :
    (Instr.mapUpdate 101 (.map (some b)) (.string ⟨#[98]⟩) (.bool true)).run Tryz.prog w' = .ok () (updW W w' b) ∧ (updW W w' b).ownsMap Tryz.prog 9 (plainElem (H := Unit) Tryz.prog 4) b 1 D1 ∧ w'.grownBy (updW W w' b) (some b) := by
  unfold updW
  rw [dif_pos ⟨hown, hb⟩]
  exact Classical.choose_spec (upd hown hb)
theorem updR {W w' : World} {b : Nat} (hown : W.ownsMap Tryz.prog 9 (plainElem (H := Unit) Tryz.prog 4) b 0 (DataW.map [])) (hb : Below W.drew.heap.size W.drew w') :
    (Instr.mapUpdate 101 (.map (some b)) (.string ⟨#[98]⟩) (.bool true)).run Tryz.prog w' = .ok () (updW W w' b) := (updS hown hb).1
theorem atk : D1.atKey (.string [69, 79, 70]) (.lit (.bool false)) = .lit (.bool false) := by
  simp [D1, DataW.put, DataW.atKey, DataW.insert, Lit.sameKey]
set_option maxRecDepth 100000 in
theorem look {W : World} {b : Nat} (hown : W.ownsMap Tryz.prog 9 (plainElem (H := Unit) Tryz.prog 4) b 1 D1) :
    (Instr.lookup 101 (.map (some b)) (.string ⟨#[69, 79, 70]⟩) false).run Tryz.prog W = .ok (.bool false) W := by
  obtain ⟨v, ps, hrun, hv⟩ := hown.lookup (Maps.string_keyed Tryz.underlying9) Tryz.underlying101 (z := .bool false) (by kernel_rfl) (plainElem_bool Tryz.underlying4 false) (WideMaps.keyOf_string_mk (s := ⟨#[69, 79, 70]⟩) Tryz.underlying9 (by decide))
  rw [hrun]
  rw [atk] at hv
  unfold plainElem at hv
  rw [Tryz.underlying4] at hv
  cases v <;> simp at hv
  rw [hv.1]
theorem body_end {w W w' : World} {B : Nat} (hc : W.cell? ⟨w.heap.size + 1, 0, none⟩ = some (.map (some w.heap.size))) (hown : W.ownsMap Tryz.prog 9 (plainElem (H := Unit) Tryz.prog 4) w.heap.size 0 (DataW.map [])) (hB : Below w.heap.size w W) (hb1 : Below W.drew.heap.size W.drew w') (hlt : w.heap.size < B) :
    KeepsFrom B W (updW W w' w.heap.size) ∧ True ∧ ((updW W w' w.heap.size).cell? ⟨w.heap.size + 1, 0, none⟩ = some (.map (some w.heap.size)) ∧ ([()] = [] → (updW W w' w.heap.size).ownsMap Tryz.prog 9 (plainElem (H := Unit) Tryz.prog 4) w.heap.size 0 (DataW.map [])) ∧ ([()] = [()] → (updW W w' w.heap.size).ownsMap Tryz.prog 9 (plainElem (H := Unit) Tryz.prog 4) w.heap.size 1 D1)) ∧ Below w.heap.size w (updW W w' w.heap.size) := by
  obtain ⟨_, h1, h2⟩ := updS hown hb1
  have g0 : W.grownBy W.drew none := ⟨rfl, rfl, rfl, Nat.le_refl _, fun _ _ _ => rfl⟩
  have g1 := grown_of_below hb1
  have b1 : Below w.heap.size w w' := (hB.grown g0 hB.size (fun k e => by cases e)).grown g1 hB.size (fun k e => by cases e)
  have hc1 : w'.cell? ⟨w.heap.size + 1, 0, none⟩ = some (.map (some w.heap.size)) := (hb1.cell (p := ⟨w.heap.size + 1, 0, none⟩) (World.block_lt_of_cell? W _ hc)).trans hc
  obtain ⟨es, ck, hh, _⟩ := (hown.drew.kept g1 (by simp))
  refine ⟨((KeepsFrom.of_grownBy g0 (fun j e => by cases e)).trans (KeepsFrom.of_grownBy g1 (fun j e => by cases e))).trans (KeepsFrom.of_grownBy h2 (fun j e => by cases e; exact hlt)), trivial, ⟨cell_kept hc1 h2 (fun r e => by cases e; exact ⟨_, hh, rfl⟩), fun h => absurd h (by simp), fun _ => h1⟩, b1.grown h2 b1.size (fun k e => by cases e; exact Nat.le_refl _)⟩
set_option maxRecDepth 100000 in
set_option maxHeartbeats 4000000 in
theorem delim (w : World) (hg : 8 ≤ w.heap.size) : Calls Tryz.prog 59 #[.string ⟨#[98, 10]⟩] w fun e w' => e = .returned (.string ⟨#[69, 79, 70]⟩) ∧ Below w.heap.size w w' := by
  have hmm := @run_makeMap Tryz.prog
  refine (callsIn_wide (n := 9)).1 ?_
  refine callsIn_of_wp_marks Tryz.func59 rfl trivial ?_ rfl
  simp only [Tryz.ntmps59, List.size_toArray, List.length_cons, List.length_nil, Nat.reduceAdd, Nat.reduceSub, Array.replicate_succ, Array.replicate_zero, List.push_toArray, List.append_toArray, List.nil_append, List.cons_append]
  gi_wp2
  refine ⟨trivial, (lines72 Fence.wide _ trivial rfl _ _).mono ?_⟩
  rintro e w' ⟨rfl, rfl⟩
  gi_wp2
  have hm0 := World.ownsMap_made w Tryz.prog 9 (plainElem (H := Unit) Tryz.prog 4)
  have cS := cell_newP (w.alloc (.map #[] 0)) (.map (some w.heap.size)) 101
  have cA := cell_newP ((w.alloc (.map #[] 0)).alloc (.cells #[.map (some w.heap.size)] 101)) (.string sBN) 9
  have cB := cell_newP (((w.alloc (.map #[] 0)).alloc (.cells #[.map (some w.heap.size)] 101)).alloc (.cells #[.string sBN] 9)) (.int .i64 0) 3
  simp only [World.size_alloc] at cS cA cB
  have hB0 : Below w.heap.size w ((((w.alloc (.map #[] 0)).alloc (.cells #[.map (some w.heap.size)] 101)).alloc (.cells #[.string sBN] 9)).alloc (.cells #[.int .i64 0] 3)) := ((((Below.refl _ w).alloc (Nat.le_refl _) _).alloc (by simp) _).alloc (by simp; omega) _).alloc (by simp; omega) _
  refine wpIn_rangeFunc_ownG rfl (by decide) (gf := 86) (lb := #[.pointer (some ⟨w.heap.size + 1 + 1, 0, none⟩), .pointer (some ⟨w.heap.size + 1 + 1 + 1, 0, none⟩)]) rfl trivial (enters_of Tryz.func86 (by kernel_rfl) rfl)
    (stops86 Fence.wide _ trivial rfl (by decide) rfl (w.heap.size + 1 + 1) (w.heap.size + 1 + 1 + 1) _ (by simp; omega) (cell_allocP _ cA.1) cB.1) (fun _ _ => trivial) (fun _ _ _ _ _ _ _ _ => trivial) (Below.refl _ _) (fun _ => rfl)
    (fun pre W => (W.cell? ⟨w.heap.size + 1, 0, none⟩ = some (.map (some w.heap.size)) ∧ (pre = [] → W.ownsMap Tryz.prog 9 (plainElem (H := Unit) Tryz.prog 4) w.heap.size 0 (DataW.map [])) ∧ (pre = [()] → W.ownsMap Tryz.prog 9 (plainElem (H := Unit) Tryz.prog 4) w.heap.size 1 D1)) ∧ Below w.heap.size w W)
    (fun _ _ _ => False)
    ?ownI (fun _ _ _ _ _ hs _ _ => hs)
    ⟨⟨cell_allocP _ (cell_allocP _ cS.1), fun _ => ((hm0.alloc _).alloc _).alloc _, fun h => by cases h⟩, hB0⟩
    (fun _ => { tmps := #[.string ⟨#[98, 10]⟩, undef, .string ⟨#[]⟩, .pointer (some ⟨w.heap.size + 1, 0, none⟩), .string sBN, undef, undef, .map (some w.heap.size), .string ⟨#[98, 10]⟩, .func (.func 86) #[] #[.pointer (some ⟨w.heap.size + 1 + 1, 0, none⟩), .pointer (some ⟨w.heap.size + 1 + 1 + 1, 0, none⟩)], .string sBN, undef, undef, undef, undef, undef, undef, undef, undef, undef, undef, undef, undef], defers := [] }) ?assign ?body ?done ?stop
  case ownI =>
    rintro s A B row ⟨⟨h1, h2, h3⟩, h4⟩ hg hr
    have hr' : ∀ r, row = some r → ∃ o : Obj, A.heap[r]? = some o ∧ o.isCells = false := fun r e => (hr r e).2
    have hne : row ≠ some w.heap.size := fun e => by have := (hr _ e).1; simp at this; omega
    exact ⟨⟨cell_kept h1 hg hr', fun e => (h2 e).kept hg (fun e => hne e.symm), fun e => (h3 e).kept hg (fun e => hne e.symm)⟩, h4.grown hg h4.size (fun k e => by have := (hr k e).1; simp at this; omega)⟩
  case assign =>
    intro l x W K hK
    gi_wp2
    exact hK
  case body =>
    rintro l pre x W ⟨⟨hc, h0, h1⟩, hB⟩ hlt
    obtain rfl : pre = [] := List.eq_nil_of_length_eq_zero (by omega)
    have hown := h0 rfl
    have hmx : Tryz.prog.follows .mixedOrders = true := nmix
    have hd : 1 ≤ 9 - 1 - 1 := by decide
    have h14 : Fence.wide.fn 14 := trivial
    have hgW : 8 ≤ W.drew.heap.size := Nat.le_trans hg hB.size
    gi_wp2
    have hup : ∀ w', Below W.drew.heap.size W.drew w' → (Instr.mapUpdate 101 (.map (some w.heap.size)) (.string ⟨#[98]⟩) (.bool true)).run Tryz.prog w' = .ok () (updW W w' w.heap.size) := fun w' h => updR hown h
    have hcb : ∀ w', Below W.drew.heap.size W.drew w' → w'.cell? ⟨w.heap.size + 1, 0, none⟩ = some (.map (some w.heap.size)) := fun w' h => (h.cell (p := ⟨w.heap.size + 1, 0, none⟩) (World.block_lt_of_cell? W _ hc)).trans hc
    gi_region_with_o (gi_at_call 14; refine (CallsIn.inRound l (callsIn_wide.2 (trim14 _ (by assumption)))).mono ?_; rintro e w' ⟨rfl, hb1⟩; have hup1 := hup w' hb1; have hc1 := hcb w' hb1)
    all_goals gi_wp2
    all_goals exact body_end hc hown hB hb1 (by simp; omega)
  case done =>
    rintro D ys W hD rfl ⟨⟨hc, _, h1⟩, hB⟩ hK
    have hown := h1 rfl
    have hl := look hown
    gi_wp2
    refine wpIn_loop_rounds 1 ?_
    rw [roundsIn_succ]
    gi_wp2
    refine ⟨by simp, .inl ⟨_, _, rfl, run_takeDeferred hK, ?_⟩⟩
    refine ⟨_, results_tmp rfl _ _ _, rfl, hB.grown (grownBy_putObj' _ D (.deferred none)) hB.size (fun k e => by cases e; simp at hD; omega)⟩
  case stop =>
    rintro D c pre W _ _ h _
    exact h.elim
end Go.Proofs.YtnocibbhognbeaaGreatDoor
