/- The program: Clone. No statement is proved here. -/
import Derived.Test.YtdifffdfiimlpaaGreatDoorEnFG
import Derived.Maps.AppendAt
import Derived.Laws.OwnMore
import Derived.Lib.SliceRun
set_option linter.all false
namespace Go.Proofs.YtdifffdfiimlpaaGreatDoor
open Go Go.RowKit Go.Mir Go.Maps
set_option maxHeartbeats 1000000
set_option maxRecDepth 100000
theorem info9 : (Tryz.prog.info? 9).map (fun i => (i.zero, i.size, i.bytes)) = some (some (.string ⟨#[]⟩), 1, 16) := by kernel_rfl
theorem empty_own (w : World) (base : Nat) (h : base ≤ w.heap.size) : (w.alloc (.cells #[] 9)).ownsRow base 9 1 (.slice (some ⟨w.heap.size, 0, none⟩) 0 0) 0 [] :=
  ⟨rfl, .inr ⟨w.heap.size, 0, #[], rfl, h, (by show (w.heap.push _)[w.heap.size]? = _; simp), Nat.le_refl _, by unfold maxLen; omega, rfl, rfl⟩⟩
theorem add_none (b o j : Nat) : (⟨b, o, none⟩ : Addr).add j = ⟨b, o + j, none⟩ := by unfold Addr.add; split <;> simp_all
theorem rdT_of_row {w : World} {base : Nat} {v : Value} {n : Nat} {l : List (List UInt8)} (hn : n = l.length) (h : w.ownsRow base 9 1 v n (l.map fun t => Value.string ⟨t.toArray⟩)) : ∃ ao cap, v = .slice ao n cap ∧ (∀ ad, ao = some ad → base ≤ ad.block) ∧ RdT w ao l := by
  obtain ⟨hl, h⟩ := h
  rcases h with ⟨rfl, h0⟩ | ⟨g, cap, cur, rfl, hb, hg, hnc, _, hsz, ht⟩
  · refine ⟨_, _, by rw [h0], (fun ad h => by cases h), fun k t hk => ?_⟩
    have := (List.getElem?_eq_some_iff.1 hk).1
    omega
  · refine ⟨_, _, rfl, (fun ad h => by cases h; exact hb), fun k t hk => ⟨g, 0, rfl, ?_⟩⟩
    have h1 : (l.map fun t => Value.string ⟨t.toArray⟩)[k]? = some (.string ⟨t.toArray⟩) := by rw [List.getElem?_map, hk]; rfl
    have h2 := (List.getElem?_eq_some_iff.1 hk).1
    rw [← ht, List.getElem?_take_of_lt (by omega)] at h1
    simp only [World.cell?, hg]
    simpa using h1
theorem clone_calls (ps : List (List UInt8)) (n : Nat) (hn : Aside (n = ps.length)) (hb : n < 100000) (ad : Addr) (c : Nat) (w : World) (hrd : Aside (RdT w (some ad) ps)) :
    Calls Tryz.prog 22 #[.slice (some ad) n c] w fun e w' => ∃ a' c', e = .returned (.slice a' n c') ∧ Aside (RdT w' a' ps ∧ ∀ ad, a' = some ad → w.heap.size ≤ ad.block) ∧ Below w.heap.size w w' := by
  obtain ⟨i0, hi, hz0, hz1, hz2⟩ := info_parts info9
  have hnl := fun W => Go.Lib.run_eql_slice_nil (P := Tryz.prog) W 22 9 (some ad) n c 0 0 Tryz.underlying22
  have hcell : ∀ j u, (ps.map fun t => Value.string ⟨t.toArray⟩)[j]? = some u → w.cell? (ad.add j) = some u := by
    intro j u hu
    rw [List.getElem?_map, Option.map_eq_some_iff] at hu
    obtain ⟨t, ht, rfl⟩ := hu
    obtain ⟨b, o, e, hc⟩ := hrd.out j t ht
    injection e with e
    rw [e, add_none]; exact hc
  go_enter Tryz.func22, Tryz.ntmps22
  go_wp2_with (at_builtin; refine wpList_append_own_at _ rfl _ _ 22 rfl w.heap.size 9 i0 (.string ⟨#[]⟩) 1 16 Tryz.underlying22 hi hz0 hz1 hz2 rfl (by decide) _ 0 [] rfl (empty_own w w.heap.size (Nat.le_refl _)) ad n c (ps.map fun t => Value.string ⟨t.toArray⟩) rfl (by rw [List.length_map, hn.out]; omega) (fun j u hu => by
        have h1 := hcell j u hu
        have h2 : (ad.add j).block < w.heap.size := World.block_lt_of_cell? w _ h1
        exact (((Below.refl w.heap.size w).alloc (Nat.le_refl _) (.cells #[] 9)).cell h2).trans h1) (fun u hu => by obtain ⟨t, _, rfl⟩ := List.mem_map.1 hu; rfl) (by unfold maxLen; omega) (by omega) (by simp) ?_; intro v' w3 hown' hgrow3 hnil3 hat3)
  go_ret
  have hB : Below w.heap.size w w3 := ((Below.refl w.heap.size w).alloc (Nat.le_refl _) (.cells #[] 9)).grown hgrow3 (by simp) (fun k hk => by cases hk; exact Nat.le_refl _)
  rw [Nat.zero_add, List.nil_append] at hown'
  obtain ⟨a2, c2, rfl, hf, hr⟩ := rdT_of_row hn.out hown'
  exact ⟨a2, c2, rfl, ⟨hr, hf⟩, hB⟩
theorem clone_nil (n c : Nat) (w : World) : Calls Tryz.prog 22 #[.slice none n c] w fun e w' => e = .returned (.slice none 0 0) ∧ w = w' := by
  have hnl := fun W => Go.Lib.run_eql_slice_nil (P := Tryz.prog) W 22 9 none n c 0 0 Tryz.underlying22
  go_enter Tryz.func22, Tryz.ntmps22
  go_wp2
  go_ret
  exact ⟨rfl, rfl⟩
end Go.Proofs.YtdifffdfiimlpaaGreatDoor
