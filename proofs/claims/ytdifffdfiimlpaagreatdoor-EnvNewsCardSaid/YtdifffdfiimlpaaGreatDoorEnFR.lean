/- Lists in memory. No statement is proved here. -/
import Derived.Test.YtdifffdfiimlpaaGreatDoorEnPL0
import Derived.Laws.AppendOwn
import Derived.OwnWalk
import Derived.Laws.Cover1
set_option linter.all false
/-! readings of lists in memory -/
namespace Go.Proofs.YtdifffdfiimlpaaGreatDoor
open Go Go.RowKit Go.Maps Go.Mir
/-- a slice of strings that is read as a list -/
def RdT (w : World) (ao : Option Addr) (ls : List (List UInt8)) : Prop := ∀ k t, ls[k]? = some t → ∃ b o, ao = some ⟨b, o, none⟩ ∧ w.cell? ⟨b, o + k, none⟩ = some (.string ⟨t.toArray⟩)
theorem RdT.below {w w' : World} {ao : Option Addr} {ls : List (List UInt8)} (h : RdT w ao ls) (hb : Below w.heap.size w w') : RdT w' ao ls := fun k t ht => by
  obtain ⟨b, o, e, hc⟩ := h k t ht
  have hlt : b < w.heap.size := World.block_lt_of_cell? w ⟨b, o + k, none⟩ hc
  exact ⟨b, o, e, (hb.cell (p := ⟨b, o + k, none⟩) hlt).trans hc⟩
/-- a slice of variables that is read as a list -/
def RdV (w : World) (ao : Option Addr) (l : List NV) : Prop := ∀ k x, l[k]? = some x → ∃ g, ao = some ⟨g, 0, none⟩ ∧ g < w.heap.size ∧ ∀ i u, (encV x)[i]? = some u → w.cell? ⟨g, k * 5 + i, none⟩ = some u
theorem RdV.below {w w' : World} {ao : Option Addr} {l : List NV} (h : RdV w ao l) (hb : Below w.heap.size w w') : RdV w' ao l := fun k x hx => by
  obtain ⟨g, e, hlt, hc⟩ := h k x hx
  exact ⟨g, e, Nat.lt_of_lt_of_le hlt hb.size, fun i u hu => (hb.cell (p := ⟨g, k * 5 + i, none⟩) hlt).trans (hc i u hu)⟩
theorem flat_get : ∀ (l : List NV) (k : Nat) (x : NV) (i : Nat) (u : Value), l[k]? = some x → (encV x)[i]? = some u → (flatV l)[k * 5 + i]? = some u
  | [], k, x, i, u, h, _ => by simp at h
  | y :: l, 0, x, i, u, h, hu => by
    have : y = x := by simpa using h
    subst this
    have hi : i < (encV y).length := (List.getElem?_eq_some_iff.1 hu).1
    simp only [flatV, List.flatMap_cons, Nat.zero_mul, Nat.zero_add]
    rw [List.getElem?_append_left hi]
    exact hu
  | y :: l, k + 1, x, i, u, h, hu => by
    have h' : l[k]? = some x := by simpa using h
    have hy : (encV y).length = 5 := rfl
    simp only [flatV, List.flatMap_cons]
    rw [List.getElem?_append_right (by omega), hy, show (k + 1) * 5 + i - 5 = k * 5 + i by omega]
    exact flat_get l k x i u h' hu
theorem rdV_of_row {w : World} {base : Nat} {v : Value} {n : Nat} {l : List NV} (hn : n = l.length) (h : w.ownsRow base 43 5 v n (flatV l)) : ∃ ao cap, v = .slice ao n cap ∧ RdV w ao l := by
  obtain ⟨hl, h⟩ := h
  rcases h with ⟨rfl, h0⟩ | ⟨g, cap, cur, rfl, hb, hg, hnc, _, hsz, ht⟩
  · refine ⟨_, _, by rw [h0], fun k x hx => ?_⟩
    have := (List.getElem?_eq_some_iff.1 hx).1
    omega
  · refine ⟨_, _, rfl, fun k x hx => ⟨g, rfl, (Array.getElem?_eq_some_iff.1 hg).1, fun i u hu => ?_⟩⟩
    have h1 := flat_get l k x i u hx hu
    have h2 := (List.getElem?_eq_some_iff.1 h1).1
    rw [← ht, List.getElem?_take_of_lt (by omega)] at h1
    simp only [World.cell?, hg]
    simpa using h1
theorem encV_cell {w : World} {g k : Nat} {x : NV} (hc : ∀ i u, (encV x)[i]? = some u → w.cell? ⟨g, k * 5 + i, none⟩ = some u) :
    w.cell? ⟨g, k * 5, none⟩ = some (.string ⟨x.1.toArray⟩) ∧ w.cell? ⟨g, k * 5 + 1, none⟩ = some (.string ⟨x.2.1.toArray⟩) ∧ w.cell? ⟨g, k * 5 + 2, none⟩ = some (.bool true) ∧ w.cell? ⟨g, k * 5 + 3, none⟩ = some (.bool x.2.2) ∧ w.cell? ⟨g, k * 5 + 4, none⟩ = some (.bool false) :=
  ⟨hc 0 _ rfl, hc 1 _ rfl, hc 2 _ rfl, hc 3 _ rfl, hc 4 _ rfl⟩
end Go.Proofs.YtdifffdfiimlpaaGreatDoor
