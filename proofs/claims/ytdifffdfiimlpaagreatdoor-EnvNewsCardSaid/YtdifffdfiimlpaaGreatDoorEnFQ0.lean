/- Lemmas on what New lays. No statement is proved here. -/
import Derived.Test.YtdifffdfiimlpaaGreatDoorEnFP
import Derived.Deep.WholeRow
set_option linter.all false
namespace Go.Proofs.YtdifffdfiimlpaaGreatDoor
open Go Go.RowKit Go.Mir Go.Maps Go.Sort
set_option maxHeartbeats 2000000
set_option maxRecDepth 100000
theorem cell_five_new1 (w : World) (o : Obj) (a b c d f : Value) (t : TypeId) : ∀ j u, [a, b, c, d, f][j]? = some u → ((w.alloc o).alloc (.cells #[a, b, c, d, f] t)).cell? ((⟨w.heap.size + 1, 0, none⟩ : Addr).add j) = some u := by
  have h := cell_five_new (w.alloc o) a b c d f t
  have e : (w.alloc o).heap.size = w.heap.size + 1 := by simp
  rw [e] at h
  exact h
theorem rdT_set {w : World} {ao : Option Addr} {ls : List (List UInt8)} (h : RdT w ao ls) {p : Addr} (hne : ∀ ad, ao = some ad → ad.block ≠ p.block) (u : Value) : RdT (w.setCell p u) ao ls := fun k t hk => by
  obtain ⟨b, o, e, hc⟩ := h k t hk
  exact ⟨b, o, e, (World.cell?_of_block (Below.heap_setCell w p u b (hne _ e))).trans hc⟩
theorem rdT_fill {w : World} {ao : Option Addr} {ls : List (List UInt8)} (h : RdT w ao ls) {b : Nat} (hne : ∀ ad, ao = some ad → ad.block ≠ b) (v0 v1 v2 v3 v4 v5 v6 v7 v8 v9 v10 v11 v12 v13 v14 : Value) : RdT (((((((((((((((w.setCell ⟨b, 0, none⟩ v0).setCell ⟨b, 1, none⟩ v1).setCell ⟨b, 2, none⟩ v2).setCell ⟨b, 3, none⟩ v3).setCell ⟨b, 4, none⟩ v4).setCell ⟨b, 5, none⟩ v5).setCell ⟨b, 6, none⟩ v6).setCell ⟨b, 7, none⟩ v7).setCell ⟨b, 8, none⟩ v8).setCell ⟨b, 9, none⟩ v9).setCell ⟨b, 10, none⟩ v10).setCell ⟨b, 11, none⟩ v11).setCell ⟨b, 12, none⟩ v12).setCell ⟨b, 13, none⟩ v13).setCell ⟨b, 14, none⟩ v14) ao ls := (rdT_set (rdT_set (rdT_set (rdT_set (rdT_set (rdT_set (rdT_set (rdT_set (rdT_set (rdT_set (rdT_set (rdT_set (rdT_set (rdT_set (rdT_set h (p := ⟨b, 0, none⟩) hne v0) (p := ⟨b, 1, none⟩) hne v1) (p := ⟨b, 2, none⟩) hne v2) (p := ⟨b, 3, none⟩) hne v3) (p := ⟨b, 4, none⟩) hne v4) (p := ⟨b, 5, none⟩) hne v5) (p := ⟨b, 6, none⟩) hne v6) (p := ⟨b, 7, none⟩) hne v7) (p := ⟨b, 8, none⟩) hne v8) (p := ⟨b, 9, none⟩) hne v9) (p := ⟨b, 10, none⟩) hne v10) (p := ⟨b, 11, none⟩) hne v11) (p := ⟨b, 12, none⟩) hne v12) (p := ⟨b, 13, none⟩) hne v13) (p := ⟨b, 14, none⟩) hne v14)
theorem row_below {a b : World} {base : Nat} {e : TypeId} {size : Nat} {v : Value} {n : Nat} {xs : List Value} (h : a.ownsRow base e size v n xs) (hB : Below a.heap.size a b) : b.ownsRow base e size v n xs :=
  h.kept (row := none) ⟨hB.os, hB.tape, hB.output, hB.size, fun k hk _ => hB.block k hk⟩ (by cases v.ownBlock <;> simp)
theorem own3_row (W : World) : (W.alloc (.cells #[.string ⟨#[73, 70, 83]⟩, .string ⟨#[32, 9, 10]⟩, .bool true, .bool false, .bool false, .string ⟨#[79, 80, 84, 73, 78, 68]⟩, .string ⟨#[49]⟩, .bool true, .bool false, .bool false, .string ⟨#[80, 87, 68]⟩, .string ⟨#[47]⟩, .bool true, .bool true, .bool false] 43)).ownsRow W.heap.size 43 5 (.slice (some ⟨W.heap.size, 0, none⟩) 3 3) own3.length (flatV own3) :=
  ⟨rfl, .inr ⟨W.heap.size, 3, _, rfl, Nat.le_refl _, heap_alloc_last _ _, Nat.le_refl _, by unfold maxLen; omega, rfl, rfl⟩⟩
def NewP (w : World) (name : List UInt8) (n1 : Nat) (ps : List (List UInt8)) (L : List NV) (e : Ending) (w' : World) : Prop :=
  if 128 < (own3 ++ keepV L).length then e = .returned (.tuple #[zEnv, .int .i64 4]) else
    ∃ (s : Value) (a' : Option Addr) (k' : Nat) (S : List NV), e = .returned (.tuple #[mkEnv name (.slice a' n1 k') s, .int .i64 0]) ∧ S.Perm (own3 ++ keepV L) ∧ (S.Pairwise fun x y => x.1 ≤ y.1) ∧ w'.ownsRow w.heap.size 43 5 s S.length (flatV S) ∧ RdT w' a' ps
end Go.Proofs.YtdifffdfiimlpaaGreatDoor
