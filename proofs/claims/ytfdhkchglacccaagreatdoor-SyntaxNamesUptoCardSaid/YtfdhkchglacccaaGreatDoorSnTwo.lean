/- Two keys, sorted. No statement is proved here. -/
import Derived.Test.YtfdhkchglacccaaGreatDoorEvE
set_option linter.all false
namespace Go.EvL
open Go
theorem bytesLt_iff : ∀ a b : List UInt8, bytesLt a b = decide (a < b)
  | [], [] => rfl
  | [], _ :: _ => rfl
  | _ :: _, [] => rfl
  | x :: a, y :: b => by
    show (Bool.rec (Bool.rec false (bytesLt a b) (Nat.beq x.toNat y.toNat)) true (Nat.ble (Nat.succ x.toNat) y.toNat) : Bool) = _
    rw [bytesLt_iff a b]
    have e : ((x :: a) < (y :: b)) ↔ (x.toNat < y.toNat ∨ x.toNat = y.toNat ∧ a < b) := by
      rw [List.cons_lt_cons_iff, UInt8.lt_iff_toNat_lt, ← UInt8.toNat_inj]
    cases h1 : Nat.ble (Nat.succ x.toNat) y.toNat with
    | true =>
      have h := Nat.le_of_ble_eq_true h1
      exact (decide_eq_true (e.2 (.inl h))).symm
    | false =>
      have h : ¬ x.toNat < y.toNat := fun h => by rw [Nat.ble_eq_true_of_le h] at h1; cases h1
      cases h2 : Nat.beq x.toNat y.toNat with
      | true =>
        have h3 := Nat.eq_of_beq_eq_true h2
        show decide (a < b) = decide _
        rw [decide_eq_decide, e]
        exact ⟨fun k => .inr ⟨h3, k⟩, fun k => k.elim (fun k => absurd k h) fun k => k.2⟩
      | false =>
        have h3 : x.toNat ≠ y.toNat := fun k => by rw [k, Nat.beq_refl] at h2; cases h2
        exact (decide_eq_false fun k => (e.1 k).elim h fun k => h3 k.1).symm
noncomputable def twoBytes (a b : List UInt8) : List (List UInt8) := Bool.rec [b, a] [a, b] (bytesLt a b)
theorem merge_two (a b : List UInt8) : [a, b].mergeSort (fun x y => decide (x ≤ y)) = if a ≤ b then [a, b] else [b, a] := by
  rw [List.mergeSort]
  simp [List.MergeSort.Internal.splitInTwo, List.merge]
theorem two_sort {a b : List UInt8} {ss : List (List UInt8)} (h : ss.Perm [a, b]) (hlt : (bytesLt a b || bytesLt b a) = true) : ss.mergeSort (fun x y => decide (x ≤ y)) = twoBytes a b ∧ ss.length = 2 := by
  refine ⟨?_, h.length_eq⟩
  have hs : ss = [a, b] ∨ ss = [b, a] := by
    match ss, h.length_eq, h with
    | [x, y], _, h =>
      have hx : x = a ∨ x = b := by simpa using h.subset (List.mem_cons_self ..)
      rcases hx with rfl | rfl
      · have := List.perm_singleton.1 (List.Perm.cons_inv h)
        rw [this]
        exact .inl rfl
      · have := List.perm_singleton.1 (List.Perm.cons_inv (h.trans (List.Perm.swap _ _ _)))
        rw [this]
        exact .inr rfl
  rw [bytesLt_iff, bytesLt_iff, Bool.or_eq_true, decide_eq_true_eq, decide_eq_true_eq] at hlt
  unfold twoBytes
  rw [bytesLt_iff]
  have key : ∀ {p q : List UInt8}, p < q → [p, q].mergeSort (fun x y => decide (x ≤ y)) = [p, q] ∧ [q, p].mergeSort (fun x y => decide (x ≤ y)) = [p, q] := fun {p q} k => by
    rw [merge_two, merge_two]
    have h1 : p ≤ q := List.le_of_lt k
    have h2 : ¬ q ≤ p := fun hh => hh k
    rw [if_pos h1, if_neg h2]
    exact ⟨rfl, rfl⟩
  rcases hlt with k | k
  · rw [decide_eq_true k]
    rcases hs with rfl | rfl
    · exact (key k).1
    · exact (key k).2
  · have : ¬ a < b := fun hh => List.lt_asymm hh k
    rw [decide_eq_false this]
    rcases hs with rfl | rfl
    · exact (key k).2
    · exact (key k).1
end Go.EvL
