/- Names: letters and digits. No statement is proved here. -/
import Derived.Test.YtfdhkchglacccaaGreatDoorProg
import Derived.KernelRfl
import Derived.Test.YtfdhkchglacccaaGreatDoorSnA
import Derived.Below
import Derived.Laws.OwnMore
import Derived.Deep.Draws
import Derived.Laws.Rows
import Derived.RegionTactic
import Derived.OwnWalk
import Derived.Lib.Hide
import Derived.BigQuiet
import Derived.WalkKit
import Derived.Laws.RangeAny
set_option linter.all false
namespace Go.Proofs.YtfdhkchglacccaaGreatDoor
open Go.RowKit Go.Mir
/-! chars.Name, by the kit's walk: a range over a string -/
def lettI (c : Int) : Bool := (decide (65 ≤ c) && decide (c ≤ 90)) || (decide (97 ≤ c) && decide (c ≤ 122))
def digI (c : Int) : Bool := decide (48 ≤ c) && decide (c ≤ 57)
set_option maxRecDepth 100000 in
theorem let_any (c : Int) (w : World) : Calls Tryz.prog 62 #[.int .i32 c] w fun e w' => e = .returned (.bool (lettI c)) ∧ w = w' := by
  unfold lettI
  rcases Int.lt_or_le c 65 with a | a
  · have h1 : decide (65 ≤ c) = false := by simp; omega
    have h3 : decide (97 ≤ c) = false := by simp; omega
    rw [h1, h3]
    go_enter Tryz.func62, Tryz.ntmps62
    go_wp2
    go_ret
    exact ⟨rfl, rfl⟩
  rcases Int.lt_or_le 90 c with b | b
  · have h1 : decide (65 ≤ c) = true := by simp; omega
    have h2 : decide (c ≤ 90) = false := by simp; omega
    rcases Int.lt_or_le c 97 with d | d
    · have h3 : decide (97 ≤ c) = false := by simp; omega
      rw [h1, h2, h3]
      go_enter Tryz.func62, Tryz.ntmps62
      go_wp2
      go_ret
      exact ⟨rfl, rfl⟩
    · have h3 : decide (97 ≤ c) = true := by simp; omega
      rcases Int.lt_or_le 122 c with g | g
      · have h4 : decide (c ≤ 122) = false := by simp; omega
        rw [h1, h2, h3, h4]
        go_enter Tryz.func62, Tryz.ntmps62
        go_wp2
        go_ret
        exact ⟨rfl, rfl⟩
      · have h4 : decide (c ≤ 122) = true := by simp; omega
        rw [h1, h2, h3, h4]
        go_enter Tryz.func62, Tryz.ntmps62
        go_wp2
        go_ret
        exact ⟨rfl, rfl⟩
  · have h1 : decide (65 ≤ c) = true := by simp; omega
    have h2 : decide (c ≤ 90) = true := by simp; omega
    rw [h1, h2]
    go_enter Tryz.func62, Tryz.ntmps62
    go_wp2
    go_ret
    exact ⟨rfl, rfl⟩
set_option maxRecDepth 100000 in
theorem dig_any (c : Int) (w : World) : Calls Tryz.prog 63 #[.int .i32 c] w fun e w' => e = .returned (.bool (digI c)) ∧ w = w' := by
  unfold digI
  rcases Int.lt_or_le c 48 with a | a
  · have h1 : decide (48 ≤ c) = false := by simp; omega
    rw [h1]
    go_enter Tryz.func63, Tryz.ntmps63
    go_wp2
    go_ret
    exact ⟨rfl, rfl⟩
  have h1 : decide (48 ≤ c) = true := by simp; omega
  rcases Int.lt_or_le 57 c with b | b
  · have h2 : decide (c ≤ 57) = false := by simp; omega
    rw [h1, h2]
    go_enter Tryz.func63, Tryz.ntmps63
    go_wp2
    go_ret
    exact ⟨rfl, rfl⟩
  · have h2 : decide (c ≤ 57) = true := by simp; omega
    rw [h1, h2]
    go_enter Tryz.func63, Tryz.ntmps63
    go_wp2
    go_ret
    exact ⟨rfl, rfl⟩
theorem next_any {P : Program} {w : World} {r pos : Nat} {s : ByteArray} (h : w.heap[r]? = some (.stringIter s pos)) (hp : pos < s.size) (ty : TypeId) :
    (Instr.next (.pointer (some ⟨r, 0, none⟩)) true ty).run P w = .ok (.tuple #[.bool true, .int .i64 pos, .int .i32 (Utf8.decode s pos).1]) { w with heap := w.heap.setIfInBounds r (.stringIter s (pos + (Utf8.decode s pos).2)) } := by
  simp [Instr.next, getObj, setObj, Sem.run, h, hp, goInt, Result.andThen]
theorem next_over {P : Program} {w : World} {r pos : Nat} {s : ByteArray} (h : w.heap[r]? = some (.stringIter s pos)) (hp : ¬ pos < s.size) (ty : TypeId) :
    (Instr.next (.pointer (some ⟨r, 0, none⟩)) true ty).run P w = .ok (.tuple #[.bool false]) w := by
  simp [Instr.next, getObj, Sem.run, h, hp]
def iterAt (r : Nat) (w : World) : Nat := match w.heap[r]? with | some (.stringIter _ p) => p | _ => 0
theorem iterAt_eq {w : World} {r p : Nat} {s : ByteArray} (h : w.heap[r]? = some (.stringIter s p)) : iterAt r w = p := by unfold iterAt; rw [h]
def nextW (w : World) (r : Nat) (s : ByteArray) (p : Nat) : World := { w with heap := w.heap.setIfInBounds r (.stringIter s p) }
theorem nextW_below {w wr : World} {s : ByteArray} {p q : Nat} (h : Below w.heap.size w wr) (hr : wr.heap[w.heap.size]? = some (.stringIter s q)) : Below w.heap.size w (nextW wr w.heap.size s p) ∧ (nextW wr w.heap.size s p).heap[w.heap.size]? = some (.stringIter s p) ∧ w.heap.size < (nextW wr w.heap.size s p).heap.size := by
  have hlt : w.heap.size < wr.heap.size := (Array.getElem?_eq_some_iff.1 hr).1
  have hsz : (nextW wr w.heap.size s p).heap.size = wr.heap.size := by unfold nextW; simp
  refine ⟨⟨h.os, h.tape, h.output, by rw [hsz]; exact h.size, fun k hk => ?_⟩, ?_, by rw [hsz]; exact hlt⟩
  · show (wr.heap.setIfInBounds w.heap.size _)[k]? = _
    rw [Array.getElem?_setIfInBounds, if_neg (by omega)]
    exact h.block k hk
  · show (wr.heap.setIfInBounds w.heap.size _)[w.heap.size]? = _
    rw [Array.getElem?_setIfInBounds, if_pos rfl, if_pos hlt]
/-- the first j bytes may begin a name -/
def NmOK (l : List UInt8) (j : Nat) : Prop := (∀ i, i < j → isWord (bt l i) = true) ∧ (0 < j → isDigit (bt l 0) = false)
def NRel (w : World) (l : List UInt8) (wr : World) : Prop := ∃ j : Nat, j ≤ l.length ∧ NmOK l j ∧ Below w.heap.size w wr ∧ wr.heap[w.heap.size]? = some (.stringIter ⟨l.toArray⟩ j)
theorem nameB_false {l : List UInt8} {j : Nat} (hj : j < l.length) (h : isWord (bt l j) = false ∨ j = 0 ∧ isDigit (bt l j) = true) : nameB l = false := by
  unfold nameB
  rcases h with h | ⟨rfl, h⟩
  · have : (l.all fun c => isWord c.toNat) = false := by
      rw [← Bool.not_eq_true, List.all_eq_true]
      intro hh
      have := hh l[j] (List.getElem_mem hj)
      rw [← bt_get hj, h] at this
      cases this
    rw [this, Bool.and_false]
  · rw [h]; simp
theorem nameB_true {l : List UInt8} (h0 : 0 < l.length) (h32 : l.length ≤ 32) (h : NmOK l l.length) : nameB l = true := by
  unfold nameB
  have he : l.isEmpty = false := by cases l with
    | nil => simp at h0
    | cons => rfl
  rw [he, decide_eq_true h32, h.2 h0]
  simp only [Bool.not_false, Bool.true_and, List.all_eq_true]
  intro c hc
  obtain ⟨i, hi, rfl⟩ := List.mem_iff_getElem.1 hc
  rw [← bt_get hi]
  exact h.1 i hi
theorem wordI {n : Nat} (h : n < 128) : isWord n = ((lettI (n : Int) || decide ((n : Int) = 95)) || digI (n : Int)) := by
  unfold isWord lettI digI isLetter isDigit
  rw [Bool.eq_iff_iff]
  simp only [Bool.or_eq_true, Bool.and_eq_true, decide_eq_true_eq, beq_iff_eq]
  omega
theorem NRel.step {w w' : World} {l : List UInt8} {j : Nat} (hj : j < l.length) (h : NmOK l j) (hp : isWord (bt l j) = true) (h0 : j = 0 → isDigit (bt l j) = false) (hb : Below w.heap.size w w') (hi : w'.heap[w.heap.size]? = some (.stringIter ⟨l.toArray⟩ (j + 1))) : NRel w l w' :=
  ⟨j + 1, by omega, ⟨fun i hi => by
    by_cases e : i = j
    · subst e; exact hp
    · exact h.1 i (by omega), fun _ => by
    by_cases e : j = 0
    · subst e; exact h0 rfl
    · exact h.2 (by omega)⟩, hb, hi⟩
end Go.Proofs.YtfdhkchglacccaaGreatDoor
