/- Lists are compared. No statement is proved here. -/
import Derived.Test.YtdifffdfiimlpaaGreatDoorEnFE
import Derived.Sort.Walk0
import Derived.Laws.OwnMore
import Derived.Laws.Rows
set_option linter.all false
namespace Go.Proofs.YtdifffdfiimlpaaGreatDoor
open Go Go.RowKit Go.Mir Go.Maps Go.Sort
set_option maxHeartbeats 4000000
set_option maxRecDepth 100000
theorem wrap64_k1 (k : Nat) (h : k < 2000000) : Value.int .i64 (wrap64 ((k : Int) + 1)) = .int .i64 ((k + 1 : Nat) : Int) := by
  rw [IntWalk.wrap64_in _ (by omega)]; simp
theorem cell_five_new (w : World) (a b c d f : Value) (t : TypeId) : ∀ j u, [a, b, c, d, f][j]? = some u → (w.alloc (.cells #[a, b, c, d, f] t)).cell? ((⟨w.heap.size, 0, none⟩ : Addr).add j) = some u := by
  intro j u hj
  match j, hj with
  | 0, hj => simp at hj; subst hj; simp [Addr.add]
  | 1, hj => simp at hj; subst hj; simp [Addr.add]
  | 2, hj => simp at hj; subst hj; simp [Addr.add]
  | 3, hj => simp at hj; subst hj; simp [Addr.add]
  | 4, hj => simp at hj; subst hj; simp [Addr.add]
  | j + 5, hj => simp at hj
theorem info43 : (Tryz.prog.info? 43).map (fun i => (i.zero, i.size, i.bytes)) = some (some (.agg #[.string ⟨#[]⟩, .string ⟨#[]⟩, .bool false, .bool false, .bool false]), 5, 40) := by kernel_rfl
theorem ge_str (x y : List UInt8) (W : World) : Sem.run Tryz.prog (binOp BinOp.geq 9 (.string ⟨x.toArray⟩) (.string ⟨y.toArray⟩)) W = .ok (.bool (decide (y ≤ x))) W := by
  have h : (binOp BinOp.geq 9 (.string ⟨x.toArray⟩) (.string ⟨y.toArray⟩) : Sem Value) = pure (.bool !(Op.bytesLess (⟨x.toArray⟩ : ByteArray).toList (⟨y.toArray⟩ : ByteArray).toList)) := by simp [binOp, Op.stringOp]
  rw [h, Lib.toList_data, Lib.toList_data]
  have e : (!(Op.bytesLess x y)) = decide (y ≤ x) := by
    rw [bytesLess_eq]
    by_cases h1 : x < y
    · have h2 : ¬ y ≤ x := fun h => h h1
      simp [h1, h2]
    · have h2 : y ≤ x := List.not_lt.1 h1
      simp [h1, h2]
  show Sem.run Tryz.prog (pure (Value.bool (!(Op.bytesLess x y)))) W = _
  rw [e]; rfl
theorem same15_calls (l m : List NV) (hl : l.length ≤ maxLen) (hm : m.length ≤ maxLen) (ao bo : Option Addr) (c d : Nat) (w : World) (h1 : RdV w ao l) (h2 : RdV w bo m) (e : l = m) :
    Calls Tryz.prog 26 #[.slice ao l.length c, .slice bo m.length d] w fun e w' => e = .returned (.bool true) ∧ Below w.heap.size w w' := by
  subst e
  have H1 : Aside (RdV w ao l) := h1
  have H2 : Aside (RdV w bo l) := h2
  clear h1 h2 hm
  obtain ⟨sz, hsz0⟩ : ∃ n, n = l.length := ⟨_, rfl⟩
  rw [← hsz0]
  have hsz : Aside (sz = l.length ∧ l.length ≤ maxLen) := ⟨hsz0, hl⟩
  clear hsz0 hl
  go_enter Tryz.func26, Tryz.ntmps26
  go_wp2
  go_loopg [5] sz (fun g s wx => ∃ k n : Nat, k + g = sz ∧ s = .int .i64 k ∧ wx = w.drewN n)
  case atStart => exact ⟨0, 0, by omega, rfl, rfl⟩
  case round =>
    obtain ⟨k, n, hkg, rfl, rfl⟩ := hrel
    cases gk with
    | zero =>
      have hkz : ¬ (k : Int) < (sz : Int) := by omega
      go_wp2
      go_ret
      exact ⟨rfl, below_drew _ _⟩
    | succ g =>
      have hk0 : (0 : Int) ≤ (k : Int) := by omega
      have hkz : (k : Int) < (sz : Int) := by omega
      have hk63 : (k : Int) + 1 ≤ 9223372036854775807 := by have := hsz.out; unfold maxLen at this; omega
      obtain ⟨x, hx⟩ : ∃ x, l[k]? = some x := ⟨_, List.getElem?_eq_getElem (by have := hsz.out; omega)⟩
      obtain ⟨g1, rfl, hg1, hc1⟩ := H1.out k x hx
      obtain ⟨g2, rfl, hg2, hc2⟩ := H2.out k x hx
      obtain ⟨a0, a1, a2, a3, a4⟩ := encV_cell hc1
      obtain ⟨b0, b1, b2, b3, b4⟩ := encV_cell hc2
      clear hc1 hc2
      go_wp2
      go_quiet (fail)
      go_wp2
      go_roundg g
      case measure => omega
      case rel => exact ⟨k + 1, _, by omega, by simp, rfl⟩
theorem sameT_calls (l : List (List UInt8)) (hl : l.length ≤ maxLen) (ao bo : Option Addr) (c d : Nat) (w : World) (h1 : RdT w ao l) (h2 : RdT w bo l) :
    Calls Tryz.prog 27 #[.slice ao l.length c, .slice bo l.length d] w fun e w' => e = .returned (.bool true) ∧ Below w.heap.size w w' := by
  have H1 : Aside (RdT w ao l) := h1
  have H2 : Aside (RdT w bo l) := h2
  clear h1 h2
  obtain ⟨sz, hsz0⟩ : ∃ n, n = l.length := ⟨_, rfl⟩
  rw [← hsz0]
  have hsz : Aside (sz = l.length ∧ l.length ≤ maxLen) := ⟨hsz0, hl⟩
  clear hsz0 hl
  go_enter Tryz.func27, Tryz.ntmps27
  go_wp2
  go_loopg [5] sz (fun g s wx => ∃ k n : Nat, k + g = sz ∧ s = .int .i64 k ∧ wx = w.drewN n)
  case atStart => exact ⟨0, 0, by omega, rfl, rfl⟩
  case round =>
    obtain ⟨k, n, hkg, rfl, rfl⟩ := hrel
    cases gk with
    | zero =>
      have hkz : ¬ (k : Int) < (sz : Int) := by omega
      go_wp2
      go_ret
      exact ⟨rfl, below_drew _ _⟩
    | succ g =>
      have hk0 : (0 : Int) ≤ (k : Int) := by omega
      have hkz : (k : Int) < (sz : Int) := by omega
      have hk63 : (k : Int) + 1 ≤ 9223372036854775807 := by have := hsz.out; unfold maxLen at this; omega
      obtain ⟨x, hx⟩ : ∃ x, l[k]? = some x := ⟨_, List.getElem?_eq_getElem (by have := hsz.out; omega)⟩
      obtain ⟨g1, o1, rfl, hc1⟩ := H1.out k x hx
      obtain ⟨g2, o2, rfl, hc2⟩ := H2.out k x hx
      go_wp2
      go_quiet (fail)
      go_wp2
      go_roundg g
      case measure => omega
      case rel => exact ⟨k + 1, _, by omega, by simp, rfl⟩
end Go.Proofs.YtdifffdfiimlpaaGreatDoor
