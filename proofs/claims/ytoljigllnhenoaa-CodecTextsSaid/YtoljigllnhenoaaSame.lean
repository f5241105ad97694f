/- SameBytes of the reference; a conversion of bytes to a string. -/
import Derived.Test.YtoljigllnhenoaaPut
import Derived.Laws.IdiomStrings
import Derived.Laws.BytesArg
namespace Go.Proofs.Ytoljigllnhenoaa
open Go.RowKit
theorem bytes_string {w : World} {B : Nat} {A : Option Addr} {l : List UInt8} (h : Reads w B 1 A l.length (bv l)) (c : Nat) (w1 : World) (hw : ∀ p : Addr, p.block < B → w1.cell? p = w.cell? p) :
    (convert 22 9 (.slice A l.length c)).run Try.prog w1 = .ok (.string ⟨l.toArray⟩) w1 := by
  have h1 : Reads w1 B 1 A l.length (bv l) := h.keep hw
  rcases Nat.eq_zero_or_pos l.length with h0 | h0
  · have hl : l = [] := List.eq_nil_of_length_eq_zero h0
    subst hl
    rw [run_convert_bytes_string w1 22 9 5 A _ c Try.underlying22 Try.underlying5 Try.underlying9]
    cases A <;> simp [Conv.bytesToString, loadCells] <;> rfl
  · obtain ⟨ad, rfl, _, hc⟩ := h1.2 h0
    refine run_convert_bytes_back w1 22 9 5 ad c l Try.underlying22 Try.underlying5 Try.underlying9 (fun j hj => hc j _ ?_)
    simp [bv, hj]

theorem sameBytes (A A' : Option Addr) (c c' : Nat) (l l' : List UInt8) (w : World) (h : Reads w w.heap.size 1 A l.length (bv l)) (h' : Reads w w.heap.size 1 A' l'.length (bv l')) :
    Calls Try.prog 14 #[.slice A l.length c, .slice A' l'.length c'] w fun e w' => e = .returned (.bool (l == l')) ∧ w = w' := by
  have g := bytes_string h c w (fun _ _ => rfl)
  have g' := bytes_string h' c' w (fun _ _ => rfl)
  go_enter Try.func14, Try.ntmps14
  go_wp2
  go_ret
  exact ⟨rfl, rfl⟩
end Go.Proofs.Ytoljigllnhenoaa
