/- SameTexts of the reference at equal rows. -/
import Derived.Test.YtoljigllnhenoaaRefText
namespace Go.Proofs.Ytoljigllnhenoaa
open Go.RowKit
theorem reads_text {w : World} {B : Nat} {A : Option Addr} {d : List (List UInt8)} {k : Nat} (h : Reads w B 1 A d.length (sv d)) (hk : k < d.length) :
    ∃ b off, A = some ⟨b, off, none⟩ ∧ b < B ∧ w.cell? ⟨b, off + k, none⟩ = some (.string ⟨d[k].toArray⟩) := by
  obtain ⟨⟨b, off, sp⟩, u, rfl, hb, hx, hc⟩ := h.at_ hk
  have hsp : sp = none := by
    obtain ⟨ad, e, _, hc0⟩ := h.2 (by omega)
    injection e with e
    subst e
    have hp : 0 < (sv d).length := by rw [sv_length]; omega
    have h0 := hc0 0 ((sv d)[0]'hp) (List.getElem?_eq_getElem hp)
    simpa [Addr.add] using World.cell?_spot h0
  subst hsp
  refine ⟨b, off, rfl, hb, ?_⟩
  have hadd : (⟨b, off, none⟩ : Addr).add k = ⟨b, off + k, none⟩ := by unfold Addr.add; split <;> simp_all
  rw [← hadd, hc, ← hx]
  simp [sv, hk]
def SameRel (w : World) (n : Nat) (i : Value) (wr : World) : Prop := ∃ j k : Nat, j ≤ n ∧ i = .int .i64 (j : Int) ∧ wr = w.drewN k
set_option maxRecDepth 100000 in
set_option maxHeartbeats 2000000 in
theorem sameTexts (A A' : Option Addr) (c c' : Nat) (d : List (List UInt8)) (w : World) (h : Reads w w.heap.size 1 A d.length (sv d)) (h' : Reads w w.heap.size 1 A' d.length (sv d)) (hl : d.length ≤ 1000000) :
    Calls Try.prog 23 #[.slice A d.length c, .slice A' d.length c'] w fun e w' => e = .returned (.bool true) ∧ ∃ k, w' = w.drewN k := by
  go_enter Try.func23, Try.ntmps23
  go_wp2
  go_loopw [5] (fun i wr => SameRel w d.length i wr) (fun i _ => d.length - (intOf i).toNat)
  case atStart => exact ⟨0, 0, by omega, rfl, rfl⟩
  case round =>
    obtain ⟨j, k, hj, rfl, rfl⟩ := hrel
    by_cases hlt : j < d.length
    · obtain ⟨b, off, rfl, hb, hcell⟩ := reads_text h hlt
      obtain ⟨b', off', rfl, hb', hcell'⟩ := reads_text h' hlt
      have hp0 : (0 : Int) ≤ (j : Int) := by omega
      have hp1 : (j : Int) < (d.length : Int) := by omega
      have hq : (w.drewN k).cell? ⟨b, off + j, none⟩ = some (.string ⟨d[j].toArray⟩) := hcell
      have hq' : (w.drewN k).cell? ⟨b', off' + j, none⟩ = some (.string ⟨d[j].toArray⟩) := hcell'
      go_wp2
      go_quiet (fail)
      go_wp2
      go_roundw
      case rel => exact ⟨j + 1, _, by omega, by simp, rfl⟩
      case measure => simp [intOf]; omega
    · obtain rfl : j = d.length := by omega
      go_wp2
      go_ret
      exact ⟨rfl, _, rfl⟩
end Go.Proofs.Ytoljigllnhenoaa
