/- A slice of bytes that came in, as the shell of a proof gives it, read as a list of bytes. -/
import Derived.Test.YtoljigllnhenoaaAwake
import Derived.OpenShut
namespace Go.Proofs.Ytoljigllnhenoaa
open Go.RowKit
theorem row_reads {w : World} {a : Option Addr} {len cap : Nat} {zs : List Int}
    (h : (a = none ∧ len = 0 ∧ cap = 0 ∧ zs = []) ∨ ∃ x, a = some x ∧ len ≤ cap ∧ cap ≤ maxLen ∧ zs.length = cap ∧ (∀ i, i < zs.length → w.cell? (x.add i) = some (.int .u8 (zs.getD i 0))) ∧ ∀ n ∈ zs, (Lit.int .u8 n).wf = true) :
    ∃ l : List UInt8, len = l.length ∧ l.length ≤ cap ∧ l.length ≤ 9223372036854775807 ∧ Reads w w.heap.size 1 a l.length (bv l) := by
  rcases h with ⟨rfl, rfl, rfl, rfl⟩ | ⟨x, rfl, hl, hm, hz, hcell, hwf⟩
  · exact ⟨[], rfl, Nat.le_refl _, by simp, Reads.none_⟩
  · have hlen : ((zs.take len).map fun n => UInt8.ofNat n.toNat).length = len := by simp; omega
    refine ⟨(zs.take len).map fun n => UInt8.ofNat n.toNat, hlen.symm, by omega, by unfold maxLen at hm; omega, ?_⟩
    rw [hlen]
    refine ⟨by rw [bv_length, hlen]; omega, fun hn => ⟨x, rfl, ?_, fun j u hu => ?_⟩⟩
    · have := World.block_lt_of_cell? w _ (hcell 0 (by omega))
      rwa [block_of_add] at this
    · simp only [bv, List.map_map, List.getElem?_map, Option.map_eq_some_iff] at hu
      obtain ⟨n, hn', rfl⟩ := hu
      rw [List.getElem?_take] at hn'
      split at hn'
      · rename_i hj
        have hj' : j < zs.length := by omega
        rw [hcell j hj']
        rw [List.getElem?_eq_getElem hj'] at hn'
        injection hn' with hn'
        have hw := hwf _ (List.getElem_mem hj')
        have hb : 0 ≤ n ∧ n ≤ 255 := by
          rw [hn'] at hw
          simpa [Lit.wf, IntKind.min, IntKind.max, IntKind.signed, IntKind.bits] using hw
        simp only [Function.comp, List.getD_eq_getElem?_getD, List.getElem?_eq_getElem hj', Option.getD_some, hn', UInt8.toNat_ofNat']
        congr 2
        omega
      · cases hn'
theorem byte_bound {n : Int} (h : (Lit.int .u8 n).wf = true) : ∃ m : Nat, m < 256 ∧ n = (m : Int) := by
  have hb : 0 ≤ n ∧ n ≤ 255 := by simpa [Lit.wf, IntKind.min, IntKind.max, IntKind.signed, IntKind.bits] using h
  exact ⟨n.toNat, by omega, by omega⟩
theorem int_bound {n : Int} (h : (Lit.int .i64 n).wf = true) : -9223372036854775808 ≤ n ∧ n ≤ 9223372036854775807 := by
  simpa [Lit.wf, IntKind.min, IntKind.max, IntKind.signed, IntKind.bits] using h
end Go.Proofs.Ytoljigllnhenoaa
