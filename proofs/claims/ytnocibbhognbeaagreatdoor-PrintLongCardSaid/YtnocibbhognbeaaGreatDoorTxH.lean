/- What functions of the program and of the reference compute, on values. No statement is proved here. -/
import Derived.Test.YtnocibbhognbeaaGreatDoorTxC
import Derived.Test.YtnocibbhognbeaaGreatDoorTxD
import Derived.Test.YtnocibbhognbeaaGreatDoorTxG
set_option linter.unusedSimpArgs false
set_option linter.unusedVariables false
namespace Go.Proofs.YtnocibbhognbeaaGreatDoor
open Go Go.EvL Go.PE Go.RowKit
theorem con14 : OrcCon Tryz.prog orc14 where
  keys := fun g it t h => by cases h
  one := fun g t h => by cases h
  none_ := fun g t h => by cases h
  some_ := fun g t h => by cases h
  two_ := fun g t h => by cases h
  look := fun g off f h => by cases h
  tab := fun g args v h => by
    have h : tabFind [(59, [.string ⟨#[98, 10]⟩], .string ⟨#[69, 79, 70]⟩)] g args = some v := h
    have h := tabFind_in h
    simp only [List.mem_cons, List.not_mem_nil, or_false, Prod.mk.injEq] at h
    obtain ⟨rfl, rfl, rfl⟩ := h
    exact ⟨rfl, rfl, fun W hW => delim W (by rw [nglob] at hW; exact hW)⟩
theorem orc14_ok : OrcOK Tryz.prog orc14 := orcOK con14
theorem prog_parts : Parts Tryz.prog := fun call hC hM => by
  have hO := opsOK prog_env prog_tys
  have hOm := opMono Tryz.prog
  have hD := drawOK nmix hO hOm hC hM
  have hDm := drawMono (P := Tryz.prog) (call := call) hOm hM
  exact ⟨hD, hDm, deferOK prog_env hO hOm hC hM hD hDm, deferMono hOm hM hDm⟩
theorem laid_in : ∀ x ∈ laidsP, x.g < Tryz.prog.globals.size ∧ x.cells.all (plain 50) = true := fun x hx => by
  obtain rfl : x = ⟨0, opsL, 76⟩ := by simpa [laidsP] using hx
  exact ⟨by rw [nglob]; decide, by kernel_rfl⟩
theorem laid_few : ∀ x ∈ laidsP, x.cells.length < 1000000 := fun x hx => by
  obtain rfl : x = ⟨0, opsL, 76⟩ := by simpa [laidsP] using hx
  decide
theorem laid_start : LayOK (startOf Tryz.prog laidsP) (fun _ => 0) 0 := fun x hx => by
  obtain rfl : x = ⟨0, opsL, 76⟩ := by simpa [laidsP] using hx
  refine ⟨?_, ⟨?_, fun k hk => absurd hk (Nat.not_lt_zero _)⟩, ?_⟩
  · kernel_rfl
  · rw [startOf_eq]; show 0 < Tryz.prog.globals.size; rw [nglob]; decide
  · kernel_rfl
theorem awake_calls (w : World) (hw : Tryz.prog.globals.size ≤ w.heap.size) (hl : LaidIn w) : Calls Tryz.prog 4 #[] w fun e w' => e = .returned (.bool true) ∧ Below w.heap.size w w' :=
  closed_laid prog_env prog_tys nmix orc14_ok laid_in awake4_ok w hw hl
theorem ext_ok : PCallOK Tryz.prog (puOf ΓL) ext2 := ext2_ok prog_env (opsOK prog_env prog_tys) nmix prog_parts (extA_ok ⟨_, _, Tryz.func4, rfl⟩ laid_in laid_few awake_calls _)
/-- PrintLong at whatever came in -/
theorem long_calls {W : World} (hg : Tryz.prog.globals.size ≤ W.heap.size) (hl : LaidIn W) {x0 : Int} (h0 : (Lit.int .u8 x0).wf = true) : Calls Tryz.prog 3 #[.int .u8 x0] W fun e w' => e = .returned (.bool true) ∧ Below W.heap.size W w' := by
  have h1 : (decide (IntKind.u8.min ≤ x0) && decide (x0 ≤ IntKind.u8.max)) = true := h0
  rw [Bool.and_eq_true, decide_eq_true_iff, decide_eq_true_iff] at h1
  have h2 : (0 : Int) ≤ x0 := h1.1
  have h3 : x0 ≤ 255 := h1.2
  obtain ⟨k, rfl⟩ : ∃ k : Nat, x0 = (k : Int) := ⟨x0.toNat, by omega⟩
  refine pe_calls (pvs := [cv k]) (vs := [.int .u8 (k : Int)]) prog_env (opsOK prog_env prog_tys) nmix prog_parts tabL ext_ok laid_in laid_start rfl hg hl ?_ ?_ (long_run (by omega) ps0)
  · exact .cons _ _ _ _ (.int _ _) .nil
  · exact .cons _ _ _ _ (.cl _ _ (.sc _ rfl)) .nil
end Go.Proofs.YtnocibbhognbeaaGreatDoor
