/- The reference: letters and digits. No statement is proved here. -/
import Derived.Test.YtdifffdfiimlpaaGreatDoorEnNM2
import Derived.Laws.Cover1
set_option linter.all false
/-! the reference's names -/
namespace Go.Proofs.YtdifffdfiimlpaaGreatDoor
open Go Go.RowKit Go.Mir
set_option maxHeartbeats 4000000
set_option maxRecDepth 100000
theorem rdig_calls (c : UInt8) (W : World) : Calls Tryz.prog 108 #[.int .u8 c.toNat] W fun e w' => e = .returned (.bool (isDigit c.toNat)) ∧ W = w' := by
  have hr : isDigit c.toNat = (decide ((48 : Int) ≤ (c.toNat : Int)) && decide ((c.toNat : Int) ≤ 57)) := by
    unfold isDigit
    rw [Bool.eq_iff_iff]; simp only [Bool.and_eq_true, decide_eq_true_eq]; omega
  rw [hr]
  generalize (c.toNat : Int) = z
  cases h1 : decide ((48 : Int) ≤ z) <;> cases h2 : decide (z ≤ 57)
  all_goals
    go_enter Tryz.func108, Tryz.ntmps108
    go_wp2
    go_ret
    exact ⟨rfl, rfl⟩
theorem rlet_calls (c : UInt8) (W : World) : Calls Tryz.prog 148 #[.int .u8 c.toNat] W fun e w' => e = .returned (.bool (isLetter c.toNat)) ∧ W = w' := by
  have hr : isLetter c.toNat = (decide ((97 : Int) ≤ (c.toNat : Int)) && decide ((c.toNat : Int) ≤ 122) || decide ((65 : Int) ≤ (c.toNat : Int)) && decide ((c.toNat : Int) ≤ 90)) := by
    unfold isLetter
    rw [Bool.eq_iff_iff]; simp only [Bool.and_eq_true, Bool.or_eq_true, decide_eq_true_eq]; omega
  rw [hr]
  generalize (c.toNat : Int) = z
  cases h1 : decide ((97 : Int) ≤ z) <;> cases h2 : decide (z ≤ 122) <;> cases h3 : decide ((65 : Int) ≤ z) <;> cases h4 : decide (z ≤ 90)
  all_goals
    go_enter Tryz.func148, Tryz.ntmps148
    go_wp2
    go_ret
    exact ⟨rfl, rfl⟩
theorem rword_calls (c : UInt8) (W : World) : Calls Tryz.prog 109 #[.int .u8 c.toNat] W fun e w' => e = .returned (.bool (isWord c.toNat)) ∧ W = w' := by
  have cl := fun W => rlet_calls c W
  have cd := fun W => rdig_calls c W
  have hr : isWord c.toNat = (isLetter c.toNat || isDigit c.toNat || ((c.toNat : Int) == 95)) := by
    unfold isWord
    congr 1
    rw [Bool.eq_iff_iff]; simp only [beq_iff_eq]; omega
  rw [hr]
  cases h1 : isLetter c.toNat <;> cases h2 : isDigit c.toNat <;> cases h3 : ((c.toNat : Int) == 95) <;> rw [h1] at cl <;> rw [h2] at cd
  all_goals
    clear h1 h2
    go_enter Tryz.func109, Tryz.ntmps109
    go_wp2_with (first
      | (go_at_call 148; refine (cl _).mono ?_; rintro e w' ⟨rfl, rfl⟩)
      | (go_at_call 108; refine (cd _).mono ?_; rintro e w' ⟨rfl, rfl⟩))
    go_ret
    exact ⟨rfl, rfl⟩
end Go.Proofs.YtdifffdfiimlpaaGreatDoor
