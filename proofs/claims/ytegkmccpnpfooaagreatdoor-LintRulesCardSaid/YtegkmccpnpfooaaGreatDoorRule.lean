/- What Rule and the reference Rule compute. No statement is proved here. -/
import Derived.Test.YtegkmccpnpfooaaGreatDoorPlain
namespace Go.Proofs.YtegkmccpnpfooaaGreatDoor
open Go Go.RowKit Go.EvL
set_option maxRecDepth 1000000
theorem val_at {g : FuncId} {args : List Value} {v : Value} (h : closedVal Tryz.prog noOrc [] 100 g args = some v) (w : World) (hw : 3 ≤ w.heap.size) : Calls Tryz.prog g args.toArray w fun e w' => e = .returned v ∧ Below w.heap.size w w' :=
  closed_val prog_env prog_tys nmix (noOrcOK _) (by rw [nglob]; decide) [] (fun x hx => by cases hx) h w (by rw [nglob]; exact hw) (fun x hx => by cases hx)
def RuleAt (n : Int) (s : ByteArray) : Prop := (∀ w : World, 3 ≤ w.heap.size → Calls Tryz.prog 5 #[.int .i64 n] w fun e w' => e = .returned (.string s) ∧ Below w.heap.size w w') ∧ (∀ w : World, 3 ≤ w.heap.size → Calls Tryz.prog 6 #[.int .i64 n] w fun e w' => e = .returned (.string s) ∧ Below w.heap.size w w')
theorem rule1 : RuleAt 1 ⟨#[97, 110, 32, 117, 110, 113, 117, 111, 116, 101, 100, 32, 101, 120, 112, 97, 110, 115, 105, 111, 110, 32, 105, 115, 32, 100, 105, 118, 105, 100, 101, 100, 32, 105, 110, 116, 111, 32, 102, 105, 101, 108, 100, 115]⟩ :=
  ⟨fun w hw => val_at (args := [.int .i64 1]) (show closedVal Tryz.prog noOrc [] 100 5 [.int .i64 1] = some (.string ⟨#[97, 110, 32, 117, 110, 113, 117, 111, 116, 101, 100, 32, 101, 120, 112, 97, 110, 115, 105, 111, 110, 32, 105, 115, 32, 100, 105, 118, 105, 100, 101, 100, 32, 105, 110, 116, 111, 32, 102, 105, 101, 108, 100, 115]⟩) by kernel_rfl) w hw, fun w hw => val_at (args := [.int .i64 1]) (show closedVal Tryz.prog noOrc [] 100 6 [.int .i64 1] = some (.string ⟨#[97, 110, 32, 117, 110, 113, 117, 111, 116, 101, 100, 32, 101, 120, 112, 97, 110, 115, 105, 111, 110, 32, 105, 115, 32, 100, 105, 118, 105, 100, 101, 100, 32, 105, 110, 116, 111, 32, 102, 105, 101, 108, 100, 115]⟩) by kernel_rfl) w hw⟩
theorem rule2 : RuleAt 2 ⟨#[99, 111, 109, 109, 97, 110, 100, 115, 32, 105, 110, 32, 98, 97, 99, 107, 113, 117, 111, 116, 101, 115]⟩ :=
  ⟨fun w hw => val_at (args := [.int .i64 2]) (show closedVal Tryz.prog noOrc [] 100 5 [.int .i64 2] = some (.string ⟨#[99, 111, 109, 109, 97, 110, 100, 115, 32, 105, 110, 32, 98, 97, 99, 107, 113, 117, 111, 116, 101, 115]⟩) by kernel_rfl) w hw, fun w hw => val_at (args := [.int .i64 2]) (show closedVal Tryz.prog noOrc [] 100 6 [.int .i64 2] = some (.string ⟨#[99, 111, 109, 109, 97, 110, 100, 115, 32, 105, 110, 32, 98, 97, 99, 107, 113, 117, 111, 116, 101, 115]⟩) by kernel_rfl) w hw⟩
theorem rule3 : RuleAt 3 ⟨#[99, 100, 32, 119, 105, 116, 104, 111, 117, 116, 32, 97, 32, 116, 101, 115, 116]⟩ :=
  ⟨fun w hw => val_at (args := [.int .i64 3]) (show closedVal Tryz.prog noOrc [] 100 5 [.int .i64 3] = some (.string ⟨#[99, 100, 32, 119, 105, 116, 104, 111, 117, 116, 32, 97, 32, 116, 101, 115, 116]⟩) by kernel_rfl) w hw, fun w hw => val_at (args := [.int .i64 3]) (show closedVal Tryz.prog noOrc [] 100 6 [.int .i64 3] = some (.string ⟨#[99, 100, 32, 119, 105, 116, 104, 111, 117, 116, 32, 97, 32, 116, 101, 115, 116]⟩) by kernel_rfl) w hw⟩
theorem rule4 : RuleAt 4 ⟨#[97, 32, 102, 117, 110, 99, 116, 105, 111, 110, 32, 116, 104, 97, 116, 32, 105, 115, 32, 110, 111, 116, 32, 117, 115, 101, 100]⟩ :=
  ⟨fun w hw => val_at (args := [.int .i64 4]) (show closedVal Tryz.prog noOrc [] 100 5 [.int .i64 4] = some (.string ⟨#[97, 32, 102, 117, 110, 99, 116, 105, 111, 110, 32, 116, 104, 97, 116, 32, 105, 115, 32, 110, 111, 116, 32, 117, 115, 101, 100]⟩) by kernel_rfl) w hw, fun w hw => val_at (args := [.int .i64 4]) (show closedVal Tryz.prog noOrc [] 100 6 [.int .i64 4] = some (.string ⟨#[97, 32, 102, 117, 110, 99, 116, 105, 111, 110, 32, 116, 104, 97, 116, 32, 105, 115, 32, 110, 111, 116, 32, 117, 115, 101, 100]⟩) by kernel_rfl) w hw⟩
theorem rule5 : RuleAt 5 ⟨#[99, 111, 109, 109, 97, 110, 100, 115, 32, 116, 104, 97, 116, 32, 97, 114, 101, 32, 110, 111, 116, 32, 101, 120, 101, 99, 117, 116, 101, 100]⟩ :=
  ⟨fun w hw => val_at (args := [.int .i64 5]) (show closedVal Tryz.prog noOrc [] 100 5 [.int .i64 5] = some (.string ⟨#[99, 111, 109, 109, 97, 110, 100, 115, 32, 116, 104, 97, 116, 32, 97, 114, 101, 32, 110, 111, 116, 32, 101, 120, 101, 99, 117, 116, 101, 100]⟩) by kernel_rfl) w hw, fun w hw => val_at (args := [.int .i64 5]) (show closedVal Tryz.prog noOrc [] 100 6 [.int .i64 5] = some (.string ⟨#[99, 111, 109, 109, 97, 110, 100, 115, 32, 116, 104, 97, 116, 32, 97, 114, 101, 32, 110, 111, 116, 32, 101, 120, 101, 99, 117, 116, 101, 100]⟩) by kernel_rfl) w hw⟩
theorem rule6 : RuleAt 6 ⟨#[97, 110, 32, 117, 110, 113, 117, 111, 116, 101, 100, 32, 111, 112, 101, 114, 97, 110, 100]⟩ :=
  ⟨fun w hw => val_at (args := [.int .i64 6]) (show closedVal Tryz.prog noOrc [] 100 5 [.int .i64 6] = some (.string ⟨#[97, 110, 32, 117, 110, 113, 117, 111, 116, 101, 100, 32, 111, 112, 101, 114, 97, 110, 100]⟩) by kernel_rfl) w hw, fun w hw => val_at (args := [.int .i64 6]) (show closedVal Tryz.prog noOrc [] 100 6 [.int .i64 6] = some (.string ⟨#[97, 110, 32, 117, 110, 113, 117, 111, 116, 101, 100, 32, 111, 112, 101, 114, 97, 110, 100]⟩) by kernel_rfl) w hw⟩
theorem rule7 : RuleAt 7 ⟨#[112, 97, 114, 97, 109, 101, 116, 101, 114, 115, 32, 116, 104, 97, 116, 32, 97, 114, 101, 32, 100, 105, 118, 105, 100, 101, 100, 32, 111, 114, 32, 106, 111, 105, 110, 101, 100]⟩ :=
  ⟨fun w hw => val_at (args := [.int .i64 7]) (show closedVal Tryz.prog noOrc [] 100 5 [.int .i64 7] = some (.string ⟨#[112, 97, 114, 97, 109, 101, 116, 101, 114, 115, 32, 116, 104, 97, 116, 32, 97, 114, 101, 32, 100, 105, 118, 105, 100, 101, 100, 32, 111, 114, 32, 106, 111, 105, 110, 101, 100]⟩) by kernel_rfl) w hw, fun w hw => val_at (args := [.int .i64 7]) (show closedVal Tryz.prog noOrc [] 100 6 [.int .i64 7] = some (.string ⟨#[112, 97, 114, 97, 109, 101, 116, 101, 114, 115, 32, 116, 104, 97, 116, 32, 97, 114, 101, 32, 100, 105, 118, 105, 100, 101, 100, 32, 111, 114, 32, 106, 111, 105, 110, 101, 100]⟩) by kernel_rfl) w hw⟩
theorem rule8 : RuleAt 8 ⟨#[97, 32, 110, 101, 101, 100, 108, 101, 115, 115, 32, 99, 97, 116]⟩ :=
  ⟨fun w hw => val_at (args := [.int .i64 8]) (show closedVal Tryz.prog noOrc [] 100 5 [.int .i64 8] = some (.string ⟨#[97, 32, 110, 101, 101, 100, 108, 101, 115, 115, 32, 99, 97, 116]⟩) by kernel_rfl) w hw, fun w hw => val_at (args := [.int .i64 8]) (show closedVal Tryz.prog noOrc [] 100 6 [.int .i64 8] = some (.string ⟨#[97, 32, 110, 101, 101, 100, 108, 101, 115, 115, 32, 99, 97, 116]⟩) by kernel_rfl) w hw⟩
theorem rule9 : RuleAt 9 ⟨#[97, 32, 118, 97, 114, 105, 97, 98, 108, 101, 32, 116, 104, 97, 116, 32, 105, 115, 32, 115, 101, 116, 32, 105, 110, 32, 97, 32, 115, 117, 98, 115, 104, 101, 108, 108]⟩ :=
  ⟨fun w hw => val_at (args := [.int .i64 9]) (show closedVal Tryz.prog noOrc [] 100 5 [.int .i64 9] = some (.string ⟨#[97, 32, 118, 97, 114, 105, 97, 98, 108, 101, 32, 116, 104, 97, 116, 32, 105, 115, 32, 115, 101, 116, 32, 105, 110, 32, 97, 32, 115, 117, 98, 115, 104, 101, 108, 108]⟩) by kernel_rfl) w hw, fun w hw => val_at (args := [.int .i64 9]) (show closedVal Tryz.prog noOrc [] 100 6 [.int .i64 9] = some (.string ⟨#[97, 32, 118, 97, 114, 105, 97, 98, 108, 101, 32, 116, 104, 97, 116, 32, 105, 115, 32, 115, 101, 116, 32, 105, 110, 32, 97, 32, 115, 117, 98, 115, 104, 101, 108, 108]⟩) by kernel_rfl) w hw⟩
theorem rule10 : RuleAt 10 ⟨#[61, 61, 32, 105, 110, 32, 97, 32, 116, 101, 115, 116]⟩ :=
  ⟨fun w hw => val_at (args := [.int .i64 10]) (show closedVal Tryz.prog noOrc [] 100 5 [.int .i64 10] = some (.string ⟨#[61, 61, 32, 105, 110, 32, 97, 32, 116, 101, 115, 116]⟩) by kernel_rfl) w hw, fun w hw => val_at (args := [.int .i64 10]) (show closedVal Tryz.prog noOrc [] 100 6 [.int .i64 10] = some (.string ⟨#[61, 61, 32, 105, 110, 32, 97, 32, 116, 101, 115, 116]⟩) by kernel_rfl) w hw⟩
theorem rule11 : RuleAt 11 ⟨#[114, 101, 97, 100, 32, 119, 105, 116, 104, 111, 117, 116, 32, 45, 114]⟩ :=
  ⟨fun w hw => val_at (args := [.int .i64 11]) (show closedVal Tryz.prog noOrc [] 100 5 [.int .i64 11] = some (.string ⟨#[114, 101, 97, 100, 32, 119, 105, 116, 104, 111, 117, 116, 32, 45, 114]⟩) by kernel_rfl) w hw, fun w hw => val_at (args := [.int .i64 11]) (show closedVal Tryz.prog noOrc [] 100 6 [.int .i64 11] = some (.string ⟨#[114, 101, 97, 100, 32, 119, 105, 116, 104, 111, 117, 116, 32, 45, 114]⟩) by kernel_rfl) w hw⟩
theorem rule12 : RuleAt 12 ⟨#[114, 101, 100, 105, 114, 101, 99, 116, 105, 111, 110, 115, 32, 105, 110, 32, 116, 104, 101, 32, 119, 114, 111, 110, 103, 32, 111, 114, 100, 101, 114]⟩ :=
  ⟨fun w hw => val_at (args := [.int .i64 12]) (show closedVal Tryz.prog noOrc [] 100 5 [.int .i64 12] = some (.string ⟨#[114, 101, 100, 105, 114, 101, 99, 116, 105, 111, 110, 115, 32, 105, 110, 32, 116, 104, 101, 32, 119, 114, 111, 110, 103, 32, 111, 114, 100, 101, 114]⟩) by kernel_rfl) w hw, fun w hw => val_at (args := [.int .i64 12]) (show closedVal Tryz.prog noOrc [] 100 6 [.int .i64 12] = some (.string ⟨#[114, 101, 100, 105, 114, 101, 99, 116, 105, 111, 110, 115, 32, 105, 110, 32, 116, 104, 101, 32, 119, 114, 111, 110, 103, 32, 111, 114, 100, 101, 114]⟩) by kernel_rfl) w hw⟩
set_option maxHeartbeats 4000000 in
theorem ruleNo5 (n : Int) (h1 : n ≠ 1) (h2 : n ≠ 2) (h3 : n ≠ 3) (h4 : n ≠ 4) (h5 : n ≠ 5) (h6 : n ≠ 6) (h7 : n ≠ 7) (h8 : n ≠ 8) (h9 : n ≠ 9) (h10 : n ≠ 10) (h11 : n ≠ 11) (h12 : n ≠ 12) (w : World) : Calls Tryz.prog 5 #[.int .i64 n] w fun e w' => e = .returned (.string ⟨#[]⟩) ∧ w = w' := by
  have d1 : (n == 1) = false := by simpa using h1
  have d2 : (n == 2) = false := by simpa using h2
  have d3 : (n == 3) = false := by simpa using h3
  have d4 : (n == 4) = false := by simpa using h4
  have d5 : (n == 5) = false := by simpa using h5
  have d6 : (n == 6) = false := by simpa using h6
  have d7 : (n == 7) = false := by simpa using h7
  have d8 : (n == 8) = false := by simpa using h8
  have d9 : (n == 9) = false := by simpa using h9
  have d10 : (n == 10) = false := by simpa using h10
  have d11 : (n == 11) = false := by simpa using h11
  have d12 : (n == 12) = false := by simpa using h12
  go_enter Tryz.func5, Tryz.ntmps5
  go_wp2
  go_ret
  exact ⟨rfl, rfl⟩
set_option maxHeartbeats 4000000 in
theorem ruleNo6 (n : Int) (h1 : n ≠ 1) (h2 : n ≠ 2) (h3 : n ≠ 3) (h4 : n ≠ 4) (h5 : n ≠ 5) (h6 : n ≠ 6) (h7 : n ≠ 7) (h8 : n ≠ 8) (h9 : n ≠ 9) (h10 : n ≠ 10) (h11 : n ≠ 11) (h12 : n ≠ 12) (w : World) : Calls Tryz.prog 6 #[.int .i64 n] w fun e w' => e = .returned (.string ⟨#[]⟩) ∧ w = w' := by
  have d1 : (n == 1) = false := by simpa using h1
  have d2 : (n == 2) = false := by simpa using h2
  have d3 : (n == 3) = false := by simpa using h3
  have d4 : (n == 4) = false := by simpa using h4
  have d5 : (n == 5) = false := by simpa using h5
  have d6 : (n == 6) = false := by simpa using h6
  have d7 : (n == 7) = false := by simpa using h7
  have d8 : (n == 8) = false := by simpa using h8
  have d9 : (n == 9) = false := by simpa using h9
  have d10 : (n == 10) = false := by simpa using h10
  have d11 : (n == 11) = false := by simpa using h11
  have d12 : (n == 12) = false := by simpa using h12
  go_enter Tryz.func6, Tryz.ntmps6
  go_wp2
  go_ret
  exact ⟨rfl, rfl⟩
theorem rule_any (n : Int) : ∃ s, RuleAt n s := by
  by_cases h1 : n = 1
  · subst h1; exact ⟨_, rule1⟩
  by_cases h2 : n = 2
  · subst h2; exact ⟨_, rule2⟩
  by_cases h3 : n = 3
  · subst h3; exact ⟨_, rule3⟩
  by_cases h4 : n = 4
  · subst h4; exact ⟨_, rule4⟩
  by_cases h5 : n = 5
  · subst h5; exact ⟨_, rule5⟩
  by_cases h6 : n = 6
  · subst h6; exact ⟨_, rule6⟩
  by_cases h7 : n = 7
  · subst h7; exact ⟨_, rule7⟩
  by_cases h8 : n = 8
  · subst h8; exact ⟨_, rule8⟩
  by_cases h9 : n = 9
  · subst h9; exact ⟨_, rule9⟩
  by_cases h10 : n = 10
  · subst h10; exact ⟨_, rule10⟩
  by_cases h11 : n = 11
  · subst h11; exact ⟨_, rule11⟩
  by_cases h12 : n = 12
  · subst h12; exact ⟨_, rule12⟩
  exact ⟨⟨#[]⟩, fun w hw => (ruleNo5 n h1 h2 h3 h4 h5 h6 h7 h8 h9 h10 h11 h12 w).mono (by rintro e w' ⟨rfl, rfl⟩; exact ⟨rfl, Below.refl _ _⟩), fun w hw => (ruleNo6 n h1 h2 h3 h4 h5 h6 h7 h8 h9 h10 h11 h12 w).mono (by rintro e w' ⟨rfl, rfl⟩; exact ⟨rfl, Below.refl _ _⟩)⟩
end Go.Proofs.YtegkmccpnpfooaaGreatDoor
