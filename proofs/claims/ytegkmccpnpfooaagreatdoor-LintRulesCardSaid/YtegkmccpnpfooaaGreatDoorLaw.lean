/- The law LintRules, walked. No statement is proved here. -/
import Derived.Test.YtegkmccpnpfooaaGreatDoorRule
import Derived.Test.YtegkmccpnpfooaaGreatDoorAwakeOk
namespace Go.Proofs.YtegkmccpnpfooaaGreatDoor
open Go Go.RowKit Go.EvL
theorem awake_any (w : World) (hw : 3 ≤ w.heap.size) : Calls Tryz.prog 4 #[] w fun e w' => e = .returned (.bool true) ∧ Below w.heap.size w w' :=
  closed_calls prog_env prog_tys nmix (orcOK con51) (by rw [nglob]; decide) [] (fun x hx => by cases hx) awake_ok w (by rw [nglob]; exact hw) (fun x hx => by cases hx)
set_option maxRecDepth 100000 in
theorem lintPlain_any (l : List UInt8) (w : World) (hw : 3 ≤ w.heap.size) (hl : l.length ≤ 9223372036854775807) :
    Calls Tryz.prog 7 #[.string ⟨l.toArray⟩] w fun e w' => e = .returned (.bool (plainS l)) ∧ Below w.heap.size w w' := by
  have HP := Lib.hid (plain_any l w hw hl)
  go_enter Tryz.func7, Tryz.ntmps7
  go_wp2_with fail
  refine HP.out.mono ?_
  rintro e w1 ⟨rfl, hb⟩
  go_wp2
  go_ret
  exact ⟨rfl, hb⟩
set_option maxRecDepth 100000 in
set_option maxHeartbeats 4000000 in
theorem rules_walk (n : Int) (l : List UInt8) (w : World) (hw : 3 ≤ w.heap.size) (hl : l.length ≤ 9223372036854775807) :
    Calls Tryz.prog 3 #[.int .i64 n, .string ⟨l.toArray⟩] w fun e w' => e = .returned (.bool true) ∧ Below w.heap.size w w' := by
  obtain ⟨s, hr⟩ := rule_any n
  have H5 := Lib.hid hr.1
  have H6 := Lib.hid hr.2
  have H7 := Lib.hid (fun w hw => lintPlain_any l w hw hl)
  have H8 := Lib.hid (fun w hw => refPlain_any l w hw hl)
  clear hr
  have HA := Lib.hid awake_any
  by_cases h1 : (l.length : Int) > 1000
  · have hd : decide ((1000 : Int) < (l.length : Int)) = true := by simp; omega
    go_enter Tryz.func3, Tryz.ntmps3
    go_wp2_with fail
    refine (HA.out w hw).mono ?_
    rintro e w1 ⟨rfl, hb⟩
    go_wp2
    go_ret
    exact ⟨rfl, hb⟩
  · have hd : decide ((1000 : Int) < (l.length : Int)) = false := by simp; omega
    go_enter Tryz.func3, Tryz.ntmps3
    go_wp2_with fail
    refine (H5.out w hw).mono ?_
    rintro e w1 ⟨rfl, hb1⟩
    have hw1 := Nat.le_trans hw hb1.size
    go_wp2_with fail
    refine (H6.out w1 hw1).mono ?_
    rintro e w2 ⟨rfl, hb2⟩
    have hb02 := hb1.trans (hb2.mono hb1.size)
    have hw2 := Nat.le_trans hw hb02.size
    go_wp2_with fail
    refine (H7.out w2 hw2).mono ?_
    rintro e w3 ⟨rfl, hb3⟩
    have hb03 := hb02.trans (hb3.mono hb02.size)
    have hw3 := Nat.le_trans hw hb03.size
    go_wp2_with fail
    refine (H8.out w3 hw3).mono ?_
    rintro e w4 ⟨rfl, hb4⟩
    have hb04 := hb03.trans (hb4.mono hb03.size)
    have hw4 := Nat.le_trans hw hb04.size
    go_wp2_with fail
    refine (HA.out w4 hw4).mono ?_
    rintro e w5 ⟨rfl, hb5⟩
    go_wp2
    go_ret
    exact ⟨rfl, hb04.trans (hb5.mono hb04.size)⟩
end Go.Proofs.YtegkmccpnpfooaaGreatDoor
