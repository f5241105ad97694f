/- The program: Cut. No statement is proved here. -/
import Derived.Test.YtdifffdfiimlpaaGreatDoorEnFD
import Derived.Lib.Bytealg
set_option linter.all false
namespace Go.Proofs.YtdifffdfiimlpaaGreatDoor
open Go Go.RowKit Go.Mir
set_option maxHeartbeats 2000000
set_option maxRecDepth 100000
theorem idx_to (t : List UInt8) : Lib.indexByte t 61 = if toByte t 61 0 < t.length then ((toByte t 61 0 : Nat) : Int) else -1 := by
  induction t with
  | nil => rfl
  | cons b l ih =>
    by_cases hb : b = 61
    · subst hb
      have h0 : toByte (61 :: l) 61 0 = 0 := run_off (by simp) (by rfl)
      rw [h0]
      simp [Lib.indexByte]
    · have hlt : 0 < (b :: l).length := by simp
      have hq : ((b :: l).map (·.toNat)).head? = some b.toNat := rfl
      have h1 : toByte (b :: l) 61 0 = toByte l 61 0 + 1 := by
        unfold toByte run
        simp only [List.drop_zero]
        have hn : (b.toNat != 61) = true := by
          simp only [bne_iff_ne, ne_eq]
          intro h
          exact hb (UInt8.toNat_inj.1 h)
        rw [List.takeWhile_cons, if_pos (by simpa using hn)]
        simp only [List.length_cons]; omega
      have hne : (b == 61) = false := by simpa using hb
      unfold Lib.indexByte
      rw [h1, ih, hne]
      simp only [Bool.false_eq_true, if_false, List.length_cons]
      by_cases h : toByte l 61 0 < l.length
      · rw [if_pos h, if_pos (show toByte l 61 0 + 1 < l.length + 1 by omega), if_neg (by simp only [beq_iff_eq]; omega)]
        omega
      · rw [if_neg h, if_neg (show ¬ toByte l 61 0 + 1 < l.length + 1 by omega)]
        rfl
theorem ixb_calls (t : List UInt8) (w : World) : Calls Tryz.prog 175 #[.string ⟨t.toArray⟩, .int .u8 61] w fun e w' => e = .returned (.int .i64 (Lib.indexByte t 61)) ∧ w = w' := by
  go_enter Tryz.func175, Tryz.ntmps175
  go_wp2
  rw [run_callFunc_extern Tryz.func212 (by kernel_rfl) (by kernel_rfl) (by kernel_rfl) (e := Extern.BytealgIndexByte.indexByte) (by kernel_rfl), Lib.run_indexByteString]
  simp only [Result.andThen]
  rw [Oper.upon_value]
  go_wp2
  go_ret
  exact ⟨rfl, rfl⟩
theorem ix_calls (t : List UInt8) (w : World) : Calls Tryz.prog 139 #[.string ⟨t.toArray⟩, .string ⟨#[61]⟩] w fun e w' => e = .returned (.int .i64 (Lib.indexByte t 61)) ∧ w = w' := by
  have ci := fun W => ixb_calls t W
  by_cases h : t = [61]
  · subst h
    have hr : Lib.indexByte [61] 61 = 0 := rfl
    rw [hr]
    clear ci hr
    go_enter Tryz.func139, Tryz.ntmps139
    go_wp2
    go_ret
    exact ⟨rfl, rfl⟩
  · have hq : ([61] == t) = false := by simpa using fun e : [61] = t => h e.symm
    generalize Lib.indexByte t 61 = r at ci ⊢
    go_enter Tryz.func139, Tryz.ntmps139
    go_wp2_with (go_at_call 175; refine (ci _).mono ?_; rintro e w' ⟨rfl, rfl⟩)
    go_ret
    exact ⟨rfl, rfl⟩
theorem lcut_calls (t : List UInt8) (w : World) (hm : t.length ≤ maxLen) : Calls Tryz.prog 87 #[.string ⟨t.toArray⟩, .string ⟨#[61]⟩] w fun e w' => e = .returned (.tuple #[.string ⟨(cutN t).1.toArray⟩, .string ⟨(cutN t).2.1.toArray⟩, .bool (cutN t).2.2]) ∧ Below w.heap.size w w' := by
  have ci := fun W => ix_calls t W
  rw [idx_to] at ci
  have hM : Aside (t.length ≤ maxLen) := hm
  clear hm
  obtain ⟨D, hD0⟩ : ∃ D, D = cutN t := ⟨_, rfl⟩
  rw [← hD0]
  obtain ⟨k, hk⟩ : ∃ k, k = toByte t 61 0 := ⟨_, rfl⟩
  unfold cutN at hD0
  rw [← hk] at ci hD0
  clear hk
  by_cases h : k < t.length
  · rw [if_pos h] at ci hD0
    have ha : Aside (D = (t.take k, t.drop (k + 1), true)) := hD0
    clear hD0
    have hk0 : (0 : Int) ≤ (k : Int) := by omega
    have hk1 : (k : Int) ≤ (t.length : Int) := by omega
    have hk2 : (0 : Int) ≤ (k : Int) + 1 := by omega
    have hk3 : (k : Int) + 1 ≤ (t.length : Int) := by omega
    have hwr : IntKind.i64.wrap ((k : Int) + 1) = (k : Int) + 1 := by
      have := hM.out
      unfold maxLen at this
      rw [IntWalk.i64_left, IntWalk.wrap64_in _ (by omega)]
    go_enter Tryz.func87, Tryz.ntmps87
    go_wp2_with (go_at_call 139; refine (ci _).mono ?_; rintro e w' ⟨rfl, rfl⟩)
    go_quiet (fail)
    go_wp2
    go_ret3
    rw [ha.out, ext_take, ext_drop]
    exact ⟨rfl, below_drew _ _⟩
  · rw [if_neg h] at ci hD0
    have ha : Aside (D = (t, [], false)) := hD0
    clear hD0
    go_enter Tryz.func87, Tryz.ntmps87
    go_wp2_with (go_at_call 139; refine (ci _).mono ?_; rintro e w' ⟨rfl, rfl⟩)
    go_ret3
    rw [ha.out]
    exact ⟨rfl, Below.refl _ _⟩
theorem cut_calls (t : List UInt8) (w : World) (hm : t.length ≤ maxLen) : Calls Tryz.prog 50 #[.string ⟨t.toArray⟩, .string ⟨#[61]⟩] w fun e w' => e = .returned (.tuple #[.string ⟨(cutN t).1.toArray⟩, .string ⟨(cutN t).2.1.toArray⟩, .bool (cutN t).2.2]) ∧ Below w.heap.size w w' := by
  have ci := fun W => lcut_calls t W hm
  generalize cutN t = D at ci ⊢
  go_enter Tryz.func50, Tryz.ntmps50
  go_wp2_with (go_at_call 87; refine (ci _).mono ?_; rintro e w' ⟨rfl, hB⟩)
  go_ret3
  exact ⟨rfl, hB⟩
end Go.Proofs.YtdifffdfiimlpaaGreatDoor
