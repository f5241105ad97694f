/- The reference: letters, digits, names; strings.Cut. No statement is proved here. -/
import Derived.Test.YtfdhkchglacccaaGreatDoorSnNN
import Derived.Laws.Cover1
import Derived.Deep.LoopGhost
import Derived.Carry
import Derived.Lib.FieldsLaws
import Derived.Lib.Hide
import Derived.BigQuiet
import Derived.Deep.QuietTactic
import Derived.Lib.Bytealg
set_option linter.all false
/-! the reference's names -/
namespace Go.Proofs.YtfdhkchglacccaaGreatDoor
open Go Go.RowKit Go.Mir
set_option maxHeartbeats 4000000
set_option maxRecDepth 100000
theorem rdig_calls (c : UInt8) (W : World) : Calls Tryz.prog 76 #[.int .u8 c.toNat] W fun e w' => e = .returned (.bool (isDigit c.toNat)) ∧ W = w' := by
  have hr : isDigit c.toNat = (decide ((48 : Int) ≤ (c.toNat : Int)) && decide ((c.toNat : Int) ≤ 57)) := by
    unfold isDigit
    rw [Bool.eq_iff_iff]; simp only [Bool.and_eq_true, decide_eq_true_eq]; omega
  rw [hr]
  generalize (c.toNat : Int) = z
  cases h1 : decide ((48 : Int) ≤ z) <;> cases h2 : decide (z ≤ 57)
  all_goals
    go_enter Tryz.func76, Tryz.ntmps76
    go_wp2
    go_ret
    exact ⟨rfl, rfl⟩
theorem rlet_calls (c : UInt8) (W : World) : Calls Tryz.prog 102 #[.int .u8 c.toNat] W fun e w' => e = .returned (.bool (isLetter c.toNat)) ∧ W = w' := by
  have hr : isLetter c.toNat = (decide ((97 : Int) ≤ (c.toNat : Int)) && decide ((c.toNat : Int) ≤ 122) || decide ((65 : Int) ≤ (c.toNat : Int)) && decide ((c.toNat : Int) ≤ 90)) := by
    unfold isLetter
    rw [Bool.eq_iff_iff]; simp only [Bool.and_eq_true, Bool.or_eq_true, decide_eq_true_eq]; omega
  rw [hr]
  generalize (c.toNat : Int) = z
  cases h1 : decide ((97 : Int) ≤ z) <;> cases h2 : decide (z ≤ 122) <;> cases h3 : decide ((65 : Int) ≤ z) <;> cases h4 : decide (z ≤ 90)
  all_goals
    go_enter Tryz.func102, Tryz.ntmps102
    go_wp2
    go_ret
    exact ⟨rfl, rfl⟩
theorem rword_calls (c : UInt8) (W : World) : Calls Tryz.prog 77 #[.int .u8 c.toNat] W fun e w' => e = .returned (.bool (isWord c.toNat)) ∧ W = w' := by
  have cl := fun W => rlet_calls c W
  have cd := fun W => rdig_calls c W
  have hr : isWord c.toNat = (isLetter c.toNat || isDigit c.toNat || ((c.toNat : Int) == 95)) := by
    unfold isWord
    congr 1
    rw [Bool.eq_iff_iff]; simp only [beq_iff_eq]; omega
  rw [hr]
  cases h1 : isLetter c.toNat <;> cases h2 : isDigit c.toNat <;> cases h3 : ((c.toNat : Int) == 95) <;> rw [h1] at cl <;> rw [h2] at cd
  all_goals
    clear h1 h2
    go_enter Tryz.func77, Tryz.ntmps77
    go_wp2_with (first
      | (go_at_call 102; refine (cl _).mono ?_; rintro e w' ⟨rfl, rfl⟩)
      | (go_at_call 76; refine (cd _).mono ?_; rintro e w' ⟨rfl, rfl⟩))
    go_ret
    exact ⟨rfl, rfl⟩
end Go.Proofs.YtfdhkchglacccaaGreatDoor

namespace Go.Proofs.YtfdhkchglacccaaGreatDoor
open Go Go.RowKit Go.Mir
set_option maxHeartbeats 4000000
set_option maxRecDepth 100000
theorem nameB_eq (t : List UInt8) : nameB t = (!t.isEmpty && decide (t.length ≤ 32) && !isDigit (bt t 0) && t.all fun c => isWord c.toNat) := rfl
theorem rname_calls (t : List UInt8) (W : World) : Calls Tryz.prog 38 #[.string ⟨t.toArray⟩] W fun e w' => e = .returned (.bool (nameB t)) ∧ W = w' := by
  by_cases h0 : t = []
  · subst h0
    have hr : nameB [] = false := rfl
    rw [hr]
    go_enter Tryz.func38, Tryz.ntmps38
    go_wp2
    go_ret
    exact ⟨rfl, rfl⟩
  have e0 : (t == []) = false := by simpa using h0
  have hl0 : 0 < t.length := List.length_pos_iff.2 h0
  by_cases h32 : 32 < t.length
  · have h32' : (32 : Int) < (t.length : Int) := by omega
    have hr : nameB t = false := by rw [nameB_eq, decide_eq_false (by omega)]; simp
    rw [hr]
    go_enter Tryz.func38, Tryz.ntmps38
    go_wp2
    go_ret
    exact ⟨rfl, rfl⟩
  have h32' : ¬ (32 : Int) < (t.length : Int) := by omega
  have hz : (0 : Int) < (t.length : Int) := by omega
  have cd := fun W => rdig_calls (t[0]) W
  have hb : bt t 0 = t[0].toNat := bt_get hl0
  cases hd : isDigit (bt t 0) with
  | true =>
    have hr : nameB t = false := by rw [nameB_eq, hd]; simp
    rw [hr]
    rw [hb] at hd
    rw [hd] at cd
    clear hb hd hr
    go_enter Tryz.func38, Tryz.ntmps38
    go_wp2_with (go_at_call 76; refine (cd _).mono ?_; rintro e w' ⟨rfl, rfl⟩)
    go_ret
    exact ⟨rfl, rfl⟩
  | false =>
    have hr : nameB t = t.all fun c => isWord c.toNat := by rw [nameB_eq, hd, decide_eq_true (by omega : t.length ≤ 32)]; cases t <;> simp_all
    rw [hr]
    rw [hb] at hd
    rw [hd] at cd
    clear hb hd hr
    obtain ⟨sz, hsz0⟩ : ∃ n, n = t.length := ⟨_, rfl⟩
    have hsz : Aside (sz = t.length) := hsz0
    go_enter Tryz.func38, Tryz.ntmps38
    go_wp2_with (go_at_call 76; refine (cd _).mono ?_; rintro e w' ⟨rfl, rfl⟩)
    go_loopg [3] sz (fun g s wx => ∃ k : Nat, k + g = sz ∧ s = .int .i64 k ∧ Aside ((t.drop k).all (fun c => isWord c.toNat) = t.all fun c => isWord c.toNat) ∧ wx = W)
    case atStart => exact ⟨0, by omega, rfl, rfl, rfl⟩
    case round =>
      obtain ⟨k, hkg, rfl, HI, rfl⟩ := hrel
      cases gk with
      | zero =>
        have hkz : ¬ (k : Int) < (t.length : Int) := by have := hsz.out; omega
        have ha : (t.all fun c => isWord c.toNat) = true := by rw [← HI.out, List.drop_eq_nil_of_le (by have := hsz.out; omega)]; rfl
        go_wp2
        go_ret
        exact ⟨rfl, rfl⟩
      | succ g =>
        have hkt : k < t.length := by have := hsz.out; omega
        have hk0 : (0 : Int) ≤ (k : Int) := by omega
        have hkz : (k : Int) < (t.length : Int) := by omega
        have hdrop : t.drop k = t[k] :: t.drop (k + 1) := drop_at hkt
        have cw := fun W => rword_calls (t[k]) W
        cases hw : isWord t[k].toNat with
        | false =>
          have ha : Aside ((t.all fun c => isWord c.toNat) = false) := by show _ = _; rw [← HI.out, hdrop, List.all_cons, hw]; rfl
          rw [hw] at cw
          clear hw hdrop
          go_wp2_with (go_at_call 77; refine (cw _).mono ?_; rintro e w' ⟨rfl, rfl⟩)
          go_ret
          exact ⟨congrArg (fun b => Ending.returned (.bool b)) ha.out.symm, rfl⟩
        | true =>
          have X : Aside ((t.drop (k + 1)).all (fun c => isWord c.toNat) = t.all fun c => isWord c.toNat) := by
            show _ = _
            rw [← HI.out, hdrop, List.all_cons, hw]; rfl
          rw [hw] at cw
          clear hw hdrop
          go_wp2_with (go_at_call 77; refine (cw _).mono ?_; rintro e w' ⟨rfl, rfl⟩)
          go_roundg g
          case measure => omega
          case rel => exact ⟨k + 1, by omega, by simp, X, rfl⟩
end Go.Proofs.YtfdhkchglacccaaGreatDoor

namespace Go.Proofs.YtfdhkchglacccaaGreatDoor
open Go Go.RowKit Go.Mir
set_option maxHeartbeats 4000000
set_option maxRecDepth 100000
theorem ext_take (x : List UInt8) (k : Nat) : (⟨x.toArray⟩ : ByteArray).extract 0 k = ⟨(x.take k).toArray⟩ := by
  apply ByteArray.ext
  rw [ByteArray.data_extract]
  apply Array.ext'
  simp [List.extract_eq_take_drop]
theorem ext_drop (x : List UInt8) (k : Nat) : (⟨x.toArray⟩ : ByteArray).extract k x.length = ⟨(x.drop k).toArray⟩ := by
  apply ByteArray.ext
  rw [ByteArray.data_extract]
  apply Array.ext'
  simp only [List.extract_toArray, List.extract_eq_take_drop]
  rw [List.take_of_length_le (by rw [List.length_drop]; omega)]
theorem below_drew (w : World) (n : Nat) : Below w.heap.size w (w.drewN n) := { os := rfl, tape := rfl, output := rfl, size := Nat.le_refl _, block := fun _ _ => rfl }
end Go.Proofs.YtfdhkchglacccaaGreatDoor

namespace Go.Proofs.YtfdhkchglacccaaGreatDoor
open Go Go.RowKit Go.Mir
set_option maxHeartbeats 2000000
set_option maxRecDepth 100000
theorem idx_to (t : List UInt8) : Lib.indexByte t 61 = if toByte t 61 0 < t.length then ((toByte t 61 0 : Nat) : Int) else -1 := by
  induction t with
  | nil => rfl
  | cons b l ih =>
    by_cases hb : b = 61
    · subst hb
      have h0 : toByte (61 :: l) 61 0 = 0 := run_off (by simp) (by rfl)
      rw [h0]
      simp [Lib.indexByte]
    · have hlt : 0 < (b :: l).length := by simp
      have hq : ((b :: l).map (·.toNat)).head? = some b.toNat := rfl
      have h1 : toByte (b :: l) 61 0 = toByte l 61 0 + 1 := by
        unfold toByte run
        simp only [List.drop_zero]
        have hn : (b.toNat != 61) = true := by
          simp only [bne_iff_ne, ne_eq]
          intro h
          exact hb (UInt8.toNat_inj.1 h)
        rw [List.takeWhile_cons, if_pos (by simpa using hn)]
        simp only [List.length_cons]; omega
      have hne : (b == 61) = false := by simpa using hb
      unfold Lib.indexByte
      rw [h1, ih, hne]
      simp only [Bool.false_eq_true, if_false, List.length_cons]
      by_cases h : toByte l 61 0 < l.length
      · rw [if_pos h, if_pos (show toByte l 61 0 + 1 < l.length + 1 by omega), if_neg (by simp only [beq_iff_eq]; omega)]
        omega
      · rw [if_neg h, if_neg (show ¬ toByte l 61 0 + 1 < l.length + 1 by omega)]
        rfl
theorem ixb_calls (t : List UInt8) (w : World) : Calls Tryz.prog 140 #[.string ⟨t.toArray⟩, .int .u8 61] w fun e w' => e = .returned (.int .i64 (Lib.indexByte t 61)) ∧ w = w' := by
  go_enter Tryz.func140, Tryz.ntmps140
  go_wp2
  rw [run_callFunc_extern Tryz.func158 (by kernel_rfl) (by kernel_rfl) (by kernel_rfl) (e := Extern.BytealgIndexByte.indexByte) (by kernel_rfl), Lib.run_indexByteString]
  simp only [Result.andThen]
  rw [Oper.upon_value]
  go_wp2
  go_ret
  exact ⟨rfl, rfl⟩
theorem ix_calls (t : List UInt8) (w : World) : Calls Tryz.prog 119 #[.string ⟨t.toArray⟩, .string ⟨#[61]⟩] w fun e w' => e = .returned (.int .i64 (Lib.indexByte t 61)) ∧ w = w' := by
  have ci := fun W => ixb_calls t W
  by_cases h : t = [61]
  · subst h
    have hr : Lib.indexByte [61] 61 = 0 := rfl
    rw [hr]
    clear ci hr
    go_enter Tryz.func119, Tryz.ntmps119
    go_wp2
    go_ret
    exact ⟨rfl, rfl⟩
  · have hq : ([61] == t) = false := by simpa using fun e : [61] = t => h e.symm
    generalize Lib.indexByte t 61 = r at ci ⊢
    go_enter Tryz.func119, Tryz.ntmps119
    go_wp2_with (go_at_call 140; refine (ci _).mono ?_; rintro e w' ⟨rfl, rfl⟩)
    go_ret
    exact ⟨rfl, rfl⟩
theorem lcut_calls (t : List UInt8) (w : World) (hm : t.length ≤ maxLen) : Calls Tryz.prog 96 #[.string ⟨t.toArray⟩, .string ⟨#[61]⟩] w fun e w' => e = .returned (.tuple #[.string ⟨(cutN t).1.toArray⟩, .string ⟨(cutN t).2.1.toArray⟩, .bool (cutN t).2.2]) ∧ Below w.heap.size w w' := by
  have ci := fun W => ix_calls t W
  rw [idx_to] at ci
  have hM : Aside (t.length ≤ maxLen) := hm
  clear hm
  obtain ⟨D, hD0⟩ : ∃ D, D = cutN t := ⟨_, rfl⟩
  rw [← hD0]
  obtain ⟨k, hk⟩ : ∃ k, k = toByte t 61 0 := ⟨_, rfl⟩
  unfold cutN at hD0
  rw [← hk] at ci hD0
  clear hk
  by_cases h : k < t.length
  · rw [if_pos h] at ci hD0
    have ha : Aside (D = (t.take k, t.drop (k + 1), true)) := hD0
    clear hD0
    have hk0 : (0 : Int) ≤ (k : Int) := by omega
    have hk1 : (k : Int) ≤ (t.length : Int) := by omega
    have hk2 : (0 : Int) ≤ (k : Int) + 1 := by omega
    have hk3 : (k : Int) + 1 ≤ (t.length : Int) := by omega
    have hwr : IntKind.i64.wrap ((k : Int) + 1) = (k : Int) + 1 := by
      have := hM.out
      unfold maxLen at this
      rw [IntWalk.i64_left, IntWalk.wrap64_in _ (by omega)]
    go_enter Tryz.func96, Tryz.ntmps96
    go_wp2_with (go_at_call 119; refine (ci _).mono ?_; rintro e w' ⟨rfl, rfl⟩)
    go_quiet (fail)
    go_wp2
    go_ret3
    rw [ha.out, ext_take, ext_drop]
    exact ⟨rfl, below_drew _ _⟩
  · rw [if_neg h] at ci hD0
    have ha : Aside (D = (t, [], false)) := hD0
    clear hD0
    go_enter Tryz.func96, Tryz.ntmps96
    go_wp2_with (go_at_call 119; refine (ci _).mono ?_; rintro e w' ⟨rfl, rfl⟩)
    go_ret3
    rw [ha.out]
    exact ⟨rfl, Below.refl _ _⟩
theorem cut_calls (t : List UInt8) (w : World) (hm : t.length ≤ maxLen) : Calls Tryz.prog 69 #[.string ⟨t.toArray⟩, .string ⟨#[61]⟩] w fun e w' => e = .returned (.tuple #[.string ⟨(cutN t).1.toArray⟩, .string ⟨(cutN t).2.1.toArray⟩, .bool (cutN t).2.2]) ∧ Below w.heap.size w w' := by
  have ci := fun W => lcut_calls t W hm
  generalize cutN t = D at ci ⊢
  go_enter Tryz.func69, Tryz.ntmps69
  go_wp2_with (go_at_call 96; refine (ci _).mono ?_; rintro e w' ⟨rfl, hB⟩)
  go_ret3
  exact ⟨rfl, hB⟩
end Go.Proofs.YtfdhkchglacccaaGreatDoor
