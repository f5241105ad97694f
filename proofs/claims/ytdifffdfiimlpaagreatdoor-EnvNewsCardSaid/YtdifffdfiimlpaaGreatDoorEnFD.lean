/- The reference: an entry is divided. No statement is proved here. -/
import Derived.Test.YtdifffdfiimlpaaGreatDoorEnFC
import Derived.Lib.Hide
import Derived.BigQuiet
import Derived.Deep.QuietTactic
set_option linter.all false
namespace Go.Proofs.YtdifffdfiimlpaaGreatDoor
open Go Go.RowKit Go.Mir
set_option maxHeartbeats 4000000
set_option maxRecDepth 100000
theorem ext_take (x : List UInt8) (k : Nat) : (⟨x.toArray⟩ : ByteArray).extract 0 k = ⟨(x.take k).toArray⟩ := by
  apply ByteArray.ext
  rw [ByteArray.data_extract]
  apply Array.ext'
  simp [List.extract_eq_take_drop]
theorem ext_drop (x : List UInt8) (k : Nat) : (⟨x.toArray⟩ : ByteArray).extract k x.length = ⟨(x.drop k).toArray⟩ := by
  apply ByteArray.ext
  rw [ByteArray.data_extract]
  apply Array.ext'
  simp only [List.extract_toArray, List.extract_eq_take_drop]
  rw [List.take_of_length_le (by rw [List.length_drop]; omega)]
theorem below_drew (w : World) (n : Nat) : Below w.heap.size w (w.drewN n) := { os := rfl, tape := rfl, output := rfl, size := Nat.le_refl _, block := fun _ _ => rfl }
def divN (t : List UInt8) : List UInt8 × List UInt8 × Bool := if toByte t 61 0 < t.length then (t.take (toByte t 61 0), t.drop (toByte t 61 0 + 1), nameB (t.take (toByte t 61 0))) else ([], [], false)
theorem div_calls (t : List UInt8) (W : World) (hm : t.length ≤ maxLen) : Calls Tryz.prog 57 #[.string ⟨t.toArray⟩] W fun e w' => e = .returned (.tuple #[.string ⟨(divN t).1.toArray⟩, .string ⟨(divN t).2.1.toArray⟩, .bool (divN t).2.2]) ∧ Below W.heap.size W w' := by
  obtain ⟨sz, hsz0⟩ : ∃ n, n = t.length := ⟨_, rfl⟩
  have hsz : Aside (sz = t.length ∧ t.length ≤ maxLen) := ⟨hsz0, hm⟩
  clear hm
  obtain ⟨D, hD0⟩ : ∃ D, D = divN t := ⟨_, rfl⟩
  rw [← hD0]
  have hD : Aside (D = divN t) := hD0
  clear hD0
  go_enter Tryz.func57, Tryz.ntmps57
  go_wp2
  go_loopg [5] sz (fun g s wx => ∃ k : Nat, k + g = sz ∧ s = .int .i64 k ∧ Aside (toByte t 61 k = toByte t 61 0) ∧ wx = W)
  case atStart => exact ⟨0, by omega, rfl, rfl, rfl⟩
  case round =>
    obtain ⟨k, hkg, rfl, HI, rfl⟩ := hrel
    cases gk with
    | zero =>
      have hkz : ¬ (k : Int) < (t.length : Int) := by have := hsz.out; omega
      have ha : Aside (D = ([], [], false)) := by
        show _ = _
        rw [hD.out]; unfold divN
        rw [← HI.out, if_neg]
        have h1 := run_ge (fun x => x != 61) t k
        unfold toByte; omega
      go_wp2
      go_ret3
      exact ⟨by rw [ha.out]; rfl, Below.refl _ _⟩
    | succ g =>
      have hkt : k < t.length := by have := hsz.out; omega
      have hk0 : (0 : Int) ≤ (k : Int) := by omega
      have hkz : (k : Int) < (t.length : Int) := by omega
      have hk63 : (k : Int) + 1 ≤ 9223372036854775807 := by have := hsz.out.2; unfold maxLen at this; omega
      by_cases hb : t[k].toNat = 61
      · have hbb : (((⟨t.toArray⟩ : ByteArray)[k].toNat : Int) == 61) = true := by
          rw [show (⟨t.toArray⟩ : ByteArray)[k] = t[k] from rfl, hb]; rfl
        have hto : toByte t 61 0 = k := by
          rw [← HI.out]; exact run_off hkt (by rw [bt_get hkt, hb]; rfl)
        have ha : Aside (D = (t.take k, t.drop (k + 1), nameB (t.take k))) := by
          show _ = _
          rw [hD.out]; unfold divN
          rw [hto, if_pos hkt]
        have cn := fun W => rname_calls (t.take k) W
        rw [← ext_take] at cn
        have CQ := Lib.hid (fun n => (cn (wr.drewN n)).mono fun e w' h => And.intro h.1 h.2.symm)
        clear cn
        have hk1 : (k : Int) ≤ (t.length : Int) := by omega
        have hwr : IntKind.i64.wrap ((k : Int) + 1) = (k : Int) + 1 := by rw [IntWalk.i64_left, IntWalk.wrap64_in _ (by omega)]
        have hk2 : (0 : Int) ≤ (k : Int) + 1 := by omega
        have hk3 : (k : Int) + 1 ≤ (t.length : Int) := by omega
        clear hb hto
        go_wp2
        go_quiet ((go_at_call 60; exact Calls.quiet_of_same (CQ.out _)))
        go_wp2
        go_ret3
        rw [ha.out, ext_take, ext_drop]
        exact ⟨rfl, below_drew _ _⟩
      · have hbb : (((⟨t.toArray⟩ : ByteArray)[k].toNat : Int) == 61) = false := by
          rw [show (⟨t.toArray⟩ : ByteArray)[k] = t[k] from rfl]; simp; omega
        have X : Aside (toByte t 61 (k + 1) = toByte t 61 0) := by
          show _ = _
          rw [← HI.out]; exact (run_on hkt (by rw [bt_get hkt]; simpa using hb)).symm
        go_wp2
        go_roundg g
        case measure => omega
        case rel => exact ⟨k + 1, by omega, by simp, X, rfl⟩
end Go.Proofs.YtdifffdfiimlpaaGreatDoor
