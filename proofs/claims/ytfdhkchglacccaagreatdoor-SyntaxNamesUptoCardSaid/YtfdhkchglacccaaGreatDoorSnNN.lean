/- Names: the walk of Name. No statement is proved here. -/
import Derived.Test.YtfdhkchglacccaaGreatDoorSnNM
set_option linter.all false
namespace Go.Proofs.YtfdhkchglacccaaGreatDoor
open Go.RowKit Go.Mir
set_option maxRecDepth 100000 in
set_option maxHeartbeats 4000000 in
theorem name_loop (l : List UInt8) (w : World) (h0 : 0 < l.length) (h32 : l.length ≤ 32) :
    Calls Tryz.prog 27 #[.string ⟨l.toArray⟩] w fun e w' => e = .returned (.bool (nameB l)) ∧ Below w.heap.size w w' := by
  have hc1 : decide ((l.length : Int) < 1) = false := by simp; omega
  have hc2 : decide ((32 : Int) < (l.length : Int)) = false := by simp; omega
  go_enter Tryz.func27, Tryz.ntmps27
  go_wp2
  go_loopw [3, 4] (fun _ _ wr => NRel w l wr) (fun _ _ wr => l.length - iterAt w.heap.size wr)
  case atStart => exact ⟨0, by omega, ⟨fun i hi => absurd hi (Nat.not_lt_zero _), fun h => absurd h (Nat.lt_irrefl _)⟩, (Below.refl _ w).alloc (Nat.le_refl _) _, World.iter_heap w _ 0⟩
  case round =>
    obtain ⟨j, hj, ha, hb, hi⟩ := hrel
    have HA := Lib.hid ha
    clear ha
    have hs := hb.size
    by_cases hlt : j < l.length
    · have hnx := fun ty => next_any (P := Tryz.prog) hi (show j < (⟨l.toArray⟩ : ByteArray).size from hlt) ty
      have hbt : bt l j = l[j].toNat := bt_get hlt
      by_cases h128 : l[j].toNat < 128
      · have hdec : Utf8.decode ⟨l.toArray⟩ j = (l[j].toNat, 1) := decode_ascii ⟨l.toArray⟩ j hlt h128
        rw [hdec] at hnx
        obtain ⟨hb1, hi1, hs1⟩ := nextW_below (p := j + 1) hb hi
        obtain ⟨w1, hw1⟩ : ∃ w1, w1 = nextW wr w.heap.size ⟨l.toArray⟩ (j + 1) := ⟨_, rfl⟩
        have hnx' : ∀ ty, (Instr.next (.pointer (some ⟨w.heap.size, 0, none⟩)) true ty).run Tryz.prog wr = .ok (.tuple #[.bool true, .int .i64 j, .int .i32 l[j].toNat]) w1 := by rw [hw1]; exact hnx
        rw [← hw1] at hb1 hi1 hs1
        clear hnx hdec hw1
        have HM : Hid (l.length - iterAt w.heap.size w1 < l.length - iterAt w.heap.size wr) := Lib.hid (by rw [iterAt_eq hi1, iterAt_eq hi]; omega)
        have HL := Lib.hid (let_any (l[j].toNat : Int) w1)
        have HD := Lib.hid (dig_any (l[j].toNat : Int) w1)
        have HW := Lib.hid (wordI h128)
        have HJ := Lib.hid hbt
        clear hbt
        cases hlb : lettI (l[j].toNat : Int) with
        | true =>
          rw [hlb] at HL
          have HP : Hid (isWord (bt l j) = true ∧ (j = 0 → isDigit (bt l j) = false)) := Lib.hid (by
            rw [HJ.out, HW.out, hlb]
            refine ⟨rfl, fun _ => ?_⟩
            unfold lettI at hlb
            unfold isDigit
            simp only [Bool.or_eq_true, Bool.and_eq_true, decide_eq_true_eq] at hlb
            rw [Bool.and_eq_false_iff]
            simp only [decide_eq_false_iff_not]
            omega)
          go_wp2_with fail
          refine HL.out.mono ?_
          rintro e w2 ⟨rfl, rfl⟩
          go_wp2
          go_roundw
          case rel => exact .step hlt HA.out HP.out.1 HP.out.2 hb1 hi1
          case measure => exact HM.out
        | false =>
          rw [hlb] at HL
          by_cases h95 : (l[j].toNat : Int) = 95
          · have HP : Hid (isWord (bt l j) = true ∧ (j = 0 → isDigit (bt l j) = false)) := Lib.hid (by
              rw [HJ.out, HW.out, hlb, decide_eq_true h95]
              refine ⟨rfl, fun _ => ?_⟩
              unfold isDigit
              rw [Bool.and_eq_false_iff]
              simp only [decide_eq_false_iff_not]
              omega)
            rw [h95] at hnx' HL
            clear h95 HD HW hlb
            go_wp2_with fail
            refine HL.out.mono ?_
            rintro e w2 ⟨rfl, rfl⟩
            go_wp2
            go_roundw
            case rel => exact .step hlt HA.out HP.out.1 HP.out.2 hb1 hi1
            case measure => exact HM.out
          · have hq : ((l[j].toNat : Int) == 95) = false := by simpa using h95
            cases hdb : digI (l[j].toNat : Int) with
            | false =>
              rw [hdb] at HD
              have HP : Hid (nameB l = false) := Lib.hid (nameB_false hlt (.inl (by rw [HJ.out, HW.out, hlb, hdb, decide_eq_false h95]; rfl)))
              go_wp2_with fail
              refine HL.out.mono ?_
              rintro e w2 ⟨rfl, rfl⟩
              go_wp2_with fail
              refine HD.out.mono ?_
              rintro e w2 ⟨rfl, rfl⟩
              go_wp2
              go_ret
              exact ⟨congrArg (fun b => Ending.returned (.bool b)) HP.out.symm, hb1⟩
            | true =>
              rw [hdb] at HD
              have hdd : isDigit (bt l j) = true := by
                rw [HJ.out]; unfold digI at hdb; unfold isDigit
                simp only [Bool.and_eq_true, decide_eq_true_eq] at hdb ⊢
                omega
              have HX := Lib.hid hdd
              clear hdd
              by_cases hj0 : j = 0
              · have hg : decide ((0 : Int) < (j : Int)) = false := by simp; omega
                have hg2 : decide (0 < j) = false := by simp; omega
                have HP : Hid (nameB l = false) := Lib.hid (nameB_false hlt (.inr ⟨hj0, HX.out⟩))
                clear hj0 hlb hdb h95
                go_wp2_with fail
                refine HL.out.mono ?_
                rintro e w2 ⟨rfl, rfl⟩
                go_wp2_with fail
                refine HD.out.mono ?_
                rintro e w2 ⟨rfl, rfl⟩
                go_wp2
                go_ret
                exact ⟨congrArg (fun b => Ending.returned (.bool b)) HP.out.symm, hb1⟩
              · have hg : decide ((0 : Int) < (j : Int)) = true := by simp; omega
                have hg2 : decide (0 < j) = true := by simp; omega
                have HP : Hid (isWord (bt l j) = true ∧ (j = 0 → isDigit (bt l j) = false)) := Lib.hid ⟨by rw [HJ.out, HW.out, hdb, Bool.or_true], fun h => absurd h hj0⟩
                clear hj0 hlb hdb h95
                go_wp2_with fail
                refine HL.out.mono ?_
                rintro e w2 ⟨rfl, rfl⟩
                go_wp2_with fail
                refine HD.out.mono ?_
                rintro e w2 ⟨rfl, rfl⟩
                go_wp2
                go_roundw
                case rel => exact .step hlt HA.out HP.out.1 HP.out.2 hb1 hi1
                case measure => exact HM.out
      · have hhi := decode_high ⟨l.toArray⟩ j hlt (by show 128 ≤ l[j].toNat; omega)
        obtain ⟨c, hc⟩ : ∃ c : Int, c = ((Utf8.decode ⟨l.toArray⟩ j).1 : Int) := ⟨_, rfl⟩
        have hc128 : 128 ≤ c := by omega
        obtain ⟨hb1, hi1, hs1⟩ := nextW_below (p := j + (Utf8.decode ⟨l.toArray⟩ j).2) hb hi
        obtain ⟨w1, hw1⟩ : ∃ w1, w1 = nextW wr w.heap.size ⟨l.toArray⟩ (j + (Utf8.decode ⟨l.toArray⟩ j).2) := ⟨_, rfl⟩
        have hnx' : ∀ ty, (Instr.next (.pointer (some ⟨w.heap.size, 0, none⟩)) true ty).run Tryz.prog wr = .ok (.tuple #[.bool true, .int .i64 j, .int .i32 c]) w1 := by rw [hw1, hc]; exact hnx
        rw [← hw1] at hb1
        have hw0 : isWord (bt l j) = false := by
          rw [hbt]; unfold isWord isLetter isDigit
          simp only [Bool.or_eq_false_iff, Bool.and_eq_false_iff, decide_eq_false_iff_not, beq_eq_false_iff_ne, ne_eq]
          omega
        have HP : Hid (nameB l = false) := Lib.hid (nameB_false hlt (.inl hw0))
        have hq : (c == 95) = false := by simp; omega
        have HL := Lib.hid (let_any c w1)
        have HD := Lib.hid (dig_any c w1)
        have e1 : lettI c = false := by unfold lettI; simp; omega
        have e2 : digI c = false := by unfold digI; simp; omega
        rw [e1] at HL
        rw [e2] at HD
        clear hnx hc hw1 hi1 hs1 hhi hbt hw0 e1 e2
        go_wp2_with fail
        refine HL.out.mono ?_
        rintro e w2 ⟨rfl, rfl⟩
        go_wp2_with fail
        refine HD.out.mono ?_
        rintro e w2 ⟨rfl, rfl⟩
        go_wp2
        go_ret
        exact ⟨congrArg (fun b => Ending.returned (.bool b)) HP.out.symm, hb1⟩
    · have hnx := fun ty => next_over (P := Tryz.prog) hi (show ¬ j < (⟨l.toArray⟩ : ByteArray).size from hlt) ty
      obtain rfl : j = l.length := by omega
      have HT := Lib.hid (nameB_true h0 h32 HA.out)
      go_wp2
      go_ret
      exact ⟨congrArg (fun b => Ending.returned (.bool b)) HT.out.symm, hb⟩
set_option maxRecDepth 100000 in
theorem name_any (l : List UInt8) (w : World) : Calls Tryz.prog 27 #[.string ⟨l.toArray⟩] w fun e w' => e = .returned (.bool (nameB l)) ∧ Below w.heap.size w w' := by
  by_cases h0 : l.length = 0
  · have hc1 : decide ((l.length : Int) < 1) = true := by simp; omega
    have hn : nameB l = false := by rw [List.length_eq_zero_iff.1 h0]; rfl
    rw [hn]
    go_enter Tryz.func27, Tryz.ntmps27
    go_wp2
    go_ret
    exact ⟨rfl, Below.refl _ _⟩
  by_cases h32 : l.length ≤ 32
  · exact name_loop l w (by omega) h32
  · have hc1 : decide ((l.length : Int) < 1) = false := by simp; omega
    have hc2 : decide ((32 : Int) < (l.length : Int)) = true := by simp; omega
    have hn : nameB l = false := by unfold nameB; rw [decide_eq_false h32]; simp
    rw [hn]
    go_enter Tryz.func27, Tryz.ntmps27
    go_wp2
    go_ret
    exact ⟨rfl, Below.refl _ _⟩
end Go.Proofs.YtfdhkchglacccaaGreatDoor
