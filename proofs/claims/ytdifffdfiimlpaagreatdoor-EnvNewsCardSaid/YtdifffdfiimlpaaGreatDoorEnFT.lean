/- The program: New. No statement is proved here. -/
import Derived.Test.YtdifffdfiimlpaaGreatDoorEnFQA
import Derived.Test.YtdifffdfiimlpaaGreatDoorEnFQB
import Derived.Test.YtdifffdfiimlpaaGreatDoorEnFQC
set_option linter.all false
namespace Go.Proofs.YtdifffdfiimlpaaGreatDoor
open Go Go.RowKit Go.Mir Go.Maps Go.Sort
set_option maxHeartbeats 1000000
/-- what New leaves -/
def PostQ (w : World) (name : List UInt8) (ps : List (List UInt8)) (r : Except Int (List NV)) (e : Ending) (w' : World) : Prop := match r with
  | .error x => e = .returned (.tuple #[zEnv, .int .i64 x])
  | .ok R => ∃ (s : Value) (a' : Option Addr) (k' : Nat), e = .returned (.tuple #[mkEnv name (.slice a' ps.length k') s, .int .i64 0]) ∧ w'.ownsRow w.heap.size 43 5 s R.length (flatV R) ∧ RdT w' a' ps
theorem new_calls (name : List UInt8) (ps ls : List (List UInt8)) (hps : ps.length < 100000) (hls : ls.length < 900) (hlb : ∀ t ∈ ls, t.length ≤ maxLen) (ao bo : Option Addr) (c d : Nat) (w : World) (h1 : RdT w ao ps) (h2 : RdT w bo ls) :
    Calls Tryz.prog 7 #[.string ⟨name.toArray⟩, .slice ao ps.length c, .slice bo ls.length d] w fun e w' => PostQ w name ps (newF name ps ls) e w' ∧ Below w.heap.size w w' := by
  have c23 := fun (W : World) (hB : Below w.heap.size w W) => fromP_calls ls hls hlb bo d W (h2.below hB)
  have c24 := fun (W : World) (hB : Below w.heap.size w W) => args18 ps (by omega) ao c W (h1.below hB)
  cases hR : refF ls [] with
  | error x =>
    obtain rfl := refF_err ls [] x hR
    have hF : newF name ps ls = .error 3 := by unfold newF; rw [hR]
    rw [hF]
    exact new_e1 name ao bo _ _ c d w 3 rfl fun W hB => by have := c23 W hB; rw [hR] at this; exact this
  | ok L =>
    have hg := refF_good ls [] L good_nil hR
    by_cases h128 : 128 < L.length
    · have hF : newF name ps ls = .error 4 := by unfold newF; simp only [hR, if_pos h128]
      rw [hF]
      exact new_e1 name ao bo _ _ c d w 4 rfl fun W hB => by have := c23 W hB; rw [hR] at this; unfold PostL at this; simp only [if_pos h128] at this; exact this
    · have c23' : ∀ W : World, Below w.heap.size w W → Calls Tryz.prog 17 #[.slice bo ls.length d] W fun e w' => ∃ (n : Nat) (a : Option Addr) (k : Nat), e = .returned (.tuple #[.slice a n k, .int .i64 0]) ∧ Aside (n = L.length ∧ RdV w' a L) ∧ Below W.heap.size W w' := fun W hB => by
        refine (c23 W hB).mono ?_
        rintro e w' ⟨hP, hBB⟩
        rw [hR] at hP; unfold PostL at hP; simp only [if_neg h128] at hP
        obtain ⟨s, rfl, hro⟩ := hP
        obtain ⟨a2, k2, rfl, hr⟩ := rdV_of_row rfl hro
        exact ⟨_, a2, k2, rfl, ⟨rfl, hr⟩, hBB⟩
      have hF : newF name ps ls = if 4096 < name.length then .error 3 else if argsL ps = 0 then (if 128 < (put3 L).length then .error 4 else .ok (put3 L)) else .error (argsL ps) := by unfold newF; simp only [hR, if_neg h128]
      have HL : Aside (L.length ≤ 128) := by show _ ≤ _; omega
      by_cases hnm : 4096 < name.length
      · rw [hF, if_pos hnm]
        exact new_e2 name ao bo _ _ c d w L HL c23' (by omega)
      · rw [if_neg hnm] at hF
        by_cases e0 : argsL ps = 0
        · rw [if_pos e0] at hF
          rw [e0] at c24
          have hp3 := put3_perm hg.toGoodV
          have hl3 : (put3 L).length = (own3 ++ keepV L).length := hp3.length_eq
          have hps' : Aside (ps.length = ps.length ∧ ps.length < 100000 ∧ RdT w ao ps) := ⟨rfl, hps, h1⟩
          by_cases hp : 128 < (put3 L).length
          · rw [hF, if_pos hp]
            refine (new_e4 name ao bo _ _ c d w L HL c23' (by omega) c24 ps hps' (show Aside _ from (by rw [← hl3]; exact hp))).mono ?_
            rintro e w' ⟨hN, hB⟩
            unfold NewP at hN
            rw [if_pos (by rw [← hl3]; exact hp)] at hN
            exact ⟨hN, hB⟩
          · rw [hF, if_neg hp]
            have fin : ∀ e w', NewP w name ps.length ps L e w' ∧ Below w.heap.size w w' → PostQ w name ps (.ok (put3 L)) e w' ∧ Below w.heap.size w w' := by
              rintro e w' ⟨hN, hB⟩
              unfold NewP at hN
              rw [if_neg (by rw [← hl3]; exact hp)] at hN
              obtain ⟨s, a', k', S, he, hSp, hSs, hro, hr⟩ := hN
              have hS : S = put3 L := sorted_unique (put3_good hg.toGoodV).s hSs (hSp.trans hp3.symm)
              subst hS
              exact ⟨⟨s, a', k', he, hro, hr⟩, hB⟩
            cases ao with
            | none => exact (new_none name bo _ _ c d w L HL c23' (by omega) c24 ps hps' (show Aside _ from (by rw [← hl3]; exact hp))).mono fun e w' h => fin e w' h
            | some ad => exact (new_some name ad bo _ _ c d w L HL c23' (by omega) c24 ps hps' (show Aside _ from (by rw [← hl3]; exact hp))).mono fun e w' h => fin e w' h
        · rw [hF, if_neg e0]
          exact new_e3 name ao bo _ _ c d w L HL c23' (by omega) _ (by simpa using e0) c24
end Go.Proofs.YtdifffdfiimlpaaGreatDoor
