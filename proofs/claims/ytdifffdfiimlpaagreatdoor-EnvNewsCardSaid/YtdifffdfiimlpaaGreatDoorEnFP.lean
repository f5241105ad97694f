/- The program: New where it fails. No statement is proved here. -/
import Derived.Test.YtdifffdfiimlpaaGreatDoorEnFK
import Derived.Test.YtdifffdfiimlpaaGreatDoorEnFL
import Derived.Test.YtdifffdfiimlpaaGreatDoorEnFM
import Derived.Test.YtdifffdfiimlpaaGreatDoorEnFO
import Derived.Test.YtdifffdfiimlpaaGreatDoorEnPL
import Derived.Test.YtdifffdfiimlpaaGreatDoorEnF2
set_option linter.all false
namespace Go.Proofs.YtdifffdfiimlpaaGreatDoor
open Go Go.RowKit Go.Mir Go.Maps Go.Sort
set_option maxHeartbeats 2000000
set_option maxRecDepth 100000
theorem good_nil : GoodT [] := ⟨⟨List.Pairwise.nil, fun x hx => by cases hx⟩, fun x hx => by cases hx⟩
theorem fromP_calls (ls : List (List UInt8)) (hls : ls.length < 900) (hlb : ∀ t ∈ ls, t.length ≤ maxLen) (ao : Option Addr) (cap : Nat) (w : World) (hrd : RdT w ao ls) :
    Calls Tryz.prog 17 #[.slice ao ls.length cap] w fun e w' => PostL w (refF ls []) e w' ∧ Below w.heap.size w w' := by
  refine (from_calls (fun t W h => cut_calls t W h) (fun t W => name_any t W) ls (by omega) hlb ao cap w hrd).mono ?_
  rintro e w' ⟨hB, h⟩
  refine ⟨?_, hB⟩
  have hr := runF_eq ls [] good_nil
  have hr' : runF ls (.map []) = _ := hr
  rw [hr'] at h
  cases hR : refF ls [] with
  | error x => rw [hR] at h; exact h
  | ok L =>
    rw [hR] at h
    have hg := refF_good ls [] L good_nil hR
    simp only [size_ent] at h
    unfold PostL
    simp only
    by_cases h128 : 128 < L.length
    · rw [if_pos h128] at h ⊢; exact h
    · rw [if_neg h128] at h ⊢
      obtain ⟨v, ss, he, hp, hro⟩ := h
      rw [rows_eq hg hp] at hro
      have hl : ss.length = L.length := by rw [hp.length_eq, keys_eq]; simp
      rw [hl] at hro
      exact ⟨v, he, hro⟩
theorem args18 (ps : List (List UInt8)) (hps : ps.length < 1000000) (ao : Option Addr) (c : Nat) (w : World) (h : RdT w ao ps) :
    Calls Tryz.prog 18 #[.slice ao ps.length c] w fun e w' => e = .returned (.int .i64 (argsL ps)) ∧ w = w' :=
  (args_calls ps hps ao c w h).mono fun _ _ ⟨h1, h2⟩ => ⟨h1, h2.symm⟩
theorem new_e1 (name : List UInt8) (ao bo : Option Addr) (n1 n2 c d : Nat) (w : World) (x : Int) (hx : (x != 0) = true) (c23 : ∀ W : World, Below w.heap.size w W → Calls Tryz.prog 17 #[.slice bo n2 d] W fun e w' => e = .returned (.tuple #[.slice none 0 0, .int .i64 x]) ∧ Below W.heap.size W w') :
    Calls Tryz.prog 7 #[.string ⟨name.toArray⟩, .slice ao n1 c, .slice bo n2 d] w fun e w' => e = .returned (.tuple #[zEnv, .int .i64 x]) ∧ Below w.heap.size w w' := by
  go_enter Tryz.func7, Tryz.ntmps7
  go_wp2_with (first
    | (go_at_call 17; refine (c23 _ ((Below.refl _ _).alloc (Nat.le_refl _) _)).mono ?_; rintro e W1 ⟨rfl, hB1⟩; have hw1 : Below w.heap.size w W1 := ((Below.refl _ _).alloc (Nat.le_refl _) _).trans (hB1.mono (by simp)); obtain ⟨z0, z1, z2, z3, z4, z5, z6, z7, z8, z9, z10, z11, z12, z13, z14, z15⟩ := zb_in hB1))
  (try simp only [Exit.inBlock, Exit.then])
  refine bodyPost_ret (v := .tuple #[zEnv, .int .i64 x]) ?_ rfl ⟨rfl, ?_⟩
  · rw [results_cell_tmp rfl]; go_simp
  · exact below_fill hw1 (Nat.le_refl _) _ _ _ _ _ _ _ _ _ _ _ _ _ _ _
theorem new_e2 (name : List UInt8) (ao bo : Option Addr) (n1 n2 c d : Nat) (w : World) (L : List NV) (HL : Aside (L.length ≤ 128)) (c23 : ∀ W : World, Below w.heap.size w W → Calls Tryz.prog 17 #[.slice bo n2 d] W fun e w' => ∃ (n : Nat) (a : Option Addr) (k : Nat), e = .returned (.tuple #[.slice a n k, .int .i64 0]) ∧ Aside (n = L.length ∧ RdV w' a L) ∧ Below W.heap.size W w') (hnm : (4096 : Int) < (name.length : Int)) :
    Calls Tryz.prog 7 #[.string ⟨name.toArray⟩, .slice ao n1 c, .slice bo n2 d] w fun e w' => e = .returned (.tuple #[zEnv, .int .i64 3]) ∧ Below w.heap.size w w' := by
  go_enter Tryz.func7, Tryz.ntmps7
  go_wp2_with (first
    | (go_at_call 17; refine (c23 _ ((Below.refl _ _).alloc (Nat.le_refl _) _)).mono ?_; rintro e W1 ⟨m1, a1, k1, rfl, HA1, hB1⟩; have hw1 : Below w.heap.size w W1 := ((Below.refl _ _).alloc (Nat.le_refl _) _).trans (hB1.mono (by simp)); obtain ⟨z0, z1, z2, z3, z4, z5, z6, z7, z8, z9, z10, z11, z12, z13, z14, z15⟩ := zb_in hB1))
  (try simp only [Exit.inBlock, Exit.then])
  refine bodyPost_ret (v := .tuple #[zEnv, .int .i64 3]) ?_ rfl ⟨rfl, ?_⟩
  · rw [results_cell_tmp rfl]; go_simp
  · exact below_fill hw1 (Nat.le_refl _) _ _ _ _ _ _ _ _ _ _ _ _ _ _ _
theorem new_e3 (name : List UInt8) (ao bo : Option Addr) (n1 n2 c d : Nat) (w : World) (L : List NV) (HL : Aside (L.length ≤ 128)) (c23 : ∀ W : World, Below w.heap.size w W → Calls Tryz.prog 17 #[.slice bo n2 d] W fun e w' => ∃ (n : Nat) (a : Option Addr) (k : Nat), e = .returned (.tuple #[.slice a n k, .int .i64 0]) ∧ Aside (n = L.length ∧ RdV w' a L) ∧ Below W.heap.size W w') (hnm : ¬ (4096 : Int) < (name.length : Int)) (x : Int) (hx : (x != 0) = true) (c24 : ∀ W : World, Below w.heap.size w W → Calls Tryz.prog 18 #[.slice ao n1 c] W fun e w' => e = .returned (.int .i64 x) ∧ W = w') :
    Calls Tryz.prog 7 #[.string ⟨name.toArray⟩, .slice ao n1 c, .slice bo n2 d] w fun e w' => e = .returned (.tuple #[zEnv, .int .i64 x]) ∧ Below w.heap.size w w' := by
  go_enter Tryz.func7, Tryz.ntmps7
  go_wp2_with (first
    | (go_at_call 17; refine (c23 _ ((Below.refl _ _).alloc (Nat.le_refl _) _)).mono ?_; rintro e W1 ⟨m1, a1, k1, rfl, HA1, hB1⟩; have hw1 : Below w.heap.size w W1 := ((Below.refl _ _).alloc (Nat.le_refl _) _).trans (hB1.mono (by simp)); obtain ⟨z0, z1, z2, z3, z4, z5, z6, z7, z8, z9, z10, z11, z12, z13, z14, z15⟩ := zb_in hB1)
    | (go_at_call 18; refine (c24 _ hw1).mono ?_; rintro e W1 ⟨rfl, rfl⟩))
  (try simp only [Exit.inBlock, Exit.then])
  refine bodyPost_ret (v := .tuple #[zEnv, .int .i64 x]) ?_ rfl ⟨rfl, ?_⟩
  · rw [results_cell_tmp rfl]; go_simp
  · exact below_fill hw1 (Nat.le_refl _) _ _ _ _ _ _ _ _ _ _ _ _ _ _ _
end Go.Proofs.YtdifffdfiimlpaaGreatDoor
