/- The reference: New. No statement is proved here. -/
import Derived.Test.YtdifffdfiimlpaaGreatDoorEnFJ
import Derived.Laws.ResultCell
set_option linter.all false
namespace Go.Proofs.YtdifffdfiimlpaaGreatDoor
open Go Go.RowKit Go.Mir Go.Maps Go.Sort
set_option maxHeartbeats 2000000
set_option maxRecDepth 100000
def newF (name : List UInt8) (ps ls : List (List UInt8)) : Except Int (List NV) := match refF ls [] with
  | .error x => .error x
  | .ok L => if 128 < L.length then .error 4 else if 4096 < name.length then .error 3 else if argsL ps = 0 then (if 128 < (put3 L).length then .error 4 else .ok (put3 L)) else .error (argsL ps)
def PostN (w : World) (mk : Value → Value) (z : Value) (r : Except Int (List NV)) (e : Ending) (w' : World) : Prop := match r with
  | .error x => e = .returned (.tuple #[z, .int .i64 x])
  | .ok L => ∃ s, e = .returned (.tuple #[mk s, .int .i64 0]) ∧ w'.ownsRow w.heap.size 43 5 s L.length (flatV L)
noncomputable abbrev zEnv : Value := .agg #[.string ⟨#[]⟩, .slice none 0 0, .slice none 0 0, .slice none 0 0, .slice none 0 0, .slice none 0 0, .int .i64 0, .int .i64 0, .int .i64 0, .int .i64 0, .string ⟨#[]⟩, .int .i64 0, .int .i64 0, .int .i64 0, .bool false]
noncomputable abbrev mkEnv (name : List UInt8) (ps : Value) (s : Value) : Value := .agg #[.string ⟨name.toArray⟩, s, ps, .slice none 0 0, .slice none 0 0, .slice none 0 0, .int .i64 0, .int .i64 0, .int .i64 0, .int .i64 0, .string ⟨#[47]⟩, .int .i64 1, .int .i64 0, .int .i64 0, .bool false]
theorem frozen_new (w : World) (cs : Array Value) (t : TypeId) (i : Nat) : (w.alloc (.cells cs t)).frozen? ⟨w.heap.size, i, none⟩ = false := by
  unfold World.frozen? World.alloc
  simp
noncomputable abbrev zb (w : World) : World := w.alloc (.cells #[.string ⟨#[]⟩, .slice none 0 0, .slice none 0 0, .slice none 0 0, .slice none 0 0, .slice none 0 0, .int .i64 0, .int .i64 0, .int .i64 0, .int .i64 0, .string ⟨#[]⟩, .int .i64 0, .int .i64 0, .int .i64 0, .bool false] 32)
theorem zb_in {w W : World} (h : Below (zb w).heap.size (zb w) W) : (∀ i, W.frozen? ⟨w.heap.size, i, none⟩ = false) ∧ W.cell? ⟨w.heap.size, 0, none⟩ = some (.string ⟨#[]⟩) ∧ W.cell? ⟨w.heap.size, 1, none⟩ = some (.slice none 0 0) ∧ W.cell? ⟨w.heap.size, 2, none⟩ = some (.slice none 0 0) ∧ W.cell? ⟨w.heap.size, 3, none⟩ = some (.slice none 0 0) ∧ W.cell? ⟨w.heap.size, 4, none⟩ = some (.slice none 0 0) ∧ W.cell? ⟨w.heap.size, 5, none⟩ = some (.slice none 0 0) ∧ W.cell? ⟨w.heap.size, 6, none⟩ = some (.int .i64 0) ∧ W.cell? ⟨w.heap.size, 7, none⟩ = some (.int .i64 0) ∧ W.cell? ⟨w.heap.size, 8, none⟩ = some (.int .i64 0) ∧ W.cell? ⟨w.heap.size, 9, none⟩ = some (.int .i64 0) ∧ W.cell? ⟨w.heap.size, 10, none⟩ = some (.string ⟨#[]⟩) ∧ W.cell? ⟨w.heap.size, 11, none⟩ = some (.int .i64 0) ∧ W.cell? ⟨w.heap.size, 12, none⟩ = some (.int .i64 0) ∧ W.cell? ⟨w.heap.size, 13, none⟩ = some (.int .i64 0) ∧ W.cell? ⟨w.heap.size, 14, none⟩ = some (.bool false) := by
  have hlt : w.heap.size < (zb w).heap.size := by simp
  refine ⟨fun i => (h.frozen (p := ⟨w.heap.size, i, none⟩) hlt).trans (frozen_new _ _ _ _), (h.cell (p := ⟨w.heap.size, 0, none⟩) hlt).trans (by simp), (h.cell (p := ⟨w.heap.size, 1, none⟩) hlt).trans (by simp), (h.cell (p := ⟨w.heap.size, 2, none⟩) hlt).trans (by simp), (h.cell (p := ⟨w.heap.size, 3, none⟩) hlt).trans (by simp), (h.cell (p := ⟨w.heap.size, 4, none⟩) hlt).trans (by simp), (h.cell (p := ⟨w.heap.size, 5, none⟩) hlt).trans (by simp), (h.cell (p := ⟨w.heap.size, 6, none⟩) hlt).trans (by simp), (h.cell (p := ⟨w.heap.size, 7, none⟩) hlt).trans (by simp), (h.cell (p := ⟨w.heap.size, 8, none⟩) hlt).trans (by simp), (h.cell (p := ⟨w.heap.size, 9, none⟩) hlt).trans (by simp), (h.cell (p := ⟨w.heap.size, 10, none⟩) hlt).trans (by simp), (h.cell (p := ⟨w.heap.size, 11, none⟩) hlt).trans (by simp), (h.cell (p := ⟨w.heap.size, 12, none⟩) hlt).trans (by simp), (h.cell (p := ⟨w.heap.size, 13, none⟩) hlt).trans (by simp), (h.cell (p := ⟨w.heap.size, 14, none⟩) hlt).trans (by simp)⟩
theorem below_fill {B : Nat} {a w : World} (h : Below B a w) {b : Nat} (hb : B ≤ b) (v0 v1 v2 v3 v4 v5 v6 v7 v8 v9 v10 v11 v12 v13 v14 : Value) : Below B a (((((((((((((((w.setCell ⟨b, 0, none⟩ v0).setCell ⟨b, 1, none⟩ v1).setCell ⟨b, 2, none⟩ v2).setCell ⟨b, 3, none⟩ v3).setCell ⟨b, 4, none⟩ v4).setCell ⟨b, 5, none⟩ v5).setCell ⟨b, 6, none⟩ v6).setCell ⟨b, 7, none⟩ v7).setCell ⟨b, 8, none⟩ v8).setCell ⟨b, 9, none⟩ v9).setCell ⟨b, 10, none⟩ v10).setCell ⟨b, 11, none⟩ v11).setCell ⟨b, 12, none⟩ v12).setCell ⟨b, 13, none⟩ v13).setCell ⟨b, 14, none⟩ v14) := (Below.setCell (Below.setCell (Below.setCell (Below.setCell (Below.setCell (Below.setCell (Below.setCell (Below.setCell (Below.setCell (Below.setCell (Below.setCell (Below.setCell (Below.setCell (Below.setCell (Below.setCell h (p := ⟨b, 0, none⟩) hb v0) (p := ⟨b, 1, none⟩) hb v1) (p := ⟨b, 2, none⟩) hb v2) (p := ⟨b, 3, none⟩) hb v3) (p := ⟨b, 4, none⟩) hb v4) (p := ⟨b, 5, none⟩) hb v5) (p := ⟨b, 6, none⟩) hb v6) (p := ⟨b, 7, none⟩) hb v7) (p := ⟨b, 8, none⟩) hb v8) (p := ⟨b, 9, none⟩) hb v9) (p := ⟨b, 10, none⟩) hb v10) (p := ⟨b, 11, none⟩) hb v11) (p := ⟨b, 12, none⟩) hb v12) (p := ⟨b, 13, none⟩) hb v13) (p := ⟨b, 14, none⟩) hb v14)
theorem row_fill {w : World} {base : Nat} {e : TypeId} {size : Nat} {v : Value} {n : Nat} {xs : List Value} (h : w.ownsRow base e size v n xs) {b : Nat} (hb : b < base) (v0 v1 v2 v3 v4 v5 v6 v7 v8 v9 v10 v11 v12 v13 v14 : Value) : (((((((((((((((w.setCell ⟨b, 0, none⟩ v0).setCell ⟨b, 1, none⟩ v1).setCell ⟨b, 2, none⟩ v2).setCell ⟨b, 3, none⟩ v3).setCell ⟨b, 4, none⟩ v4).setCell ⟨b, 5, none⟩ v5).setCell ⟨b, 6, none⟩ v6).setCell ⟨b, 7, none⟩ v7).setCell ⟨b, 8, none⟩ v8).setCell ⟨b, 9, none⟩ v9).setCell ⟨b, 10, none⟩ v10).setCell ⟨b, 11, none⟩ v11).setCell ⟨b, 12, none⟩ v12).setCell ⟨b, 13, none⟩ v13).setCell ⟨b, 14, none⟩ v14).ownsRow base e size v n xs := (ownsRow_setCell_below (ownsRow_setCell_below (ownsRow_setCell_below (ownsRow_setCell_below (ownsRow_setCell_below (ownsRow_setCell_below (ownsRow_setCell_below (ownsRow_setCell_below (ownsRow_setCell_below (ownsRow_setCell_below (ownsRow_setCell_below (ownsRow_setCell_below (ownsRow_setCell_below (ownsRow_setCell_below (ownsRow_setCell_below h (a := ⟨b, 0, none⟩) hb v0) (a := ⟨b, 1, none⟩) hb v1) (a := ⟨b, 2, none⟩) hb v2) (a := ⟨b, 3, none⟩) hb v3) (a := ⟨b, 4, none⟩) hb v4) (a := ⟨b, 5, none⟩) hb v5) (a := ⟨b, 6, none⟩) hb v6) (a := ⟨b, 7, none⟩) hb v7) (a := ⟨b, 8, none⟩) hb v8) (a := ⟨b, 9, none⟩) hb v9) (a := ⟨b, 10, none⟩) hb v10) (a := ⟨b, 11, none⟩) hb v11) (a := ⟨b, 12, none⟩) hb v12) (a := ⟨b, 13, none⟩) hb v13) (a := ⟨b, 14, none⟩) hb v14)
theorem refF_err : ∀ (ls : List (List UInt8)) (l : List NV) (x : Int), refF ls l = .error x → x = 3
  | [], l, x, h => by cases h
  | t :: ls, l, x, h => by
    rw [refF] at h
    split at h
    · split at h
      · injection h with h; exact h.symm
      · exact refF_err ls _ x h
    · exact refF_err ls l x h
theorem refF_len : ∀ (ls : List (List UInt8)) (l r : List NV), refF ls l = .ok r → r.length ≤ l.length + ls.length
  | [], l, r, h => by injection h with h; subst h; simp
  | t :: ls, l, r, h => by
    rw [refF] at h
    split at h
    · split at h
      · cases h
      · have h1 := refF_len ls _ r h
        have h2 := putR_len ((cutN t).1, (cutN t).2.1, true) false l
        simp only [List.length_cons]; omega
    · have h1 := refF_len ls l r h
      simp only [List.length_cons]; omega
theorem argsL_cases (ps : List (List UInt8)) : argsL ps = 0 ∨ argsL ps = 3 ∨ argsL ps = 4 := by
  unfold argsL; split
  · exact .inr (.inr rfl)
  · split
    · exact .inr (.inl rfl)
    · exact .inl rfl
theorem put_w (l : List NV) (n : Nat) (hn : Aside (n = l.length)) (hl : n < 1000) (a b : List UInt8) (c : Bool) (ao : Option Addr) (cap : Nat) (w : World) (h1 : Aside (RdV w ao l)) :
    Calls Tryz.prog 25 #[.slice ao n cap, .string ⟨a.toArray⟩, .string ⟨b.toArray⟩, .bool c] w fun e w' => ∃ (m : Nat) (a2 : Option Addr) (c2 : Nat), e = .returned (.slice a2 m c2) ∧ m ≤ n + 1 ∧ Aside (m = (putR (a, b, c) false l).length ∧ w'.ownsRow w.heap.size 43 5 (.slice a2 m c2) m (flatV (putR (a, b, c) false l)) ∧ RdV w' a2 (putR (a, b, c) false l)) ∧ Below w.heap.size w w' := by
  have hn' := hn.out
  subst hn'
  refine (put25_calls l (a, b, c) hl ao cap w h1.out).mono ?_
  rintro e w' ⟨s, rfl, hro, hB⟩
  obtain ⟨a2, c2, rfl, hr⟩ := rdV_of_row rfl hro
  exact ⟨_, a2, c2, rfl, putR_len _ _ _, ⟨rfl, hro, hr⟩, hB⟩
theorem refnew_e1 (name : List UInt8) (ao bo : Option Addr) (n1 n2 c d : Nat) (w : World) (x : Int) (hx : (x != 0) = true) (c23 : ∀ W : World, Below w.heap.size w W → Calls Tryz.prog 23 #[.slice bo n2 d] W fun e w' => e = .returned (.tuple #[.slice none 0 0, .int .i64 x]) ∧ Below W.heap.size W w') :
    Calls Tryz.prog 8 #[.string ⟨name.toArray⟩, .slice ao n1 c, .slice bo n2 d] w fun e w' => e = .returned (.tuple #[zEnv, .int .i64 x]) ∧ Below w.heap.size w w' := by
  go_enter Tryz.func8, Tryz.ntmps8
  go_wp2_with (first
    | (go_at_call 23; refine (c23 _ ((Below.refl _ _).alloc (Nat.le_refl _) _)).mono ?_; rintro e W1 ⟨rfl, hB1⟩; have hw1 : Below w.heap.size w W1 := ((Below.refl _ _).alloc (Nat.le_refl _) _).trans (hB1.mono (by simp)); obtain ⟨z0, z1, z2, z3, z4, z5, z6, z7, z8, z9, z10, z11, z12, z13, z14, z15⟩ := zb_in hB1))
  (try simp only [Exit.inBlock, Exit.then])
  refine bodyPost_ret (v := .tuple #[zEnv, .int .i64 x]) ?_ rfl ⟨rfl, ?_⟩
  · rw [results_cell_tmp rfl]; go_simp
  · exact below_fill hw1 (Nat.le_refl _) _ _ _ _ _ _ _ _ _ _ _ _ _ _ _
theorem refnew_e2 (name : List UInt8) (ao bo : Option Addr) (n1 n2 c d : Nat) (w : World) (L : List NV) (HL : Aside (L.length ≤ 128)) (c23 : ∀ W : World, Below w.heap.size w W → Calls Tryz.prog 23 #[.slice bo n2 d] W fun e w' => ∃ (n : Nat) (a : Option Addr) (k : Nat), e = .returned (.tuple #[.slice a n k, .int .i64 0]) ∧ Aside (n = L.length ∧ RdV w' a L) ∧ Below W.heap.size W w') (hnm : (4096 : Int) < (name.length : Int)) :
    Calls Tryz.prog 8 #[.string ⟨name.toArray⟩, .slice ao n1 c, .slice bo n2 d] w fun e w' => e = .returned (.tuple #[zEnv, .int .i64 3]) ∧ Below w.heap.size w w' := by
  go_enter Tryz.func8, Tryz.ntmps8
  go_wp2_with (first
    | (go_at_call 23; refine (c23 _ ((Below.refl _ _).alloc (Nat.le_refl _) _)).mono ?_; rintro e W1 ⟨m1, a1, k1, rfl, HA1, hB1⟩; have hw1 : Below w.heap.size w W1 := ((Below.refl _ _).alloc (Nat.le_refl _) _).trans (hB1.mono (by simp)); obtain ⟨z0, z1, z2, z3, z4, z5, z6, z7, z8, z9, z10, z11, z12, z13, z14, z15⟩ := zb_in hB1))
  (try simp only [Exit.inBlock, Exit.then])
  refine bodyPost_ret (v := .tuple #[zEnv, .int .i64 3]) ?_ rfl ⟨rfl, ?_⟩
  · rw [results_cell_tmp rfl]; go_simp
  · exact below_fill hw1 (Nat.le_refl _) _ _ _ _ _ _ _ _ _ _ _ _ _ _ _
theorem refnew_e3 (name : List UInt8) (ao bo : Option Addr) (n1 n2 c d : Nat) (w : World) (L : List NV) (HL : Aside (L.length ≤ 128)) (c23 : ∀ W : World, Below w.heap.size w W → Calls Tryz.prog 23 #[.slice bo n2 d] W fun e w' => ∃ (n : Nat) (a : Option Addr) (k : Nat), e = .returned (.tuple #[.slice a n k, .int .i64 0]) ∧ Aside (n = L.length ∧ RdV w' a L) ∧ Below W.heap.size W w') (hnm : ¬ (4096 : Int) < (name.length : Int)) (x : Int) (hx : (x != 0) = true) (c24 : ∀ W : World, Below w.heap.size w W → Calls Tryz.prog 24 #[.slice ao n1 c] W fun e w' => e = .returned (.int .i64 x) ∧ W = w') :
    Calls Tryz.prog 8 #[.string ⟨name.toArray⟩, .slice ao n1 c, .slice bo n2 d] w fun e w' => e = .returned (.tuple #[zEnv, .int .i64 x]) ∧ Below w.heap.size w w' := by
  go_enter Tryz.func8, Tryz.ntmps8
  go_wp2_with (first
    | (go_at_call 23; refine (c23 _ ((Below.refl _ _).alloc (Nat.le_refl _) _)).mono ?_; rintro e W1 ⟨m1, a1, k1, rfl, HA1, hB1⟩; have hw1 : Below w.heap.size w W1 := ((Below.refl _ _).alloc (Nat.le_refl _) _).trans (hB1.mono (by simp)); obtain ⟨z0, z1, z2, z3, z4, z5, z6, z7, z8, z9, z10, z11, z12, z13, z14, z15⟩ := zb_in hB1)
    | (go_at_call 24; refine (c24 _ hw1).mono ?_; rintro e W1 ⟨rfl, rfl⟩))
  (try simp only [Exit.inBlock, Exit.then])
  refine bodyPost_ret (v := .tuple #[zEnv, .int .i64 x]) ?_ rfl ⟨rfl, ?_⟩
  · rw [results_cell_tmp rfl]; go_simp
  · exact below_fill hw1 (Nat.le_refl _) _ _ _ _ _ _ _ _ _ _ _ _ _ _ _
theorem refnew_e4 (name : List UInt8) (ao bo : Option Addr) (n1 n2 c d : Nat) (w : World) (L : List NV) (HL : Aside (L.length ≤ 128)) (c23 : ∀ W : World, Below w.heap.size w W → Calls Tryz.prog 23 #[.slice bo n2 d] W fun e w' => ∃ (n : Nat) (a : Option Addr) (k : Nat), e = .returned (.tuple #[.slice a n k, .int .i64 0]) ∧ Aside (n = L.length ∧ RdV w' a L) ∧ Below W.heap.size W w') (hnm : ¬ (4096 : Int) < (name.length : Int)) (c24 : ∀ W : World, Below w.heap.size w W → Calls Tryz.prog 24 #[.slice ao n1 c] W fun e w' => e = .returned (.int .i64 0) ∧ W = w') (hp : Aside (128 < (put3 L).length)) :
    Calls Tryz.prog 8 #[.string ⟨name.toArray⟩, .slice ao n1 c, .slice bo n2 d] w fun e w' => e = .returned (.tuple #[zEnv, .int .i64 4]) ∧ Below w.heap.size w w' := by
  go_enter Tryz.func8, Tryz.ntmps8
  go_wp2_with (first
    | (go_at_call 23; refine (c23 _ ((Below.refl _ _).alloc (Nat.le_refl _) _)).mono ?_; rintro e W1 ⟨m1, a1, k1, rfl, HA1, hB1⟩; have hw1 : Below w.heap.size w W1 := ((Below.refl _ _).alloc (Nat.le_refl _) _).trans (hB1.mono (by simp)); obtain ⟨z0, z1, z2, z3, z4, z5, z6, z7, z8, z9, z10, z11, z12, z13, z14, z15⟩ := zb_in hB1)
    | (go_at_call 24; refine (c24 _ hw1).mono ?_; rintro e W1 ⟨rfl, rfl⟩; have P1 := put_w L m1 HA1.out.1 (by have := HA1.out.1; have := HL.out; omega) [73, 70, 83] [32, 9, 10] false a1 k1 W1 HA1.out.2)
    | (go_at_call 25; refine P3.mono ?_; rintro e W4 ⟨m4, a4, k4, rfl, hm4, HA4, hB4⟩; have hB14 : Below (zb w).heap.size (zb w) W4 := ((hB1.trans (hB2.mono hB1.size)).trans (hB3.mono (Nat.le_trans hB1.size hB2.size))).trans (hB4.mono (Nat.le_trans (Nat.le_trans hB1.size hB2.size) hB3.size)); obtain ⟨z0, z1, z2, z3, z4, z5, z6, z7, z8, z9, z10, z11, z12, z13, z14, z15⟩ := zb_in hB14; have hm4 : (128 : Int) < (m4 : Int) := (by have h1 := HA4.out.1; have h2 := hp.out; unfold put3 sIFS sOPT sPWD at h2; omega))
    | (go_at_call 25; refine P2.mono ?_; rintro e W3 ⟨m3, a3, k3, rfl, hm3, HA3, hB3⟩; have P3 := put_w _ m3 HA3.out.1 (by have := HA1.out.1; have := HL.out; omega) [80, 87, 68] [47] true a3 k3 W3 HA3.out.2.2)
    | (go_at_call 25; refine P1.mono ?_; rintro e W2 ⟨m2, a2, k2, rfl, hm2, HA2, hB2⟩; have P2 := put_w _ m2 HA2.out.1 (by have := HA1.out.1; have := HL.out; omega) [79, 80, 84, 73, 78, 68] [49] false a2 k2 W2 HA2.out.2.2))
  (try simp only [Exit.inBlock, Exit.then])
  refine bodyPost_ret (v := .tuple #[zEnv, .int .i64 4]) ?_ rfl ⟨rfl, ?_⟩
  · rw [results_cell_tmp rfl]; go_simp
  · exact below_fill (((Below.refl _ _).alloc (Nat.le_refl _) _).trans (hB14.mono (by simp))) (Nat.le_refl _) _ _ _ _ _ _ _ _ _ _ _ _ _ _ _
theorem refnew_ok (name : List UInt8) (ao bo : Option Addr) (n1 n2 c d : Nat) (w : World) (L : List NV) (HL : Aside (L.length ≤ 128)) (c23 : ∀ W : World, Below w.heap.size w W → Calls Tryz.prog 23 #[.slice bo n2 d] W fun e w' => ∃ (n : Nat) (a : Option Addr) (k : Nat), e = .returned (.tuple #[.slice a n k, .int .i64 0]) ∧ Aside (n = L.length ∧ RdV w' a L) ∧ Below W.heap.size W w') (hnm : ¬ (4096 : Int) < (name.length : Int)) (c24 : ∀ W : World, Below w.heap.size w W → Calls Tryz.prog 24 #[.slice ao n1 c] W fun e w' => e = .returned (.int .i64 0) ∧ W = w') (hp : Aside (¬ 128 < (put3 L).length)) :
    Calls Tryz.prog 8 #[.string ⟨name.toArray⟩, .slice ao n1 c, .slice bo n2 d] w fun e w' => ∃ s, e = .returned (.tuple #[mkEnv name (.slice ao n1 c) s, .int .i64 0]) ∧ w'.ownsRow w.heap.size 43 5 s (put3 L).length (flatV (put3 L)) ∧ Below w.heap.size w w' := by
  go_enter Tryz.func8, Tryz.ntmps8
  go_wp2_with (first
    | (go_at_call 23; refine (c23 _ ((Below.refl _ _).alloc (Nat.le_refl _) _)).mono ?_; rintro e W1 ⟨m1, a1, k1, rfl, HA1, hB1⟩; have hw1 : Below w.heap.size w W1 := ((Below.refl _ _).alloc (Nat.le_refl _) _).trans (hB1.mono (by simp)); obtain ⟨z0, z1, z2, z3, z4, z5, z6, z7, z8, z9, z10, z11, z12, z13, z14, z15⟩ := zb_in hB1)
    | (go_at_call 24; refine (c24 _ hw1).mono ?_; rintro e W1 ⟨rfl, rfl⟩; have P1 := put_w L m1 HA1.out.1 (by have := HA1.out.1; have := HL.out; omega) [73, 70, 83] [32, 9, 10] false a1 k1 W1 HA1.out.2)
    | (go_at_call 25; refine P3.mono ?_; rintro e W4 ⟨m4, a4, k4, rfl, hm4, HA4, hB4⟩; have hB14 : Below (zb w).heap.size (zb w) W4 := ((hB1.trans (hB2.mono hB1.size)).trans (hB3.mono (Nat.le_trans hB1.size hB2.size))).trans (hB4.mono (Nat.le_trans (Nat.le_trans hB1.size hB2.size) hB3.size)); obtain ⟨z0, z1, z2, z3, z4, z5, z6, z7, z8, z9, z10, z11, z12, z13, z14, z15⟩ := zb_in hB14; have hm4 : ¬ (128 : Int) < (m4 : Int) := (by have h1 := HA4.out.1; have h2 := hp.out; unfold put3 sIFS sOPT sPWD at h2; omega))
    | (go_at_call 25; refine P2.mono ?_; rintro e W3 ⟨m3, a3, k3, rfl, hm3, HA3, hB3⟩; have P3 := put_w _ m3 HA3.out.1 (by have := HA1.out.1; have := HL.out; omega) [80, 87, 68] [47] true a3 k3 W3 HA3.out.2.2)
    | (go_at_call 25; refine P1.mono ?_; rintro e W2 ⟨m2, a2, k2, rfl, hm2, HA2, hB2⟩; have P2 := put_w _ m2 HA2.out.1 (by have := HA1.out.1; have := HL.out; omega) [79, 80, 84, 73, 78, 68] [49] false a2 k2 W2 HA2.out.2.2))
  (try simp only [Exit.inBlock, Exit.then])
  refine bodyPost_ret (v := .tuple #[mkEnv name (.slice ao n1 c) (.slice a4 m4 k4), .int .i64 0]) ?_ rfl ⟨_, rfl, ?_, ?_⟩
  · rw [results_cell_tmp rfl]; go_simp
  · have h3 : (put3 L).length = m4 := HA4.out.1.symm
    rw [h3]
    exact row_mono (row_fill HA4.out.2.1 (Nat.lt_of_lt_of_le (by simp) (Nat.le_trans hB1.size (Nat.le_trans hB2.size hB3.size))) _ _ _ _ _ _ _ _ _ _ _ _ _ _ _) (Nat.le_trans (by simp) (Nat.le_trans hB1.size (Nat.le_trans hB2.size hB3.size)))
  · exact below_fill (((Below.refl _ _).alloc (Nat.le_refl _) _).trans (hB14.mono (by simp))) (Nat.le_refl _) _ _ _ _ _ _ _ _ _ _ _ _ _ _ _
theorem refnew_calls (name : List UInt8) (ps ls : List (List UInt8)) (hps : ps.length ≤ maxLen) (hls : ls.length < 900) (hlb : ∀ t ∈ ls, t.length ≤ maxLen) (ao bo : Option Addr) (c d : Nat) (w : World) (h1 : RdT w ao ps) (h2 : RdT w bo ls) :
    Calls Tryz.prog 8 #[.string ⟨name.toArray⟩, .slice ao ps.length c, .slice bo ls.length d] w fun e w' => PostN w (mkEnv name (.slice ao ps.length c)) zEnv (newF name ps ls) e w' ∧ Below w.heap.size w w' := by
  have c23 := fun (W : World) (hB : Below w.heap.size w W) => from15_calls ls hls hlb bo d W (h2.below hB)
  have c24 := fun (W : World) (hB : Below w.heap.size w W) => params_calls ps hps ao c W (h1.below hB)
  cases hR : refF ls [] with
  | error x =>
    obtain rfl := refF_err ls [] x hR
    have hF : newF name ps ls = .error 3 := by unfold newF; rw [hR]
    rw [hF]
    exact refnew_e1 name ao bo _ _ c d w 3 rfl fun W hB => by have := c23 W hB; rw [hR] at this; exact this
  | ok L =>
    by_cases h128 : 128 < L.length
    · have hF : newF name ps ls = .error 4 := by unfold newF; simp only [hR, if_pos h128]
      rw [hF]
      exact refnew_e1 name ao bo _ _ c d w 4 rfl fun W hB => by have := c23 W hB; rw [hR] at this; unfold PostL at this; simp only [if_pos h128] at this; exact this
    · have c23' : ∀ W : World, Below w.heap.size w W → Calls Tryz.prog 23 #[.slice bo ls.length d] W fun e w' => ∃ (n : Nat) (a : Option Addr) (k : Nat), e = .returned (.tuple #[.slice a n k, .int .i64 0]) ∧ Aside (n = L.length ∧ RdV w' a L) ∧ Below W.heap.size W w' := fun W hB => by
        refine (c23 W hB).mono ?_
        rintro e w' ⟨hP, hBB⟩
        rw [hR] at hP; unfold PostL at hP; simp only [if_neg h128] at hP
        obtain ⟨s, rfl, hro⟩ := hP
        obtain ⟨a2, k2, rfl, hr⟩ := rdV_of_row rfl hro
        exact ⟨_, a2, k2, rfl, ⟨rfl, hr⟩, hBB⟩
      have hF : newF name ps ls = if 4096 < name.length then .error 3 else if argsL ps = 0 then (if 128 < (put3 L).length then .error 4 else .ok (put3 L)) else .error (argsL ps) := by unfold newF; simp only [hR, if_neg h128]
      have HL : Aside (L.length ≤ 128) := by show _ ≤ _; omega
      by_cases hnm : 4096 < name.length
      · rw [hF, if_pos hnm]
        exact refnew_e2 name ao bo _ _ c d w L HL c23' (by omega)
      · rw [if_neg hnm] at hF
        by_cases e0 : argsL ps = 0
        · rw [if_pos e0] at hF
          rw [e0] at c24
          by_cases hp : 128 < (put3 L).length
          · rw [hF, if_pos hp]
            exact refnew_e4 name ao bo _ _ c d w L HL c23' (by omega) c24 hp
          · rw [hF, if_neg hp]
            refine (refnew_ok name ao bo _ _ c d w L HL c23' (by omega) c24 hp).mono ?_
            rintro e w' ⟨s, he, hro, hB⟩
            exact ⟨⟨s, he, hro⟩, hB⟩
        · rw [hF, if_neg e0]
          exact refnew_e3 name ao bo _ _ c d w L HL c23' (by omega) _ (by simpa using e0) c24
end Go.Proofs.YtdifffdfiimlpaaGreatDoor
