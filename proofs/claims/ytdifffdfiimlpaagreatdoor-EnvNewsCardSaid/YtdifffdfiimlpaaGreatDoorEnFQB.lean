/- The program: New without parameters. No statement is proved here. -/
import Derived.Test.YtdifffdfiimlpaaGreatDoorEnFQ0
set_option linter.all false
namespace Go.Proofs.YtdifffdfiimlpaaGreatDoor
open Go Go.RowKit Go.Mir Go.Maps Go.Sort
set_option maxHeartbeats 2000000
set_option maxRecDepth 100000
theorem new_none (name : List UInt8) (bo : Option Addr) (n1 n2 c d : Nat) (w : World) (L : List NV) (HL : Aside (L.length ≤ 128)) (c23 : ∀ W : World, Below w.heap.size w W → Calls Tryz.prog 17 #[.slice bo n2 d] W fun e w' => ∃ (n : Nat) (a : Option Addr) (k : Nat), e = .returned (.tuple #[.slice a n k, .int .i64 0]) ∧ Aside (n = L.length ∧ RdV w' a L) ∧ Below W.heap.size W w') (hnm : ¬ (4096 : Int) < (name.length : Int)) (c24 : ∀ W : World, Below w.heap.size w W → Calls Tryz.prog 18 #[.slice none n1 c] W fun e w' => e = .returned (.int .i64 0) ∧ W = w') (ps : List (List UInt8)) (hps : Aside (n1 = ps.length ∧ n1 < 100000 ∧ RdT w none ps)) (hbig : Aside (¬ 128 < (own3 ++ keepV L).length)) :
    Calls Tryz.prog 7 #[.string ⟨name.toArray⟩, .slice none n1 c, .slice bo n2 d] w fun e w' => NewP w name n1 ps L e w' ∧ Below w.heap.size w w' := by
  obtain ⟨i0, hi, hz0, hz1, hz2⟩ := info_parts info43
  go_enter Tryz.func7, Tryz.ntmps7
  go_wp2_with (first
    | (go_at_call 17; refine (c23 _ ((Below.refl _ _).alloc (Nat.le_refl _) _)).mono ?_; rintro e W1 ⟨m1, a1, k1, rfl, HA1, hB1⟩; have hw1 : Below w.heap.size w W1 := ((Below.refl _ _).alloc (Nat.le_refl _) _).trans (hB1.mono (by simp)); obtain ⟨z0, z1, z2, z3, z4, z5, z6, z7, z8, z9, z10, z11, z12, z13, z14, z15⟩ := zb_in hB1)
    | (go_at_call 18; refine (c24 _ hw1).mono ?_; rintro e W1 ⟨rfl, rfl⟩))
  have hm1 : m1 < 1000 := by have := HA1.out.1; have := HL.out; omega
  have HS : Aside (∀ wx, Below W1.heap.size W1 wx → RdV wx a1 L) := fun wx hb => HA1.out.2.below hb
  go_loopg [11, 40] m1 (fun g so si wx => ∃ (k : Nat) (o : List NV), k + g = m1 ∧ si = .int .i64 k ∧ wx.ownsRow W1.heap.size 43 5 so o.length (flatV o) ∧ Aside (o ++ keepV (L.drop k) = own3 ++ keepV L ∧ o.length ≤ 3 + k) ∧ Below W1.heap.size W1 wx)
  case atStart =>
    exact ⟨0, own3, by omega, rfl, own3_row _, ⟨rfl, by decide⟩, (Below.refl _ _).alloc (Nat.le_refl _) _⟩
  case round =>
    obtain ⟨k, o, hkg, rfl, hro, HI, hbo⟩ := hrel
    obtain ⟨n, hn0⟩ : ∃ n, n = o.length := ⟨_, rfl⟩
    rw [← hn0] at hro
    have hn : Aside (n = o.length) := hn0
    have hnb : n < 2000 := by have := HI.out.2; omega
    clear hn0
    have hwb : w.heap.size ≤ wr.heap.size := Nat.le_trans hw1.size hbo.size
    cases gk with
    | zero =>
      have hkz : ¬ (k : Int) < (m1 : Int) := by omega
      have hD : L.drop k = [] := List.drop_eq_nil_of_le (by have := HA1.out.1; omega)
      have X : Aside (o = own3 ++ keepV L) := by show _ = _; rw [← HI.out.1, hD]; simp [keepV]
      clear hD
      have hzw : Below (zb w).heap.size (zb w) wr := hB1.trans (hbo.mono hB1.size)
      have hwr : Below w.heap.size w wr := hw1.trans (hbo.mono hw1.size)
      have h128 : ¬ (128 : Int) < (n : Int) := by have h1 := hn.out; rw [X.out] at h1; have h2 := hbig.out; omega
      have hn0 : 0 < n := by
        have h1 := hn.out
        rw [X.out] at h1
        simp [own3] at h1; omega
      obtain ⟨gb, cap, rfl, hbg, hgl, cS⟩ := sort_own o n hn.out (by omega) hn0 wr hro
      go_wp2_with (first
        | (go_at_call 19; refine cS.mono ?_; rintro e W2 ⟨rfl, S, hSp, hSs, hS2, hg2⟩; have hb2 : Below W1.heap.size W1 W2 := hbo.grown hg2 hbo.size (fun j hj => by cases hj; exact hbg); have hw2 : Below w.heap.size w W2 := hw1.trans (hb2.mono hw1.size); have HS2 : Aside (S.Perm o ∧ (S.Pairwise fun x y => x.1 ≤ y.1) ∧ W2.ownsRow W1.heap.size 43 5 (.slice (some ⟨gb, 0, none⟩) n cap) n (flatV S)) := ⟨hSp, hSs, hS2⟩; clear hSp hSs hS2)
        | (go_at_call 22; refine (clone_nil n1 c W2).mono ?_; rintro e W2 ⟨rfl, rfl⟩; have hB3 : Below W2.heap.size W2 W2 := Below.refl _ _; have hzw3 : Below (zb w).heap.size (zb w) W2 := (hB1.trans (hb2.mono hB1.size)).trans (hB3.mono (Nat.le_trans hB1.size hb2.size)); obtain ⟨z0, z1, z2, z3, z4, z5, z6, z7, z8, z9, z10, z11, z12, z13, z14, z15⟩ := zb_in hzw3; have hlt3 : w.heap.size < W2.heap.size := Nat.lt_of_lt_of_le (by simp) hzw3.size; have hne3 : w.heap.size ≠ W2.heap.size := Nat.ne_of_lt hlt3))
      (try simp only [Exit.inBlock, Exit.then])
      refine bodyPost_ret (v := .tuple #[mkEnv name (.slice none 0 0) (.slice (some ⟨gb, 0, none⟩) n cap), .int .i64 0]) ?_ rfl ⟨?_, ?_⟩
      · rw [results_cell_tmp rfl]; go_simp
      · have hps0 : ps = [] := by
          cases hq : ps with
          | nil => rfl
          | cons t ls => have h1 := hps.out.2.2 0 t (by rw [hq]; rfl); obtain ⟨b, o', e', _⟩ := h1; cases e'
        have hn10 : n1 = 0 := by have := hps.out.1; rw [hps0] at this; simpa using this
        obtain ⟨hSp, hSs, hS2⟩ := HS2.out
        have hlenS : S.length = n := by rw [hSp.length_eq, hn.out]
        have hw1' : w.heap.size < W1.heap.size := Nat.lt_of_lt_of_le (by simp) hB1.size
        unfold NewP
        rw [← X.out, ← hn.out, if_neg (by omega)]
        refine ⟨_, none, 0, S, by rw [hn10],  hSp, hSs, ?_, ?_⟩
        · rw [hlenS]
          exact (row_mono (row_fill (row_below hS2 hB3) hw1' _ _ _ _ _ _ _ _ _ _ _ _ _ _ _) (Nat.le_of_lt hw1')).alloc _
        · intro k t hk; rw [hps0] at hk; simp at hk
      · exact (below_fill (hw2.trans (hB3.mono hw2.size)) (Nat.le_refl _) _ _ _ _ _ _ _ _ _ _ _ _ _ _ _).alloc (by simp; omega) _
    | succ g =>
      have hk0 : (0 : Int) ≤ (k : Int) := by omega
      have hkz : (k : Int) < (m1 : Int) := by omega
      obtain ⟨x, hx⟩ : ∃ x, L[k]? = some x := ⟨_, List.getElem?_eq_getElem (by have := HA1.out.1; omega)⟩
      obtain ⟨q, rfl, hq, hc⟩ := HS.out wr hbo k x hx
      obtain ⟨c0, c1, c2, c3, c4⟩ := encV_cell hc
      clear hc
      have hdrop : L.drop k = x :: L.drop (k + 1) := Lib.drop_at hx
      by_cases e0 : x.1 = [73, 70, 83] ∨ x.1 = [79, 80, 84, 73, 78, 68] ∨ x.1 = [80, 87, 68]
      · have X : Aside (o ++ keepV (L.drop (k + 1)) = own3 ++ keepV L ∧ o.length ≤ 3 + (k + 1)) := by
          refine ⟨?_, by have := HI.out.2; omega⟩
          rw [← HI.out.1, hdrop]
          congr 1
          unfold keepV
          rw [List.filter_cons_of_neg]
          unfold sIFS sOPT sPWD
          rcases e0 with e | e | e <;> simp [e]
        clear hdrop
        rcases e0 with e | e | e
        all_goals
          have e1 : (x.1 == [73, 70, 83]) = decide (x.1 = [73, 70, 83]) := by rw [e]; rfl
          go_wp2
          go_roundg g
          case measure => omega
          case rel => exact ⟨k + 1, o, by omega, by simp, by rw [← hn.out]; exact hro.alloc _, X, hbo.alloc hbo.size _⟩
      · obtain ⟨e1, e2, e3⟩ : (x.1 == [73, 70, 83]) = false ∧ (x.1 == [79, 80, 84, 73, 78, 68]) = false ∧ (x.1 == [80, 87, 68]) = false := by
          refine ⟨?_, ?_, ?_⟩ <;> simp only [beq_eq_false_iff_ne, ne_eq]
          · exact fun h => e0 (.inl h)
          · exact fun h => e0 (.inr (.inl h))
          · exact fun h => e0 (.inr (.inr h))
        have X : Aside ((o ++ [x]) ++ keepV (L.drop (k + 1)) = own3 ++ keepV L ∧ (o ++ [x]).length ≤ 3 + (k + 1)) := by
          refine ⟨?_, by have := HI.out.2; simp; omega⟩
          rw [← HI.out.1, hdrop, List.append_assoc]
          congr 1
          unfold keepV
          rw [List.filter_cons_of_pos (by unfold sIFS sOPT sPWD; rw [e1, e2, e3]; rfl)]
          rfl
        clear hdrop e0
        go_wp2_with (first
          | (at_builtin; go_loud (refine wpList_append_own _ rfl _ _ 25 rfl W1.heap.size 43 i0 (.agg #[.string ⟨#[]⟩, .string ⟨#[]⟩, .bool false, .bool false, .bool false]) 5 40 Tryz.underlying25 hi hz0 hz1 hz2 rfl (by decide) _ _ _ rfl ((hro.alloc _).alloc _) ⟨_, 0, none⟩ 1 1 (encV x) rfl rfl (cell_five_new1 _ _ _ _ _ _ _ _) (fun x hx => by simp [encV] at hx; rcases hx with rfl | rfl | rfl | rfl | rfl <;> rfl) (by unfold maxLen; omega) (by omega) (Nat.le_trans hbo.size (by simp <;> omega)) ?_); intro v' w3 hown3 hgrow3 hnil3))
        go_roundg g
        case measure => omega
        case rel =>
          have hne := fun q h => (hro.lt q h).1
          refine ⟨k + 1, o ++ [x], by omega, by simp, ?_, X, ((hbo.alloc hbo.size _).alloc (Nat.le_trans hbo.size (by simp)) _).grown hgrow3 (Nat.le_trans hbo.size (by simp <;> omega)) (fun q h => hne q h)⟩
          rw [flatV_snoc, List.length_append, ← hn.out]
          exact hown3
end Go.Proofs.YtdifffdfiimlpaaGreatDoor
