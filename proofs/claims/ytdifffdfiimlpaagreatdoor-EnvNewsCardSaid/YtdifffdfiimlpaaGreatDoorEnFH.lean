/- The reference: put. No statement is proved here. -/
import Derived.Test.YtdifffdfiimlpaaGreatDoorEnFG
set_option linter.all false
namespace Go.Proofs.YtdifffdfiimlpaaGreatDoor
open Go Go.RowKit Go.Mir Go.Maps Go.Sort
set_option maxHeartbeats 4000000
set_option maxRecDepth 100000
theorem putR_cons (v : NV) (d : Bool) (x : NV) (l : List NV) : putR v d (x :: l) = (if d = false ∧ v.1 ≤ x.1 then [v] else []) ++ ((if x.1 = v.1 then [] else [x]) ++ putR v (d || decide (v.1 ≤ x.1)) l) := by rw [putR]
theorem flatV_app (a b : List NV) : flatV (a ++ b) = flatV a ++ flatV b := by simp [flatV]
theorem flatV_one (x : NV) : flatV [x] = encV x := by simp [flatV]
theorem flatV_snoc (a : List NV) (b : NV) : flatV (a ++ [b]) = flatV a ++ encV b := by rw [flatV_app, flatV_one]
theorem row_mono {w : World} {base base' : Nat} {e : TypeId} {size : Nat} {v : Value} {n : Nat} {xs : List Value} (h : w.ownsRow base e size v n xs) (hb : base' ≤ base) : w.ownsRow base' e size v n xs := by
  obtain ⟨h1, h2⟩ := h
  refine ⟨h1, h2.imp_right ?_⟩
  rintro ⟨g, cap, cur, e1, hg, rest⟩
  exact ⟨g, cap, cur, e1, Nat.le_trans hb hg, rest⟩
theorem bl_le {a b : List UInt8} (h : b ≤ a) : Op.bytesLess a b = false := by rw [bytesLess_eq]; exact decide_eq_false fun h2 => h h2
theorem bl_nle {a b : List UInt8} (h : ¬ b ≤ a) : Op.bytesLess a b = true := by rw [bytesLess_eq]; exact decide_eq_true (List.not_le.1 h)
/-- a block of one variable -/
noncomputable abbrev boxV (w : World) (v : NV) : World := w.alloc (.cells #[.string ⟨v.1.toArray⟩, .string ⟨v.2.1.toArray⟩, .bool true, .bool v.2.2, .bool false] 43)
theorem box_cells (w : World) (v : NV) : (boxV w v).cell? ⟨w.heap.size, 0, none⟩ = some (.string ⟨v.1.toArray⟩) ∧ (boxV w v).cell? ⟨w.heap.size, 1, none⟩ = some (.string ⟨v.2.1.toArray⟩) ∧ (boxV w v).cell? ⟨w.heap.size, 2, none⟩ = some (.bool true) ∧ (boxV w v).cell? ⟨w.heap.size, 3, none⟩ = some (.bool v.2.2) ∧ (boxV w v).cell? ⟨w.heap.size, 4, none⟩ = some (.bool false) := by
  refine ⟨?_, ?_, ?_, ?_, ?_⟩ <;> simp
theorem Below.grown_box {w wx : World} {v : NV} (h : Below (boxV w v).heap.size (boxV w v) wx) : Below w.heap.size w wx := ((Below.refl _ _).alloc (Nat.le_refl _) _).trans (h.mono (by simp))
theorem box_in {w wx : World} {v : NV} (h : Below (boxV w v).heap.size (boxV w v) wx) : wx.cell? ⟨w.heap.size, 0, none⟩ = some (.string ⟨v.1.toArray⟩) ∧ wx.cell? ⟨w.heap.size, 1, none⟩ = some (.string ⟨v.2.1.toArray⟩) ∧ wx.cell? ⟨w.heap.size, 2, none⟩ = some (.bool true) ∧ wx.cell? ⟨w.heap.size, 3, none⟩ = some (.bool v.2.2) ∧ wx.cell? ⟨w.heap.size, 4, none⟩ = some (.bool false) := by
  have hlt : w.heap.size < (boxV w v).heap.size := by simp
  obtain ⟨c0, c1, c2, c3, c4⟩ := box_cells w v
  exact ⟨(h.cell (p := ⟨w.heap.size, 0, none⟩) hlt).trans c0, (h.cell (p := ⟨w.heap.size, 1, none⟩) hlt).trans c1, (h.cell (p := ⟨w.heap.size, 2, none⟩) hlt).trans c2, (h.cell (p := ⟨w.heap.size, 3, none⟩) hlt).trans c3, (h.cell (p := ⟨w.heap.size, 4, none⟩) hlt).trans c4⟩
theorem put25_calls (l : List NV) (v : NV) (hl : l.length < 1000) (ao : Option Addr) (cap : Nat) (w : World) (h1 : RdV w ao l) :
    Calls Tryz.prog 25 #[.slice ao l.length cap, .string ⟨v.1.toArray⟩, .string ⟨v.2.1.toArray⟩, .bool v.2.2] w fun e w' => ∃ s, e = .returned s ∧ w'.ownsRow w.heap.size 43 5 s (putR v false l).length (flatV (putR v false l)) ∧ Below w.heap.size w w' := by
  have H1 : Aside (RdV w ao l) := h1
  clear h1
  obtain ⟨sz, hsz0⟩ : ∃ n, n = l.length := ⟨_, rfl⟩
  rw [← hsz0]
  have hsz : Aside (sz = l.length) := hsz0
  rw [← hsz0] at hl
  clear hsz0
  obtain ⟨R, hR0⟩ : ∃ R, R = putR v false l := ⟨_, rfl⟩
  rw [← hR0]
  have HR : Aside (R = putR v false l) := hR0
  clear hR0
  obtain ⟨i0, hi, hz0, hz1, hz2⟩ := info_parts info43
  go_enter Tryz.func25, Tryz.ntmps25
  go_wp2
  go_loopg [9, 10, 12] sz (fun g so sd si wx => ∃ (k : Nat) (d : Bool) (o : List NV), k + g = sz ∧ si = .int .i64 k ∧ sd = .bool d ∧ wx.ownsRow (boxV w v).heap.size 43 5 so o.length (flatV o) ∧ Aside (o ++ putR v d (l.drop k) = R ∧ o.length ≤ k + d.toNat) ∧ Below (boxV w v).heap.size (boxV w v) wx)
  case atStart => exact ⟨0, false, [], by omega, rfl, rfl, World.ownsRow_nil _ _ _ _, ⟨by rw [HR.out]; rfl, by simp⟩, Below.refl _ _⟩
  case round =>
    obtain ⟨k, d, o, hkg, rfl, rfl, hro, HI, hbo⟩ := hrel
    obtain ⟨n, hn0⟩ : ∃ n, n = o.length := ⟨_, rfl⟩
    rw [← hn0] at hro
    have hn : Aside (n = o.length) := hn0
    have hnb : n < 2000 := by have := HI.out.2; have := hsz.out; have hd1 : d.toNat ≤ 1 := (by cases d <;> decide); omega
    clear hn0
    obtain ⟨b0, b1, b2, b3, b4⟩ := box_in hbo
    have hlw : w.heap.size < wr.heap.size := Nat.lt_of_lt_of_le (by simp) hbo.size
    cases gk with
    | zero =>
      have hkz : ¬ (k : Int) < (sz : Int) := by omega
      have hD : l.drop k = [] := List.drop_eq_nil_of_le (by have := hsz.out; omega)
      cases d with
      | true =>
        have X : Aside (o = R) := by show _ = _; rw [← HI.out.1, hD]; simp [putR]
        clear hD
        go_wp2
        go_ret
        refine ⟨_, rfl, ?_, Below.grown_box hbo⟩
        rw [← X.out, ← hn.out]
        exact row_mono hro (by simp)
      | false =>
        have X : Aside (o ++ [v] = R) := by show _ = _; rw [← HI.out.1, hD]; simp [putR]
        clear hD
        go_wp2_with (first
          | (at_builtin; refine wpList_append_own _ rfl _ _ 25 rfl (boxV w v).heap.size 43 i0 (.agg #[.string ⟨#[]⟩, .string ⟨#[]⟩, .bool false, .bool false, .bool false]) 5 40 Tryz.underlying25 hi hz0 hz1 hz2 rfl (by decide) _ _ _ rfl (hro.alloc _) ⟨_, 0, none⟩ 1 1 (encV v) rfl rfl (cell_five_new _ _ _ _ _ _ _) (fun x hx => by simp [encV] at hx; rcases hx with rfl | rfl | rfl | rfl | rfl <;> rfl) (by unfold maxLen; omega) (by omega) (Nat.le_trans hbo.size (by simp)) ?_; intro v' w3 hownw3 hgroww3 hnilw3))
        go_ret
        have hne := fun q h => (hro.lt q h).1
        refine ⟨_, rfl, ?_, Below.grown_box ((hbo.alloc hbo.size _).grown hgroww3 (Nat.le_trans hbo.size (by simp)) (fun q h => hne q h))⟩
        rw [← X.out, flatV_snoc, List.length_append, ← hn.out]
        exact row_mono hownw3 (by simp)
    | succ g =>
      have hk0 : (0 : Int) ≤ (k : Int) := by omega
      have hkz : (k : Int) < (sz : Int) := by omega
      obtain ⟨x, hx⟩ : ∃ x, l[k]? = some x := ⟨_, List.getElem?_eq_getElem (by have := hsz.out; omega)⟩
      obtain ⟨g1, rfl, hg1, hc1⟩ := H1.out k x hx
      have HC : Aside (∀ (wx : World), Below (boxV w v).heap.size (boxV w v) wx → wx.cell? ⟨g1, k * 5, none⟩ = some (.string ⟨x.1.toArray⟩) ∧ wx.cell? ⟨g1, k * 5 + 1, none⟩ = some (.string ⟨x.2.1.toArray⟩) ∧ wx.cell? ⟨g1, k * 5 + 2, none⟩ = some (.bool true) ∧ wx.cell? ⟨g1, k * 5 + 3, none⟩ = some (.bool x.2.2) ∧ wx.cell? ⟨g1, k * 5 + 4, none⟩ = some (.bool false)) :=
        fun wx hb => encV_cell fun i u hu => (hb.cell (p := ⟨g1, k * 5 + i, none⟩) (Nat.lt_of_lt_of_le hg1 (by simp))).trans (((Below.refl _ _).alloc (Nat.le_refl _) _).cell (p := ⟨g1, k * 5 + i, none⟩) hg1 |>.trans (hc1 i u hu))
      obtain ⟨a0, a1, a2, a3, a4⟩ := HC.out _ hbo
      clear hc1
      have hdrop : l.drop k = x :: l.drop (k + 1) := Lib.drop_at hx
      have hP := putR_cons v d x (l.drop (k + 1))
      by_cases he : x.1 = v.1
      · have he1 : (x.1 == v.1) = true := by simpa using he
        have hle : v.1 ≤ x.1 := by rw [he]; exact List.le_refl _
        rw [decide_eq_true hle] at hP
        rw [if_pos he, Bool.or_true, List.nil_append] at hP
        have hbl := bl_le hle
        cases d with
        | true =>
          rw [if_neg (fun h => absurd h.1 (by simp)), List.nil_append] at hP
          have X : Aside (o ++ putR v true (l.drop (k + 1)) = R ∧ o.length ≤ k + 1 + true.toNat) := by
            refine ⟨?_, by have := HI.out.2; omega⟩
            rw [← HI.out.1, hdrop, hP]
          clear hP hdrop hle he
          go_wp2
          go_roundg g
          case measure => omega
          case rel => exact ⟨k + 1, true, o, by omega, by simp, rfl, by rw [← hn.out]; exact hro, X, hbo⟩
        | false =>
          rw [if_pos ⟨rfl, hle⟩] at hP
          have X : Aside ((o ++ [v]) ++ putR v true (l.drop (k + 1)) = R ∧ (o ++ [v]).length ≤ k + 1 + true.toNat) := by
            refine ⟨?_, by have := HI.out.2; simp at this ⊢; omega⟩
            rw [← HI.out.1, hdrop, hP]; simp
          clear hP hdrop hle he
          go_wp2_with (first
            | (at_builtin; refine wpList_append_own _ rfl _ _ 25 rfl (boxV w v).heap.size 43 i0 (.agg #[.string ⟨#[]⟩, .string ⟨#[]⟩, .bool false, .bool false, .bool false]) 5 40 Tryz.underlying25 hi hz0 hz1 hz2 rfl (by decide) _ _ _ rfl (hro.alloc _) ⟨_, 0, none⟩ 1 1 (encV v) rfl rfl (cell_five_new _ _ _ _ _ _ _) (fun x hx => by simp [encV] at hx; rcases hx with rfl | rfl | rfl | rfl | rfl <;> rfl) (by unfold maxLen; omega) (by omega) (Nat.le_trans hbo.size (by simp)) ?_; intro v' w3 hownw3 hgroww3 hnilw3; have hb3 := (hbo.alloc hbo.size _).grown hgroww3 (Nat.le_trans hbo.size (by simp)) (fun q h => (hro.lt q h).1); obtain ⟨b0, b1, b2, b3, b4⟩ := box_in hb3; obtain ⟨a0, a1, a2, a3, a4⟩ := HC.out _ hb3))
          go_roundg g
          case measure => omega
          case rel =>
            have hne := fun q h => (hro.lt q h).1
            refine ⟨k + 1, true, o ++ [v], by omega, by simp, rfl, ?_, X, (hbo.alloc hbo.size _).grown hgroww3 (Nat.le_trans hbo.size (by simp)) (fun q h => hne q h)⟩
            rw [flatV_snoc, List.length_append, ← hn.out]
            exact hownw3
      · have he1 : (x.1 == v.1) = false := by simpa using he
        by_cases hle : v.1 ≤ x.1
        · rw [decide_eq_true hle] at hP
          rw [if_neg he, Bool.or_true] at hP
          have hbl := bl_le hle
          cases d with
          | true =>
            rw [if_neg (fun h => absurd h.1 (by simp)), List.nil_append] at hP
            have X : Aside ((o ++ [x]) ++ putR v true (l.drop (k + 1)) = R ∧ (o ++ [x]).length ≤ k + 1 + true.toNat) := by
              refine ⟨?_, by have := HI.out.2; simp at this ⊢; omega⟩
              rw [← HI.out.1, hdrop, hP]; simp
            clear hP hdrop hle
            go_wp2_with (first
              | (at_builtin; refine wpList_append_own _ rfl _ _ 25 rfl (boxV w v).heap.size 43 i0 (.agg #[.string ⟨#[]⟩, .string ⟨#[]⟩, .bool false, .bool false, .bool false]) 5 40 Tryz.underlying25 hi hz0 hz1 hz2 rfl (by decide) _ _ _ rfl (hro.alloc _) ⟨_, 0, none⟩ 1 1 (encV x) rfl rfl (cell_five_new _ _ _ _ _ _ _) (fun x hx => by simp [encV] at hx; rcases hx with rfl | rfl | rfl | rfl | rfl <;> rfl) (by unfold maxLen; omega) (by omega) (Nat.le_trans hbo.size (by simp)) ?_; intro v' w3 hownw3 hgroww3 hnilw3))
            go_roundg g
            case measure => omega
            case rel =>
              have hne := fun q h => (hro.lt q h).1
              refine ⟨k + 1, true, o ++ [x], by omega, by simp, rfl, ?_, X, (hbo.alloc hbo.size _).grown hgroww3 (Nat.le_trans hbo.size (by simp)) (fun q h => hne q h)⟩
              rw [flatV_snoc, List.length_append, ← hn.out]
              exact hownw3
          | false =>
            rw [if_pos ⟨rfl, hle⟩] at hP
            have X : Aside (((o ++ [v]) ++ [x]) ++ putR v true (l.drop (k + 1)) = R ∧ ((o ++ [v]) ++ [x]).length ≤ k + 1 + true.toNat) := by
              refine ⟨?_, by have := HI.out.2; simp at this ⊢; omega⟩
              rw [← HI.out.1, hdrop, hP]; simp
            clear hP hdrop hle
            go_wp2_with (first
              | (at_builtin; refine wpList_append_own _ rfl _ _ 25 rfl (boxV w v).heap.size 43 i0 (.agg #[.string ⟨#[]⟩, .string ⟨#[]⟩, .bool false, .bool false, .bool false]) 5 40 Tryz.underlying25 hi hz0 hz1 hz2 rfl (by decide) _ _ _ rfl (hro.alloc _) ⟨_, 0, none⟩ 1 1 (encV v) rfl rfl (cell_five_new _ _ _ _ _ _ _) (fun x hx => by simp [encV] at hx; rcases hx with rfl | rfl | rfl | rfl | rfl <;> rfl) (by unfold maxLen; omega) (by omega) (Nat.le_trans hbo.size (by simp)) ?_; intro v' w3 hownw3 hgroww3 hnilw3; have hb3 := (hbo.alloc hbo.size _).grown hgroww3 (Nat.le_trans hbo.size (by simp)) (fun q h => (hro.lt q h).1); obtain ⟨b0, b1, b2, b3, b4⟩ := box_in hb3; obtain ⟨a0, a1, a2, a3, a4⟩ := HC.out _ hb3; clear hro hbo)
              | (at_builtin; refine wpList_append_own _ rfl _ _ 25 rfl (boxV w v).heap.size 43 i0 (.agg #[.string ⟨#[]⟩, .string ⟨#[]⟩, .bool false, .bool false, .bool false]) 5 40 Tryz.underlying25 hi hz0 hz1 hz2 rfl (by decide) _ _ _ rfl (hownw3.alloc _) ⟨_, 0, none⟩ 1 1 (encV x) rfl rfl (cell_five_new _ _ _ _ _ _ _) (fun x hx => by simp [encV] at hx; rcases hx with rfl | rfl | rfl | rfl | rfl <;> rfl) (by unfold maxLen; omega) (by omega) (Nat.le_trans hb3.size (by simp)) ?_; intro v' w4 hownw4 hgroww4 hnilw4))
            go_roundg g
            case measure => omega
            case rel =>
              have hne := fun q h => (hownw3.lt q h).1
              refine ⟨k + 1, true, o ++ [v] ++ [x], by omega, by simp, rfl, ?_, X, (hb3.alloc hb3.size _).grown hgroww4 (Nat.le_trans hb3.size (by simp)) (fun q h => hne q h)⟩
              rw [flatV_snoc, flatV_snoc, List.length_append, List.length_append, ← hn.out]
              exact hownw4
        · rw [decide_eq_false hle] at hP
          rw [if_neg (fun h => hle h.2), if_neg he, Bool.or_false, List.nil_append] at hP
          have X : Aside ((o ++ [x]) ++ putR v d (l.drop (k + 1)) = R ∧ (o ++ [x]).length ≤ k + 1 + d.toNat) := by
            refine ⟨?_, by have := HI.out.2; simp; omega⟩
            rw [← HI.out.1, hdrop, hP]; simp
          have hbl := bl_nle hle
          clear hP hdrop hle
          cases d
          all_goals
            go_wp2_with (first
              | (at_builtin; refine wpList_append_own _ rfl _ _ 25 rfl (boxV w v).heap.size 43 i0 (.agg #[.string ⟨#[]⟩, .string ⟨#[]⟩, .bool false, .bool false, .bool false]) 5 40 Tryz.underlying25 hi hz0 hz1 hz2 rfl (by decide) _ _ _ rfl (hro.alloc _) ⟨_, 0, none⟩ 1 1 (encV x) rfl rfl (cell_five_new _ _ _ _ _ _ _) (fun x hx => by simp [encV] at hx; rcases hx with rfl | rfl | rfl | rfl | rfl <;> rfl) (by unfold maxLen; omega) (by omega) (Nat.le_trans hbo.size (by simp)) ?_; intro v' w3 hownw3 hgroww3 hnilw3))
            go_roundg g
            case measure => omega
            case rel =>
              have hne := fun q h => (hro.lt q h).1
              refine ⟨k + 1, _, o ++ [x], by omega, by simp, rfl, ?_, X, (hbo.alloc hbo.size _).grown hgroww3 (Nat.le_trans hbo.size (by simp)) (fun q h => hne q h)⟩
              rw [flatV_snoc, List.length_append, ← hn.out]
              exact hownw3
end Go.Proofs.YtdifffdfiimlpaaGreatDoor
