/- The reference: Walk, Add. No statement is proved here. -/
import Derived.Test.YtfdhkchglacccaaGreatDoorSnND
set_option linter.all false
/-! the reference: Walk -/
namespace Go.Proofs.YtfdhkchglacccaaGreatDoor
open Go Go.RowKit Go.Mir Go.Syn
set_option maxHeartbeats 1000000
set_option maxRecDepth 100000
theorem own_up {w w' : World} {base : Nat} {e : TypeId} {size : Nat} {v : Value} {n : Nat} {xs : List Value} (h : w.ownsRow base e size v n xs) (hb : Below w.heap.size w w') : w'.ownsRow base e size v n xs :=
  h.kept (row := none) ⟨hb.os, hb.tape, hb.output, hb.size, fun k hk _ => hb.block k hk⟩ (by cases hv : v.ownBlock with
    | none => exact .inl rfl
    | some q => exact .inr (by simp))
theorem walk_len : ∀ (N : Nat) (n : NodeT), (walkF N n).length ≤ szN n
  | 0, n => by simp [walkF]
  | N + 1, n => by
    have h1 := kidsT_sum n
    have h2 : ((kidsT n).flatMap (walkF N)).length ≤ ((kidsT n).map szN).sum := by
      induction kidsT n with
      | nil => simp
      | cons a l ih => rw [List.flatMap_cons, List.length_append, List.map_cons, List.sum_cons]; have := walk_len N a; omega
    rw [walkF, List.length_cons]; omega
def WalkP (N : Nat) (n : NodeT) (w : World) (e : Ending) (w' : World) : Prop := ∃ (a : Option Addr) (m c : Nat), e = .returned (.slice a m c) ∧ Aside (m = (walkF N n).length ∧ RdS 9 encN w' a (walkF N n) ∧ ∀ ad, a = some ad → w.heap.size ≤ ad.block) ∧ Below w.heap.size w w'
theorem rdS_kept {α : Type} {k : Nat} {enc : α → List Value} {w w' : World} {ao : Option Addr} {l : List α} {row : Option Nat} (h : RdS k enc w ao l) (hg : w.grownBy w' row) (hne : ∀ ad, ao = some ad → some ad.block ≠ row) : RdS k enc w' ao l := fun i x hx => by
  obtain ⟨b, o, e, hlt, hc⟩ := h i x hx
  have hnb : some b ≠ row := hne ⟨b, o, none⟩ e
  exact ⟨b, o, e, Nat.lt_of_lt_of_le hlt hg.size, fun j u hu => hg.cell (hc j u hu) hnb⟩
theorem walk_calls : ∀ (N : Nat) (n : NodeT) (w : World), szN n ≤ N → N ≤ 1048576 → DeepN w n →
    Calls Tryz.prog 33 #[nodeV n] w (WalkP N n w) := by
  obtain ⟨i0, hi, hz0, hz1, hz2⟩ := info_parts info28
  intro N
  induction N with
  | zero => intro n w hN; have := szN_one n; omega
  | succ N ih =>
    intro n w hN hM hd
    have HW : Aside (DeepN w n ∧ szN n ≤ 1048576 ∧ ∀ k ∈ kidsT n, ∀ w', DeepN w' k → Calls Tryz.prog 33 #[nodeV k] w' (WalkP N k w')) :=
      ⟨hd, by omega, fun k hk w' hd' => ih k w' (by have := kid_sz hk; omega) (by omega) hd'⟩
    have HB : Aside (∀ k, (n :: ((kidsT n).take k).flatMap (walkF N)).length ≤ 1048576) := by
      intro k
      have h1 := kidsT_sum n
      have h2 : (((kidsT n).take k).flatMap (walkF N)).length ≤ (((kidsT n).take k).map szN).sum := by
        induction (kidsT n).take k with
        | nil => simp
        | cons a l ih => rw [List.flatMap_cons, List.length_append, List.map_cons, List.sum_cons]; have := walk_len N a; omega
      have h3 : (((kidsT n).take k).map szN).sum ≤ ((kidsT n).map szN).sum := by
        have e := List.take_append_drop k (kidsT n)
        rw [show ((kidsT n).map szN).sum = (((kidsT n).take k ++ (kidsT n).drop k).map szN).sum by rw [e], List.map_append, List.sum_append]
        omega
      rw [List.length_cons]
      omega
    clear ih hd hN hM
    go_enter Tryz.func33, Tryz.ntmps33
    have hwb0 : Below w.heap.size w (boxN w n) := (Below.refl _ _).alloc (Nat.le_refl _) _
    obtain ⟨z0, z1, z2, z3, z4, z5, z6, z7, z8⟩ := boxN_in (Below.refl (boxN w n).heap.size (boxN w n))
    have hown0 : (boxN (boxN w n) n).ownsRow (boxN w n).heap.size 28 9 (.slice (some ⟨(boxN w n).heap.size, 0, none⟩) 1 1) 1 (([n] : List NodeT).flatMap encN) := by
      have := World.ownsRow_lit (base := (boxN w n).heap.size) (e := 28) (size := 9) (boxN w n) #[.int .i64 n.kind, .int .i64 n.pos, .string ⟨n.name.toArray⟩, .bool n.all, .slice n.ah.1 n.assigns.length n.ah.2, .slice n.wh.1 n.words.length n.wh.2, .slice n.rh.1 n.redirs.length n.rh.2, .slice n.kh.1 n.kids.length n.kh.2, .slice n.ih.1 n.items.length n.ih.2] 1 (Nat.le_refl _) (by unfold maxLen; omega) rfl
      simpa [encN, slV] using this
    have hw1 : Below w.heap.size w (boxN (boxN w n) n) := hwb0.alloc hwb0.size _
    go_wp2_with (go_at_call 13; refine (kids_calls n (boxN (boxN w n) n) (HW.out.1.up hw1) (Nat.le_trans (kids_len n) HW.out.2.1) (Nat.le_trans (items_len n) HW.out.2.1)).mono ?_; rintro e w1 ⟨A, m, c, rfl, HR, hb1⟩)
    have hm : m ≤ 1048576 := by rw [HR.out.1]; exact Nat.le_trans (kids_len n) HW.out.2.1
    have hwb1 : Below (boxN w n).heap.size (boxN w n) w1 := ((Below.refl (boxN w n).heap.size (boxN w n)).alloc (Nat.le_refl _) _).trans (hb1.mono (by simp))
    have hown1 := own_up hown0 hb1
    clear z0 z1 z2 z3 z4 z5 z6 z7 z8 hwb0 hw1 hown0
    go_loopg [3, 5] m (fun g so si wx => ∃ (k q : Nat), k + g = m ∧ si = .int .i64 k ∧ wx.ownsRow (boxN w n).heap.size 28 9 so q ((n :: ((kidsT n).take k).flatMap (walkF N)).flatMap encN) ∧ Aside (q = (n :: ((kidsT n).take k).flatMap (walkF N)).length ∧ RdS 9 encN wx A (kidsT n) ∧ (∀ ad, A = some ad → some ad.block ≠ so.ownBlock)) ∧ Below (boxN w n).heap.size (boxN w n) wx)
    case atStart => exact ⟨0, 1, by omega, rfl, by simpa using hown1, ⟨rfl, HR.out.2.1, fun ad h he => by have := HR.out.2.2 ad h; simp [Value.ownBlock] at he; simp at this; omega⟩, hwb1⟩
    case round =>
      clear hb1 hwb1 hown1
      obtain ⟨k, q, hkg, rfl, hro, HQ, hbo⟩ := hrel
      have hwb : Below w.heap.size w wr := ((Below.refl _ _).alloc (Nat.le_refl _) _).trans (hbo.mono (by simp))
      have hq : q ≤ 1048576 := by rw [HQ.out.1]; exact HB.out k
      cases gk with
      | zero =>
        have hkz : ¬ (k : Int) < (m : Int) := by omega
        have hek : Aside (n :: ((kidsT n).take k).flatMap (walkF N) = walkF (N + 1) n) := by
          show _ = _
          rw [List.take_of_length_le (by have := HR.out.1; omega)]; rfl
        rw [hek.out] at hro
        obtain ⟨a, c, rfl, hrd, hf⟩ := rdS_of_row lenN (by rw [HQ.out.1, hek.out]) hro
        go_wp2
        go_ret
        exact ⟨a, q, c, rfl, ⟨by rw [HQ.out.1, hek.out], hrd, fun ad h => Nat.le_trans (by simp) (hf ad h)⟩, hwb⟩
      | succ g =>
        have hk0 : (0 : Int) ≤ (k : Int) := by omega
        have hkz : (k : Int) < (m : Int) := by omega
        have hk63 : (k : Int) + 1 ≤ 9223372036854775807 := by omega
        obtain ⟨x, hx⟩ : ∃ x, (kidsT n)[k]? = some x := ⟨_, List.getElem?_eq_getElem (by have := HR.out.1; omega)⟩
        obtain ⟨b, o, rfl, hlt, hc⟩ := HQ.out.2.1 k x hx
        have c0 : wr.cell? ⟨b, o + k * 9, none⟩ = some (.int .i64 x.kind) := hc 0 _ rfl
        have c1 : wr.cell? ⟨b, o + k * 9 + 1, none⟩ = some (.int .i64 x.pos) := hc 1 _ rfl
        have c2 : wr.cell? ⟨b, o + k * 9 + 2, none⟩ = some (.string ⟨x.name.toArray⟩) := hc 2 _ rfl
        have c3 : wr.cell? ⟨b, o + k * 9 + 3, none⟩ = some (.bool x.all) := hc 3 _ rfl
        have c4 : wr.cell? ⟨b, o + k * 9 + 4, none⟩ = some (.slice x.ah.1 x.assigns.length x.ah.2) := hc 4 _ rfl
        have c5 : wr.cell? ⟨b, o + k * 9 + 5, none⟩ = some (.slice x.wh.1 x.words.length x.wh.2) := hc 5 _ rfl
        have c6 : wr.cell? ⟨b, o + k * 9 + 6, none⟩ = some (.slice x.rh.1 x.redirs.length x.rh.2) := hc 6 _ rfl
        have c7 : wr.cell? ⟨b, o + k * 9 + 7, none⟩ = some (.slice x.kh.1 x.kids.length x.kh.2) := hc 7 _ rfl
        have c8 : wr.cell? ⟨b, o + k * 9 + 8, none⟩ = some (.slice x.ih.1 x.items.length x.ih.2) := hc 8 _ rfl
        have HX := HW.out.2.2 x (List.mem_of_getElem? hx) wr ((HW.out.1.kid (List.mem_of_getElem? hx)).up hwb)
        have HT : Aside ((n :: ((kidsT n).take k).flatMap (walkF N)).flatMap encN ++ (walkF N x).flatMap encN = (n :: ((kidsT n).take (k + 1)).flatMap (walkF N)).flatMap encN ∧ q + (walkF N x).length = (n :: ((kidsT n).take (k + 1)).flatMap (walkF N)).length) := by
          rw [List.take_add_one, hx, HQ.out.1]
          refine ⟨?_, ?_⟩
          · simp [List.flatMap_append]
          · simp [List.flatMap_append]; omega
        have hqx : q + (walkF N x).length ≤ 1048576 := by rw [HT.out.2]; exact HB.out (k + 1)
        clear hc hx
        go_wp2_with (first
          | (go_at_call 33; refine HX.mono ?_; rintro e w5 ⟨A5, m5, c5', rfl, HR5, hb5⟩; have hro5 := own_up hro hb5; have hm5 : Aside (m5 = (walkF N x).length) := HR5.out.1; have hqm : q + m5 ≤ 1048576 := by rw [hm5.out]; exact hqx)
          | (at_builtin; go_loud (refine wpList_append_any _ rfl _ _ 25 rfl (boxN w n).heap.size 28 i0 (.agg #[.int .i64 0, .int .i64 0, .string ⟨#[]⟩, .bool false, .slice none 0 0, .slice none 0 0, .slice none 0 0, .slice none 0 0, .slice none 0 0]) 9 160 Tryz.underlying25 hi hz0 hz1 hz2 rfl (by decide) _ q _ rfl hro5 A5 m5 c5' ((walkF N x).flatMap encN) rfl (reads_of lenN (by decide) hm5.out HR5.out.2.1) (oneN _) (by unfold maxLen; omega) (by omega) (hbo.trans (hb5.mono hbo.size)).size ?_; intro v2 w2 hown2 hgrow2 hat2)))
        go_roundg g
        case measure => omega
        case rel =>
          have hb6 := hbo.trans (hb5.mono hbo.size)
          refine ⟨k + 1, q + m5, by omega, by simp, by rw [← HT.out.1]; exact hown2, ⟨by rw [← HT.out.2, hm5.out], ?_, ?_⟩, hb6.grown hgrow2 hb6.size (fun q h => (hro5.lt q h).1)⟩
          · exact rdS_kept (HQ.out.2.1.up hb5) hgrow2 (fun ad h => HQ.out.2.2 ad h)
          · intro ad h he
            rcases hat2 with h2 | h2
            · exact HQ.out.2.2 ad h (he.trans h2)
            · rw [h2] at he
              injection h with h
              injection he with he
              rw [← h] at he
              have := hb5.size
              simp only at he
              omega
end Go.Proofs.YtfdhkchglacccaaGreatDoor

/-! the reference: Add -/
namespace Go.Proofs.YtfdhkchglacccaaGreatDoor
open Go Go.RowKit Go.Mir Go.Syn
set_option maxHeartbeats 1000000
set_option maxRecDepth 100000
def encS (t : List UInt8) : List Value := [.string ⟨t.toArray⟩]
theorem lenS (t : List UInt8) : (encS t).length = 1 := rfl
theorem oneS1 (t : List UInt8) : ∀ u ∈ encS t, u.oneCell' = true := by
  intro u hu
  simp [encS] at hu
  rw [hu]; rfl
theorem oneS (l : List (List UInt8)) : ∀ u ∈ l.flatMap encS, u.oneCell' = true := by
  intro u hu
  obtain ⟨n, _, hu⟩ := List.mem_flatMap.1 hu
  exact oneS1 n u hu
theorem bytesLess_eq (a b : List UInt8) : Op.bytesLess a b = decide (a < b) := by
  induction a generalizing b with
  | nil => cases b <;> simp [Op.bytesLess]
  | cons x xs ih =>
    cases b with
    | nil => simp [Op.bytesLess]
    | cons y ys => simp [Op.bytesLess, ih, List.cons_lt_cons_iff, Bool.beq_eq_decide_eq]
theorem info9 : (Tryz.prog.info? 9).map (fun i => (i.zero, i.size, i.bytes)) = some (some (.string ⟨#[]⟩), 1, 16) := by kernel_rfl
/-- a list of names that was returned -/
def ListP (L : List (List UInt8)) (w : World) (e : Ending) (w' : World) : Prop := ∃ (a : Option Addr) (m c : Nat), e = .returned (.slice a m c) ∧ Aside (m = L.length ∧ m ≤ c ∧ RdS 1 encS w' a L) ∧ Below w.heap.size w w'
theorem list_of_row {w0 w : World} {e : TypeId} {v : Value} {n : Nat} {L : List (List UInt8)} (hn : n = L.length) (h : w.ownsRow w0.heap.size e 1 v n (L.flatMap encS)) (hb : Below w0.heap.size w0 w) : ListP L w0 (.returned v) w := by
  obtain ⟨a, c, rfl, hr, _⟩ := rdS_of_row lenS hn h
  refine ⟨a, n, c, rfl, ⟨hn, ?_, hr⟩, hb⟩
  rcases h.2 with ⟨h1, h2⟩ | ⟨g, cap, cur, h1, _, _, h2, _⟩
  · injection h1 with _ h3 h4; omega
  · injection h1 with _ h3 h4; omega
theorem addS_step {s x : List UInt8} {l : List (List UInt8)} (h : x < s) : addS s (x :: l) = x :: addS s l := by
  have h1 : ¬ s < x := fun h2 => List.lt_irrefl _ (List.lt_trans h h2)
  have h2 : ¬ s = x := fun h2 => List.lt_irrefl x (by rw [h2] at h; exact h)
  rw [addS.eq_2, if_neg h1, if_neg h2]
theorem addS_stop {s x : List UInt8} {l : List (List UInt8)} (h : ¬ x < s) : addS s (x :: l) = s :: (if x = s then l else x :: l) := by
  rw [addS.eq_2]
  by_cases he : x = s
  · subst he
    rw [if_neg (List.lt_irrefl x), if_pos rfl, if_pos rfl]
  · have h2 : s < x := by
      rcases List.le_iff_lt_or_eq.1 (List.not_lt.1 h) with h | h
      · exact h
      · exact absurd h.symm he
    rw [if_pos h2, if_neg he]
theorem reads_suffix {w : World} {b o : Nat} {l : List (List UInt8)} (h : RdS 1 encS w (some ⟨b, o, none⟩) l) (k : Nat) : ReadsR w 1 (some ⟨b, o + k, none⟩) (l.length - k) ((l.drop k).flatMap encS) := by
  have h1 := reads_of (k := 1) lenS (by decide) (l := l.drop k) (A := some ⟨b, o + k, none⟩) (w := w) (m := l.length - k) (by simp) ?_
  · exact h1
  · intro i x hx
    rw [List.getElem?_drop] at hx
    obtain ⟨b', o', he, hlt, hc⟩ := h _ x hx
    injection he with he
    injection he with e1 e2
    subst e1; subst e2
    exact ⟨_, _, rfl, hlt, fun j u hu => by have := hc j u hu; rw [show o + k + i * 1 + j = o + (k + i) * 1 + j by omega]; exact this⟩
theorem cell_one_new (w : World) (t : TypeId) (a : Value) : ∀ j u, [a][j]? = some u → (w.alloc (.cells #[a] t)).cell? ((⟨w.heap.size, 0, none⟩ : Addr).add j) = some u := by
  intro j u h
  rcases j with _ | j
  · simp at h; subst h; rw [add_none]; simp
  · simp at h
theorem reads_cut {w : World} {b o cap k sz : Nat} {l : List (List UInt8)} (h : RdS 1 encS w (some ⟨b, o, none⟩) l) (hz : sz = l.length) (hc : sz ≤ cap) (hk : k ≤ sz) : ReadsR w 1 (if cap = k then some ⟨b, o, none⟩ else some ⟨b, o + k, none⟩) (sz - k) ((l.drop k).flatMap encS) := by
  subst hz
  split
  · rename_i he
    rw [List.drop_eq_nil_of_le (by omega)]
    exact ⟨by simp; omega, fun h => by omega⟩
  · exact reads_suffix h k
theorem add_nil (s : List UInt8) (A : Option Addr) (cap : Nat) (w : World) : Calls Tryz.prog 34 #[.slice A 0 cap, .string ⟨s.toArray⟩] w (ListP [s] w) := by
  obtain ⟨i0, hi, hz0, hz1, hz2⟩ := info_parts info9
  have hro : w.ownsRow w.heap.size 9 1 (.slice none 0 0) 0 [] := World.ownsRow_nil _ _ _ _
  have hbo : Below w.heap.size w w := Below.refl _ _
  have hc : 0 ≤ cap := Nat.zero_le _
  rcases A with _ | A
  all_goals
    go_enter Tryz.func34, Tryz.ntmps34
    go_wp2
    go_loopg [5, 6] 0 (fun g so si wx => si = .int .i64 0 ∧ so = .slice none 0 0 ∧ w = wx)
    case atStart => exact ⟨rfl, rfl, rfl⟩
    case round =>
      obtain ⟨rfl, rfl, rfl⟩ := hrel
      go_wp2_with (first
        | (at_builtin; refine wpList_append_own _ rfl _ _ 32 rfl w.heap.size 9 i0 (.string ⟨#[]⟩) 1 16 Tryz.underlying32 hi hz0 hz1 hz2 rfl (by decide) _ _ _ rfl (hro.alloc _) ⟨_, 0, none⟩ 1 1 (encS s) rfl rfl (cell_one_new _ _ _) (oneS1 s) (by unfold maxLen; omega) (by omega) (Nat.le_trans hbo.size (by simp)) ?_; intro v3 w3 hown3 hgrow3 hnil3; have hb3 := (hbo.alloc hbo.size _).grown hgrow3 (Nat.le_trans hbo.size (by simp)) (fun q h => (hro.lt q h).1))
        | (at_builtin; refine wpList_append_any _ rfl _ _ 32 rfl w.heap.size 9 i0 (.string ⟨#[]⟩) 1 16 Tryz.underlying32 hi hz0 hz1 hz2 rfl (by decide) _ _ _ rfl hown3 _ 0 _ [] rfl ⟨rfl, fun h => absurd h (by decide)⟩ (oneS []) (by unfold maxLen; omega) (by omega) hb3.size ?_; intro v4 w4 hown4 hgrow4 hat4))
      go_ret
      have hb4 := hb3.grown hgrow4 hb3.size (fun q h => (hown3.lt q h).1)
      exact list_of_row rfl hown4 hb4
theorem add_some (l : List (List UInt8)) (s : List UInt8) (b o : Nat) (cap : Nat) (w : World) (hl : l.length ≤ 1048576) (hc : l.length ≤ cap) (hr : RdS 1 encS w (some ⟨b, o, none⟩) l) :
    Calls Tryz.prog 34 #[.slice (some ⟨b, o, none⟩) l.length cap, .string ⟨s.toArray⟩] w (ListP (addS s l) w) := by
  obtain ⟨i0, hi, hz0, hz1, hz2⟩ := info_parts info9
  obtain ⟨sz, hsz0⟩ : ∃ n, n = l.length := ⟨_, rfl⟩
  have HL : Aside (sz = l.length ∧ RdS 1 encS w (some ⟨b, o, none⟩) l) := ⟨hsz0, hr⟩
  rw [← hsz0] at hl hc ⊢
  clear hr hsz0
  obtain ⟨R, hR0⟩ : ∃ R, R = addS s l := ⟨_, rfl⟩
  rw [← hR0]
  have HR : Aside (R = addS s l) := hR0
  clear hR0
  go_enter Tryz.func34, Tryz.ntmps34
  go_wp2
  go_loopg [5, 6] sz (fun g so si wx => ∃ (k : Nat), k + g = sz ∧ si = .int .i64 k ∧ wx.ownsRow w.heap.size 9 1 so k ((l.take k).flatMap encS) ∧ Aside (R = l.take k ++ addS s (l.drop k)) ∧ Below w.heap.size w wx)
  case atStart => exact ⟨0, by omega, rfl, by simpa using World.ownsRow_nil _ _ _ _, HR, Below.refl _ _⟩
  case round =>
    obtain ⟨k, hkg, rfl, hro, HI, hbo⟩ := hrel
    cases gk with
    | zero =>
      have hkz : ¬ (k : Int) < (sz : Int) := by omega
      have hk0 : (0 : Int) ≤ (k : Int) := by omega
      have hkz' : (k : Int) ≤ (sz : Int) := by omega
      go_wp2_with (first
        | (at_builtin; refine wpList_append_own _ rfl _ _ 32 rfl w.heap.size 9 i0 (.string ⟨#[]⟩) 1 16 Tryz.underlying32 hi hz0 hz1 hz2 rfl (by decide) _ _ _ rfl (hro.alloc _) ⟨_, 0, none⟩ 1 1 (encS s) rfl rfl (cell_one_new _ _ _) (oneS1 s) (by unfold maxLen; omega) (by omega) (Nat.le_trans hbo.size (by simp)) ?_; intro v3 w3 hown3 hgrow3 hnil3; have hb3 := (hbo.alloc hbo.size _).grown hgrow3 (Nat.le_trans hbo.size (by simp)) (fun q h => (hro.lt q h).1))
        | (at_builtin; refine wpList_append_any _ rfl _ _ 32 rfl w.heap.size 9 i0 (.string ⟨#[]⟩) 1 16 Tryz.underlying32 hi hz0 hz1 hz2 rfl (by decide) _ _ _ rfl hown3 _ (sz - k) _ ((l.drop k).flatMap encS) rfl (reads_cut (HL.out.2.up hb3) HL.out.1 hc (by omega)) (oneS _) (by unfold maxLen; omega) (by omega) hb3.size ?_; intro v4 w4 hown4 hgrow4 hat4))
      all_goals
        go_ret
        have hb4 := hb3.grown hgrow4 hb3.size (fun q h => (hown3.lt q h).1)
        have hE : R = l.take k ++ ([s] ++ l.drop k) := by
          rw [HI.out, List.drop_eq_nil_of_le (by have := HL.out.1; omega)]; rfl
        refine list_of_row (L := R) (n := k + 1 + (sz - k)) (e := 9) ?_ ?_ hb4
        · rw [hE]; have := HL.out.1; simp; omega
        · rw [hE]; simpa [List.flatMap_append, encS] using hown4
    | succ g =>
      have hk0 : (0 : Int) ≤ (k : Int) := by omega
      have hkz : (k : Int) < (sz : Int) := by omega
      have hk63 : (k : Int) + 1 ≤ 9223372036854775807 := by omega
      obtain ⟨x, hx⟩ : ∃ x, l[k]? = some x := ⟨_, List.getElem?_eq_getElem (by have := HL.out.1; omega)⟩
      have hdrop : Aside (l.drop k = x :: l.drop (k + 1)) := Lib.drop_at hx
      obtain ⟨b', o', he, hlt, hcc⟩ := (HL.out.2.up hbo) k x hx
      injection he with he
      injection he with e1 e2
      subst e1; subst e2
      have c0 : wr.cell? ⟨b, o + k, none⟩ = some (.string ⟨x.toArray⟩) := by have := hcc 0 _ rfl; rwa [show o + k * 1 + 0 = o + k by omega] at this
      have hw2 : IntKind.i64.wrap ((k : Int) + 1) = (k : Int) + 1 := by rw [IntWalk.i64_left, IntWalk.wrap64_in _ (by omega)]
      clear hcc hlt
      by_cases hxs : x < s
      · have hb : Op.bytesLess x s = true := by rw [bytesLess_eq]; exact decide_eq_true hxs
        have HS : Aside (R = l.take (k + 1) ++ addS s (l.drop (k + 1)) ∧ (l.take k).flatMap encS ++ encS x = (l.take (k + 1)).flatMap encS) := by
          refine ⟨?_, ?_⟩
          · rw [HI.out, hdrop.out, addS_step hxs, List.take_add_one, hx]; simp
          · rw [List.take_add_one, hx]; simp [List.flatMap_append]
        clear hxs hx
        go_wp2_with (at_builtin; refine wpList_append_own _ rfl _ _ 32 rfl w.heap.size 9 i0 (.string ⟨#[]⟩) 1 16 Tryz.underlying32 hi hz0 hz1 hz2 rfl (by decide) _ _ _ rfl (hro.alloc _) ⟨_, 0, none⟩ 1 1 (encS x) rfl rfl (cell_one_new _ _ _) (oneS1 x) (by unfold maxLen; omega) (by omega) (Nat.le_trans hbo.size (by simp)) ?_; intro v3 w3 hown3 hgrow3 hnil3; have hb3 := (hbo.alloc hbo.size _).grown hgrow3 (Nat.le_trans hbo.size (by simp)) (fun q h => (hro.lt q h).1))
        go_roundg g
        case measure => omega
        case rel => exact ⟨k + 1, by omega, by simp, by rw [← HS.out.2]; exact hown3, HS.out.1, hb3⟩
      · have hb : Op.bytesLess x s = false := by rw [bytesLess_eq]; exact decide_eq_false hxs
        have hk0' : (0 : Int) ≤ (k : Int) + 1 := by omega
        have hkz' : (k : Int) + 1 ≤ (sz : Int) := by omega
        have HK : Aside (∀ w', Below w.heap.size w w' → w'.cell? ⟨b, o + k, none⟩ = some (.string ⟨x.toArray⟩)) := by
          intro w' hb'
          obtain ⟨b', o', he, hlt, hcc⟩ := (HL.out.2.up hb') k x hx
          injection he with he
          injection he with e1 e2
          subst e1; subst e2
          have := hcc 0 _ rfl
          rwa [show o + k * 1 + 0 = o + k by omega] at this
        by_cases hxe : x = s
        · have hq : (x == s) = true := by simpa using hxe
          have HT : Aside (R = l.take k ++ ([s] ++ l.drop (k + 1))) := by
            show _ = _
            rw [HI.out, hdrop.out, addS_stop hxs, if_pos hxe]; rfl
          clear hxe hxs hx hk63 hw2
          go_wp2_with (first
            | (at_builtin; refine wpList_append_own _ rfl _ _ 32 rfl w.heap.size 9 i0 (.string ⟨#[]⟩) 1 16 Tryz.underlying32 hi hz0 hz1 hz2 rfl (by decide) _ _ _ rfl (hro.alloc _) ⟨_, 0, none⟩ 1 1 (encS s) rfl rfl (cell_one_new _ _ _) (oneS1 s) (by unfold maxLen; omega) (by omega) (Nat.le_trans hbo.size (by simp)) ?_; intro v3 w3 hown3 hgrow3 hnil3; have hb3 := (hbo.alloc hbo.size _).grown hgrow3 (Nat.le_trans hbo.size (by simp)) (fun q h => (hro.lt q h).1); have d0 : w3.cell? ⟨b, o + k, none⟩ = some (.string ⟨x.toArray⟩) := HK.out w3 hb3)
            | (at_builtin; refine wpList_append_any _ rfl _ _ 32 rfl w.heap.size 9 i0 (.string ⟨#[]⟩) 1 16 Tryz.underlying32 hi hz0 hz1 hz2 rfl (by decide) _ _ _ rfl hown3 _ (sz - (k + 1)) _ ((l.drop (k + 1)).flatMap encS) rfl (reads_cut (HL.out.2.up hb3) HL.out.1 hc (by omega)) (oneS _) (by unfold maxLen; omega) (by omega) hb3.size ?_; intro v4 w4 hown4 hgrow4 hat4))
          all_goals
            go_ret
            have hb4 := hb3.grown hgrow4 hb3.size (fun q h => (hown3.lt q h).1)
            refine list_of_row (L := R) (n := k + 1 + (sz - (k + 1))) (e := 9) ?_ ?_ hb4
            · rw [HT.out]; have := HL.out.1; simp; omega
            · rw [HT.out]; simpa [List.flatMap_append, encS] using hown4
        · have hq : (x == s) = false := by simpa using hxe
          have HT : Aside (R = l.take k ++ ([s] ++ l.drop k)) := by
            show _ = _
            rw [HI.out, hdrop.out, addS_stop hxs, if_neg hxe]; rfl
          clear hxe hxs hx hk63 hk0' hkz' hw2
          have hkle : (k : Int) ≤ (sz : Int) := by omega
          go_wp2_with (first
            | (at_builtin; refine wpList_append_own _ rfl _ _ 32 rfl w.heap.size 9 i0 (.string ⟨#[]⟩) 1 16 Tryz.underlying32 hi hz0 hz1 hz2 rfl (by decide) _ _ _ rfl (hro.alloc _) ⟨_, 0, none⟩ 1 1 (encS s) rfl rfl (cell_one_new _ _ _) (oneS1 s) (by unfold maxLen; omega) (by omega) (Nat.le_trans hbo.size (by simp)) ?_; intro v3 w3 hown3 hgrow3 hnil3; have hb3 := (hbo.alloc hbo.size _).grown hgrow3 (Nat.le_trans hbo.size (by simp)) (fun q h => (hro.lt q h).1); have d0 : w3.cell? ⟨b, o + k, none⟩ = some (.string ⟨x.toArray⟩) := HK.out w3 hb3)
            | (at_builtin; refine wpList_append_any _ rfl _ _ 32 rfl w.heap.size 9 i0 (.string ⟨#[]⟩) 1 16 Tryz.underlying32 hi hz0 hz1 hz2 rfl (by decide) _ _ _ rfl hown3 _ (sz - k) _ ((l.drop k).flatMap encS) rfl (by have h9 := reads_suffix (HL.out.2.up hb3) k; rw [← HL.out.1] at h9; exact h9) (oneS _) (by unfold maxLen; omega) (by omega) hb3.size ?_; intro v4 w4 hown4 hgrow4 hat4))
          all_goals
            go_ret
            have hb4 := hb3.grown hgrow4 hb3.size (fun q h => (hown3.lt q h).1)
            refine list_of_row (L := R) (n := k + 1 + (sz - k)) (e := 9) ?_ ?_ hb4
            · rw [HT.out]; have := HL.out.1; simp; omega
            · rw [HT.out]; simpa [List.flatMap_append, encS] using hown4
end Go.Proofs.YtfdhkchglacccaaGreatDoor
