/- The program: Params. No statement is proved here. -/
import Derived.Test.YtfdhkchglacccaaGreatDoorSnPP
import Derived.Test.YtfdhkchglacccaaGreatDoorSnPA
import Derived.Laws.EntriesVeiled
set_option linter.all false
/-! words.Params -/
namespace Go.Proofs.YtfdhkchglacccaaGreatDoor
open Go Go.RowKit Go.Mir Go.Syn
def parOwn (p : PartT) : List (List UInt8) := if p.kind = 4 then [p.text] else []
theorem parF_cons (N : Nat) (p : PartT) (l : List PartT) : parF (N + 1) (p :: l) = parOwn p ++ (parF N p.parts ++ parF (N + 1) l) := by
  simp only [parF, parOwn, List.flatMap_cons, List.append_assoc]
/-- the captured variables of texts -/
def TxtI (Bk Bl Bv B0 : Nat) (L : List (List UInt8)) (w0 W : World) : Prop := Below w0.heap.size w0 W ∧ W.heap[Bk]? = some (.cells #[.int .i64 4] 3 (0, 0)) ∧
  W.heap[Bv]? = some (.cells #[.func (.func 103) #[] #[.pointer (some ⟨Bk, 0, none⟩), .pointer (some ⟨Bl, 0, none⟩), .pointer (some ⟨Bv, 0, none⟩)]] 133 (0, 0)) ∧
  ∃ v, W.heap[Bl]? = some (.cells #[v] 32 (0, 0)) ∧ W.ownsRow B0 9 1 v L.length (L.flatMap encS)
theorem TxtI.up {Bk Bl Bv B0 : Nat} {L : List (List UInt8)} {w0 W W' : World} (h : TxtI Bk Bl Bv B0 L w0 W) (hb : Below W.heap.size W W') : TxtI Bk Bl Bv B0 L w0 W' := by
  obtain ⟨h1, hk, h2, v, h3, h4⟩ := h
  exact ⟨h1.trans (hb.mono h1.size), (hb.block _ (lt_of_block hk)).trans hk, (hb.block _ (lt_of_block h2)).trans h2, v, (hb.block _ (lt_of_block h3)).trans h3, own_up h4 hb⟩
def TxtB (Bk Bl Bv B0 : Nat) (w0 : World) : Prop := Bk < B0 ∧ Bl < B0 ∧ Bv < B0 ∧ Bk ≠ Bl ∧ Bl ≠ Bv ∧ w0.heap.size ≤ Bk ∧ w0.heap.size ≤ Bl ∧ w0.heap.size ≤ Bv ∧ w0.heap.size ≤ B0
/-- behind the append and the store -/
theorem txt_end {Bk Bl Bv B0 : Nat} {L : List (List UInt8)} {w0 W w3 : World} {x : List UInt8} {v v' : Value} (hB : TxtB Bk Bl Bv B0 w0) (h : TxtI Bk Bl Bv B0 L w0 W) (hBW : B0 ≤ W.heap.size) (hv : W.heap[Bl]? = some (.cells #[v] 32 (0, 0))) (hvb : ∀ q, v.ownBlock = some q → B0 ≤ q) (hg : W.grownBy w3 v.ownBlock)
    (hown : w3.ownsRow B0 9 1 v' (L.length + 1) (L.flatMap encS ++ encS x)) : TxtI Bk Bl Bv B0 (L ++ [x]) w0 (w3.setCell ⟨Bl, 0, none⟩ v') ∧ w3.heap[Bl]? = some (.cells #[v] 32 (0, 0)) := by
  obtain ⟨b1, b2, b3, b4, b5, b6, b7, b8, b9⟩ := hB
  obtain ⟨h1, hk, h2, _⟩ := h
  have hq : ∀ q o, q < B0 → W.heap[q]? = some o → w3.heap[q]? = some o := fun q o hq h => by
    rw [hg.block q (lt_of_block h) (fun e => by have := hvb q e.symm; omega)]
    exact h
  have k1 := hq Bl _ b2 hv
  have c2 : Below w0.heap.size w0 w3 := h1.grown hg h1.size (fun q hq => Nat.le_trans b9 (hvb q hq))
  refine ⟨⟨c2.setCell b7 _, ?_, ?_, v', one_setCell k1, ?_⟩, k1⟩
  · rw [Below.heap_setCell _ _ _ _ b4]; exact hq Bk _ b1 hk
  · rw [Below.heap_setCell _ _ _ _ (fun e => b5 e.symm)]; exact hq Bv _ b3 h2
  · have h5 := ownsRow_setCell_other hown (a := ⟨Bl, 0, none⟩) (fun e => by have := (hown.lt Bl e).1; omega) v'
    rw [List.length_append, List.flatMap_append]
    simpa using h5
set_option maxHeartbeats 1000000
set_option maxRecDepth 100000
theorem row_slice {w : World} {base : Nat} {e : TypeId} {k : Nat} {v : Value} {n : Nat} {xs : List Value} (h : w.ownsRow base e k v n xs) : ∃ ao cp, v = .slice ao n cp := by
  rcases h.2 with ⟨h1, h2⟩ | ⟨g, cap, cur, h1, _⟩
  · exact ⟨none, 0, by rw [h1, h2]⟩
  · exact ⟨_, _, h1⟩
theorem one_at {w : World} {k : Nat} {t : TypeId} {a : Value} (hk : k = w.heap.size) : ∀ j u, [a][j]? = some u → (w.alloc (.cells #[a] t)).cell? ((⟨k, 0, none⟩ : Addr).add j) = some u := by
  subst hk; exact cell_one_new w t a
theorem txt1_calls (Bk Bl Bv B0 : Nat) (w0 : World) (hB : TxtB Bk Bl Bv B0 w0) : ∀ (N : Nat) (l : List PartT) (A : Option Addr) (cap : Nat) (L : List (List UInt8)) (W : World), szPs l ≤ N → N ≤ 1048576 → DeepP w0 (A, cap) l → TxtI Bk Bl Bv B0 L w0 W → B0 ≤ W.heap.size → L.length + (parF N l).length ≤ 1048576 →
    Calls Tryz.prog 103 #[.slice A l.length cap, .pointer (some ⟨Bk, 0, none⟩), .pointer (some ⟨Bl, 0, none⟩), .pointer (some ⟨Bv, 0, none⟩)] W fun e w' => e = .returned (.tuple #[]) ∧ Aside (TxtI Bk Bl Bv B0 (L ++ parF N l) w0 w' ∧ B0 ≤ w'.heap.size) := by
  obtain ⟨i0, hi, hz0, hz1, hz2⟩ := info_parts info9
  intro N
  induction N with
  | zero =>
    intro l A cap L W hN _ _ hT hBW _
    have hl : l = [] := by
      have := szPs_len l
      exact List.eq_nil_of_length_eq_zero (by omega)
    subst hl
    rw [show parF 0 [] = [] from rfl, List.append_nil]
    have HT : Aside (TxtI Bk Bl Bv B0 L w0 W ∧ B0 ≤ W.heap.size) := ⟨hT, hBW⟩
    clear hN hT hBW
    go_enter Tryz.func103, Tryz.ntmps103
    go_wp2
    go_loopg [9] 0 (fun g s wx => s = .int .i64 0 ∧ W = wx)
    case atStart => exact ⟨rfl, rfl⟩
    case round =>
      obtain ⟨rfl, rfl⟩ := hrel
      go_wp2
      go_end0
      exact ⟨rfl, HT.out⟩
  | succ N ih =>
    intro l A cap L W hN hM hd hT hBW hn
    obtain ⟨sz, hsz0⟩ : ∃ n, n = l.length := ⟨_, rfl⟩
    have HL : Aside (sz = l.length ∧ RdS 5 encP w0 A l ∧ szPs l ≤ 1048576 ∧ (∀ p ∈ l, DeepP w0 p.h p.parts) ∧ TxtB Bk Bl Bv B0 w0) := by
      obtain ⟨_, _, h1, h2⟩ := hd
      exact ⟨hsz0, h1, by omega, h2, hB⟩
    have hl : sz ≤ 1048576 := by rw [hsz0]; have := szPs_len l; omega
    have IH : Aside (∀ p ∈ l, ∀ (L : List (List UInt8)) (W : World), TxtI Bk Bl Bv B0 L w0 W → B0 ≤ W.heap.size → L.length + (parF N p.parts).length ≤ 1048576 →
        Calls Tryz.prog 103 #[.slice p.h.1 p.parts.length p.h.2, .pointer (some ⟨Bk, 0, none⟩), .pointer (some ⟨Bl, 0, none⟩), .pointer (some ⟨Bv, 0, none⟩)] W fun e w' => e = .returned (.tuple #[]) ∧ Aside (TxtI Bk Bl Bv B0 (L ++ parF N p.parts) w0 w' ∧ B0 ≤ w'.heap.size)) :=
      fun p hp L W h1 h2 h3 => ih p.parts p.h.1 p.h.2 L W (by have := szPs_kid hp; omega) (by omega) (by obtain ⟨_, _, _, h⟩ := hd; exact h p hp) h1 h2 h3
    have HR : Aside ((L ++ parF (N + 1) l).length ≤ 1048576) := by show _ ≤ _; rw [List.length_append]; exact hn
    have HT : Aside (TxtI Bk Bl Bv B0 L w0 W ∧ B0 ≤ W.heap.size) := ⟨hT, hBW⟩
    rw [← hsz0]
    clear hsz0 ih hd hN hM hn hT hBW hB
    go_enter Tryz.func103, Tryz.ntmps103
    go_wp2
    go_loopg [9] sz (fun g s wx => ∃ (k : Nat) (L1 : List (List UInt8)), k + g = sz ∧ s = .int .i64 k ∧ Aside (L1 ++ parF (N + 1) (l.drop k) = L ++ parF (N + 1) l) ∧ Aside (TxtI Bk Bl Bv B0 L1 w0 wx ∧ B0 ≤ wx.heap.size))
    case atStart => exact ⟨0, L, by omega, rfl, rfl, HT.out⟩
    case round =>
      obtain ⟨k, L1, hkg, rfl, HI, HQ⟩ := hrel
      cases gk with
      | zero =>
        have hkz : ¬ (k : Int) < (sz : Int) := by omega
        have ha : Aside (L1 = L ++ parF (N + 1) l) := by show _ = _; rw [← HI.out, List.drop_eq_nil_of_le (by have := HL.out.1; omega)]; simp [parF]
        go_wp2
        go_end0
        exact ⟨rfl, by rw [← ha.out]; exact HQ.out⟩
      | succ g2 =>
        have hkz : (k : Int) < (sz : Int) := by omega
        have hk63 : (k : Int) + 1 ≤ 9223372036854775807 := by omega
        obtain ⟨x, hx⟩ : ∃ x, l[k]? = some x := ⟨_, List.getElem?_eq_getElem (by have := HL.out.1; omega)⟩
        have h6 : L1 ++ parOwn x ++ parF N x.parts ++ parF (N + 1) (l.drop (k + 1)) = L ++ parF (N + 1) l := by
          have h := HI.out
          rw [Lib.drop_at hx, parF_cons] at h
          rw [← h]; simp only [List.append_assoc]
        obtain ⟨b1, o1, rfl, hlt, hc⟩ := (HL.out.2.1.up HQ.out.1.1) k x hx
        have c0 : wr.cell? ⟨b1, o1 + k * 5, none⟩ = some (.int .i64 x.kind) := hc 0 _ rfl
        have c1 : wr.cell? ⟨b1, o1 + k * 5 + 1, none⟩ = some (.string ⟨x.text.toArray⟩) := hc 1 _ rfl
        have c2 : wr.cell? ⟨b1, o1 + k * 5 + 2, none⟩ = some (.int .i64 x.op) := hc 2 _ rfl
        have c3 : wr.cell? ⟨b1, o1 + k * 5 + 3, none⟩ = some (.bool x.colon) := hc 3 _ rfl
        have c4 : wr.cell? ⟨b1, o1 + k * 5 + 4, none⟩ = some (.slice x.h.1 x.parts.length x.h.2) := hc 4 _ rfl
        have HBX : Aside (Below wr.heap.size wr (boxP wr x)) := (Below.refl _ _).alloc (Nat.le_refl _) _
        obtain ⟨z0, z1, z2, z3, z4⟩ := boxP_in (Below.refl (boxP wr x).heap.size (boxP wr x))
        have HTX : Aside (TxtI Bk Bl Bv B0 L1 w0 (boxP wr x) ∧ B0 ≤ (boxP wr x).heap.size) := ⟨HQ.out.1.up HBX.out, Nat.le_trans HQ.out.2 HBX.out.size⟩
        obtain ⟨v, hblr, hownr⟩ : ∃ v, wr.heap[Bl]? = some (.cells #[v] 32 (0, 0)) ∧ wr.ownsRow B0 9 1 v L1.length (L1.flatMap encS) := HQ.out.1.2.2.2
        have HNB : Aside (∀ q, v.ownBlock = some q → B0 ≤ q ∧ q < wr.heap.size) := hownr.lt
        have hbl := (HBX.out.block _ (lt_of_block hblr)).trans hblr
        have hown := own_up hownr HBX.out
        clear hblr hownr
        obtain ⟨_, hk4, hvv, _⟩ := HTX.out.1
        have e0 := cell_of_one hk4
        have e1 := cell_of_one hvv
        have e2 := cell_of_one hbl
        have hl1 : (L1 ++ parOwn x).length + (parF N x.parts).length ≤ 1048576 := by have := HR.out; rw [← h6] at this; simp only [List.length_append] at this ⊢; omega
        have IX : Aside (∀ W, TxtI Bk Bl Bv B0 (L1 ++ parOwn x) w0 W → B0 ≤ W.heap.size → Calls Tryz.prog 103 #[.slice x.h.1 x.parts.length x.h.2, .pointer (some ⟨Bk, 0, none⟩), .pointer (some ⟨Bl, 0, none⟩), .pointer (some ⟨Bv, 0, none⟩)] W fun e w' => e = .returned (.tuple #[]) ∧ Aside (TxtI Bk Bl Bv B0 (L1 ++ parOwn x ++ parF N x.parts) w0 w' ∧ B0 ≤ w'.heap.size)) := fun W h1 h2 => IH.out x (List.mem_of_getElem? hx) (L1 ++ parOwn x) W h1 h2 hl1
        have H6 : Aside _ := h6
        have HV : Aside ((boxP wr x).heap[Bl]? = some (.cells #[v] 32 (0, 0)) ∧ (boxP wr x).ownsRow B0 9 1 v L1.length (L1.flatMap encS)) := ⟨hbl, hown⟩
        by_cases hk : x.kind = 4
        · have hkk : (x.kind == 4) = true := by simpa using hk
          have HO : Aside (parOwn x = [x.text]) := if_pos hk
          have hLl : L1.length + 1 ≤ 1048576 := by have h := hl1; rw [HO.out] at h; simp only [List.length_append, List.length_singleton] at h; omega
          have e3 : ((boxP wr x).alloc (.cells #[.string ⟨x.text.toArray⟩] 9)).cell? ⟨Bl, 0, none⟩ = some v := cell_of_one ((Below.heap_alloc _ _ _ (lt_of_block hbl)).trans hbl)
          rw [HO.out] at IX H6
          have HBA : Aside (Below (boxP wr x).heap.size (boxP wr x) ((boxP wr x).alloc (.cells #[.string ⟨x.text.toArray⟩] 9))) := (Below.refl _ _).alloc (Nat.le_refl _) _
          have HTA : Aside (TxtI Bk Bl Bv B0 L1 w0 ((boxP wr x).alloc (.cells #[.string ⟨x.text.toArray⟩] 9)) ∧ B0 ≤ ((boxP wr x).alloc (.cells #[.string ⟨x.text.toArray⟩] 9)).heap.size ∧ ((boxP wr x).alloc (.cells #[.string ⟨x.text.toArray⟩] 9)).heap[Bl]? = some (.cells #[v] 32 (0, 0))) := ⟨HTX.out.1.up HBA.out, Nat.le_trans HTX.out.2 HBA.out.size, (HBA.out.block _ (lt_of_block hbl)).trans hbl⟩
          have HAF : Aside (∀ w3 v3, ((boxP wr x).alloc (.cells #[.string ⟨x.text.toArray⟩] 9)).grownBy w3 v.ownBlock → (w3.setCell ⟨Bl, 0, none⟩ v3).cell? ⟨wr.heap.size, 4, none⟩ = some (.slice x.h.1 x.parts.length x.h.2)) := fun w3 v3 hg => by
            have h1 : w3.heap[wr.heap.size]? = (boxP wr x).heap[wr.heap.size]? := by
              rw [hg.block wr.heap.size (by simp; omega) (fun e => Nat.lt_irrefl _ (HNB.out _ e.symm).2)]
              exact Below.heap_alloc _ _ _ (by simp)
            have h2 : (w3.setCell ⟨Bl, 0, none⟩ v3).heap[wr.heap.size]? = (boxP wr x).heap[wr.heap.size]? := by
              rw [Below.heap_setCell _ _ _ _ (show wr.heap.size ≠ Bl by have h3 := HQ.out.2; have h4 := HL.out.2.2.2.2.2.1; omega)]; exact h1
            simp only [World.cell?, h2] at z4 ⊢
            exact z4
          clear hc hx hlt h6 hl1 HI hk4 hvv hbl hk
          go_wp2_with (first
            | (at_builtin; go_loud (refine wpList_append_any _ rfl _ _ 32 rfl B0 9 i0 (.string ⟨#[]⟩) 1 16 Tryz.underlying32 hi hz0 hz1 hz2 rfl (by decide) _ _ _ rfl (hown.alloc _) (some ⟨_, 0, none⟩) 1 1 (encS x.text) rfl ⟨rfl, fun _ => ⟨_, rfl, one_at (by simp)⟩⟩ (oneS1 x.text) (by unfold maxLen; omega) (by omega) HTA.out.2.1 ?_; intro v3 w3 hown3 hgrow3 hat3; obtain ⟨ao3, cp3, rfl⟩ := row_slice hown3; obtain ⟨HE, hb3⟩ := txt_end HL.out.2.2.2.2 HTA.out.1 HTA.out.2.1 HTA.out.2.2 (fun q h => (HNB.out q h).1) hgrow3 hown3; have d0 := cell_of_one hb3; have d1 := free_of_one hb3; have f0 := cell_of_one HE.2.2.1; have f4 := HAF.out w3 (.slice ao3 (L1.length + 1) cp3) hgrow3; have HSZ : Aside (B0 ≤ (w3.setCell ⟨Bl, 0, none⟩ (.slice ao3 (L1.length + 1) cp3)).heap.size) := (by show _ ≤ _; rw [World.size_setCell]; exact Nat.le_trans HTA.out.2.1 hgrow3.size); have cr := IX.out _ HE HSZ.out; clear HE hb3 hgrow3 hat3 hown3))
            | (go_at_call 103; refine cr.mono ?_; rintro e w2 ⟨rfl, H2⟩))
          go_roundg g2
          case measure => omega
          case rel => exact ⟨k + 1, _, by omega, by simp, H6.out, H2.out⟩
        · have hkk : (x.kind == 4) = false := by simpa using hk
          have HO : Aside (parOwn x = []) := if_neg hk
          rw [HO.out, List.append_nil] at IX H6
          have cr := IX.out (boxP wr x) HTX.out.1 HTX.out.2
          clear hc hx hlt h6 hl1 HI hk4 hvv hbl hown hk
          go_wp2_with (go_at_call 103; refine cr.mono ?_; rintro e w2 ⟨rfl, H2⟩)
          go_roundg g2
          case measure => omega
          case rel => exact ⟨k + 1, _, by omega, by simp, H6.out, H2.out⟩
noncomputable abbrev txtW (w : World) : World := ((w.alloc (.cells #[.int .i64 4] 3)).alloc (.cells #[.slice none 0 0] 32)).alloc (.cells #[.func (.func 103) #[] #[.pointer (some ⟨w.heap.size, 0, none⟩), .pointer (some ⟨w.heap.size + 1, 0, none⟩), .pointer (some ⟨w.heap.size + 1 + 1, 0, none⟩)]] 133)
theorem txtW_facts (w : World) : TxtI w.heap.size (w.heap.size + 1) (w.heap.size + 1 + 1) (w.heap.size + 1 + 1 + 1) [] w (txtW w) ∧ (txtW w).heap.size = w.heap.size + 1 + 1 + 1 := by
  have e1 : ((w.alloc (.cells #[.int .i64 4] 3)).alloc (.cells #[.slice none 0 0] 32)).heap.size = w.heap.size + 1 + 1 := by simp
  have e2 : (w.alloc (.cells #[.int .i64 4] 3)).heap.size = w.heap.size + 1 := by simp
  refine ⟨⟨(((Below.refl _ _).alloc (Nat.le_refl _) _).alloc (by simp) _).alloc (by simp; omega) _, ?_, ?_, .slice none 0 0, ?_, World.ownsRow_nil _ _ _ _⟩, by simp⟩
  · rw [Below.heap_alloc _ _ _ (by simp; omega), Below.heap_alloc _ _ _ (by simp)]
    exact heap_alloc_new w (.cells #[.int .i64 4] 3)
  · have := heap_alloc_new ((w.alloc (.cells #[.int .i64 4] 3)).alloc (.cells #[.slice none 0 0] 32)) (.cells #[.func (.func 103) #[] #[.pointer (some ⟨w.heap.size, 0, none⟩), .pointer (some ⟨w.heap.size + 1, 0, none⟩), .pointer (some ⟨w.heap.size + 1 + 1, 0, none⟩)]] 133)
    rw [e1] at this; exact this
  · have := heap_alloc_new (w.alloc (.cells #[.int .i64 4] 3)) (.cells #[.slice none 0 0] 32)
    rw [e2] at this
    rw [Below.heap_alloc _ _ _ (by simp)]; exact this
/-- names that were returned in memory of the call's own -/
def NamesP (L : List (List UInt8)) (w : World) (e : Ending) (w' : World) : Prop := ∃ (a : Option Addr) (m c : Nat), e = .returned (.slice a m c) ∧ Aside (m = L.length ∧ RdS 1 encS w' a L ∧ ∀ ad, a = some ad → w.heap.size ≤ ad.block) ∧ Below w.heap.size w w'
theorem texts_calls (N : Nat) (l : List PartT) (A : Option Addr) (cap : Nat) (w : World) (hN : szPs l ≤ N) (hM : N ≤ 1048576) (hd : DeepP w (A, cap) l) (hn : (parF N l).length ≤ 1048576) : Calls Tryz.prog 78 #[.slice A l.length cap, .int .i64 4] w (NamesP (parF N l) w) := by
  obtain ⟨hT, hsz⟩ := txtW_facts w
  have cc := txt1_calls w.heap.size (w.heap.size + 1) (w.heap.size + 1 + 1) (w.heap.size + 1 + 1 + 1) w (by unfold TxtB; omega) N l A cap [] (txtW w) hN hM hd hT (by rw [hsz]; exact Nat.le_refl _) (by simpa using hn)
  have e0 := cell_of_one hT.2.2.1
  obtain ⟨sz, hsz0⟩ : ∃ n, n = l.length := ⟨_, rfl⟩
  rw [← hsz0] at cc ⊢
  clear hT hsz hN hM hd hn hsz0
  go_enter Tryz.func78, Tryz.ntmps78
  go_wp2_with (go_at_call 103; refine cc.mono ?_; rintro e w2 ⟨rfl, H2⟩; obtain ⟨h1, _, _, v, h3, h4⟩ := H2.out.1; have e0 := cell_of_one h3; rw [List.nil_append] at h4; obtain ⟨a, c, hv, hr, hk⟩ := rdS_of_row lenS rfl h4; have HR : Aside (RdS 1 encS w2 a (parF N l) ∧ Below w.heap.size w w2 ∧ ∀ ad, a = some ad → w.heap.size ≤ ad.block) := ⟨hr, h1, fun ad h => by have := hk ad h; omega⟩; rw [hv] at e0; clear h1 h3 h4 hv hr hk)
  go_ret
  exact ⟨a, _, c, rfl, ⟨rfl, HR.out.1, HR.out.2.2⟩, HR.out.2.1⟩
theorem params_calls (N : Nat) (l : List PartT) (A : Option Addr) (cap : Nat) (w : World) (hN : szPs l ≤ N) (hM : N ≤ 1048576) (hd : DeepP w (A, cap) l) (hn : (parF N l).length ≤ 1048576) : Calls Tryz.prog 40 #[.slice A l.length cap] w (NamesP (parF N l) w) := by
  have cc := texts_calls N l A cap w hN hM hd hn
  obtain ⟨sz, hsz0⟩ : ∃ n, n = l.length := ⟨_, rfl⟩
  rw [← hsz0] at cc ⊢
  clear hN hM hd hn hsz0
  go_enter Tryz.func40, Tryz.ntmps40
  go_wp2_with (go_at_call 78; refine cc.mono ?_; rintro e w2 ⟨a, m, c, rfl, H2, hb2⟩)
  go_ret
  exact ⟨a, m, c, rfl, H2, hb2⟩
end Go.Proofs.YtfdhkchglacccaaGreatDoor
