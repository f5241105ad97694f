/- The reference: Uses, takes. No statement is proved here. -/
import Derived.Test.YtfdhkchglacccaaGreatDoorSnNL
set_option linter.all false
/-! the reference: Uses -/
namespace Go.Proofs.YtfdhkchglacccaaGreatDoor
open Go Go.RowKit Go.Mir Go.Syn
set_option maxHeartbeats 400000
set_option maxRecDepth 100000
theorem walk_mem : ∀ (N : Nat) (n x : NodeT) (w : World), x ∈ walkF N n → DeepN w n → DeepN w x ∧ szN x ≤ szN n
  | 0, n, x, w, h, _ => by simp [walkF] at h
  | N + 1, n, x, w, h, hd => by
    rw [walkF, List.mem_cons, List.mem_flatMap] at h
    rcases h with rfl | ⟨k, hk, h⟩
    · exact ⟨hd, Nat.le_refl _⟩
    · obtain ⟨h1, h2⟩ := walk_mem N k x w h (hd.kid hk)
      have := kid_sz hk
      exact ⟨h1, by omega⟩
def WBack (N : Nat) (F : Nat → List PartT → List (List UInt8)) (l : List WordT) : List (List UInt8) := l.flatMap fun w => F N w.parts
theorem uses_calls (N : Nat) (n : NodeT) (w : World) (hN : szN n ≤ N) (hM : N ≤ 1048576) (hd : DeepN w n) (hb : ((walkF N n).flatMap (useN N)).length ≤ 1048576) :
    Calls Tryz.prog 10 #[nodeV n] w (ListP (addAll ((walkF N n).flatMap (useN N)) []) w) := by
  obtain ⟨R, hR0⟩ : ∃ R, R = addAll ((walkF N n).flatMap (useN N)) [] := ⟨_, rfl⟩
  rw [← hR0]
  have HW : Aside (DeepN w n ∧ szN n ≤ N ∧ N ≤ 1048576 ∧ addAll ((walkF N n).flatMap (useN N)) [] = R ∧ ((walkF N n).flatMap (useN N)).length ≤ 1048576) := ⟨hd, hN, hM, hR0.symm, hb⟩
  have hlen : Aside ((walkF N n).length ≤ 1048576) := by show _ ≤ _; have := walk_len N n; omega
  have cw := walk_calls N n w hN hM hd
  clear hd hN hM hR0 hb
  have hwk : Aside (∀ W, Below w.heap.size w W → Calls Tryz.prog 33 #[nodeV n] W (WalkP N n W)) := fun W h => walk_calls N n W HW.out.2.1 HW.out.2.2.1 (HW.out.1.up h)
  clear cw
  go_enter Tryz.func10, Tryz.ntmps10
  go_wp2_with (go_at_call 33; refine (hwk.out _ (by first | exact Below.refl _ _ | exact (Below.refl _ _).alloc (Nat.le_refl _) _)).mono ?_; rintro e w1 ⟨A1, m1, c1, rfl, H1, hb1⟩)
  have hwb1 : Below w.heap.size w w1 := by first | exact hb1 | exact ((Below.refl _ _).alloc (Nat.le_refl _) _).trans (hb1.mono (by simp))
  have hm1 : m1 ≤ 1048576 := by rw [H1.out.1]; exact hlen.out
  go_loopg [3, 5] m1 (fun g so si wx => ∃ (k : Nat) (AL : Option Addr) (m c : Nat) (L : List (List UInt8)), k + g = m1 ∧ si = .int .i64 k ∧ so = .slice AL m c ∧ Aside (m = L.length ∧ m ≤ c ∧ RdS 1 encS wx AL L ∧ addAll (((walkF N n).drop k).flatMap (useN N)) L = R ∧ L.length + (((walkF N n).drop k).flatMap (useN N)).length ≤ 1048576) ∧ Below w1.heap.size w1 wx)
  case atStart => exact ⟨0, none, 0, 0, [], by omega, rfl, rfl, ⟨rfl, Nat.le_refl _, fun i x h => by simp at h, HW.out.2.2.2.1, by have := HW.out.2.2.2.2; simp only [List.drop_zero, List.length_nil]; omega⟩, Below.refl _ _⟩
  case round =>
    obtain ⟨k, AL, m, c, L, hkg, rfl, rfl, HI, hwb⟩ := hrel
    cases gk with
    | zero =>
      have hkz : ¬ (k : Int) < (m1 : Int) := by omega
      have ha : Aside (L = R) := by show _ = _; rw [← HI.out.2.2.2.1, List.drop_eq_nil_of_le (by have := H1.out.1; omega)]; rfl
      go_wp2
      go_ret
      exact ⟨AL, m, c, rfl, by rw [← ha.out]; exact ⟨HI.out.1, HI.out.2.1, HI.out.2.2.1⟩, hwb1.trans (hwb.mono hwb1.size)⟩
    | succ g =>
      have hk0 : (0 : Int) ≤ (k : Int) := by omega
      have hkz : (k : Int) < (m1 : Int) := by omega
      have hk63 : (k : Int) + 1 ≤ 9223372036854775807 := by omega
      obtain ⟨x, hx⟩ : ∃ x, (walkF N n)[k]? = some x := ⟨_, List.getElem?_eq_getElem (by have := H1.out.1; omega)⟩
      have hdrop : Aside ((walkF N n).drop k = x :: (walkF N n).drop (k + 1)) := Lib.drop_at hx
      have hbw : Below w.heap.size w wr := hwb1.trans (hwb.mono hwb1.size)
      have HX : Aside (DeepN wr x ∧ szN x ≤ N) := by
        have h1 := walk_mem N n x w (List.mem_of_getElem? hx) HW.out.1
        exact ⟨h1.1.up hbw, Nat.le_trans h1.2 HW.out.2.1⟩
      obtain ⟨b, o, rfl, hlt, hc⟩ := (H1.out.2.1.up hwb) k x hx
      have c0 : wr.cell? ⟨b, o + k * 9, none⟩ = some (.int .i64 x.kind) := hc 0 _ rfl
      have c1 : wr.cell? ⟨b, o + k * 9 + 1, none⟩ = some (.int .i64 x.pos) := hc 1 _ rfl
      have c2 : wr.cell? ⟨b, o + k * 9 + 2, none⟩ = some (.string ⟨x.name.toArray⟩) := hc 2 _ rfl
      have c3 : wr.cell? ⟨b, o + k * 9 + 3, none⟩ = some (.bool x.all) := hc 3 _ rfl
      have c4 : wr.cell? ⟨b, o + k * 9 + 4, none⟩ = some (.slice x.ah.1 x.assigns.length x.ah.2) := hc 4 _ rfl
      have c5 : wr.cell? ⟨b, o + k * 9 + 5, none⟩ = some (.slice x.wh.1 x.words.length x.wh.2) := hc 5 _ rfl
      have c6 : wr.cell? ⟨b, o + k * 9 + 6, none⟩ = some (.slice x.rh.1 x.redirs.length x.rh.2) := hc 6 _ rfl
      have c7 : wr.cell? ⟨b, o + k * 9 + 7, none⟩ = some (.slice x.kh.1 x.kids.length x.kh.2) := hc 7 _ rfl
      have c8 : wr.cell? ⟨b, o + k * 9 + 8, none⟩ = some (.slice x.ih.1 x.items.length x.ih.2) := hc 8 _ rfl
      have hset : Aside (((walkF N n).drop k).flatMap (useN N) = WBack N useF (wordsT x) ++ ((walkF N n).drop (k + 1)).flatMap (useN N)) := by show _ = _; rw [hdrop.out]; rfl
      have cwd := words_calls x wr HX.out.1 (Nat.le_trans (words_len x) (Nat.le_trans HX.out.2 HW.out.2.2.1)) (Nat.le_trans (items_len x) (Nat.le_trans HX.out.2 HW.out.2.2.1))
      clear hc hx hlt
      go_wp2_with (go_at_call 11; refine cwd.mono ?_; rintro e w2 ⟨A2, m2, c2', rfl, H2, hb2⟩)
      have hm2 : m2 ≤ 1048576 := by rw [H2.out.1]; exact Nat.le_trans (words_len x) (Nat.le_trans HX.out.2 HW.out.2.2.1)
      have HWB : Aside (Below w1.heap.size w1 w2 ∧ DeepN w2 x) := ⟨hwb.trans (hb2.mono hwb.size), HX.out.1.up hb2⟩
      clear c0 c1 c2 c3 c4 c5 c6 c7 c8
      go_loopg [3, 7] m2 (fun g so sa wx => ∃ (j : Nat) (AL : Option Addr) (m c : Nat) (L : List (List UInt8)), j + g = m2 ∧ sa = .int .i64 j ∧ so = .slice AL m c ∧ Aside (m = L.length ∧ m ≤ c ∧ RdS 1 encS wx AL L ∧ addAll (WBack N useF ((wordsT x).drop j) ++ ((walkF N n).drop (k + 1)).flatMap (useN N)) L = R ∧ L.length + (WBack N useF ((wordsT x).drop j) ++ ((walkF N n).drop (k + 1)).flatMap (useN N)).length ≤ 1048576) ∧ Below w2.heap.size w2 wx)
      case atStart =>
        have h5 := HI.out
        rw [hset.out] at h5
        exact ⟨0, AL, m, c, L, by omega, rfl, rfl, ⟨h5.1, h5.2.1, h5.2.2.1.up hb2, h5.2.2.2.1, h5.2.2.2.2⟩, Below.refl _ _⟩
      case round =>
        clear hwb HI hb2 hbw
        obtain ⟨j, AL, m, c, L, hjg, rfl, rfl, HI, hwb⟩ := hrel
        cases gk with
        | zero =>
          have hjz : ¬ (j : Int) < (m2 : Int) := by omega
          have HE : Aside (WBack N useF ((wordsT x).drop j) = []) := by show _ = _; rw [List.drop_eq_nil_of_le (by have := H2.out.1; omega)]; rfl
          go_wp2
          go_roundg g
          case measure => omega
          case rel => exact ⟨k + 1, AL, m, c, L, by omega, by simp, rfl, by have := HI.out; rw [HE.out] at this; exact this, HWB.out.1.trans (hwb.mono HWB.out.1.size)⟩
        | succ g2 =>
          have hj0 : (0 : Int) ≤ (j : Int) := by omega
          have hjz : (j : Int) < (m2 : Int) := by omega
          have hj63 : (j : Int) + 1 ≤ 9223372036854775807 := by omega
          obtain ⟨y, hy⟩ : ∃ y, (wordsT x)[j]? = some y := ⟨_, List.getElem?_eq_getElem (by have := H2.out.1; omega)⟩
          have hd2 : Aside (WBack N useF ((wordsT x).drop j) = useF N y.parts ++ WBack N useF ((wordsT x).drop (j + 1))) := by show _ = _; rw [Lib.drop_at hy]; rfl
          obtain ⟨b, o, rfl, hlt, hc⟩ := (H2.out.2.up hwb) j y hy
          have c1 : wr.cell? ⟨b, o + j * 2 + 1, none⟩ = some (.slice y.h.1 y.parts.length y.h.2) := hc 1 _ rfl
          have h6 := HI.out.2.2.2
          rw [hd2.out, List.append_assoc, addAll_app] at h6
          have cu := used_calls N y.parts y.h.1 y.h.2 L AL m c wr (by have := word_sz (List.mem_of_getElem? hy); have := HX.out.2; omega) HW.out.2.2.1 ((HWB.out.2.word (List.mem_of_getElem? hy)).up hwb) HI.out.1 HI.out.2.1 HI.out.2.2.1 (by have := h6.2; simp only [List.length_append] at this; omega)
          have H6 : Aside _ := h6
          clear hc hy hlt h6
          go_wp2_with (go_at_call 42; refine cu.mono ?_; rintro e w5 ⟨A5, m5, c5', rfl, H5, hb5⟩)
          go_roundg g2
          case measure => omega
          case rel => exact ⟨j + 1, A5, m5, c5', _, by omega, by simp, rfl, ⟨H5.out.1, H5.out.2.1, H5.out.2.2, H6.out.1, by have h7 := H6.out.2; have := addAll_len (useF N y.parts) L; simp only [List.length_append] at h7 ⊢; omega⟩, hwb.trans (hb5.mono hwb.size)⟩
end Go.Proofs.YtfdhkchglacccaaGreatDoor

/-! the reference: Literal, takes -/
namespace Go.Proofs.YtfdhkchglacccaaGreatDoor
open Go Go.RowKit Go.Mir Go.Syn
set_option maxHeartbeats 400000
set_option maxRecDepth 100000
def optV (t : Option (List UInt8)) : Value := .tuple #[.string ⟨(t.getD []).toArray⟩, .bool t.isSome]
theorem rlit_calls (x : WordT) (w : World) (hd : DeepP w x.h x.parts) (hl : x.parts.length ≤ 1048576) :
    Calls Tryz.prog 75 #[.agg #[.int .i64 x.pos, .slice x.h.1 x.parts.length x.h.2]] w fun e w' => e = .returned (optV (litT x)) ∧ Below w.heap.size w w' := by
  have hr : RdS 5 encP w x.h.1 x.parts := by obtain ⟨_, _, h1, _⟩ := hd; exact h1
  obtain ⟨pos, ⟨A, cap⟩, parts⟩ := x
  simp only at hr hl ⊢
  clear hd
  have hb1 : ∀ c, Below w.heap.size w (w.alloc c) := fun c => (Below.refl _ _).alloc (Nat.le_refl _) _
  have HB : Aside (∀ c, Below w.heap.size w (w.alloc c)) := hb1
  clear hb1
  match parts, hr, hl with
  | [], hr, hl =>
    have ho : litT ⟨pos, (A, cap), []⟩ = none := rfl
    rw [ho]
    clear hr ho
    go_enter Tryz.func75, Tryz.ntmps75
    go_wp2
    go_ret2
    exact ⟨rfl, HB.out _⟩
  | [p], hr, hl =>
    obtain ⟨b, o, rfl, hlt, hc⟩ := hr 0 p rfl
    have HC : Aside (∀ w', Below w.heap.size w w' → w'.cell? ⟨b, o, none⟩ = some (.int .i64 p.kind) ∧ w'.cell? ⟨b, o + 1, none⟩ = some (.string ⟨p.text.toArray⟩)) := by
      intro w' hb'
      obtain ⟨b2, o2, he, _, hc⟩ := (hr.up hb') 0 p rfl
      injection he with he
      injection he with e1 e2
      subst e1; subst e2
      have h0 := hc 0 _ rfl
      have h1 := hc 1 _ rfl
      rw [show o + 0 * 5 + 0 = o by omega] at h0
      rw [show o + 0 * 5 + 1 = o + 1 by omega] at h1
      exact ⟨h0, h1⟩
    obtain ⟨c0, c1⟩ := HC.out (w.alloc (.cells #[.int .i64 pos, .slice (some ⟨b, o, none⟩) 1 cap] 37)) (HB.out _)
    clear hc hr hlt
    by_cases hk : p.kind = 1
    · have ho : litT ⟨pos, (some ⟨b, o, none⟩, cap), [p]⟩ = some p.text := if_pos hk
      have hkk : (p.kind == 1) = true := by simpa using hk
      rw [ho]
      clear hk ho
      go_enter Tryz.func75, Tryz.ntmps75
      go_wp2
      go_ret2
      exact ⟨rfl, HB.out _⟩
    · have ho : litT ⟨pos, (some ⟨b, o, none⟩, cap), [p]⟩ = none := if_neg hk
      have hkk : (p.kind == 1) = false := by simpa using hk
      rw [ho]
      clear hk ho
      go_enter Tryz.func75, Tryz.ntmps75
      go_wp2
      go_ret2
      exact ⟨rfl, HB.out _⟩
  | p :: q :: l, hr, hl =>
    have ho : litT ⟨pos, (A, cap), p :: q :: l⟩ = none := rfl
    rw [ho]
    obtain ⟨sz, hsz⟩ : ∃ n, n = (p :: q :: l).length := ⟨_, rfl⟩
    have hne : ((sz : Int) == 1) = false := by rw [hsz]; simp; omega
    rw [← hsz]
    clear hr ho hsz
    go_enter Tryz.func75, Tryz.ntmps75
    go_wp2
    go_ret2
    exact ⟨rfl, HB.out _⟩
end Go.Proofs.YtfdhkchglacccaaGreatDoor

/-! the reference: takes -/
namespace Go.Proofs.YtfdhkchglacccaaGreatDoor
open Go Go.RowKit Go.Mir Go.Syn
set_option maxHeartbeats 400000
set_option maxRecDepth 100000
def takesN (n : NodeT) : Bool := decide (n.kind = 1) && (match n.words with
  | [] => false
  | w :: _ => (litT w).any takesL)
theorem takes_calls (n : NodeT) (w : World) (hd : DeepN w n) (hs : szN n ≤ 1048576) : Calls Tryz.prog 36 #[nodeV n] w fun e w' => e = .returned (.bool (takesN n)) ∧ Below w.heap.size w w' := by
  have HB : Aside (Below w.heap.size w (boxN w n)) := (Below.refl _ _).alloc (Nat.le_refl _) _
  obtain ⟨z0, z1, z2, z3, z4, z5, z6, z7, z8⟩ := boxN_in (Below.refl (boxN w n).heap.size (boxN w n))
  by_cases hk : n.kind = 1
  · have hkk : (n.kind != 1) = false := by simpa using hk
    cases hw : n.words with
    | nil =>
      have hr : takesN n = false := by unfold takesN; rw [hw]; simp
      have hl : ((n.words.length : Int) == 0) = true := by rw [hw]; rfl
      rw [hr]
      clear hr hw hk
      go_enter Tryz.func36, Tryz.ntmps36
      go_wp2
      go_ret
      exact ⟨rfl, HB.out⟩
    | cons y r =>
      have hr : Aside (takesN n = (litT y).any takesL) := by show _ = _; unfold takesN; rw [hw, hk]; simp
      have hl : ((n.words.length : Int) == 0) = false := by rw [hw]; simp <;> omega
      have hl0 : (0 : Int) < (n.words.length : Int) := by rw [hw]; simp <;> omega
      have HY : DeepP w y.h y.parts ∧ RdS 2 encW w n.wh.1 n.words ∧ szPs y.parts ≤ 1048576 := by
        obtain ⟨h1, h2⟩ : y ∈ wordsT n ∧ y ∈ n.words := ⟨by unfold wordsT; simp [hw], by simp [hw]⟩
        have h3 := word_sz h1
        refine ⟨hd.word h1, ?_, by omega⟩
        obtain ⟨n, _, hw2, _, _, _, _, _, _, _, _⟩ := hd
        exact hw2.rd
      obtain ⟨b, o, he, hlt, hc⟩ := (HY.2.1.up HB.out) 0 y (by rw [hw]; rfl)
      have c0 : (boxN w n).cell? ⟨b, o, none⟩ = some (.int .i64 y.pos) := by have := hc 0 _ rfl; rwa [show o + 0 * 2 + 0 = o by omega] at this
      have c1 : (boxN w n).cell? ⟨b, o + 1, none⟩ = some (.slice y.h.1 y.parts.length y.h.2) := by have := hc 1 _ rfl; rwa [show o + 0 * 2 + 1 = o + 1 by omega] at this
      have cl := rlit_calls y (boxN w n) (HY.1.up HB.out) (Nat.le_trans (szPs_len _) HY.2.2)
      rw [he] at z5
      clear hc hlt hw hk hd HY
      rw [hr.out]
      cases ht : litT y with
      | none =>
        rw [ht] at cl
        have cl2 : Calls Tryz.prog 75 #[.agg #[.int .i64 y.pos, .slice y.h.1 y.parts.length y.h.2]] (boxN w n) fun e w' => e = .returned (.tuple #[.string ⟨#[]⟩, .bool false]) ∧ Below (boxN w n).heap.size (boxN w n) w' := cl
        clear cl
        simp only [boxN, he] at c0 c1 cl2 HB
        clear ht
        go_enter Tryz.func36, Tryz.ntmps36
        go_wp2_with (go_at_call 75; refine cl2.mono ?_; rintro e w' ⟨rfl, hb⟩)
        go_ret
        exact ⟨rfl, HB.out.trans (hb.mono HB.out.size)⟩
      | some t =>
        rw [ht] at cl
        have cl2 : Calls Tryz.prog 75 #[.agg #[.int .i64 y.pos, .slice y.h.1 y.parts.length y.h.2]] (boxN w n) fun e w' => e = .returned (.tuple #[.string ⟨t.toArray⟩, .bool true]) ∧ Below (boxN w n).heap.size (boxN w n) w' := cl
        clear cl
        simp only [boxN, he] at c0 c1 cl2 HB
        clear ht
        have ht : takesL t = (t == [101, 120, 112, 111, 114, 116] || t == [103, 101, 116, 111, 112, 116, 115] || t == [114, 101, 97, 100] || t == [114, 101, 97, 100, 111, 110, 108, 121] || t == [117, 110, 115, 101, 116]) := rfl
        rw [show (some t).any takesL = takesL t from rfl, ht]
        clear ht
        cases e1 : t == [101, 120, 112, 111, 114, 116]
        · cases e2 : t == [103, 101, 116, 111, 112, 116, 115]
          · cases e3 : t == [114, 101, 97, 100]
            · cases e4 : t == [114, 101, 97, 100, 111, 110, 108, 121]
              · cases e5 : t == [117, 110, 115, 101, 116]
                · go_enter Tryz.func36, Tryz.ntmps36
                  go_wp2_with (go_at_call 75; refine cl2.mono ?_; rintro e w' ⟨rfl, hb⟩)
                  go_ret
                  exact ⟨rfl, HB.out.trans (hb.mono HB.out.size)⟩
                · go_enter Tryz.func36, Tryz.ntmps36
                  go_wp2_with (go_at_call 75; refine cl2.mono ?_; rintro e w' ⟨rfl, hb⟩)
                  go_ret
                  exact ⟨rfl, HB.out.trans (hb.mono HB.out.size)⟩
              · go_enter Tryz.func36, Tryz.ntmps36
                go_wp2_with (go_at_call 75; refine cl2.mono ?_; rintro e w' ⟨rfl, hb⟩)
                go_ret
                exact ⟨rfl, HB.out.trans (hb.mono HB.out.size)⟩
            · go_enter Tryz.func36, Tryz.ntmps36
              go_wp2_with (go_at_call 75; refine cl2.mono ?_; rintro e w' ⟨rfl, hb⟩)
              go_ret
              exact ⟨rfl, HB.out.trans (hb.mono HB.out.size)⟩
          · go_enter Tryz.func36, Tryz.ntmps36
            go_wp2_with (go_at_call 75; refine cl2.mono ?_; rintro e w' ⟨rfl, hb⟩)
            go_ret
            exact ⟨rfl, HB.out.trans (hb.mono HB.out.size)⟩
        · go_enter Tryz.func36, Tryz.ntmps36
          go_wp2_with (go_at_call 75; refine cl2.mono ?_; rintro e w' ⟨rfl, hb⟩)
          go_ret
          exact ⟨rfl, HB.out.trans (hb.mono HB.out.size)⟩
  · have hkk : (n.kind != 1) = true := by simpa using hk
    have hr : takesN n = false := by unfold takesN; rw [decide_eq_false hk]; rfl
    rw [hr]
    clear hr hk
    go_enter Tryz.func36, Tryz.ntmps36
    go_wp2
    go_ret
    exact ⟨rfl, HB.out⟩
end Go.Proofs.YtfdhkchglacccaaGreatDoor
