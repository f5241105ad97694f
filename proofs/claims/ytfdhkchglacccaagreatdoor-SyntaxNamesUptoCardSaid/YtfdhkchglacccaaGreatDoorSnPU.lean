/- The program: operands. No statement is proved here. -/
import Derived.Test.YtfdhkchglacccaaGreatDoorSnPT
import Derived.Test.YtfdhkchglacccaaGreatDoorSnFB
set_option linter.all false
/-! literal, operands -/
namespace Go.Proofs.YtfdhkchglacccaaGreatDoor
open Go Go.RowKit Go.Mir Go.Syn
set_option maxHeartbeats 1000000
set_option maxRecDepth 100000
theorem cutN_1 (t : List UInt8) : (cutN t).1 = cutE t := by
  rw [cutE_take]
  unfold cutN
  split
  · rfl
  · rename_i h
    rw [List.take_of_length_le (by omega)]
theorem plit_calls (x : WordT) (w : World) (hd : DeepP w x.h x.parts) (hl : x.parts.length ≤ 1048576) :
    Calls Tryz.prog 67 #[.agg #[.int .i64 x.pos, .slice x.h.1 x.parts.length x.h.2]] w fun e w' => e = .returned (optV (litT x)) ∧ Below w.heap.size w w' := by
  have hr : RdS 5 encP w x.h.1 x.parts := by obtain ⟨_, _, h1, _⟩ := hd; exact h1
  obtain ⟨pos, ⟨A, cap⟩, parts⟩ := x
  simp only at hr hl ⊢
  clear hd
  have HB : Aside (∀ c, Below w.heap.size w (w.alloc c)) := fun c => (Below.refl _ _).alloc (Nat.le_refl _) _
  match parts, hr, hl with
  | [], hr, hl =>
    have ho : litT ⟨pos, (A, cap), []⟩ = none := rfl
    rw [ho]
    clear hr ho
    go_enter Tryz.func67, Tryz.ntmps67
    go_wp2
    go_ret2
    exact ⟨rfl, HB.out _⟩
  | [p], hr, hl =>
    obtain ⟨b, o, rfl, hlt, hc⟩ := hr 0 p rfl
    have HC : Aside (∀ w', Below w.heap.size w w' → w'.cell? ⟨b, o, none⟩ = some (.int .i64 p.kind) ∧ w'.cell? ⟨b, o + 1, none⟩ = some (.string ⟨p.text.toArray⟩)) := by
      intro w' hb'
      obtain ⟨b2, o2, he, _, hc⟩ := (hr.up hb') 0 p rfl
      injection he with he
      injection he with e1 e2
      subst e1; subst e2
      have h0 := hc 0 _ rfl
      have h1 := hc 1 _ rfl
      rw [show o + 0 * 5 + 0 = o by omega] at h0
      rw [show o + 0 * 5 + 1 = o + 1 by omega] at h1
      exact ⟨h0, h1⟩
    obtain ⟨c0, c1⟩ := HC.out (w.alloc (.cells #[.int .i64 pos, .slice (some ⟨b, o, none⟩) 1 cap] 37)) (HB.out _)
    clear hc hr hlt
    by_cases hk : p.kind = 1
    · have ho : litT ⟨pos, (some ⟨b, o, none⟩, cap), [p]⟩ = some p.text := if_pos hk
      have hkk : (p.kind == 1) = true := by simpa using hk
      rw [ho]
      clear hk ho
      go_enter Tryz.func67, Tryz.ntmps67
      go_wp2
      go_ret2
      exact ⟨rfl, HB.out _⟩
    · have ho : litT ⟨pos, (some ⟨b, o, none⟩, cap), [p]⟩ = none := if_neg hk
      have hkk : (p.kind == 1) = false := by simpa using hk
      rw [ho]
      clear hk ho
      go_enter Tryz.func67, Tryz.ntmps67
      go_wp2
      go_ret2
      exact ⟨rfl, HB.out _⟩
  | p :: q :: l, hr, hl =>
    have ho : litT ⟨pos, (A, cap), p :: q :: l⟩ = none := rfl
    rw [ho]
    obtain ⟨sz, hsz⟩ : ∃ n, n = (p :: q :: l).length := ⟨_, rfl⟩
    have hne : ((sz : Int) == 1) = false := by rw [hsz]; simp; omega
    rw [← hsz]
    clear hr ho hsz
    go_enter Tryz.func67, Tryz.ntmps67
    go_wp2
    go_ret2
    exact ⟨rfl, HB.out _⟩
/-- the words behind the first, walked -/
def OperS (n : NodeT) (w : World) (b o : Nat) : Prop := DeepN w n ∧ szN n ≤ 1048576 ∧ RdS 2 encW w (some ⟨b, o, none⟩) n.words
theorem oper_nil (n : NodeT) (w : World) (hw : n.words = []) : Calls Tryz.prog 30 #[nodeV n] w (NamesP [] w) := by
  have HB : Aside (Below w.heap.size w (boxN w n)) := (Below.refl _ _).alloc (Nat.le_refl _) _
  obtain ⟨z0, z1, z2, z3, z4, z5, z6, z7, z8⟩ := boxN_in (Below.refl (boxN w n).heap.size (boxN w n))
  have hl : ((n.words.length : Int) == 0) = true := by rw [hw]; rfl
  clear hw
  go_enter Tryz.func30, Tryz.ntmps30
  go_wp2
  go_ret
  exact ⟨none, 0, 0, rfl, ⟨rfl, fun i x h => by simp at h, fun ad h => by cases h⟩, HB.out⟩
theorem oper_1 (n : NodeT) (w : World) (b o : Nat) (y : WordT) (r : List WordT) (t : List UInt8) (hw : n.words = y :: r) (hwh : n.wh.1 = some ⟨b, o, none⟩) (hS : OperS n w b o) (hr : Aside (operT n = r.flatMap opW)) (ht : litT y = some t) (e0 : (t == [101, 120, 112, 111, 114, 116]) = true) : Calls Tryz.prog 30 #[nodeV n] w (NamesP (operT n) w) := by
  obtain ⟨i0, hi, hz0, hz1, hz2⟩ := info_parts info9
  have HS : Aside (OperS n w b o) := hS
  have HB : Aside (Below w.heap.size w (boxN w n)) := (Below.refl _ _).alloc (Nat.le_refl _) _
  obtain ⟨z0, z1, z2, z3, z4, z5, z6, z7, z8⟩ := boxN_in (Below.refl (boxN w n).heap.size (boxN w n))
  have hl : ((n.words.length : Int) == 0) = false := by rw [hw]; simp <;> omega
  have hl0 : (0 : Int) < (n.words.length : Int) := by rw [hw]; simp <;> omega
  have hl1 : (1 : Int) ≤ (n.words.length : Int) := by omega
  have hlz : n.words.length ≤ 1048576 := by have h1 := wordsT_len n; have h2 := words_len n; have h3 := HS.out.2.1; omega
  obtain ⟨h1, h2⟩ : y ∈ wordsT n ∧ y ∈ n.words := ⟨by unfold wordsT; simp [hw], by simp [hw]⟩
  have HY : Aside (DeepP w y.h y.parts ∧ szPs y.parts ≤ 1048576) := ⟨hS.1.word h1, by have := word_sz h1; have := hS.2.1; omega⟩
  have hcp : n.words.length ≤ n.wh.2 := by obtain ⟨n, _, _, _, _, _, _, _, _, _, hc⟩ := hS.1; exact hc.2
  obtain ⟨b1, o1, he, hlt, hc⟩ := hS.2.2 0 y (by rw [hw]; rfl)
  injection he with he
  injection he with e1 e2
  subst e1; subst e2
  have c0 : w.cell? ⟨b, o, none⟩ = some (.int .i64 y.pos) := by have := hc 0 _ rfl; rwa [show o + 0 * 2 + 0 = o by omega] at this
  have c1 : w.cell? ⟨b, o + 1, none⟩ = some (.slice y.h.1 y.parts.length y.h.2) := by have := hc 1 _ rfl; rwa [show o + 0 * 2 + 1 = o + 1 by omega] at this
  have d0 : (boxN w n).cell? ⟨b, o, none⟩ = some (.int .i64 y.pos) := (HB.out.cell (p := ⟨b, o, none⟩) hlt).trans c0
  have d1 : (boxN w n).cell? ⟨b, o + 1, none⟩ = some (.slice y.h.1 y.parts.length y.h.2) := (HB.out.cell (p := ⟨b, o + 1, none⟩) hlt).trans c1
  have cl := plit_calls y (boxN w n) (HY.out.1.up HB.out) (Nat.le_trans (szPs_len _) HY.out.2)
  have HWR : Aside (n.words = y :: r) := hw
  rw [hwh] at z5
  clear c0 c1 hc hlt hw hS h1 h2
  rw [hr.out]
  have HZ : Aside (∀ W, Below (boxN w n).heap.size (boxN w n) W → W.cell? ⟨w.heap.size, 5, none⟩ = some (.slice (some ⟨b, o, none⟩) n.words.length n.wh.2)) := fun W h => by rw [← hwh]; exact (boxN_in h).2.2.2.2.2.1
  rw [ht] at cl
  have cl2 : Calls Tryz.prog 67 #[.agg #[.int .i64 y.pos, .slice y.h.1 y.parts.length y.h.2]] (boxN w n) fun e w' => e = .returned (.tuple #[.string ⟨t.toArray⟩, .bool true]) ∧ Below (boxN w n).heap.size (boxN w n) w' := cl
  clear cl
  simp only [boxN, hwh] at d0 d1 cl2 HB HZ
  clear ht
  have hRl : Aside ((r.flatMap opW).length ≤ 1048576) := by
    have h2 := HS.out.2.1
    have h3 := wordsT_len n
    have h4 := words_len n
    have h5 : ∀ l : List WordT, (l.flatMap opW).length ≤ l.length := by
      intro l
      induction l with
      | nil => simp
      | cons x l ih => rw [List.flatMap_cons, List.length_append, List.length_cons]; have := opW_len x; omega
    have h6 := h5 r
    have h7 : n.words.length = r.length + 1 := by rw [HWR.out]; rfl
    show _ ≤ _
    omega
  obtain ⟨m, hm0⟩ : ∃ m, m = n.words.length - 1 := ⟨_, rfl⟩
  have hm1 : n.words.length - 1 = m := hm0.symm
  have HM : Aside (m = r.length) := by show _ = _; rw [hm0, HWR.out]; rfl
  clear hm0
  go_enter Tryz.func30, Tryz.ntmps30
  go_wp2_with (go_at_call 67; refine cl2.mono ?_; rintro e w1 ⟨rfl, hb1⟩; have x5 := HZ.out w1 hb1; have HWB : Aside (Below w.heap.size w w1) := HB.out.trans (hb1.mono HB.out.size))
  case inl =>
    have hm2 : m = 0 := by omega
    subst hm2
    have hrn : Aside (r.flatMap opW = []) := by show _ = _; rw [List.eq_nil_of_length_eq_zero HM.out.symm]; rfl
    clear d0 d1 hl hl0 cl2 z0 z1 z2 z3 z4 z5 z6 z7 z8 x5 hm1
    go_loopg [5, 36] 0 (fun g sn si wx => sn = .slice none 0 0 ∧ si = .int .i64 0 ∧ w1 = wx)
    case atStart => exact ⟨rfl, rfl, rfl⟩
    case round =>
      obtain ⟨rfl, rfl, rfl⟩ := hrel
      go_wp2
      go_ret
      rw [hrn.out]
      exact ⟨none, 0, 0, rfl, ⟨rfl, fun i x h => by simp at h, fun ad h => by cases h⟩, HWB.out⟩
  case inr =>
    have hmz : m ≤ 1048576 := by omega
    clear d0 d1 hl hl0 cl2 z0 z1 z2 z3 z4 z5 z6 z7 z8 x5 hm1 hcp
    go_loopg [5, 36] m (fun g sn si wx => ∃ (k : Nat) (L1 : List (List UInt8)), k + g = m ∧ si = .int .i64 k ∧ Aside (L1 ++ (r.drop k).flatMap opW = r.flatMap opW) ∧ wx.ownsRow w.heap.size 9 1 sn L1.length (L1.flatMap encS) ∧ Below w.heap.size w wx)
    case atStart => exact ⟨0, [], by omega, rfl, rfl, World.ownsRow_nil _ _ _ _, HWB.out⟩
    case round =>
      obtain ⟨k, L1, hkg, rfl, HI, hro, hbo⟩ := hrel
      cases gk with
      | zero =>
        have hkz : ¬ (k : Int) < (m : Int) := by omega
        have ha : Aside (L1 = r.flatMap opW) := by show _ = _; rw [← HI.out, List.drop_eq_nil_of_le (by have := HM.out; omega)]; simp
        obtain ⟨A, c, rfl, hrd, hbk⟩ := rdS_of_row lenS rfl hro
        have HRD : Aside (RdS 1 encS wr A L1 ∧ ∀ ad, A = some ad → w.heap.size ≤ ad.block) := ⟨hrd, hbk⟩
        clear hrd hbk hro
        go_wp2
        go_ret
        rw [← ha.out]
        exact ⟨A, _, c, rfl, ⟨rfl, HRD.out⟩, hbo⟩
      | succ g =>
        have hk0 : (0 : Int) ≤ (k : Int) := by omega
        have hkz : (k : Int) < (m : Int) := by omega
        have hk63 : (k : Int) + 1 ≤ 9223372036854775807 := by omega
        obtain ⟨x, hx⟩ : ∃ x, r[k]? = some x := ⟨_, List.getElem?_eq_getElem (by have := HM.out; omega)⟩
        have hwx : n.words[k + 1]? = some x := by rw [HWR.out]; exact hx
        obtain ⟨b1, o1, he, hlt, hc⟩ := (HS.out.2.2.up hbo) (k + 1) x hwx
        injection he with he
        injection he with e1 e2
        subst e1; subst e2
        have c0 : wr.cell? ⟨b, o + 2 + k * 2, none⟩ = some (.int .i64 x.pos) := by have := hc 0 _ rfl; rwa [show o + (k + 1) * 2 + 0 = o + 2 + k * 2 by omega] at this
        have c1 : wr.cell? ⟨b, o + 2 + k * 2 + 1, none⟩ = some (.slice x.h.1 x.parts.length x.h.2) := by have := hc 1 _ rfl; rwa [show o + (k + 1) * 2 + 1 = o + 2 + k * 2 + 1 by omega] at this
        have hdr : Aside (r.drop k = x :: r.drop (k + 1)) := Lib.drop_at hx
        have HI2 : Aside (L1 ++ (opW x ++ (r.drop (k + 1)).flatMap opW) = r.flatMap opW) := by have h := HI.out; rw [hdr.out, List.flatMap_cons] at h; exact h
        have hxw : x ∈ wordsT n := by unfold wordsT; have := List.mem_of_getElem? hwx; simp [this]
        have HX : Aside (DeepP w x.h x.parts ∧ szPs x.parts ≤ 1048576) := ⟨HS.out.1.word hxw, by have := word_sz hxw; have := HS.out.2.1; omega⟩
        have HBX : Aside (Below wr.heap.size wr (wr.alloc (.cells #[.int .i64 x.pos, .slice x.h.1 x.parts.length x.h.2] 37))) := (Below.refl _ _).alloc (Nat.le_refl _) _
        have HWX : Aside (Below w.heap.size w (wr.alloc (.cells #[.int .i64 x.pos, .slice x.h.1 x.parts.length x.h.2] 37))) := hbo.trans (HBX.out.mono hbo.size)
        have cl := plitp_calls x.parts x.h.1 x.h.2 (wr.alloc (.cells #[.int .i64 x.pos, .slice x.h.1 x.parts.length x.h.2] 37)) HX.out.2 (HX.out.1.up HWX.out)
        have hro1 := hro.alloc (Obj.cells #[.int .i64 x.pos, .slice x.h.1 x.parts.length x.h.2] 37)
        have hL1 : L1.length + (opW x).length ≤ 1048576 := by have h1 := HI2.out; have h2 := hRl.out; rw [← h1] at h2; simp only [List.length_append] at h2; omega
        clear hc hlt hx hwx hdr HI hxw
        cases hv : litP x.parts with
        | none =>
          have HO : Aside (opW x = []) := by show _ = _; unfold opW; rw [hv]
          rw [hv] at cl
          have cl3 : Calls Tryz.prog 68 #[.slice x.h.1 x.parts.length x.h.2] (wr.alloc (.cells #[.int .i64 x.pos, .slice x.h.1 x.parts.length x.h.2] 37)) fun e w' => e = .returned (.tuple #[.string ⟨#[]⟩, .bool false]) ∧ Below (wr.alloc (.cells #[.int .i64 x.pos, .slice x.h.1 x.parts.length x.h.2] 37)).heap.size (wr.alloc (.cells #[.int .i64 x.pos, .slice x.h.1 x.parts.length x.h.2] 37)) w' := cl
          have cc : ∀ W, Calls Tryz.prog 69 #[.string ⟨#[]⟩, .string ⟨#[61]⟩] W fun e w' => e = .returned (.tuple #[.string ⟨(cutN []).1.toArray⟩, .string ⟨(cutN []).2.1.toArray⟩, .bool (cutN []).2.2]) ∧ Below W.heap.size W w' := fun W => cut_calls [] W (by unfold maxLen; simp)
          clear hv cl
          generalize cutN [] = D at cc
          go_wp2_with (first
            | (go_at_call 68; refine cl3.mono ?_; rintro e w2 ⟨rfl, hb2⟩)
            | (go_at_call 69; refine (cc _).mono ?_; rintro e w3 ⟨rfl, hb3⟩))
          go_roundg g
          case measure => omega
          case rel => exact ⟨k + 1, L1, by omega, by simp, by have := HI2.out; rw [HO.out] at this; exact this, own_up (own_up hro1 hb2) hb3, (HWX.out.trans (hb2.mono HWX.out.size)).trans (hb3.mono (HWX.out.trans (hb2.mono HWX.out.size)).size)⟩
        | some v =>
          have hvl : v.length ≤ 1048576 := Nat.le_trans (litP_len _ _ hv) HX.out.2
          rw [hv] at cl
          have cl3 : Calls Tryz.prog 68 #[.slice x.h.1 x.parts.length x.h.2] (wr.alloc (.cells #[.int .i64 x.pos, .slice x.h.1 x.parts.length x.h.2] 37)) fun e w' => e = .returned (.tuple #[.string ⟨v.toArray⟩, .bool true]) ∧ Below (wr.alloc (.cells #[.int .i64 x.pos, .slice x.h.1 x.parts.length x.h.2] 37)).heap.size (wr.alloc (.cells #[.int .i64 x.pos, .slice x.h.1 x.parts.length x.h.2] 37)) w' := cl
          have cc : ∀ W, Calls Tryz.prog 69 #[.string ⟨v.toArray⟩, .string ⟨#[61]⟩] W fun e w' => e = .returned (.tuple #[.string ⟨(cutE v).toArray⟩, .string ⟨(cutN v).2.1.toArray⟩, .bool (cutN v).2.2]) ∧ Below W.heap.size W w' := fun W => by rw [← cutN_1]; exact cut_calls v W (by unfold maxLen; omega)
          have cn := fun W => name_any (cutE v) W
          generalize (cutN v).2.1 = D1 at cc
          generalize (cutN v).2.2 = D2 at cc
          cases hn : nameB (cutE v) with
          | false =>
            have HO : Aside (opW x = []) := by show _ = _; unfold opW; rw [hv]; simp only [hn]; rfl
            rw [hn] at cn
            clear hv cl hn hvl
            go_wp2_with (first
              | (go_at_call 68; refine cl3.mono ?_; rintro e w2 ⟨rfl, hb2⟩)
              | (go_at_call 69; refine (cc _).mono ?_; rintro e w3 ⟨rfl, hb3⟩)
              | (go_at_call 27; refine (cn _).mono ?_; rintro e w4 ⟨rfl, hb4⟩))
            go_roundg g
            case measure => omega
            case rel =>
              have q2 := HWX.out.trans (hb2.mono HWX.out.size)
              have q3 := q2.trans (hb3.mono q2.size)
              exact ⟨k + 1, L1, by omega, by simp, by have := HI2.out; rw [HO.out] at this; exact this, own_up (own_up (own_up hro1 hb2) hb3) hb4, q3.trans (hb4.mono q3.size)⟩
          | true =>
            have HO : Aside (opW x = [cutE v]) := by show _ = _; unfold opW; rw [hv]; simp only [hn]; rfl
            rw [hn] at cn
            rw [HO.out] at hL1
            simp only [List.length_singleton] at hL1
            clear hv cl hn hvl
            go_wp2_with (first
              | (go_at_call 68; refine cl3.mono ?_; rintro e w2 ⟨rfl, hb2⟩)
              | (go_at_call 69; refine (cc _).mono ?_; rintro e w3 ⟨rfl, hb3⟩)
              | (go_at_call 27; refine (cn _).mono ?_; rintro e w4 ⟨rfl, hb4⟩; have q2 := HWX.out.trans (hb2.mono HWX.out.size); have q3 := q2.trans (hb3.mono q2.size); have q4 := q3.trans (hb4.mono q3.size); have hro4 := own_up (own_up (own_up hro1 hb2) hb3) hb4)
              | (at_builtin; go_loud (refine wpList_append_any _ rfl _ _ 32 rfl w.heap.size 9 i0 (.string ⟨#[]⟩) 1 16 Tryz.underlying32 hi hz0 hz1 hz2 rfl (by decide) _ _ _ rfl (hro4.alloc _) (some ⟨_, 0, none⟩) 1 1 (encS (cutE v)) rfl ⟨rfl, fun _ => ⟨_, rfl, one_at (by simp)⟩⟩ (oneS1 (cutE v)) (by unfold maxLen; omega) (by omega) (Nat.le_trans q4.size (by simp)) ?_; intro v5 w5 hown5 hgrow5 hat5)))
            go_roundg g
            case measure => omega
            case rel =>
              refine ⟨k + 1, L1 ++ [cutE v], by omega, by simp, by have := HI2.out; rw [HO.out] at this; show _ = _; rw [← this]; simp, ?_, (q4.alloc q4.size _).grown hgrow5 (Nat.le_trans q4.size (by simp)) (fun q h => (hro4.lt q h).1)⟩
              rw [List.length_append, List.flatMap_append]
              simpa using hown5
theorem oper_2 (n : NodeT) (w : World) (b o : Nat) (y : WordT) (r : List WordT) (t : List UInt8) (hw : n.words = y :: r) (hwh : n.wh.1 = some ⟨b, o, none⟩) (hS : OperS n w b o) (hr : Aside (operT n = r.flatMap opW)) (ht : litT y = some t) (e0 : (t == [101, 120, 112, 111, 114, 116]) = false) (e1 : (t == [103, 101, 116, 111, 112, 116, 115]) = true) : Calls Tryz.prog 30 #[nodeV n] w (NamesP (operT n) w) := by
  obtain ⟨i0, hi, hz0, hz1, hz2⟩ := info_parts info9
  have HS : Aside (OperS n w b o) := hS
  have HB : Aside (Below w.heap.size w (boxN w n)) := (Below.refl _ _).alloc (Nat.le_refl _) _
  obtain ⟨z0, z1, z2, z3, z4, z5, z6, z7, z8⟩ := boxN_in (Below.refl (boxN w n).heap.size (boxN w n))
  have hl : ((n.words.length : Int) == 0) = false := by rw [hw]; simp <;> omega
  have hl0 : (0 : Int) < (n.words.length : Int) := by rw [hw]; simp <;> omega
  have hl1 : (1 : Int) ≤ (n.words.length : Int) := by omega
  have hlz : n.words.length ≤ 1048576 := by have h1 := wordsT_len n; have h2 := words_len n; have h3 := HS.out.2.1; omega
  obtain ⟨h1, h2⟩ : y ∈ wordsT n ∧ y ∈ n.words := ⟨by unfold wordsT; simp [hw], by simp [hw]⟩
  have HY : Aside (DeepP w y.h y.parts ∧ szPs y.parts ≤ 1048576) := ⟨hS.1.word h1, by have := word_sz h1; have := hS.2.1; omega⟩
  have hcp : n.words.length ≤ n.wh.2 := by obtain ⟨n, _, _, _, _, _, _, _, _, _, hc⟩ := hS.1; exact hc.2
  obtain ⟨b1, o1, he, hlt, hc⟩ := hS.2.2 0 y (by rw [hw]; rfl)
  injection he with he
  injection he with e1 e2
  subst e1; subst e2
  have c0 : w.cell? ⟨b, o, none⟩ = some (.int .i64 y.pos) := by have := hc 0 _ rfl; rwa [show o + 0 * 2 + 0 = o by omega] at this
  have c1 : w.cell? ⟨b, o + 1, none⟩ = some (.slice y.h.1 y.parts.length y.h.2) := by have := hc 1 _ rfl; rwa [show o + 0 * 2 + 1 = o + 1 by omega] at this
  have d0 : (boxN w n).cell? ⟨b, o, none⟩ = some (.int .i64 y.pos) := (HB.out.cell (p := ⟨b, o, none⟩) hlt).trans c0
  have d1 : (boxN w n).cell? ⟨b, o + 1, none⟩ = some (.slice y.h.1 y.parts.length y.h.2) := (HB.out.cell (p := ⟨b, o + 1, none⟩) hlt).trans c1
  have cl := plit_calls y (boxN w n) (HY.out.1.up HB.out) (Nat.le_trans (szPs_len _) HY.out.2)
  have HWR : Aside (n.words = y :: r) := hw
  rw [hwh] at z5
  clear c0 c1 hc hlt hw hS h1 h2
  rw [hr.out]
  have HZ : Aside (∀ W, Below (boxN w n).heap.size (boxN w n) W → W.cell? ⟨w.heap.size, 5, none⟩ = some (.slice (some ⟨b, o, none⟩) n.words.length n.wh.2)) := fun W h => by rw [← hwh]; exact (boxN_in h).2.2.2.2.2.1
  rw [ht] at cl
  have cl2 : Calls Tryz.prog 67 #[.agg #[.int .i64 y.pos, .slice y.h.1 y.parts.length y.h.2]] (boxN w n) fun e w' => e = .returned (.tuple #[.string ⟨t.toArray⟩, .bool true]) ∧ Below (boxN w n).heap.size (boxN w n) w' := cl
  clear cl
  simp only [boxN, hwh] at d0 d1 cl2 HB HZ
  clear ht
  have hRl : Aside ((r.flatMap opW).length ≤ 1048576) := by
    have h2 := HS.out.2.1
    have h3 := wordsT_len n
    have h4 := words_len n
    have h5 : ∀ l : List WordT, (l.flatMap opW).length ≤ l.length := by
      intro l
      induction l with
      | nil => simp
      | cons x l ih => rw [List.flatMap_cons, List.length_append, List.length_cons]; have := opW_len x; omega
    have h6 := h5 r
    have h7 : n.words.length = r.length + 1 := by rw [HWR.out]; rfl
    show _ ≤ _
    omega
  obtain ⟨m, hm0⟩ : ∃ m, m = n.words.length - 1 := ⟨_, rfl⟩
  have hm1 : n.words.length - 1 = m := hm0.symm
  have HM : Aside (m = r.length) := by show _ = _; rw [hm0, HWR.out]; rfl
  clear hm0
  go_enter Tryz.func30, Tryz.ntmps30
  go_wp2_with (go_at_call 67; refine cl2.mono ?_; rintro e w1 ⟨rfl, hb1⟩; have x5 := HZ.out w1 hb1; have HWB : Aside (Below w.heap.size w w1) := HB.out.trans (hb1.mono HB.out.size))
  case inl =>
    have hm2 : m = 0 := by omega
    subst hm2
    have hrn : Aside (r.flatMap opW = []) := by show _ = _; rw [List.eq_nil_of_length_eq_zero HM.out.symm]; rfl
    clear d0 d1 hl hl0 cl2 z0 z1 z2 z3 z4 z5 z6 z7 z8 x5 hm1
    go_loopg [5, 36] 0 (fun g sn si wx => sn = .slice none 0 0 ∧ si = .int .i64 0 ∧ w1 = wx)
    case atStart => exact ⟨rfl, rfl, rfl⟩
    case round =>
      obtain ⟨rfl, rfl, rfl⟩ := hrel
      go_wp2
      go_ret
      rw [hrn.out]
      exact ⟨none, 0, 0, rfl, ⟨rfl, fun i x h => by simp at h, fun ad h => by cases h⟩, HWB.out⟩
  case inr =>
    have hmz : m ≤ 1048576 := by omega
    clear d0 d1 hl hl0 cl2 z0 z1 z2 z3 z4 z5 z6 z7 z8 x5 hm1 hcp
    go_loopg [5, 36] m (fun g sn si wx => ∃ (k : Nat) (L1 : List (List UInt8)), k + g = m ∧ si = .int .i64 k ∧ Aside (L1 ++ (r.drop k).flatMap opW = r.flatMap opW) ∧ wx.ownsRow w.heap.size 9 1 sn L1.length (L1.flatMap encS) ∧ Below w.heap.size w wx)
    case atStart => exact ⟨0, [], by omega, rfl, rfl, World.ownsRow_nil _ _ _ _, HWB.out⟩
    case round =>
      obtain ⟨k, L1, hkg, rfl, HI, hro, hbo⟩ := hrel
      cases gk with
      | zero =>
        have hkz : ¬ (k : Int) < (m : Int) := by omega
        have ha : Aside (L1 = r.flatMap opW) := by show _ = _; rw [← HI.out, List.drop_eq_nil_of_le (by have := HM.out; omega)]; simp
        obtain ⟨A, c, rfl, hrd, hbk⟩ := rdS_of_row lenS rfl hro
        have HRD : Aside (RdS 1 encS wr A L1 ∧ ∀ ad, A = some ad → w.heap.size ≤ ad.block) := ⟨hrd, hbk⟩
        clear hrd hbk hro
        go_wp2
        go_ret
        rw [← ha.out]
        exact ⟨A, _, c, rfl, ⟨rfl, HRD.out⟩, hbo⟩
      | succ g =>
        have hk0 : (0 : Int) ≤ (k : Int) := by omega
        have hkz : (k : Int) < (m : Int) := by omega
        have hk63 : (k : Int) + 1 ≤ 9223372036854775807 := by omega
        obtain ⟨x, hx⟩ : ∃ x, r[k]? = some x := ⟨_, List.getElem?_eq_getElem (by have := HM.out; omega)⟩
        have hwx : n.words[k + 1]? = some x := by rw [HWR.out]; exact hx
        obtain ⟨b1, o1, he, hlt, hc⟩ := (HS.out.2.2.up hbo) (k + 1) x hwx
        injection he with he
        injection he with e1 e2
        subst e1; subst e2
        have c0 : wr.cell? ⟨b, o + 2 + k * 2, none⟩ = some (.int .i64 x.pos) := by have := hc 0 _ rfl; rwa [show o + (k + 1) * 2 + 0 = o + 2 + k * 2 by omega] at this
        have c1 : wr.cell? ⟨b, o + 2 + k * 2 + 1, none⟩ = some (.slice x.h.1 x.parts.length x.h.2) := by have := hc 1 _ rfl; rwa [show o + (k + 1) * 2 + 1 = o + 2 + k * 2 + 1 by omega] at this
        have hdr : Aside (r.drop k = x :: r.drop (k + 1)) := Lib.drop_at hx
        have HI2 : Aside (L1 ++ (opW x ++ (r.drop (k + 1)).flatMap opW) = r.flatMap opW) := by have h := HI.out; rw [hdr.out, List.flatMap_cons] at h; exact h
        have hxw : x ∈ wordsT n := by unfold wordsT; have := List.mem_of_getElem? hwx; simp [this]
        have HX : Aside (DeepP w x.h x.parts ∧ szPs x.parts ≤ 1048576) := ⟨HS.out.1.word hxw, by have := word_sz hxw; have := HS.out.2.1; omega⟩
        have HBX : Aside (Below wr.heap.size wr (wr.alloc (.cells #[.int .i64 x.pos, .slice x.h.1 x.parts.length x.h.2] 37))) := (Below.refl _ _).alloc (Nat.le_refl _) _
        have HWX : Aside (Below w.heap.size w (wr.alloc (.cells #[.int .i64 x.pos, .slice x.h.1 x.parts.length x.h.2] 37))) := hbo.trans (HBX.out.mono hbo.size)
        have cl := plitp_calls x.parts x.h.1 x.h.2 (wr.alloc (.cells #[.int .i64 x.pos, .slice x.h.1 x.parts.length x.h.2] 37)) HX.out.2 (HX.out.1.up HWX.out)
        have hro1 := hro.alloc (Obj.cells #[.int .i64 x.pos, .slice x.h.1 x.parts.length x.h.2] 37)
        have hL1 : L1.length + (opW x).length ≤ 1048576 := by have h1 := HI2.out; have h2 := hRl.out; rw [← h1] at h2; simp only [List.length_append] at h2; omega
        clear hc hlt hx hwx hdr HI hxw
        cases hv : litP x.parts with
        | none =>
          have HO : Aside (opW x = []) := by show _ = _; unfold opW; rw [hv]
          rw [hv] at cl
          have cl3 : Calls Tryz.prog 68 #[.slice x.h.1 x.parts.length x.h.2] (wr.alloc (.cells #[.int .i64 x.pos, .slice x.h.1 x.parts.length x.h.2] 37)) fun e w' => e = .returned (.tuple #[.string ⟨#[]⟩, .bool false]) ∧ Below (wr.alloc (.cells #[.int .i64 x.pos, .slice x.h.1 x.parts.length x.h.2] 37)).heap.size (wr.alloc (.cells #[.int .i64 x.pos, .slice x.h.1 x.parts.length x.h.2] 37)) w' := cl
          have cc : ∀ W, Calls Tryz.prog 69 #[.string ⟨#[]⟩, .string ⟨#[61]⟩] W fun e w' => e = .returned (.tuple #[.string ⟨(cutN []).1.toArray⟩, .string ⟨(cutN []).2.1.toArray⟩, .bool (cutN []).2.2]) ∧ Below W.heap.size W w' := fun W => cut_calls [] W (by unfold maxLen; simp)
          clear hv cl
          generalize cutN [] = D at cc
          go_wp2_with (first
            | (go_at_call 68; refine cl3.mono ?_; rintro e w2 ⟨rfl, hb2⟩)
            | (go_at_call 69; refine (cc _).mono ?_; rintro e w3 ⟨rfl, hb3⟩))
          go_roundg g
          case measure => omega
          case rel => exact ⟨k + 1, L1, by omega, by simp, by have := HI2.out; rw [HO.out] at this; exact this, own_up (own_up hro1 hb2) hb3, (HWX.out.trans (hb2.mono HWX.out.size)).trans (hb3.mono (HWX.out.trans (hb2.mono HWX.out.size)).size)⟩
        | some v =>
          have hvl : v.length ≤ 1048576 := Nat.le_trans (litP_len _ _ hv) HX.out.2
          rw [hv] at cl
          have cl3 : Calls Tryz.prog 68 #[.slice x.h.1 x.parts.length x.h.2] (wr.alloc (.cells #[.int .i64 x.pos, .slice x.h.1 x.parts.length x.h.2] 37)) fun e w' => e = .returned (.tuple #[.string ⟨v.toArray⟩, .bool true]) ∧ Below (wr.alloc (.cells #[.int .i64 x.pos, .slice x.h.1 x.parts.length x.h.2] 37)).heap.size (wr.alloc (.cells #[.int .i64 x.pos, .slice x.h.1 x.parts.length x.h.2] 37)) w' := cl
          have cc : ∀ W, Calls Tryz.prog 69 #[.string ⟨v.toArray⟩, .string ⟨#[61]⟩] W fun e w' => e = .returned (.tuple #[.string ⟨(cutE v).toArray⟩, .string ⟨(cutN v).2.1.toArray⟩, .bool (cutN v).2.2]) ∧ Below W.heap.size W w' := fun W => by rw [← cutN_1]; exact cut_calls v W (by unfold maxLen; omega)
          have cn := fun W => name_any (cutE v) W
          generalize (cutN v).2.1 = D1 at cc
          generalize (cutN v).2.2 = D2 at cc
          cases hn : nameB (cutE v) with
          | false =>
            have HO : Aside (opW x = []) := by show _ = _; unfold opW; rw [hv]; simp only [hn]; rfl
            rw [hn] at cn
            clear hv cl hn hvl
            go_wp2_with (first
              | (go_at_call 68; refine cl3.mono ?_; rintro e w2 ⟨rfl, hb2⟩)
              | (go_at_call 69; refine (cc _).mono ?_; rintro e w3 ⟨rfl, hb3⟩)
              | (go_at_call 27; refine (cn _).mono ?_; rintro e w4 ⟨rfl, hb4⟩))
            go_roundg g
            case measure => omega
            case rel =>
              have q2 := HWX.out.trans (hb2.mono HWX.out.size)
              have q3 := q2.trans (hb3.mono q2.size)
              exact ⟨k + 1, L1, by omega, by simp, by have := HI2.out; rw [HO.out] at this; exact this, own_up (own_up (own_up hro1 hb2) hb3) hb4, q3.trans (hb4.mono q3.size)⟩
          | true =>
            have HO : Aside (opW x = [cutE v]) := by show _ = _; unfold opW; rw [hv]; simp only [hn]; rfl
            rw [hn] at cn
            rw [HO.out] at hL1
            simp only [List.length_singleton] at hL1
            clear hv cl hn hvl
            go_wp2_with (first
              | (go_at_call 68; refine cl3.mono ?_; rintro e w2 ⟨rfl, hb2⟩)
              | (go_at_call 69; refine (cc _).mono ?_; rintro e w3 ⟨rfl, hb3⟩)
              | (go_at_call 27; refine (cn _).mono ?_; rintro e w4 ⟨rfl, hb4⟩; have q2 := HWX.out.trans (hb2.mono HWX.out.size); have q3 := q2.trans (hb3.mono q2.size); have q4 := q3.trans (hb4.mono q3.size); have hro4 := own_up (own_up (own_up hro1 hb2) hb3) hb4)
              | (at_builtin; go_loud (refine wpList_append_any _ rfl _ _ 32 rfl w.heap.size 9 i0 (.string ⟨#[]⟩) 1 16 Tryz.underlying32 hi hz0 hz1 hz2 rfl (by decide) _ _ _ rfl (hro4.alloc _) (some ⟨_, 0, none⟩) 1 1 (encS (cutE v)) rfl ⟨rfl, fun _ => ⟨_, rfl, one_at (by simp)⟩⟩ (oneS1 (cutE v)) (by unfold maxLen; omega) (by omega) (Nat.le_trans q4.size (by simp)) ?_; intro v5 w5 hown5 hgrow5 hat5)))
            go_roundg g
            case measure => omega
            case rel =>
              refine ⟨k + 1, L1 ++ [cutE v], by omega, by simp, by have := HI2.out; rw [HO.out] at this; show _ = _; rw [← this]; simp, ?_, (q4.alloc q4.size _).grown hgrow5 (Nat.le_trans q4.size (by simp)) (fun q h => (hro4.lt q h).1)⟩
              rw [List.length_append, List.flatMap_append]
              simpa using hown5
theorem oper_3 (n : NodeT) (w : World) (b o : Nat) (y : WordT) (r : List WordT) (t : List UInt8) (hw : n.words = y :: r) (hwh : n.wh.1 = some ⟨b, o, none⟩) (hS : OperS n w b o) (hr : Aside (operT n = r.flatMap opW)) (ht : litT y = some t) (e0 : (t == [101, 120, 112, 111, 114, 116]) = false) (e1 : (t == [103, 101, 116, 111, 112, 116, 115]) = false) (e2 : (t == [114, 101, 97, 100]) = true) : Calls Tryz.prog 30 #[nodeV n] w (NamesP (operT n) w) := by
  obtain ⟨i0, hi, hz0, hz1, hz2⟩ := info_parts info9
  have HS : Aside (OperS n w b o) := hS
  have HB : Aside (Below w.heap.size w (boxN w n)) := (Below.refl _ _).alloc (Nat.le_refl _) _
  obtain ⟨z0, z1, z2, z3, z4, z5, z6, z7, z8⟩ := boxN_in (Below.refl (boxN w n).heap.size (boxN w n))
  have hl : ((n.words.length : Int) == 0) = false := by rw [hw]; simp <;> omega
  have hl0 : (0 : Int) < (n.words.length : Int) := by rw [hw]; simp <;> omega
  have hl1 : (1 : Int) ≤ (n.words.length : Int) := by omega
  have hlz : n.words.length ≤ 1048576 := by have h1 := wordsT_len n; have h2 := words_len n; have h3 := HS.out.2.1; omega
  obtain ⟨h1, h2⟩ : y ∈ wordsT n ∧ y ∈ n.words := ⟨by unfold wordsT; simp [hw], by simp [hw]⟩
  have HY : Aside (DeepP w y.h y.parts ∧ szPs y.parts ≤ 1048576) := ⟨hS.1.word h1, by have := word_sz h1; have := hS.2.1; omega⟩
  have hcp : n.words.length ≤ n.wh.2 := by obtain ⟨n, _, _, _, _, _, _, _, _, _, hc⟩ := hS.1; exact hc.2
  obtain ⟨b1, o1, he, hlt, hc⟩ := hS.2.2 0 y (by rw [hw]; rfl)
  injection he with he
  injection he with e1 e2
  subst e1; subst e2
  have c0 : w.cell? ⟨b, o, none⟩ = some (.int .i64 y.pos) := by have := hc 0 _ rfl; rwa [show o + 0 * 2 + 0 = o by omega] at this
  have c1 : w.cell? ⟨b, o + 1, none⟩ = some (.slice y.h.1 y.parts.length y.h.2) := by have := hc 1 _ rfl; rwa [show o + 0 * 2 + 1 = o + 1 by omega] at this
  have d0 : (boxN w n).cell? ⟨b, o, none⟩ = some (.int .i64 y.pos) := (HB.out.cell (p := ⟨b, o, none⟩) hlt).trans c0
  have d1 : (boxN w n).cell? ⟨b, o + 1, none⟩ = some (.slice y.h.1 y.parts.length y.h.2) := (HB.out.cell (p := ⟨b, o + 1, none⟩) hlt).trans c1
  have cl := plit_calls y (boxN w n) (HY.out.1.up HB.out) (Nat.le_trans (szPs_len _) HY.out.2)
  have HWR : Aside (n.words = y :: r) := hw
  rw [hwh] at z5
  clear c0 c1 hc hlt hw hS h1 h2
  rw [hr.out]
  have HZ : Aside (∀ W, Below (boxN w n).heap.size (boxN w n) W → W.cell? ⟨w.heap.size, 5, none⟩ = some (.slice (some ⟨b, o, none⟩) n.words.length n.wh.2)) := fun W h => by rw [← hwh]; exact (boxN_in h).2.2.2.2.2.1
  rw [ht] at cl
  have cl2 : Calls Tryz.prog 67 #[.agg #[.int .i64 y.pos, .slice y.h.1 y.parts.length y.h.2]] (boxN w n) fun e w' => e = .returned (.tuple #[.string ⟨t.toArray⟩, .bool true]) ∧ Below (boxN w n).heap.size (boxN w n) w' := cl
  clear cl
  simp only [boxN, hwh] at d0 d1 cl2 HB HZ
  clear ht
  have hRl : Aside ((r.flatMap opW).length ≤ 1048576) := by
    have h2 := HS.out.2.1
    have h3 := wordsT_len n
    have h4 := words_len n
    have h5 : ∀ l : List WordT, (l.flatMap opW).length ≤ l.length := by
      intro l
      induction l with
      | nil => simp
      | cons x l ih => rw [List.flatMap_cons, List.length_append, List.length_cons]; have := opW_len x; omega
    have h6 := h5 r
    have h7 : n.words.length = r.length + 1 := by rw [HWR.out]; rfl
    show _ ≤ _
    omega
  obtain ⟨m, hm0⟩ : ∃ m, m = n.words.length - 1 := ⟨_, rfl⟩
  have hm1 : n.words.length - 1 = m := hm0.symm
  have HM : Aside (m = r.length) := by show _ = _; rw [hm0, HWR.out]; rfl
  clear hm0
  go_enter Tryz.func30, Tryz.ntmps30
  go_wp2_with (go_at_call 67; refine cl2.mono ?_; rintro e w1 ⟨rfl, hb1⟩; have x5 := HZ.out w1 hb1; have HWB : Aside (Below w.heap.size w w1) := HB.out.trans (hb1.mono HB.out.size))
  case inl =>
    have hm2 : m = 0 := by omega
    subst hm2
    have hrn : Aside (r.flatMap opW = []) := by show _ = _; rw [List.eq_nil_of_length_eq_zero HM.out.symm]; rfl
    clear d0 d1 hl hl0 cl2 z0 z1 z2 z3 z4 z5 z6 z7 z8 x5 hm1
    go_loopg [5, 36] 0 (fun g sn si wx => sn = .slice none 0 0 ∧ si = .int .i64 0 ∧ w1 = wx)
    case atStart => exact ⟨rfl, rfl, rfl⟩
    case round =>
      obtain ⟨rfl, rfl, rfl⟩ := hrel
      go_wp2
      go_ret
      rw [hrn.out]
      exact ⟨none, 0, 0, rfl, ⟨rfl, fun i x h => by simp at h, fun ad h => by cases h⟩, HWB.out⟩
  case inr =>
    have hmz : m ≤ 1048576 := by omega
    clear d0 d1 hl hl0 cl2 z0 z1 z2 z3 z4 z5 z6 z7 z8 x5 hm1 hcp
    go_loopg [5, 36] m (fun g sn si wx => ∃ (k : Nat) (L1 : List (List UInt8)), k + g = m ∧ si = .int .i64 k ∧ Aside (L1 ++ (r.drop k).flatMap opW = r.flatMap opW) ∧ wx.ownsRow w.heap.size 9 1 sn L1.length (L1.flatMap encS) ∧ Below w.heap.size w wx)
    case atStart => exact ⟨0, [], by omega, rfl, rfl, World.ownsRow_nil _ _ _ _, HWB.out⟩
    case round =>
      obtain ⟨k, L1, hkg, rfl, HI, hro, hbo⟩ := hrel
      cases gk with
      | zero =>
        have hkz : ¬ (k : Int) < (m : Int) := by omega
        have ha : Aside (L1 = r.flatMap opW) := by show _ = _; rw [← HI.out, List.drop_eq_nil_of_le (by have := HM.out; omega)]; simp
        obtain ⟨A, c, rfl, hrd, hbk⟩ := rdS_of_row lenS rfl hro
        have HRD : Aside (RdS 1 encS wr A L1 ∧ ∀ ad, A = some ad → w.heap.size ≤ ad.block) := ⟨hrd, hbk⟩
        clear hrd hbk hro
        go_wp2
        go_ret
        rw [← ha.out]
        exact ⟨A, _, c, rfl, ⟨rfl, HRD.out⟩, hbo⟩
      | succ g =>
        have hk0 : (0 : Int) ≤ (k : Int) := by omega
        have hkz : (k : Int) < (m : Int) := by omega
        have hk63 : (k : Int) + 1 ≤ 9223372036854775807 := by omega
        obtain ⟨x, hx⟩ : ∃ x, r[k]? = some x := ⟨_, List.getElem?_eq_getElem (by have := HM.out; omega)⟩
        have hwx : n.words[k + 1]? = some x := by rw [HWR.out]; exact hx
        obtain ⟨b1, o1, he, hlt, hc⟩ := (HS.out.2.2.up hbo) (k + 1) x hwx
        injection he with he
        injection he with e1 e2
        subst e1; subst e2
        have c0 : wr.cell? ⟨b, o + 2 + k * 2, none⟩ = some (.int .i64 x.pos) := by have := hc 0 _ rfl; rwa [show o + (k + 1) * 2 + 0 = o + 2 + k * 2 by omega] at this
        have c1 : wr.cell? ⟨b, o + 2 + k * 2 + 1, none⟩ = some (.slice x.h.1 x.parts.length x.h.2) := by have := hc 1 _ rfl; rwa [show o + (k + 1) * 2 + 1 = o + 2 + k * 2 + 1 by omega] at this
        have hdr : Aside (r.drop k = x :: r.drop (k + 1)) := Lib.drop_at hx
        have HI2 : Aside (L1 ++ (opW x ++ (r.drop (k + 1)).flatMap opW) = r.flatMap opW) := by have h := HI.out; rw [hdr.out, List.flatMap_cons] at h; exact h
        have hxw : x ∈ wordsT n := by unfold wordsT; have := List.mem_of_getElem? hwx; simp [this]
        have HX : Aside (DeepP w x.h x.parts ∧ szPs x.parts ≤ 1048576) := ⟨HS.out.1.word hxw, by have := word_sz hxw; have := HS.out.2.1; omega⟩
        have HBX : Aside (Below wr.heap.size wr (wr.alloc (.cells #[.int .i64 x.pos, .slice x.h.1 x.parts.length x.h.2] 37))) := (Below.refl _ _).alloc (Nat.le_refl _) _
        have HWX : Aside (Below w.heap.size w (wr.alloc (.cells #[.int .i64 x.pos, .slice x.h.1 x.parts.length x.h.2] 37))) := hbo.trans (HBX.out.mono hbo.size)
        have cl := plitp_calls x.parts x.h.1 x.h.2 (wr.alloc (.cells #[.int .i64 x.pos, .slice x.h.1 x.parts.length x.h.2] 37)) HX.out.2 (HX.out.1.up HWX.out)
        have hro1 := hro.alloc (Obj.cells #[.int .i64 x.pos, .slice x.h.1 x.parts.length x.h.2] 37)
        have hL1 : L1.length + (opW x).length ≤ 1048576 := by have h1 := HI2.out; have h2 := hRl.out; rw [← h1] at h2; simp only [List.length_append] at h2; omega
        clear hc hlt hx hwx hdr HI hxw
        cases hv : litP x.parts with
        | none =>
          have HO : Aside (opW x = []) := by show _ = _; unfold opW; rw [hv]
          rw [hv] at cl
          have cl3 : Calls Tryz.prog 68 #[.slice x.h.1 x.parts.length x.h.2] (wr.alloc (.cells #[.int .i64 x.pos, .slice x.h.1 x.parts.length x.h.2] 37)) fun e w' => e = .returned (.tuple #[.string ⟨#[]⟩, .bool false]) ∧ Below (wr.alloc (.cells #[.int .i64 x.pos, .slice x.h.1 x.parts.length x.h.2] 37)).heap.size (wr.alloc (.cells #[.int .i64 x.pos, .slice x.h.1 x.parts.length x.h.2] 37)) w' := cl
          have cc : ∀ W, Calls Tryz.prog 69 #[.string ⟨#[]⟩, .string ⟨#[61]⟩] W fun e w' => e = .returned (.tuple #[.string ⟨(cutN []).1.toArray⟩, .string ⟨(cutN []).2.1.toArray⟩, .bool (cutN []).2.2]) ∧ Below W.heap.size W w' := fun W => cut_calls [] W (by unfold maxLen; simp)
          clear hv cl
          generalize cutN [] = D at cc
          go_wp2_with (first
            | (go_at_call 68; refine cl3.mono ?_; rintro e w2 ⟨rfl, hb2⟩)
            | (go_at_call 69; refine (cc _).mono ?_; rintro e w3 ⟨rfl, hb3⟩))
          go_roundg g
          case measure => omega
          case rel => exact ⟨k + 1, L1, by omega, by simp, by have := HI2.out; rw [HO.out] at this; exact this, own_up (own_up hro1 hb2) hb3, (HWX.out.trans (hb2.mono HWX.out.size)).trans (hb3.mono (HWX.out.trans (hb2.mono HWX.out.size)).size)⟩
        | some v =>
          have hvl : v.length ≤ 1048576 := Nat.le_trans (litP_len _ _ hv) HX.out.2
          rw [hv] at cl
          have cl3 : Calls Tryz.prog 68 #[.slice x.h.1 x.parts.length x.h.2] (wr.alloc (.cells #[.int .i64 x.pos, .slice x.h.1 x.parts.length x.h.2] 37)) fun e w' => e = .returned (.tuple #[.string ⟨v.toArray⟩, .bool true]) ∧ Below (wr.alloc (.cells #[.int .i64 x.pos, .slice x.h.1 x.parts.length x.h.2] 37)).heap.size (wr.alloc (.cells #[.int .i64 x.pos, .slice x.h.1 x.parts.length x.h.2] 37)) w' := cl
          have cc : ∀ W, Calls Tryz.prog 69 #[.string ⟨v.toArray⟩, .string ⟨#[61]⟩] W fun e w' => e = .returned (.tuple #[.string ⟨(cutE v).toArray⟩, .string ⟨(cutN v).2.1.toArray⟩, .bool (cutN v).2.2]) ∧ Below W.heap.size W w' := fun W => by rw [← cutN_1]; exact cut_calls v W (by unfold maxLen; omega)
          have cn := fun W => name_any (cutE v) W
          generalize (cutN v).2.1 = D1 at cc
          generalize (cutN v).2.2 = D2 at cc
          cases hn : nameB (cutE v) with
          | false =>
            have HO : Aside (opW x = []) := by show _ = _; unfold opW; rw [hv]; simp only [hn]; rfl
            rw [hn] at cn
            clear hv cl hn hvl
            go_wp2_with (first
              | (go_at_call 68; refine cl3.mono ?_; rintro e w2 ⟨rfl, hb2⟩)
              | (go_at_call 69; refine (cc _).mono ?_; rintro e w3 ⟨rfl, hb3⟩)
              | (go_at_call 27; refine (cn _).mono ?_; rintro e w4 ⟨rfl, hb4⟩))
            go_roundg g
            case measure => omega
            case rel =>
              have q2 := HWX.out.trans (hb2.mono HWX.out.size)
              have q3 := q2.trans (hb3.mono q2.size)
              exact ⟨k + 1, L1, by omega, by simp, by have := HI2.out; rw [HO.out] at this; exact this, own_up (own_up (own_up hro1 hb2) hb3) hb4, q3.trans (hb4.mono q3.size)⟩
          | true =>
            have HO : Aside (opW x = [cutE v]) := by show _ = _; unfold opW; rw [hv]; simp only [hn]; rfl
            rw [hn] at cn
            rw [HO.out] at hL1
            simp only [List.length_singleton] at hL1
            clear hv cl hn hvl
            go_wp2_with (first
              | (go_at_call 68; refine cl3.mono ?_; rintro e w2 ⟨rfl, hb2⟩)
              | (go_at_call 69; refine (cc _).mono ?_; rintro e w3 ⟨rfl, hb3⟩)
              | (go_at_call 27; refine (cn _).mono ?_; rintro e w4 ⟨rfl, hb4⟩; have q2 := HWX.out.trans (hb2.mono HWX.out.size); have q3 := q2.trans (hb3.mono q2.size); have q4 := q3.trans (hb4.mono q3.size); have hro4 := own_up (own_up (own_up hro1 hb2) hb3) hb4)
              | (at_builtin; go_loud (refine wpList_append_any _ rfl _ _ 32 rfl w.heap.size 9 i0 (.string ⟨#[]⟩) 1 16 Tryz.underlying32 hi hz0 hz1 hz2 rfl (by decide) _ _ _ rfl (hro4.alloc _) (some ⟨_, 0, none⟩) 1 1 (encS (cutE v)) rfl ⟨rfl, fun _ => ⟨_, rfl, one_at (by simp)⟩⟩ (oneS1 (cutE v)) (by unfold maxLen; omega) (by omega) (Nat.le_trans q4.size (by simp)) ?_; intro v5 w5 hown5 hgrow5 hat5)))
            go_roundg g
            case measure => omega
            case rel =>
              refine ⟨k + 1, L1 ++ [cutE v], by omega, by simp, by have := HI2.out; rw [HO.out] at this; show _ = _; rw [← this]; simp, ?_, (q4.alloc q4.size _).grown hgrow5 (Nat.le_trans q4.size (by simp)) (fun q h => (hro4.lt q h).1)⟩
              rw [List.length_append, List.flatMap_append]
              simpa using hown5
theorem oper_4 (n : NodeT) (w : World) (b o : Nat) (y : WordT) (r : List WordT) (t : List UInt8) (hw : n.words = y :: r) (hwh : n.wh.1 = some ⟨b, o, none⟩) (hS : OperS n w b o) (hr : Aside (operT n = r.flatMap opW)) (ht : litT y = some t) (e0 : (t == [101, 120, 112, 111, 114, 116]) = false) (e1 : (t == [103, 101, 116, 111, 112, 116, 115]) = false) (e2 : (t == [114, 101, 97, 100]) = false) (e3 : (t == [114, 101, 97, 100, 111, 110, 108, 121]) = true) : Calls Tryz.prog 30 #[nodeV n] w (NamesP (operT n) w) := by
  obtain ⟨i0, hi, hz0, hz1, hz2⟩ := info_parts info9
  have HS : Aside (OperS n w b o) := hS
  have HB : Aside (Below w.heap.size w (boxN w n)) := (Below.refl _ _).alloc (Nat.le_refl _) _
  obtain ⟨z0, z1, z2, z3, z4, z5, z6, z7, z8⟩ := boxN_in (Below.refl (boxN w n).heap.size (boxN w n))
  have hl : ((n.words.length : Int) == 0) = false := by rw [hw]; simp <;> omega
  have hl0 : (0 : Int) < (n.words.length : Int) := by rw [hw]; simp <;> omega
  have hl1 : (1 : Int) ≤ (n.words.length : Int) := by omega
  have hlz : n.words.length ≤ 1048576 := by have h1 := wordsT_len n; have h2 := words_len n; have h3 := HS.out.2.1; omega
  obtain ⟨h1, h2⟩ : y ∈ wordsT n ∧ y ∈ n.words := ⟨by unfold wordsT; simp [hw], by simp [hw]⟩
  have HY : Aside (DeepP w y.h y.parts ∧ szPs y.parts ≤ 1048576) := ⟨hS.1.word h1, by have := word_sz h1; have := hS.2.1; omega⟩
  have hcp : n.words.length ≤ n.wh.2 := by obtain ⟨n, _, _, _, _, _, _, _, _, _, hc⟩ := hS.1; exact hc.2
  obtain ⟨b1, o1, he, hlt, hc⟩ := hS.2.2 0 y (by rw [hw]; rfl)
  injection he with he
  injection he with e1 e2
  subst e1; subst e2
  have c0 : w.cell? ⟨b, o, none⟩ = some (.int .i64 y.pos) := by have := hc 0 _ rfl; rwa [show o + 0 * 2 + 0 = o by omega] at this
  have c1 : w.cell? ⟨b, o + 1, none⟩ = some (.slice y.h.1 y.parts.length y.h.2) := by have := hc 1 _ rfl; rwa [show o + 0 * 2 + 1 = o + 1 by omega] at this
  have d0 : (boxN w n).cell? ⟨b, o, none⟩ = some (.int .i64 y.pos) := (HB.out.cell (p := ⟨b, o, none⟩) hlt).trans c0
  have d1 : (boxN w n).cell? ⟨b, o + 1, none⟩ = some (.slice y.h.1 y.parts.length y.h.2) := (HB.out.cell (p := ⟨b, o + 1, none⟩) hlt).trans c1
  have cl := plit_calls y (boxN w n) (HY.out.1.up HB.out) (Nat.le_trans (szPs_len _) HY.out.2)
  have HWR : Aside (n.words = y :: r) := hw
  rw [hwh] at z5
  clear c0 c1 hc hlt hw hS h1 h2
  rw [hr.out]
  have HZ : Aside (∀ W, Below (boxN w n).heap.size (boxN w n) W → W.cell? ⟨w.heap.size, 5, none⟩ = some (.slice (some ⟨b, o, none⟩) n.words.length n.wh.2)) := fun W h => by rw [← hwh]; exact (boxN_in h).2.2.2.2.2.1
  rw [ht] at cl
  have cl2 : Calls Tryz.prog 67 #[.agg #[.int .i64 y.pos, .slice y.h.1 y.parts.length y.h.2]] (boxN w n) fun e w' => e = .returned (.tuple #[.string ⟨t.toArray⟩, .bool true]) ∧ Below (boxN w n).heap.size (boxN w n) w' := cl
  clear cl
  simp only [boxN, hwh] at d0 d1 cl2 HB HZ
  clear ht
  have hRl : Aside ((r.flatMap opW).length ≤ 1048576) := by
    have h2 := HS.out.2.1
    have h3 := wordsT_len n
    have h4 := words_len n
    have h5 : ∀ l : List WordT, (l.flatMap opW).length ≤ l.length := by
      intro l
      induction l with
      | nil => simp
      | cons x l ih => rw [List.flatMap_cons, List.length_append, List.length_cons]; have := opW_len x; omega
    have h6 := h5 r
    have h7 : n.words.length = r.length + 1 := by rw [HWR.out]; rfl
    show _ ≤ _
    omega
  obtain ⟨m, hm0⟩ : ∃ m, m = n.words.length - 1 := ⟨_, rfl⟩
  have hm1 : n.words.length - 1 = m := hm0.symm
  have HM : Aside (m = r.length) := by show _ = _; rw [hm0, HWR.out]; rfl
  clear hm0
  go_enter Tryz.func30, Tryz.ntmps30
  go_wp2_with (go_at_call 67; refine cl2.mono ?_; rintro e w1 ⟨rfl, hb1⟩; have x5 := HZ.out w1 hb1; have HWB : Aside (Below w.heap.size w w1) := HB.out.trans (hb1.mono HB.out.size))
  case inl =>
    have hm2 : m = 0 := by omega
    subst hm2
    have hrn : Aside (r.flatMap opW = []) := by show _ = _; rw [List.eq_nil_of_length_eq_zero HM.out.symm]; rfl
    clear d0 d1 hl hl0 cl2 z0 z1 z2 z3 z4 z5 z6 z7 z8 x5 hm1
    go_loopg [5, 36] 0 (fun g sn si wx => sn = .slice none 0 0 ∧ si = .int .i64 0 ∧ w1 = wx)
    case atStart => exact ⟨rfl, rfl, rfl⟩
    case round =>
      obtain ⟨rfl, rfl, rfl⟩ := hrel
      go_wp2
      go_ret
      rw [hrn.out]
      exact ⟨none, 0, 0, rfl, ⟨rfl, fun i x h => by simp at h, fun ad h => by cases h⟩, HWB.out⟩
  case inr =>
    have hmz : m ≤ 1048576 := by omega
    clear d0 d1 hl hl0 cl2 z0 z1 z2 z3 z4 z5 z6 z7 z8 x5 hm1 hcp
    go_loopg [5, 36] m (fun g sn si wx => ∃ (k : Nat) (L1 : List (List UInt8)), k + g = m ∧ si = .int .i64 k ∧ Aside (L1 ++ (r.drop k).flatMap opW = r.flatMap opW) ∧ wx.ownsRow w.heap.size 9 1 sn L1.length (L1.flatMap encS) ∧ Below w.heap.size w wx)
    case atStart => exact ⟨0, [], by omega, rfl, rfl, World.ownsRow_nil _ _ _ _, HWB.out⟩
    case round =>
      obtain ⟨k, L1, hkg, rfl, HI, hro, hbo⟩ := hrel
      cases gk with
      | zero =>
        have hkz : ¬ (k : Int) < (m : Int) := by omega
        have ha : Aside (L1 = r.flatMap opW) := by show _ = _; rw [← HI.out, List.drop_eq_nil_of_le (by have := HM.out; omega)]; simp
        obtain ⟨A, c, rfl, hrd, hbk⟩ := rdS_of_row lenS rfl hro
        have HRD : Aside (RdS 1 encS wr A L1 ∧ ∀ ad, A = some ad → w.heap.size ≤ ad.block) := ⟨hrd, hbk⟩
        clear hrd hbk hro
        go_wp2
        go_ret
        rw [← ha.out]
        exact ⟨A, _, c, rfl, ⟨rfl, HRD.out⟩, hbo⟩
      | succ g =>
        have hk0 : (0 : Int) ≤ (k : Int) := by omega
        have hkz : (k : Int) < (m : Int) := by omega
        have hk63 : (k : Int) + 1 ≤ 9223372036854775807 := by omega
        obtain ⟨x, hx⟩ : ∃ x, r[k]? = some x := ⟨_, List.getElem?_eq_getElem (by have := HM.out; omega)⟩
        have hwx : n.words[k + 1]? = some x := by rw [HWR.out]; exact hx
        obtain ⟨b1, o1, he, hlt, hc⟩ := (HS.out.2.2.up hbo) (k + 1) x hwx
        injection he with he
        injection he with e1 e2
        subst e1; subst e2
        have c0 : wr.cell? ⟨b, o + 2 + k * 2, none⟩ = some (.int .i64 x.pos) := by have := hc 0 _ rfl; rwa [show o + (k + 1) * 2 + 0 = o + 2 + k * 2 by omega] at this
        have c1 : wr.cell? ⟨b, o + 2 + k * 2 + 1, none⟩ = some (.slice x.h.1 x.parts.length x.h.2) := by have := hc 1 _ rfl; rwa [show o + (k + 1) * 2 + 1 = o + 2 + k * 2 + 1 by omega] at this
        have hdr : Aside (r.drop k = x :: r.drop (k + 1)) := Lib.drop_at hx
        have HI2 : Aside (L1 ++ (opW x ++ (r.drop (k + 1)).flatMap opW) = r.flatMap opW) := by have h := HI.out; rw [hdr.out, List.flatMap_cons] at h; exact h
        have hxw : x ∈ wordsT n := by unfold wordsT; have := List.mem_of_getElem? hwx; simp [this]
        have HX : Aside (DeepP w x.h x.parts ∧ szPs x.parts ≤ 1048576) := ⟨HS.out.1.word hxw, by have := word_sz hxw; have := HS.out.2.1; omega⟩
        have HBX : Aside (Below wr.heap.size wr (wr.alloc (.cells #[.int .i64 x.pos, .slice x.h.1 x.parts.length x.h.2] 37))) := (Below.refl _ _).alloc (Nat.le_refl _) _
        have HWX : Aside (Below w.heap.size w (wr.alloc (.cells #[.int .i64 x.pos, .slice x.h.1 x.parts.length x.h.2] 37))) := hbo.trans (HBX.out.mono hbo.size)
        have cl := plitp_calls x.parts x.h.1 x.h.2 (wr.alloc (.cells #[.int .i64 x.pos, .slice x.h.1 x.parts.length x.h.2] 37)) HX.out.2 (HX.out.1.up HWX.out)
        have hro1 := hro.alloc (Obj.cells #[.int .i64 x.pos, .slice x.h.1 x.parts.length x.h.2] 37)
        have hL1 : L1.length + (opW x).length ≤ 1048576 := by have h1 := HI2.out; have h2 := hRl.out; rw [← h1] at h2; simp only [List.length_append] at h2; omega
        clear hc hlt hx hwx hdr HI hxw
        cases hv : litP x.parts with
        | none =>
          have HO : Aside (opW x = []) := by show _ = _; unfold opW; rw [hv]
          rw [hv] at cl
          have cl3 : Calls Tryz.prog 68 #[.slice x.h.1 x.parts.length x.h.2] (wr.alloc (.cells #[.int .i64 x.pos, .slice x.h.1 x.parts.length x.h.2] 37)) fun e w' => e = .returned (.tuple #[.string ⟨#[]⟩, .bool false]) ∧ Below (wr.alloc (.cells #[.int .i64 x.pos, .slice x.h.1 x.parts.length x.h.2] 37)).heap.size (wr.alloc (.cells #[.int .i64 x.pos, .slice x.h.1 x.parts.length x.h.2] 37)) w' := cl
          have cc : ∀ W, Calls Tryz.prog 69 #[.string ⟨#[]⟩, .string ⟨#[61]⟩] W fun e w' => e = .returned (.tuple #[.string ⟨(cutN []).1.toArray⟩, .string ⟨(cutN []).2.1.toArray⟩, .bool (cutN []).2.2]) ∧ Below W.heap.size W w' := fun W => cut_calls [] W (by unfold maxLen; simp)
          clear hv cl
          generalize cutN [] = D at cc
          go_wp2_with (first
            | (go_at_call 68; refine cl3.mono ?_; rintro e w2 ⟨rfl, hb2⟩)
            | (go_at_call 69; refine (cc _).mono ?_; rintro e w3 ⟨rfl, hb3⟩))
          go_roundg g
          case measure => omega
          case rel => exact ⟨k + 1, L1, by omega, by simp, by have := HI2.out; rw [HO.out] at this; exact this, own_up (own_up hro1 hb2) hb3, (HWX.out.trans (hb2.mono HWX.out.size)).trans (hb3.mono (HWX.out.trans (hb2.mono HWX.out.size)).size)⟩
        | some v =>
          have hvl : v.length ≤ 1048576 := Nat.le_trans (litP_len _ _ hv) HX.out.2
          rw [hv] at cl
          have cl3 : Calls Tryz.prog 68 #[.slice x.h.1 x.parts.length x.h.2] (wr.alloc (.cells #[.int .i64 x.pos, .slice x.h.1 x.parts.length x.h.2] 37)) fun e w' => e = .returned (.tuple #[.string ⟨v.toArray⟩, .bool true]) ∧ Below (wr.alloc (.cells #[.int .i64 x.pos, .slice x.h.1 x.parts.length x.h.2] 37)).heap.size (wr.alloc (.cells #[.int .i64 x.pos, .slice x.h.1 x.parts.length x.h.2] 37)) w' := cl
          have cc : ∀ W, Calls Tryz.prog 69 #[.string ⟨v.toArray⟩, .string ⟨#[61]⟩] W fun e w' => e = .returned (.tuple #[.string ⟨(cutE v).toArray⟩, .string ⟨(cutN v).2.1.toArray⟩, .bool (cutN v).2.2]) ∧ Below W.heap.size W w' := fun W => by rw [← cutN_1]; exact cut_calls v W (by unfold maxLen; omega)
          have cn := fun W => name_any (cutE v) W
          generalize (cutN v).2.1 = D1 at cc
          generalize (cutN v).2.2 = D2 at cc
          cases hn : nameB (cutE v) with
          | false =>
            have HO : Aside (opW x = []) := by show _ = _; unfold opW; rw [hv]; simp only [hn]; rfl
            rw [hn] at cn
            clear hv cl hn hvl
            go_wp2_with (first
              | (go_at_call 68; refine cl3.mono ?_; rintro e w2 ⟨rfl, hb2⟩)
              | (go_at_call 69; refine (cc _).mono ?_; rintro e w3 ⟨rfl, hb3⟩)
              | (go_at_call 27; refine (cn _).mono ?_; rintro e w4 ⟨rfl, hb4⟩))
            go_roundg g
            case measure => omega
            case rel =>
              have q2 := HWX.out.trans (hb2.mono HWX.out.size)
              have q3 := q2.trans (hb3.mono q2.size)
              exact ⟨k + 1, L1, by omega, by simp, by have := HI2.out; rw [HO.out] at this; exact this, own_up (own_up (own_up hro1 hb2) hb3) hb4, q3.trans (hb4.mono q3.size)⟩
          | true =>
            have HO : Aside (opW x = [cutE v]) := by show _ = _; unfold opW; rw [hv]; simp only [hn]; rfl
            rw [hn] at cn
            rw [HO.out] at hL1
            simp only [List.length_singleton] at hL1
            clear hv cl hn hvl
            go_wp2_with (first
              | (go_at_call 68; refine cl3.mono ?_; rintro e w2 ⟨rfl, hb2⟩)
              | (go_at_call 69; refine (cc _).mono ?_; rintro e w3 ⟨rfl, hb3⟩)
              | (go_at_call 27; refine (cn _).mono ?_; rintro e w4 ⟨rfl, hb4⟩; have q2 := HWX.out.trans (hb2.mono HWX.out.size); have q3 := q2.trans (hb3.mono q2.size); have q4 := q3.trans (hb4.mono q3.size); have hro4 := own_up (own_up (own_up hro1 hb2) hb3) hb4)
              | (at_builtin; go_loud (refine wpList_append_any _ rfl _ _ 32 rfl w.heap.size 9 i0 (.string ⟨#[]⟩) 1 16 Tryz.underlying32 hi hz0 hz1 hz2 rfl (by decide) _ _ _ rfl (hro4.alloc _) (some ⟨_, 0, none⟩) 1 1 (encS (cutE v)) rfl ⟨rfl, fun _ => ⟨_, rfl, one_at (by simp)⟩⟩ (oneS1 (cutE v)) (by unfold maxLen; omega) (by omega) (Nat.le_trans q4.size (by simp)) ?_; intro v5 w5 hown5 hgrow5 hat5)))
            go_roundg g
            case measure => omega
            case rel =>
              refine ⟨k + 1, L1 ++ [cutE v], by omega, by simp, by have := HI2.out; rw [HO.out] at this; show _ = _; rw [← this]; simp, ?_, (q4.alloc q4.size _).grown hgrow5 (Nat.le_trans q4.size (by simp)) (fun q h => (hro4.lt q h).1)⟩
              rw [List.length_append, List.flatMap_append]
              simpa using hown5
theorem oper_5 (n : NodeT) (w : World) (b o : Nat) (y : WordT) (r : List WordT) (t : List UInt8) (hw : n.words = y :: r) (hwh : n.wh.1 = some ⟨b, o, none⟩) (hS : OperS n w b o) (hr : Aside (operT n = r.flatMap opW)) (ht : litT y = some t) (e0 : (t == [101, 120, 112, 111, 114, 116]) = false) (e1 : (t == [103, 101, 116, 111, 112, 116, 115]) = false) (e2 : (t == [114, 101, 97, 100]) = false) (e3 : (t == [114, 101, 97, 100, 111, 110, 108, 121]) = false) (e4 : (t == [117, 110, 115, 101, 116]) = true) : Calls Tryz.prog 30 #[nodeV n] w (NamesP (operT n) w) := by
  obtain ⟨i0, hi, hz0, hz1, hz2⟩ := info_parts info9
  have HS : Aside (OperS n w b o) := hS
  have HB : Aside (Below w.heap.size w (boxN w n)) := (Below.refl _ _).alloc (Nat.le_refl _) _
  obtain ⟨z0, z1, z2, z3, z4, z5, z6, z7, z8⟩ := boxN_in (Below.refl (boxN w n).heap.size (boxN w n))
  have hl : ((n.words.length : Int) == 0) = false := by rw [hw]; simp <;> omega
  have hl0 : (0 : Int) < (n.words.length : Int) := by rw [hw]; simp <;> omega
  have hl1 : (1 : Int) ≤ (n.words.length : Int) := by omega
  have hlz : n.words.length ≤ 1048576 := by have h1 := wordsT_len n; have h2 := words_len n; have h3 := HS.out.2.1; omega
  obtain ⟨h1, h2⟩ : y ∈ wordsT n ∧ y ∈ n.words := ⟨by unfold wordsT; simp [hw], by simp [hw]⟩
  have HY : Aside (DeepP w y.h y.parts ∧ szPs y.parts ≤ 1048576) := ⟨hS.1.word h1, by have := word_sz h1; have := hS.2.1; omega⟩
  have hcp : n.words.length ≤ n.wh.2 := by obtain ⟨n, _, _, _, _, _, _, _, _, _, hc⟩ := hS.1; exact hc.2
  obtain ⟨b1, o1, he, hlt, hc⟩ := hS.2.2 0 y (by rw [hw]; rfl)
  injection he with he
  injection he with e1 e2
  subst e1; subst e2
  have c0 : w.cell? ⟨b, o, none⟩ = some (.int .i64 y.pos) := by have := hc 0 _ rfl; rwa [show o + 0 * 2 + 0 = o by omega] at this
  have c1 : w.cell? ⟨b, o + 1, none⟩ = some (.slice y.h.1 y.parts.length y.h.2) := by have := hc 1 _ rfl; rwa [show o + 0 * 2 + 1 = o + 1 by omega] at this
  have d0 : (boxN w n).cell? ⟨b, o, none⟩ = some (.int .i64 y.pos) := (HB.out.cell (p := ⟨b, o, none⟩) hlt).trans c0
  have d1 : (boxN w n).cell? ⟨b, o + 1, none⟩ = some (.slice y.h.1 y.parts.length y.h.2) := (HB.out.cell (p := ⟨b, o + 1, none⟩) hlt).trans c1
  have cl := plit_calls y (boxN w n) (HY.out.1.up HB.out) (Nat.le_trans (szPs_len _) HY.out.2)
  have HWR : Aside (n.words = y :: r) := hw
  rw [hwh] at z5
  clear c0 c1 hc hlt hw hS h1 h2
  rw [hr.out]
  have HZ : Aside (∀ W, Below (boxN w n).heap.size (boxN w n) W → W.cell? ⟨w.heap.size, 5, none⟩ = some (.slice (some ⟨b, o, none⟩) n.words.length n.wh.2)) := fun W h => by rw [← hwh]; exact (boxN_in h).2.2.2.2.2.1
  rw [ht] at cl
  have cl2 : Calls Tryz.prog 67 #[.agg #[.int .i64 y.pos, .slice y.h.1 y.parts.length y.h.2]] (boxN w n) fun e w' => e = .returned (.tuple #[.string ⟨t.toArray⟩, .bool true]) ∧ Below (boxN w n).heap.size (boxN w n) w' := cl
  clear cl
  simp only [boxN, hwh] at d0 d1 cl2 HB HZ
  clear ht
  have hRl : Aside ((r.flatMap opW).length ≤ 1048576) := by
    have h2 := HS.out.2.1
    have h3 := wordsT_len n
    have h4 := words_len n
    have h5 : ∀ l : List WordT, (l.flatMap opW).length ≤ l.length := by
      intro l
      induction l with
      | nil => simp
      | cons x l ih => rw [List.flatMap_cons, List.length_append, List.length_cons]; have := opW_len x; omega
    have h6 := h5 r
    have h7 : n.words.length = r.length + 1 := by rw [HWR.out]; rfl
    show _ ≤ _
    omega
  obtain ⟨m, hm0⟩ : ∃ m, m = n.words.length - 1 := ⟨_, rfl⟩
  have hm1 : n.words.length - 1 = m := hm0.symm
  have HM : Aside (m = r.length) := by show _ = _; rw [hm0, HWR.out]; rfl
  clear hm0
  go_enter Tryz.func30, Tryz.ntmps30
  go_wp2_with (go_at_call 67; refine cl2.mono ?_; rintro e w1 ⟨rfl, hb1⟩; have x5 := HZ.out w1 hb1; have HWB : Aside (Below w.heap.size w w1) := HB.out.trans (hb1.mono HB.out.size))
  case inl =>
    have hm2 : m = 0 := by omega
    subst hm2
    have hrn : Aside (r.flatMap opW = []) := by show _ = _; rw [List.eq_nil_of_length_eq_zero HM.out.symm]; rfl
    clear d0 d1 hl hl0 cl2 z0 z1 z2 z3 z4 z5 z6 z7 z8 x5 hm1
    go_loopg [5, 36] 0 (fun g sn si wx => sn = .slice none 0 0 ∧ si = .int .i64 0 ∧ w1 = wx)
    case atStart => exact ⟨rfl, rfl, rfl⟩
    case round =>
      obtain ⟨rfl, rfl, rfl⟩ := hrel
      go_wp2
      go_ret
      rw [hrn.out]
      exact ⟨none, 0, 0, rfl, ⟨rfl, fun i x h => by simp at h, fun ad h => by cases h⟩, HWB.out⟩
  case inr =>
    have hmz : m ≤ 1048576 := by omega
    clear d0 d1 hl hl0 cl2 z0 z1 z2 z3 z4 z5 z6 z7 z8 x5 hm1 hcp
    go_loopg [5, 36] m (fun g sn si wx => ∃ (k : Nat) (L1 : List (List UInt8)), k + g = m ∧ si = .int .i64 k ∧ Aside (L1 ++ (r.drop k).flatMap opW = r.flatMap opW) ∧ wx.ownsRow w.heap.size 9 1 sn L1.length (L1.flatMap encS) ∧ Below w.heap.size w wx)
    case atStart => exact ⟨0, [], by omega, rfl, rfl, World.ownsRow_nil _ _ _ _, HWB.out⟩
    case round =>
      obtain ⟨k, L1, hkg, rfl, HI, hro, hbo⟩ := hrel
      cases gk with
      | zero =>
        have hkz : ¬ (k : Int) < (m : Int) := by omega
        have ha : Aside (L1 = r.flatMap opW) := by show _ = _; rw [← HI.out, List.drop_eq_nil_of_le (by have := HM.out; omega)]; simp
        obtain ⟨A, c, rfl, hrd, hbk⟩ := rdS_of_row lenS rfl hro
        have HRD : Aside (RdS 1 encS wr A L1 ∧ ∀ ad, A = some ad → w.heap.size ≤ ad.block) := ⟨hrd, hbk⟩
        clear hrd hbk hro
        go_wp2
        go_ret
        rw [← ha.out]
        exact ⟨A, _, c, rfl, ⟨rfl, HRD.out⟩, hbo⟩
      | succ g =>
        have hk0 : (0 : Int) ≤ (k : Int) := by omega
        have hkz : (k : Int) < (m : Int) := by omega
        have hk63 : (k : Int) + 1 ≤ 9223372036854775807 := by omega
        obtain ⟨x, hx⟩ : ∃ x, r[k]? = some x := ⟨_, List.getElem?_eq_getElem (by have := HM.out; omega)⟩
        have hwx : n.words[k + 1]? = some x := by rw [HWR.out]; exact hx
        obtain ⟨b1, o1, he, hlt, hc⟩ := (HS.out.2.2.up hbo) (k + 1) x hwx
        injection he with he
        injection he with e1 e2
        subst e1; subst e2
        have c0 : wr.cell? ⟨b, o + 2 + k * 2, none⟩ = some (.int .i64 x.pos) := by have := hc 0 _ rfl; rwa [show o + (k + 1) * 2 + 0 = o + 2 + k * 2 by omega] at this
        have c1 : wr.cell? ⟨b, o + 2 + k * 2 + 1, none⟩ = some (.slice x.h.1 x.parts.length x.h.2) := by have := hc 1 _ rfl; rwa [show o + (k + 1) * 2 + 1 = o + 2 + k * 2 + 1 by omega] at this
        have hdr : Aside (r.drop k = x :: r.drop (k + 1)) := Lib.drop_at hx
        have HI2 : Aside (L1 ++ (opW x ++ (r.drop (k + 1)).flatMap opW) = r.flatMap opW) := by have h := HI.out; rw [hdr.out, List.flatMap_cons] at h; exact h
        have hxw : x ∈ wordsT n := by unfold wordsT; have := List.mem_of_getElem? hwx; simp [this]
        have HX : Aside (DeepP w x.h x.parts ∧ szPs x.parts ≤ 1048576) := ⟨HS.out.1.word hxw, by have := word_sz hxw; have := HS.out.2.1; omega⟩
        have HBX : Aside (Below wr.heap.size wr (wr.alloc (.cells #[.int .i64 x.pos, .slice x.h.1 x.parts.length x.h.2] 37))) := (Below.refl _ _).alloc (Nat.le_refl _) _
        have HWX : Aside (Below w.heap.size w (wr.alloc (.cells #[.int .i64 x.pos, .slice x.h.1 x.parts.length x.h.2] 37))) := hbo.trans (HBX.out.mono hbo.size)
        have cl := plitp_calls x.parts x.h.1 x.h.2 (wr.alloc (.cells #[.int .i64 x.pos, .slice x.h.1 x.parts.length x.h.2] 37)) HX.out.2 (HX.out.1.up HWX.out)
        have hro1 := hro.alloc (Obj.cells #[.int .i64 x.pos, .slice x.h.1 x.parts.length x.h.2] 37)
        have hL1 : L1.length + (opW x).length ≤ 1048576 := by have h1 := HI2.out; have h2 := hRl.out; rw [← h1] at h2; simp only [List.length_append] at h2; omega
        clear hc hlt hx hwx hdr HI hxw
        cases hv : litP x.parts with
        | none =>
          have HO : Aside (opW x = []) := by show _ = _; unfold opW; rw [hv]
          rw [hv] at cl
          have cl3 : Calls Tryz.prog 68 #[.slice x.h.1 x.parts.length x.h.2] (wr.alloc (.cells #[.int .i64 x.pos, .slice x.h.1 x.parts.length x.h.2] 37)) fun e w' => e = .returned (.tuple #[.string ⟨#[]⟩, .bool false]) ∧ Below (wr.alloc (.cells #[.int .i64 x.pos, .slice x.h.1 x.parts.length x.h.2] 37)).heap.size (wr.alloc (.cells #[.int .i64 x.pos, .slice x.h.1 x.parts.length x.h.2] 37)) w' := cl
          have cc : ∀ W, Calls Tryz.prog 69 #[.string ⟨#[]⟩, .string ⟨#[61]⟩] W fun e w' => e = .returned (.tuple #[.string ⟨(cutN []).1.toArray⟩, .string ⟨(cutN []).2.1.toArray⟩, .bool (cutN []).2.2]) ∧ Below W.heap.size W w' := fun W => cut_calls [] W (by unfold maxLen; simp)
          clear hv cl
          generalize cutN [] = D at cc
          go_wp2_with (first
            | (go_at_call 68; refine cl3.mono ?_; rintro e w2 ⟨rfl, hb2⟩)
            | (go_at_call 69; refine (cc _).mono ?_; rintro e w3 ⟨rfl, hb3⟩))
          go_roundg g
          case measure => omega
          case rel => exact ⟨k + 1, L1, by omega, by simp, by have := HI2.out; rw [HO.out] at this; exact this, own_up (own_up hro1 hb2) hb3, (HWX.out.trans (hb2.mono HWX.out.size)).trans (hb3.mono (HWX.out.trans (hb2.mono HWX.out.size)).size)⟩
        | some v =>
          have hvl : v.length ≤ 1048576 := Nat.le_trans (litP_len _ _ hv) HX.out.2
          rw [hv] at cl
          have cl3 : Calls Tryz.prog 68 #[.slice x.h.1 x.parts.length x.h.2] (wr.alloc (.cells #[.int .i64 x.pos, .slice x.h.1 x.parts.length x.h.2] 37)) fun e w' => e = .returned (.tuple #[.string ⟨v.toArray⟩, .bool true]) ∧ Below (wr.alloc (.cells #[.int .i64 x.pos, .slice x.h.1 x.parts.length x.h.2] 37)).heap.size (wr.alloc (.cells #[.int .i64 x.pos, .slice x.h.1 x.parts.length x.h.2] 37)) w' := cl
          have cc : ∀ W, Calls Tryz.prog 69 #[.string ⟨v.toArray⟩, .string ⟨#[61]⟩] W fun e w' => e = .returned (.tuple #[.string ⟨(cutE v).toArray⟩, .string ⟨(cutN v).2.1.toArray⟩, .bool (cutN v).2.2]) ∧ Below W.heap.size W w' := fun W => by rw [← cutN_1]; exact cut_calls v W (by unfold maxLen; omega)
          have cn := fun W => name_any (cutE v) W
          generalize (cutN v).2.1 = D1 at cc
          generalize (cutN v).2.2 = D2 at cc
          cases hn : nameB (cutE v) with
          | false =>
            have HO : Aside (opW x = []) := by show _ = _; unfold opW; rw [hv]; simp only [hn]; rfl
            rw [hn] at cn
            clear hv cl hn hvl
            go_wp2_with (first
              | (go_at_call 68; refine cl3.mono ?_; rintro e w2 ⟨rfl, hb2⟩)
              | (go_at_call 69; refine (cc _).mono ?_; rintro e w3 ⟨rfl, hb3⟩)
              | (go_at_call 27; refine (cn _).mono ?_; rintro e w4 ⟨rfl, hb4⟩))
            go_roundg g
            case measure => omega
            case rel =>
              have q2 := HWX.out.trans (hb2.mono HWX.out.size)
              have q3 := q2.trans (hb3.mono q2.size)
              exact ⟨k + 1, L1, by omega, by simp, by have := HI2.out; rw [HO.out] at this; exact this, own_up (own_up (own_up hro1 hb2) hb3) hb4, q3.trans (hb4.mono q3.size)⟩
          | true =>
            have HO : Aside (opW x = [cutE v]) := by show _ = _; unfold opW; rw [hv]; simp only [hn]; rfl
            rw [hn] at cn
            rw [HO.out] at hL1
            simp only [List.length_singleton] at hL1
            clear hv cl hn hvl
            go_wp2_with (first
              | (go_at_call 68; refine cl3.mono ?_; rintro e w2 ⟨rfl, hb2⟩)
              | (go_at_call 69; refine (cc _).mono ?_; rintro e w3 ⟨rfl, hb3⟩)
              | (go_at_call 27; refine (cn _).mono ?_; rintro e w4 ⟨rfl, hb4⟩; have q2 := HWX.out.trans (hb2.mono HWX.out.size); have q3 := q2.trans (hb3.mono q2.size); have q4 := q3.trans (hb4.mono q3.size); have hro4 := own_up (own_up (own_up hro1 hb2) hb3) hb4)
              | (at_builtin; go_loud (refine wpList_append_any _ rfl _ _ 32 rfl w.heap.size 9 i0 (.string ⟨#[]⟩) 1 16 Tryz.underlying32 hi hz0 hz1 hz2 rfl (by decide) _ _ _ rfl (hro4.alloc _) (some ⟨_, 0, none⟩) 1 1 (encS (cutE v)) rfl ⟨rfl, fun _ => ⟨_, rfl, one_at (by simp)⟩⟩ (oneS1 (cutE v)) (by unfold maxLen; omega) (by omega) (Nat.le_trans q4.size (by simp)) ?_; intro v5 w5 hown5 hgrow5 hat5)))
            go_roundg g
            case measure => omega
            case rel =>
              refine ⟨k + 1, L1 ++ [cutE v], by omega, by simp, by have := HI2.out; rw [HO.out] at this; show _ = _; rw [← this]; simp, ?_, (q4.alloc q4.size _).grown hgrow5 (Nat.le_trans q4.size (by simp)) (fun q h => (hro4.lt q h).1)⟩
              rw [List.length_append, List.flatMap_append]
              simpa using hown5
theorem oper_none (n : NodeT) (w : World) (b o : Nat) (y : WordT) (r : List WordT) (hw : n.words = y :: r) (hwh : n.wh.1 = some ⟨b, o, none⟩) (hS : OperS n w b o) (hr : Aside (operT n = [])) (ht : litT y = none) : Calls Tryz.prog 30 #[nodeV n] w (NamesP (operT n) w) := by
  obtain ⟨i0, hi, hz0, hz1, hz2⟩ := info_parts info9
  have HS : Aside (OperS n w b o) := hS
  have HB : Aside (Below w.heap.size w (boxN w n)) := (Below.refl _ _).alloc (Nat.le_refl _) _
  obtain ⟨z0, z1, z2, z3, z4, z5, z6, z7, z8⟩ := boxN_in (Below.refl (boxN w n).heap.size (boxN w n))
  have hl : ((n.words.length : Int) == 0) = false := by rw [hw]; simp <;> omega
  have hl0 : (0 : Int) < (n.words.length : Int) := by rw [hw]; simp <;> omega
  have hl1 : (1 : Int) ≤ (n.words.length : Int) := by omega
  have hlz : n.words.length ≤ 1048576 := by have h1 := wordsT_len n; have h2 := words_len n; have h3 := HS.out.2.1; omega
  obtain ⟨h1, h2⟩ : y ∈ wordsT n ∧ y ∈ n.words := ⟨by unfold wordsT; simp [hw], by simp [hw]⟩
  have HY : Aside (DeepP w y.h y.parts ∧ szPs y.parts ≤ 1048576) := ⟨hS.1.word h1, by have := word_sz h1; have := hS.2.1; omega⟩
  have hcp : n.words.length ≤ n.wh.2 := by obtain ⟨n, _, _, _, _, _, _, _, _, _, hc⟩ := hS.1; exact hc.2
  obtain ⟨b1, o1, he, hlt, hc⟩ := hS.2.2 0 y (by rw [hw]; rfl)
  injection he with he
  injection he with e1 e2
  subst e1; subst e2
  have c0 : w.cell? ⟨b, o, none⟩ = some (.int .i64 y.pos) := by have := hc 0 _ rfl; rwa [show o + 0 * 2 + 0 = o by omega] at this
  have c1 : w.cell? ⟨b, o + 1, none⟩ = some (.slice y.h.1 y.parts.length y.h.2) := by have := hc 1 _ rfl; rwa [show o + 0 * 2 + 1 = o + 1 by omega] at this
  have d0 : (boxN w n).cell? ⟨b, o, none⟩ = some (.int .i64 y.pos) := (HB.out.cell (p := ⟨b, o, none⟩) hlt).trans c0
  have d1 : (boxN w n).cell? ⟨b, o + 1, none⟩ = some (.slice y.h.1 y.parts.length y.h.2) := (HB.out.cell (p := ⟨b, o + 1, none⟩) hlt).trans c1
  have cl := plit_calls y (boxN w n) (HY.out.1.up HB.out) (Nat.le_trans (szPs_len _) HY.out.2)
  have HWR : Aside (n.words = y :: r) := hw
  rw [hwh] at z5
  clear c0 c1 hc hlt hw hS h1 h2
  rw [hr.out]
  rw [ht] at cl
  have cl2 : Calls Tryz.prog 67 #[.agg #[.int .i64 y.pos, .slice y.h.1 y.parts.length y.h.2]] (boxN w n) fun e w' => e = .returned (.tuple #[.string ⟨#[]⟩, .bool false]) ∧ Below (boxN w n).heap.size (boxN w n) w' := cl
  clear cl
  simp only [boxN, hwh] at d0 d1 cl2 HB
  clear ht
  go_enter Tryz.func30, Tryz.ntmps30
  go_wp2_with (go_at_call 67; refine cl2.mono ?_; rintro e w' ⟨rfl, hb⟩)
  go_ret
  exact ⟨none, 0, 0, rfl, ⟨rfl, fun i x h => by simp at h, fun ad h => by cases h⟩, HB.out.trans (hb.mono HB.out.size)⟩
theorem oper_no (n : NodeT) (w : World) (b o : Nat) (y : WordT) (r : List WordT) (hw : n.words = y :: r) (hwh : n.wh.1 = some ⟨b, o, none⟩) (hS : OperS n w b o) (hr : Aside (operT n = [])) (t : List UInt8) (ht : litT y = some t) (e0 : (t == [101, 120, 112, 111, 114, 116]) = false) (e1 : (t == [103, 101, 116, 111, 112, 116, 115]) = false) (e2 : (t == [114, 101, 97, 100]) = false) (e3 : (t == [114, 101, 97, 100, 111, 110, 108, 121]) = false) (e4 : (t == [117, 110, 115, 101, 116]) = false) : Calls Tryz.prog 30 #[nodeV n] w (NamesP (operT n) w) := by
  obtain ⟨i0, hi, hz0, hz1, hz2⟩ := info_parts info9
  have HS : Aside (OperS n w b o) := hS
  have HB : Aside (Below w.heap.size w (boxN w n)) := (Below.refl _ _).alloc (Nat.le_refl _) _
  obtain ⟨z0, z1, z2, z3, z4, z5, z6, z7, z8⟩ := boxN_in (Below.refl (boxN w n).heap.size (boxN w n))
  have hl : ((n.words.length : Int) == 0) = false := by rw [hw]; simp <;> omega
  have hl0 : (0 : Int) < (n.words.length : Int) := by rw [hw]; simp <;> omega
  have hl1 : (1 : Int) ≤ (n.words.length : Int) := by omega
  have hlz : n.words.length ≤ 1048576 := by have h1 := wordsT_len n; have h2 := words_len n; have h3 := HS.out.2.1; omega
  obtain ⟨h1, h2⟩ : y ∈ wordsT n ∧ y ∈ n.words := ⟨by unfold wordsT; simp [hw], by simp [hw]⟩
  have HY : Aside (DeepP w y.h y.parts ∧ szPs y.parts ≤ 1048576) := ⟨hS.1.word h1, by have := word_sz h1; have := hS.2.1; omega⟩
  have hcp : n.words.length ≤ n.wh.2 := by obtain ⟨n, _, _, _, _, _, _, _, _, _, hc⟩ := hS.1; exact hc.2
  obtain ⟨b1, o1, he, hlt, hc⟩ := hS.2.2 0 y (by rw [hw]; rfl)
  injection he with he
  injection he with e1 e2
  subst e1; subst e2
  have c0 : w.cell? ⟨b, o, none⟩ = some (.int .i64 y.pos) := by have := hc 0 _ rfl; rwa [show o + 0 * 2 + 0 = o by omega] at this
  have c1 : w.cell? ⟨b, o + 1, none⟩ = some (.slice y.h.1 y.parts.length y.h.2) := by have := hc 1 _ rfl; rwa [show o + 0 * 2 + 1 = o + 1 by omega] at this
  have d0 : (boxN w n).cell? ⟨b, o, none⟩ = some (.int .i64 y.pos) := (HB.out.cell (p := ⟨b, o, none⟩) hlt).trans c0
  have d1 : (boxN w n).cell? ⟨b, o + 1, none⟩ = some (.slice y.h.1 y.parts.length y.h.2) := (HB.out.cell (p := ⟨b, o + 1, none⟩) hlt).trans c1
  have cl := plit_calls y (boxN w n) (HY.out.1.up HB.out) (Nat.le_trans (szPs_len _) HY.out.2)
  have HWR : Aside (n.words = y :: r) := hw
  rw [hwh] at z5
  clear c0 c1 hc hlt hw hS h1 h2
  rw [hr.out]
  rw [ht] at cl
  have cl2 : Calls Tryz.prog 67 #[.agg #[.int .i64 y.pos, .slice y.h.1 y.parts.length y.h.2]] (boxN w n) fun e w' => e = .returned (.tuple #[.string ⟨t.toArray⟩, .bool true]) ∧ Below (boxN w n).heap.size (boxN w n) w' := cl
  clear cl
  simp only [boxN, hwh] at d0 d1 cl2 HB
  clear ht
  go_enter Tryz.func30, Tryz.ntmps30
  go_wp2_with (go_at_call 67; refine cl2.mono ?_; rintro e w' ⟨rfl, hb⟩)
  go_ret
  exact ⟨none, 0, 0, rfl, ⟨rfl, fun i x h => by simp at h, fun ad h => by cases h⟩, HB.out.trans (hb.mono HB.out.size)⟩
theorem oper_calls (n : NodeT) (w : World) (hd : DeepN w n) (hs : szN n ≤ 1048576) : Calls Tryz.prog 30 #[nodeV n] w (NamesP (operT n) w) := by
  cases hw : n.words with
  | nil =>
    have h : operT n = [] := by unfold operT; rw [hw]
    rw [h]; exact oper_nil n w hw
  | cons y r =>
    have hd2 := hd
    obtain ⟨n, _, hw2, _, _, _, _, _, _, _, _⟩ := hd2
    obtain ⟨b, o, hwh, _⟩ := hw2.rd 0 y (by rw [hw]; rfl)
    have hS : OperS n w b o := ⟨hd, hs, by rw [← hwh]; exact hw2.rd⟩
    have hr : operT n = if (litT y).any takesL = true then r.flatMap opW else [] := by unfold operT; rw [hw]; rfl
    cases ht : litT y with
    | none => exact oper_none n w b o y r hw hwh hS (by show _ = _; rw [hr, ht]; rfl) ht
    | some t =>
      have hr2 : operT n = if takesL t = true then r.flatMap opW else [] := by rw [hr, ht]; rfl
      cases e0 : t == [101, 120, 112, 111, 114, 116]
      rotate_left
      · exact oper_1 n w b o y r t hw hwh hS (by show _ = _; rw [hr2, if_pos (by unfold takesL; simp only [e0]; simp)]) ht e0
      cases e1 : t == [103, 101, 116, 111, 112, 116, 115]
      rotate_left
      · exact oper_2 n w b o y r t hw hwh hS (by show _ = _; rw [hr2, if_pos (by unfold takesL; simp only [e0, e1]; simp)]) ht e0 e1
      cases e2 : t == [114, 101, 97, 100]
      rotate_left
      · exact oper_3 n w b o y r t hw hwh hS (by show _ = _; rw [hr2, if_pos (by unfold takesL; simp only [e0, e1, e2]; simp)]) ht e0 e1 e2
      cases e3 : t == [114, 101, 97, 100, 111, 110, 108, 121]
      rotate_left
      · exact oper_4 n w b o y r t hw hwh hS (by show _ = _; rw [hr2, if_pos (by unfold takesL; simp only [e0, e1, e2, e3]; simp)]) ht e0 e1 e2 e3
      cases e4 : t == [117, 110, 115, 101, 116]
      rotate_left
      · exact oper_5 n w b o y r t hw hwh hS (by show _ = _; rw [hr2, if_pos (by unfold takesL; simp only [e0, e1, e2, e3, e4]; simp)]) ht e0 e1 e2 e3 e4
      exact oper_no n w b o y r hw hwh hS (by show _ = _; rw [hr2, if_neg (by unfold takesL; simp only [e0, e1, e2, e3, e4]; simp)]) t ht e0 e1 e2 e3 e4
end Go.Proofs.YtfdhkchglacccaaGreatDoor
