/- The reference: Assigned. No statement is proved here. -/
import Derived.Test.YtfdhkchglacccaaGreatDoorSnNS
set_option linter.all false
/-! the reference: Assigned, the plain part -/
namespace Go.Proofs.YtfdhkchglacccaaGreatDoor
open Go Go.RowKit Go.Mir Go.Syn
/-- a list under way: what is still to be added -/
def LI (R rest : List (List UInt8)) (AL : Option Addr) (m c : Nat) (L : List (List UInt8)) (wx : World) : Prop := m = L.length ∧ m ≤ c ∧ RdS 1 encS wx AL L ∧ addAll rest L = R ∧ L.length + rest.length ≤ 1048576
theorem LI.up {R rest : List (List UInt8)} {AL : Option Addr} {m c : Nat} {L : List (List UInt8)} {w w' : World} (h : LI R rest AL m c L w) (hb : Below w.heap.size w w') : LI R rest AL m c L w' := ⟨h.1, h.2.1, h.2.2.1.up hb, h.2.2.2⟩
theorem LI.sz {R rest : List (List UInt8)} {AL : Option Addr} {m c : Nat} {L : List (List UInt8)} {w : World} (h : LI R rest AL m c L w) : L.length ≤ 1048576 := by have := h.2.2.2.2; omega
theorem LI.szx {R x rest : List (List UInt8)} {AL : Option Addr} {m c : Nat} {L : List (List UInt8)} {w : World} (h : LI R (x ++ rest) AL m c L w) : L.length + x.length ≤ 1048576 := by have := h.2.2.2.2; simp only [List.length_append] at this; omega
theorem LI.step {R x rest : List (List UInt8)} {AL : Option Addr} {m c : Nat} {L : List (List UInt8)} {w : World} (h : LI R (x ++ rest) AL m c L w) {A5 : Option Addr} {m5 c5 : Nat} {w5 : World} (H : m5 = (addAll x L).length ∧ m5 ≤ c5 ∧ RdS 1 encS w5 A5 (addAll x L)) : LI R rest A5 m5 c5 (addAll x L) w5 := by
  obtain ⟨_, _, _, h4, h5⟩ := h
  rw [addAll_app] at h4
  have := addAll_len x L
  simp only [List.length_append] at h5
  exact ⟨H.1, H.2.1, H.2.2, h4, by omega⟩
theorem LI.end_ {R : List (List UInt8)} {AL : Option Addr} {m c : Nat} {L : List (List UInt8)} {w : World} (h : LI R [] AL m c L w) : L = R := h.2.2.2.1
/-- what one operand gives -/
def opW (x : WordT) : List (List UInt8) := match litP x.parts with
  | some v => if nameB (cutE v) = true then [cutE v] else []
  | none => []
def opsN (n : NodeT) : List (List UInt8) := if takesN n = true then (n.words.drop 1).flatMap opW else []
theorem opsN_eq (n : NodeT) : (if n.kind = 1 then operT n else []) = opsN n := by
  unfold opsN takesN operT
  by_cases hk : n.kind = 1
  · rw [if_pos hk, decide_eq_true hk]
    cases n.words with
    | nil => simp
    | cons x r =>
      simp only [Bool.true_and, List.drop_succ_cons, List.drop_zero]
      rfl
  · rw [if_neg hk, decide_eq_false hk]; simp
theorem asgN_eq (N : Nat) (n : NodeT) : asgN N n = n.assigns.map (·.name) ++ ((if n.kind = 13 then [n.name] else []) ++ (WBack N asgF (wordsT n) ++ opsN n)) := by
  unfold asgN WBack
  rw [opsN_eq]
theorem opW_len (x : WordT) : (opW x).length ≤ 1 := by
  unfold opW
  split
  · split <;> simp
  · simp
theorem opsN_len (n : NodeT) : (opsN n).length ≤ n.words.length := by
  unfold opsN
  split
  · have h : ∀ l : List WordT, (l.flatMap opW).length ≤ l.length := by
      intro l
      induction l with
      | nil => simp
      | cons x l ih => rw [List.flatMap_cons, List.length_append, List.length_cons]; have := opW_len x; omega
    have h1 := h (n.words.drop 1)
    rw [List.length_drop] at h1
    omega
  · simp
theorem asg_len : ∀ (N : Nat) (l : List PartT), (calcL l).length + (asgF N l).length ≤ szPs l
  | N, [] => by rw [asg_nil]; simp [calcL]
  | 0, p :: l => by
    have h1 := asg_len 0 l
    have h2 : calcL (p :: l) = (if p.kind = 1 then nmsT p.text else []) ++ calcL l := rfl
    have h3 : szPs (p :: l) = szP p + szPs l := rfl
    have h4 := nms_len p.text
    rw [h2, h3, szP_eq, List.length_append]
    have h5 : asgF 0 (p :: l) = [] := rfl
    rw [h5]
    split
    · simp only [List.length_nil]; omega
    · simp only [List.length_nil]; omega
  | N + 1, p :: l => by
    have h1 := asg_len (N + 1) l
    have h6 := asg_len N p.parts
    have h2 : calcL (p :: l) = (if p.kind = 1 then nmsT p.text else []) ++ calcL l := rfl
    have h3 : szPs (p :: l) = szP p + szPs l := rfl
    have h4 := nms_len p.text
    have h7 : (asgOwn p).length ≤ 1 + (calcL p.parts).length ∧ (p.kind ≠ 4 → p.kind ≠ 6 → (asgOwn p).length = 0) := by
      unfold asgOwn
      rw [calcN_eq]
      refine ⟨?_, fun k4 k6 => ?_⟩
      · by_cases a : p.kind = 4 ∧ p.op = 2 ∧ nameB p.text = true
        · by_cases b : p.kind = 6 ∧ setsB p = true
          · rw [if_pos a, if_pos b]; simp only [List.length_append, List.length_singleton]; omega
          · rw [if_pos a, if_neg b]; simp only [List.length_append, List.length_singleton, List.length_nil]; omega
        · by_cases b : p.kind = 6 ∧ setsB p = true
          · rw [if_neg a, if_pos b]; simp only [List.length_append, List.length_nil]; omega
          · rw [if_neg a, if_neg b]; simp only [List.length_append, List.length_nil]; omega
      · rw [if_neg (fun h => k4 h.1), if_neg (fun h => k6 h.1)]; rfl
    have h8 : szP p = p.text.length + szPs p.parts + 1 ∨ True := .inr trivial
    rw [h2, h3, szP_eq, asgF_cons]
    simp only [List.length_append]
    by_cases k1 : p.kind = 1
    · have := h7.2 (by rw [k1]; decide) (by rw [k1]; decide)
      rw [if_pos k1]; omega
    · rw [if_neg k1]
      simp only [List.length_nil]; omega
theorem asgW_len (M : Nat) (l : List WordT) : (l.flatMap fun w => asgF M w.parts).length + l.length ≤ (l.map szW).sum := by
  induction l with
  | nil => simp
  | cons x l ih =>
    rw [List.flatMap_cons, List.length_append, List.map_cons, List.sum_cons, List.length_cons]
    have h1 := asg_len M x.parts
    have h2 : szW x = szPs x.parts + 1 := rfl
    omega
theorem wordsT_len (n : NodeT) : n.assigns.length + n.words.length ≤ (wordsT n).length := by
  unfold wordsT
  simp only [List.length_append, List.length_map]
  omega
theorem asgNs_len (M : Nat) : ∀ (N : Nat) (n : NodeT), ((walkF N n).flatMap (asgN M)).length ≤ szN n
  | 0, n => by simp [walkF]
  | N + 1, n => by
    have h1 := both_sum n
    have h2 : (asgN M n).length ≤ ((wordsT n).map szW).sum + 1 := by
      rw [asgN_eq]
      have a1 := asgW_len M (wordsT n)
      have a2 := wordsT_len n
      have a3 := opsN_len n
      unfold WBack
      simp only [List.length_append, List.length_map]
      split
      · simp only [List.length_singleton]; omega
      · simp only [List.length_nil]; omega
    have h3 : (((kidsT n).flatMap (walkF N)).flatMap (asgN M)).length ≤ ((kidsT n).map szN).sum := by
      induction kidsT n with
      | nil => simp
      | cons a l ih =>
        rw [List.flatMap_cons, List.flatMap_append, List.length_append, List.map_cons, List.sum_cons]
        have := asgNs_len M N a
        omega
    rw [walkF, List.flatMap_cons, List.length_append]
    omega
theorem litP_len : ∀ (l : List PartT) (v : List UInt8), litP l = some v → v.length ≤ szPs l
  | [], v, h => by
    have : v = [] := by simpa [litP] using h.symm
    rw [this]; exact Nat.zero_le _
  | p :: l, v, h => by
    have h3 : szPs (p :: l) = szP p + szPs l := rfl
    have h5 : szP p = szP p := rfl
    rw [szP_eq] at h5
    rw [h3, szP_eq]
    unfold litP at h
    split at h
    · cases hl : litP l with
      | none => rw [hl] at h; cases h
      | some t =>
        rw [hl] at h
        injection h with h
        rw [← h, List.length_append]
        have := litP_len l t hl
        omega
    · split at h
      · split at h
        · cases hl : litP l with
          | none => rw [hl] at h; cases h
          | some t =>
            rw [hl] at h
            injection h with h
            rw [← h, List.length_append]
            have := litP_len l t hl
            have h6 : ∀ l : List PartT, (l.flatMap (·.text)).length ≤ szPs l := by
              intro l
              induction l with
              | nil => exact Nat.zero_le _
              | cons q l ih =>
                have h7 : szPs (q :: l) = szP q + szPs l := rfl
                rw [List.flatMap_cons, List.length_append, h7, szP_eq]; omega
            have := h6 p.parts
            omega
        · cases h
      · cases h
theorem nineN {W : World} {b o k : Nat} {x : NodeT} (h : ∀ j u, (encN x)[j]? = some u → W.cell? ⟨b, o + k * 9 + j, none⟩ = some u) :
    W.cell? ⟨b, o + k * 9, none⟩ = some (.int .i64 x.kind) ∧ W.cell? ⟨b, o + k * 9 + 1, none⟩ = some (.int .i64 x.pos) ∧ W.cell? ⟨b, o + k * 9 + 2, none⟩ = some (.string ⟨x.name.toArray⟩) ∧ W.cell? ⟨b, o + k * 9 + 3, none⟩ = some (.bool x.all) ∧
    W.cell? ⟨b, o + k * 9 + 4, none⟩ = some (.slice x.ah.1 x.assigns.length x.ah.2) ∧ W.cell? ⟨b, o + k * 9 + 5, none⟩ = some (.slice x.wh.1 x.words.length x.wh.2) ∧ W.cell? ⟨b, o + k * 9 + 6, none⟩ = some (.slice x.rh.1 x.redirs.length x.rh.2) ∧ W.cell? ⟨b, o + k * 9 + 7, none⟩ = some (.slice x.kh.1 x.kids.length x.kh.2) ∧ W.cell? ⟨b, o + k * 9 + 8, none⟩ = some (.slice x.ih.1 x.items.length x.ih.2) :=
  ⟨h 0 _ rfl, h 1 _ rfl, h 2 _ rfl, h 3 _ rfl, h 4 _ rfl, h 5 _ rfl, h 6 _ rfl, h 7 _ rfl, h 8 _ rfl⟩
theorem opsN_no {x : NodeT} (h : takesN x = false) : opsN x = [] := by unfold opsN; rw [h]; rfl
theorem opsN_yes {x : NodeT} (h : takesN x = true) : opsN x = (x.words.drop 1).flatMap opW := by unfold opsN; rw [h]; rfl
theorem cutE_len (t : List UInt8) : (cutE t).length ≤ t.length := (List.takeWhile_prefix _).length_le
end Go.Proofs.YtfdhkchglacccaaGreatDoor

/-! the reference: Assigned -/
namespace Go.Proofs.YtfdhkchglacccaaGreatDoor
open Go Go.RowKit Go.Mir Go.Syn
set_option maxHeartbeats 1000000
set_option maxRecDepth 100000
theorem asgs_calls (N : Nat) (n : NodeT) (w : World) (hN : szN n ≤ N) (hM : N ≤ 1048576) (hd : DeepN w n) :
    Calls Tryz.prog 8 #[nodeV n] w (ListP (addAll ((walkF N n).flatMap (asgN N)) []) w) := by
  obtain ⟨R, hR0⟩ : ∃ R, R = addAll ((walkF N n).flatMap (asgN N)) [] := ⟨_, rfl⟩
  rw [← hR0]
  have HW : Aside (DeepN w n ∧ szN n ≤ N ∧ N ≤ 1048576 ∧ addAll ((walkF N n).flatMap (asgN N)) [] = R ∧ ((walkF N n).flatMap (asgN N)).length ≤ 1048576) := ⟨hd, hN, hM, hR0.symm, Nat.le_trans (asgNs_len N N n) (Nat.le_trans hN hM)⟩
  have hlen : Aside ((walkF N n).length ≤ 1048576) := by show _ ≤ _; have := walk_len N n; omega
  have hwk : Aside (∀ W, Below w.heap.size w W → Calls Tryz.prog 33 #[nodeV n] W (WalkP N n W)) := fun W h => walk_calls N n W HW.out.2.1 HW.out.2.2.1 (HW.out.1.up h)
  clear hd hN hM hR0
  go_enter Tryz.func8, Tryz.ntmps8
  go_wp2_with (go_at_call 33; refine (hwk.out _ (by first | exact Below.refl _ _ | exact (Below.refl _ _).alloc (Nat.le_refl _) _)).mono ?_; rintro e w1 ⟨A1, m1, c1, rfl, H1, hb1⟩)
  have hwb1 : Below w.heap.size w w1 := by first | exact hb1 | exact ((Below.refl _ _).alloc (Nat.le_refl _) _).trans (hb1.mono (by simp))
  have hm1 : m1 ≤ 1048576 := by rw [H1.out.1]; exact hlen.out
  go_loopg [3, 5] m1 (fun g so si wx => ∃ (k : Nat) (AL : Option Addr) (m c : Nat) (L : List (List UInt8)), k + g = m1 ∧ si = .int .i64 k ∧ so = .slice AL m c ∧ Aside (LI R (((walkF N n).drop k).flatMap (asgN N)) AL m c L wx) ∧ Below w1.heap.size w1 wx)
  case atStart => exact ⟨0, none, 0, 0, [], by omega, rfl, rfl, ⟨rfl, Nat.le_refl _, fun i x h => by simp at h, HW.out.2.2.2.1, by have := HW.out.2.2.2.2; simp only [List.drop_zero, List.length_nil]; omega⟩, Below.refl _ _⟩
  case round =>
    obtain ⟨k, AL, m, c, L, hkg, rfl, rfl, HI, hwb⟩ := hrel
    cases gk with
    | zero =>
      have hkz : ¬ (k : Int) < (m1 : Int) := by omega
      have ha : Aside (L = R) := by show _ = _; rw [← HI.out.2.2.2.1, List.drop_eq_nil_of_le (by have := H1.out.1; omega)]; rfl
      go_wp2
      go_ret
      exact ⟨AL, m, c, rfl, by rw [← ha.out]; exact ⟨HI.out.1, HI.out.2.1, HI.out.2.2.1⟩, hwb1.trans (hwb.mono hwb1.size)⟩
    | succ g =>
      have hk0 : (0 : Int) ≤ (k : Int) := by omega
      have hkz : (k : Int) < (m1 : Int) := by omega
      have hk63 : (k : Int) + 1 ≤ 9223372036854775807 := by omega
      obtain ⟨x, hx⟩ : ∃ x, (walkF N n)[k]? = some x := ⟨_, List.getElem?_eq_getElem (by have := H1.out.1; omega)⟩
      have hdrop : Aside ((walkF N n).drop k = x :: (walkF N n).drop (k + 1)) := Lib.drop_at hx
      have HX : Aside (DeepN w x ∧ szN x ≤ N) := by
        have h1 := walk_mem N n x w (List.mem_of_getElem? hx) HW.out.1
        exact ⟨h1.1, Nat.le_trans h1.2 HW.out.2.1⟩
      obtain ⟨b, o, rfl, hlt, hc⟩ := H1.out.2.1 k x hx
      have HC : Aside (∀ W, Below w1.heap.size w1 W → ∀ j u, (encN x)[j]? = some u → W.cell? ⟨b, o + k * 9 + j, none⟩ = some u) := fun W hb j u h => (hb.cell (p := ⟨b, o + k * 9 + j, none⟩) hlt).trans (hc j u h)
      obtain ⟨T, hT⟩ : ∃ T, T = ((walkF N n).drop (k + 1)).flatMap (asgN N) := ⟨_, rfl⟩
      have hset : Aside (((walkF N n).drop k).flatMap (asgN N) = x.assigns.map (·.name) ++ ((if x.kind = 13 then [x.name] else []) ++ (WBack N asgF (wordsT x) ++ (opsN x ++ T)))) := by show _ = _; rw [hdrop.out, List.flatMap_cons, asgN_eq, hT]; simp only [List.append_assoc]
      have HT : Aside (T = ((walkF N n).drop (k + 1)).flatMap (asgN N)) := hT
      have hal : x.assigns.length ≤ 1048576 := Nat.le_trans (assigns_len x) (Nat.le_trans HX.out.2 HW.out.2.2.1)
      have hwl : x.words.length ≤ 1048576 := Nat.le_trans (Nat.le_trans (by have := wordsT_len x; omega) (words_len x)) (Nat.le_trans HX.out.2 HW.out.2.2.1)
      have hr1 : Aside (RdS 4 encA w x.ah.1 x.assigns) := by obtain ⟨n, h1, _, _, _, _, _, _, _, _, _⟩ := HX.out.1; exact h1.rd
      have hr2 : Aside (RdS 2 encW w x.wh.1 x.words) := by obtain ⟨n, _, h1, _, _, _, _, _, _, _, _⟩ := HX.out.1; exact h1.rd
      clear hc hx hlt hT
      go_wp2
      go_loopg [3, 6] x.assigns.length (fun g so sa wx => ∃ (j : Nat) (AL : Option Addr) (m c : Nat) (L : List (List UInt8)), j + g = x.assigns.length ∧ sa = .int .i64 j ∧ so = .slice AL m c ∧ Aside (LI R ((x.assigns.drop j).map (·.name) ++ ((if x.kind = 13 then [x.name] else []) ++ (WBack N asgF (wordsT x) ++ (opsN x ++ T)))) AL m c L wx) ∧ Below w1.heap.size w1 wx)
      case atStart =>
        have h5 := HI.out
        rw [hset.out] at h5
        exact ⟨0, AL, m, c, L, by omega, rfl, rfl, h5, hwb⟩
      case round =>
        clear hwb HI hset
        obtain ⟨j, AL, m, c, L, hjg, rfl, rfl, HI, hwb⟩ := hrel
        have hbw : Below w.heap.size w wr := hwb1.trans (hwb.mono hwb1.size)
        have c4 : wr.cell? ⟨b, o + k * 9 + 4, none⟩ = some (.slice x.ah.1 x.assigns.length x.ah.2) := HC.out wr hwb 4 _ rfl
        cases gk with
        | succ g2 =>
          have hj0 : (0 : Int) ≤ (j : Int) := by omega
          have hjz : (j : Int) < (x.assigns.length : Int) := by omega
          have hj63 : (j : Int) + 1 ≤ 9223372036854775807 := by omega
          obtain ⟨a, ha⟩ : ∃ y, x.assigns[j]? = some y := ⟨_, List.getElem?_eq_getElem (by omega)⟩
          obtain ⟨b2, o2, he, hlt, hc⟩ := (hr1.out.up hbw) j a ha
          rw [he] at c4
          have c1 : wr.cell? ⟨b2, o2 + j * 4 + 1, none⟩ = some (.string ⟨a.name.toArray⟩) := hc 1 _ rfl
          have h6 := HI.out
          rw [Lib.drop_at ha, List.map_cons, List.cons_append, show ∀ T : List (List UInt8), a.name :: T = [a.name] ++ T from fun _ => rfl] at h6
          have H6 : Aside _ := h6
          have ca := add_calls L a.name AL m c wr HI.out.1 (LI.sz HI.out) HI.out.2.1 HI.out.2.2.1
          clear hc ha hlt h6
          go_wp2_with (go_at_call 34; refine ca.mono ?_; rintro e w2 ⟨A2, m2, c2', rfl, H2, hb2⟩)
          go_roundg g2
          case measure => omega
          case rel => exact ⟨j + 1, A2, m2, c2', _, by omega, by simp, rfl, LI.step H6.out H2.out, hwb.trans (hb2.mono hwb.size)⟩
        | zero =>
          have hjz : ¬ (j : Int) < (x.assigns.length : Int) := by omega
          have h5 := HI.out
          rw [List.drop_eq_nil_of_le (by omega), List.map_nil, List.nil_append] at h5
          have H5 : Aside _ := h5
          have hwbr : Aside (Below w1.heap.size w1 wr) := hwb
          obtain ⟨z0, z1, z2, z3, z4, z5, z6, z7, z8⟩ := nineN (HC.out wr hwb)
          have cwd : Aside (∀ W, Below w.heap.size w W → Calls Tryz.prog 11 #[nodeV x] W (WordsP x W)) := fun W h => words_calls x W (HX.out.1.up h) (Nat.le_trans (words_len x) (Nat.le_trans HX.out.2 HW.out.2.2.1)) (Nat.le_trans (items_len x) (Nat.le_trans HX.out.2 HW.out.2.2.1))
          have cw0 := cwd.out wr hbw
          clear h5 HI hal c4 hwb
          by_cases hk : x.kind = 13
          · have hkk : (x.kind == 13) = true := by simpa using hk
            have H6 : Aside (LI R ([x.name] ++ (WBack N asgF (wordsT x) ++ (opsN x ++ T))) AL m c L wr) := by have := H5.out; rw [if_pos hk] at this; exact this
            have ca := add_calls L x.name AL m c wr H5.out.1 (LI.sz H5.out) H5.out.2.1 H5.out.2.2.1
            clear hk H5
            go_wp2_with (first
              | (go_at_call 34; refine ca.mono ?_; rintro e w2 ⟨A2, m2, c2', rfl, H2, hb2⟩; obtain ⟨y0, y1, y2, y3, y4, y5, y6, y7, y8⟩ := nineN (HC.out w2 (hwbr.out.trans (hb2.mono hwbr.out.size))))
              | (go_at_call 11; refine (cwd.out _ (hbw.trans (hb2.mono hbw.size))).mono ?_; rintro e w4 ⟨A4, m4, c4', rfl, H4, hb4⟩))
            have hwb4 : Below w1.heap.size w1 w4 := by
              have hq := hwbr.out.trans (hb2.mono hwbr.out.size)
              exact hq.trans (hb4.mono hq.size)
            have H7 := LI.up (LI.step H6.out H2.out) hb4
            clear H6 ca
            obtain ⟨T0, hT0⟩ : ∃ z, z = opsN x ++ T := ⟨_, rfl⟩
            have HT0 : Aside (T0 = opsN x ++ T) := hT0
            have hm4 : m4 ≤ 1048576 := by rw [H4.out.1]; exact Nat.le_trans (words_len x) (Nat.le_trans HX.out.2 HW.out.2.2.1)
            have HWB : Aside (Below w1.heap.size w1 w4 ∧ DeepN w4 x) := ⟨hwb4, HX.out.1.up (hwb1.trans (hwb4.mono hwb1.size))⟩
            have H8 : Aside (LI R (WBack N asgF (wordsT x) ++ T0) A2 m2 c2' (addAll [x.name] L) w4) := by rw [HT0.out]; exact H7
            clear H7 hT0 hb4 hb2 H2 cw0 y0 y1 y2 y3 y4 y5 y6 y7 y8 z0 z1 z2 z3 z4 z5 z6 z7 z8 hkk hjz hjg hwbr hbw
            go_loopg [3, 8] m4 (fun g so sa wx => ∃ (j : Nat) (AL : Option Addr) (m c : Nat) (L : List (List UInt8)), j + g = m4 ∧ sa = .int .i64 j ∧ so = .slice AL m c ∧ Aside (LI R (WBack N asgF ((wordsT x).drop j) ++ T0) AL m c L wx) ∧ Below w4.heap.size w4 wx)
            case atStart => exact ⟨0, A2, m2, c2', _, by omega, rfl, rfl, H8, Below.refl _ _⟩
            case round =>
              clear hwb4
              obtain ⟨j, AL, m, c, L, hjg, rfl, rfl, HI, hwb⟩ := hrel
              cases gk with
              | succ g2 =>
                have hj0 : (0 : Int) ≤ (j : Int) := by omega
                have hjz : (j : Int) < (m4 : Int) := by omega
                have hj63 : (j : Int) + 1 ≤ 9223372036854775807 := by omega
                obtain ⟨y, hy⟩ : ∃ y, (wordsT x)[j]? = some y := ⟨_, List.getElem?_eq_getElem (by have := H4.out.1; omega)⟩
                have h6 := HI.out
                rw [show WBack N asgF ((wordsT x).drop j) = asgF N y.parts ++ WBack N asgF ((wordsT x).drop (j + 1)) by rw [Lib.drop_at hy]; rfl, List.append_assoc] at h6
                obtain ⟨b2, o2, rfl, hlt2, hc2⟩ := (H4.out.2.up hwb) j y hy
                have d1 : wr.cell? ⟨b2, o2 + j * 2 + 1, none⟩ = some (.slice y.h.1 y.parts.length y.h.2) := hc2 1 _ rfl
                have cu := assigned_calls N y.parts y.h.1 y.h.2 L AL m c wr (by have := word_sz (List.mem_of_getElem? hy); have := HX.out.2; omega) HW.out.2.2.1 ((HWB.out.2.word (List.mem_of_getElem? hy)).up hwb) HI.out.1 HI.out.2.1 HI.out.2.2.1 (LI.szx h6)
                have H6 : Aside _ := h6
                clear hc2 hy hlt2 h6
                go_wp2_with (go_at_call 35; refine cu.mono ?_; rintro e w5 ⟨A5, m5, c5', rfl, H5, hb5⟩)
                go_roundg g2
                case measure => omega
                case rel => exact ⟨j + 1, A5, m5, c5', _, by omega, by simp, rfl, LI.step H6.out H5.out, hwb.trans (hb5.mono hwb.size)⟩
              | zero =>
                have hjz : ¬ (j : Int) < (m4 : Int) := by omega
                have h9 : LI R (opsN x ++ T) AL m c L wr := by
                  have h5 := HI.out
                  rw [show WBack N asgF ((wordsT x).drop j) = [] by rw [List.drop_eq_nil_of_le (by have := H4.out.1; omega)]; rfl, HT0.out] at h5
                  exact h5
                have hwb6 : Below w1.heap.size w1 wr := HWB.out.1.trans (hwb.mono HWB.out.1.size)
                have H9 : Aside (LI R ((if takesN x = true then (x.words.drop 1).flatMap opW else []) ++ T) AL m c L wr) := h9
                clear HI hwb h9 H8
                go_wp2
                go_loopg [3, 9] x.words.length (fun g so sa wx => ∃ (j : Nat) (AL : Option Addr) (m c : Nat) (L : List (List UInt8)), j + g = x.words.length ∧ sa = .int .i64 (j + 1) ∧ so = .slice AL m c ∧ Aside (LI R ((if takesN x = true then (x.words.drop (j + 1)).flatMap opW else []) ++ T) AL m c L wx) ∧ Below w1.heap.size w1 wx)
                case atStart => exact ⟨0, AL, m, c, L, by omega, rfl, rfl, H9, hwb6⟩
                case round =>
                  clear H9 hwb6 hm4 H4 HWB HT0 hjz hjg
                  obtain ⟨j, AL, m, c, L, hjg, rfl, rfl, HI, hwb⟩ := hrel
                  have hbw : Below w.heap.size w wr := hwb1.trans (hwb.mono hwb1.size)
                  obtain ⟨z0, z1, z2, z3, z4, z5, z6, z7, z8⟩ := nineN (HC.out wr hwb)
                  have ct := takes_calls x wr (HX.out.1.up hbw) (Nat.le_trans HX.out.2 HW.out.2.2.1)
                  cases htk : takesN x with
                  | false =>
                    rw [htk] at ct
                    have ha : LI R T AL m c L wr := by have := HI.out; rw [htk] at this; exact this
                    have HA : Aside (LI R T AL m c L wr) := ha
                    clear htk ha HI
                    go_wp2_with (go_at_call 36; refine ct.mono ?_; rintro e w5 ⟨rfl, hb5⟩)
                    go_roundg g
                    case measure => omega
                    case rel => exact ⟨k + 1, AL, m, c, L, by omega, by simp, rfl, by rw [← HT.out]; exact LI.up HA.out hb5, hwb.trans (hb5.mono hwb.size)⟩
                  | true =>
                    rw [htk] at ct
                    have HI2 : Aside (LI R ((x.words.drop (j + 1)).flatMap opW ++ T) AL m c L wr) := by have := HI.out; rw [htk] at this; exact this
                    have hfix : Aside (∀ j T, (if takesN x = true then (x.words.drop j).flatMap opW else []) ++ T = (x.words.drop j).flatMap opW ++ T) := by intro j T; rw [htk]; rfl
                    clear htk HI
                    by_cases hjz : j + 1 < x.words.length
                    · have hjz1 : ((j : Int) + 1) < (x.words.length : Int) := by omega
                      obtain ⟨g2, rfl⟩ : ∃ g2, gk = g2 + 1 := ⟨gk - 1, by omega⟩
                      have hj0 : (0 : Int) ≤ (j : Int) + 1 := by omega
                      have hj63 : (j : Int) + 1 + 1 ≤ 9223372036854775807 := by omega
                      obtain ⟨y, hy⟩ : ∃ y, x.words[j + 1]? = some y := ⟨_, List.getElem?_eq_getElem hjz⟩
                      have HI3 : Aside (LI R (opW y ++ ((x.words.drop (j + 1 + 1)).flatMap opW ++ T)) AL m c L wr) := by have := HI2.out; rw [Lib.drop_at hy, List.flatMap_cons, List.append_assoc] at this; exact this
                      obtain ⟨b2, o2, he, hlt2, hc2⟩ := hr2.out (j + 1) y hy
                      have HY : Aside (∀ W, Below w.heap.size w W → W.cell? ⟨b2, o2 + (j + 1) * 2 + 1, none⟩ = some (.slice y.h.1 y.parts.length y.h.2)) := fun W hb => (hb.cell (p := ⟨b2, o2 + (j + 1) * 2 + 1, none⟩) hlt2).trans (hc2 1 _ rfl)
                      have hyw : y ∈ wordsT x := by
                        unfold wordsT
                        have := List.mem_of_getElem? hy
                        simp [this]
                      have HP : Aside (DeepP w y.h y.parts ∧ szPs y.parts ≤ 1048576) := ⟨HX.out.1.word hyw, by have := word_sz hyw; have := HX.out.2; have := HW.out.2.2.1; omega⟩
                      have HZ : Aside (∀ W, Below w1.heap.size w1 W → W.cell? ⟨b, o + k * 9 + 5, none⟩ = some (.slice (some ⟨b2, o2, none⟩) x.words.length x.wh.2)) := fun W hb => by have := HC.out W hb 5 _ rfl; rw [← he]; exact this
                      clear hy hlt2 hc2 hyw HI2 he
                      cases hl : litP y.parts with
                      | none =>
                        have HO : Aside (opW y = []) := by show _ = _; unfold opW; rw [hl]
                        have cl : Aside (∀ W, Below w.heap.size w W → Calls Tryz.prog 37 #[.slice y.h.1 y.parts.length y.h.2] W fun e w' => e = .returned (.tuple #[.string ⟨#[]⟩, .bool false]) ∧ Below W.heap.size W w') := fun W hb => by
                          have := litp_calls y.parts y.h.1 y.h.2 W HP.out.2 (HP.out.1.up hb)
                          rw [hl] at this; exact this
                        clear hl
                        go_wp2_with (first
                          | (go_at_call 36; refine ct.mono ?_; rintro e w5 ⟨rfl, hb5⟩; have hB5 : Below w1.heap.size w1 w5 := hwb.trans (hb5.mono hwb.size); have hC5 : Below w.heap.size w w5 := hwb1.trans (hB5.mono hwb1.size); have d5 := HZ.out w5 hB5; have e5 := HY.out w5 hC5)
                          | (go_at_call 37; refine (cl.out _ hC5).mono ?_; rintro e w6 ⟨rfl, hb6⟩))
                        go_roundg g2
                        case measure => omega
                        case rel => exact ⟨j + 1, AL, m, c, L, by omega, by simp, rfl, by rw [hfix.out]; have := LI.up (LI.up HI3.out hb5) hb6; rw [HO.out] at this; exact this, hB5.trans (hb6.mono hB5.size)⟩
                      | some v =>
                        have hvl : v.length ≤ 1048576 := Nat.le_trans (litP_len _ _ hl) HP.out.2
                        have cl : Aside (∀ W, Below w.heap.size w W → Calls Tryz.prog 37 #[.slice y.h.1 y.parts.length y.h.2] W fun e w' => e = .returned (.tuple #[.string ⟨v.toArray⟩, .bool true]) ∧ Below W.heap.size W w') := fun W hb => by
                          have := litp_calls y.parts y.h.1 y.h.2 W HP.out.2 (HP.out.1.up hb)
                          rw [hl] at this; exact this
                        have cb := fun W => before_calls v hvl W
                        have cn := fun W => rname_calls (cutE v) W
                        cases hn : nameB (cutE v) with
                        | false =>
                          have HO : Aside (opW y = []) := by show _ = _; unfold opW; rw [hl]; simp only [hn]; rfl
                          rw [hn] at cn
                          clear hl hn
                          go_wp2_with (first
                            | (go_at_call 36; refine ct.mono ?_; rintro e w5 ⟨rfl, hb5⟩; have hB5 : Below w1.heap.size w1 w5 := hwb.trans (hb5.mono hwb.size); have hC5 : Below w.heap.size w w5 := hwb1.trans (hB5.mono hwb1.size); have d5 := HZ.out w5 hB5; have e5 := HY.out w5 hC5)
                            | (go_at_call 37; refine (cl.out _ hC5).mono ?_; rintro e w6 ⟨rfl, hb6⟩)
                            | (go_at_call 39; refine (cb _).mono ?_; rintro e w7 ⟨rfl, rfl⟩)
                            | (go_at_call 38; refine (cn _).mono ?_; rintro e w8 ⟨rfl, rfl⟩))
                          go_roundg g2
                          case measure => omega
                          case rel => exact ⟨j + 1, AL, m, c, L, by omega, by simp, rfl, by rw [hfix.out]; have := LI.up (LI.up HI3.out hb5) hb6; rw [HO.out] at this; exact this, hB5.trans (hb6.mono hB5.size)⟩
                        | true =>
                          have HO : Aside (opW y = [cutE v]) := by show _ = _; unfold opW; rw [hl]; simp only [hn]; rfl
                          rw [hn] at cn
                          have HI4 : Aside (LI R ([cutE v] ++ ((x.words.drop (j + 1 + 1)).flatMap opW ++ T)) AL m c L wr) := by have := HI3.out; rw [HO.out] at this; exact this
                          have ca : Aside (∀ W, Below wr.heap.size wr W → Calls Tryz.prog 34 #[.slice AL m c, .string ⟨(cutE v).toArray⟩] W (ListP (addS (cutE v) L) W)) := fun W hb => add_calls L (cutE v) AL m c W HI4.out.1 (LI.sz HI4.out) HI4.out.2.1 (HI4.out.2.2.1.up hb)
                          clear hl hn HI3
                          go_wp2_with (first
                            | (go_at_call 36; refine ct.mono ?_; rintro e w5 ⟨rfl, hb5⟩; have hB5 : Below w1.heap.size w1 w5 := hwb.trans (hb5.mono hwb.size); have hC5 : Below w.heap.size w w5 := hwb1.trans (hB5.mono hwb1.size); have d5 := HZ.out w5 hB5; have e5 := HY.out w5 hC5)
                            | (go_at_call 37; refine (cl.out _ hC5).mono ?_; rintro e w6 ⟨rfl, hb6⟩; have hB6 : Below wr.heap.size wr w6 := hb5.trans (hb6.mono hb5.size))
                            | (go_at_call 39; refine (cb _).mono ?_; rintro e w7 ⟨rfl, rfl⟩)
                            | (go_at_call 38; refine (cn _).mono ?_; rintro e w8 ⟨rfl, rfl⟩)
                            | (go_at_call 34; refine (ca.out _ hB6).mono ?_; rintro e w9 ⟨A9, m9, c9, rfl, H9, hb9⟩))
                          go_roundg g2
                          case measure => omega
                          case rel => exact ⟨j + 1, A9, m9, c9, _, by omega, by simp, rfl, by rw [hfix.out]; exact LI.step HI4.out H9.out, (hB5.trans (hb6.mono hB5.size)).trans (hb9.mono (hB5.trans (hb6.mono hB5.size)).size)⟩
                    · have hjz1 : decide (((j : Int) + 1) < (x.words.length : Int)) = false := by simp; omega
                      have ha : LI R T AL m c L wr := by have := HI2.out; rw [List.drop_eq_nil_of_le (by omega)] at this; exact this
                      have HA : Aside (LI R T AL m c L wr) := ha
                      clear ha HI2 hjz
                      go_wp2_with (go_at_call 36; refine ct.mono ?_; rintro e w5 ⟨rfl, hb5⟩; have hB5 : Below w1.heap.size w1 w5 := hwb.trans (hb5.mono hwb.size); have d5 : w5.cell? ⟨b, o + k * 9 + 5, none⟩ = some (.slice x.wh.1 x.words.length x.wh.2) := HC.out w5 hB5 5 _ rfl)
                      go_roundg g
                      case measure => omega
                      case rel => exact ⟨k + 1, AL, m, c, L, by omega, by simp, rfl, by rw [← HT.out]; exact LI.up HA.out hb5, hwb.trans (hb5.mono hwb.size)⟩
          · have hkk : (x.kind == 13) = false := by simpa using hk
            have H6 : Aside (LI R (WBack N asgF (wordsT x) ++ (opsN x ++ T)) AL m c L wr) := by have := H5.out; rw [if_neg hk] at this; exact this
            clear hk H5
            go_wp2_with (go_at_call 11; refine cw0.mono ?_; rintro e w4 ⟨A4, m4, c4', rfl, H4, hb4⟩)
            have hwb4 : Below w1.heap.size w1 w4 := hwbr.out.trans (hb4.mono hwbr.out.size)
            have H7 := LI.up H6.out hb4
            clear H6
            obtain ⟨T0, hT0⟩ : ∃ z, z = opsN x ++ T := ⟨_, rfl⟩
            have HT0 : Aside (T0 = opsN x ++ T) := hT0
            have hm4 : m4 ≤ 1048576 := by rw [H4.out.1]; exact Nat.le_trans (words_len x) (Nat.le_trans HX.out.2 HW.out.2.2.1)
            have HWB : Aside (Below w1.heap.size w1 w4 ∧ DeepN w4 x) := ⟨hwb4, HX.out.1.up (hwb1.trans (hwb4.mono hwb1.size))⟩
            have H8 : Aside (LI R (WBack N asgF (wordsT x) ++ T0) AL m c L w4) := by rw [HT0.out]; exact H7
            clear H7 hT0 hb4 cw0 z0 z1 z2 z3 z4 z5 z6 z7 z8 hkk hjz hjg hwbr hbw
            go_loopg [3, 8] m4 (fun g so sa wx => ∃ (j : Nat) (AL : Option Addr) (m c : Nat) (L : List (List UInt8)), j + g = m4 ∧ sa = .int .i64 j ∧ so = .slice AL m c ∧ Aside (LI R (WBack N asgF ((wordsT x).drop j) ++ T0) AL m c L wx) ∧ Below w4.heap.size w4 wx)
            case atStart => exact ⟨0, AL, m, c, L, by omega, rfl, rfl, H8, Below.refl _ _⟩
            case round =>
              clear hwb4
              obtain ⟨j, AL, m, c, L, hjg, rfl, rfl, HI, hwb⟩ := hrel
              cases gk with
              | succ g2 =>
                have hj0 : (0 : Int) ≤ (j : Int) := by omega
                have hjz : (j : Int) < (m4 : Int) := by omega
                have hj63 : (j : Int) + 1 ≤ 9223372036854775807 := by omega
                obtain ⟨y, hy⟩ : ∃ y, (wordsT x)[j]? = some y := ⟨_, List.getElem?_eq_getElem (by have := H4.out.1; omega)⟩
                have h6 := HI.out
                rw [show WBack N asgF ((wordsT x).drop j) = asgF N y.parts ++ WBack N asgF ((wordsT x).drop (j + 1)) by rw [Lib.drop_at hy]; rfl, List.append_assoc] at h6
                obtain ⟨b2, o2, rfl, hlt2, hc2⟩ := (H4.out.2.up hwb) j y hy
                have d1 : wr.cell? ⟨b2, o2 + j * 2 + 1, none⟩ = some (.slice y.h.1 y.parts.length y.h.2) := hc2 1 _ rfl
                have cu := assigned_calls N y.parts y.h.1 y.h.2 L AL m c wr (by have := word_sz (List.mem_of_getElem? hy); have := HX.out.2; omega) HW.out.2.2.1 ((HWB.out.2.word (List.mem_of_getElem? hy)).up hwb) HI.out.1 HI.out.2.1 HI.out.2.2.1 (LI.szx h6)
                have H6 : Aside _ := h6
                clear hc2 hy hlt2 h6
                go_wp2_with (go_at_call 35; refine cu.mono ?_; rintro e w5 ⟨A5, m5, c5', rfl, H5, hb5⟩)
                go_roundg g2
                case measure => omega
                case rel => exact ⟨j + 1, A5, m5, c5', _, by omega, by simp, rfl, LI.step H6.out H5.out, hwb.trans (hb5.mono hwb.size)⟩
              | zero =>
                have hjz : ¬ (j : Int) < (m4 : Int) := by omega
                have h9 : LI R (opsN x ++ T) AL m c L wr := by
                  have h5 := HI.out
                  rw [show WBack N asgF ((wordsT x).drop j) = [] by rw [List.drop_eq_nil_of_le (by have := H4.out.1; omega)]; rfl, HT0.out] at h5
                  exact h5
                have hwb6 : Below w1.heap.size w1 wr := HWB.out.1.trans (hwb.mono HWB.out.1.size)
                have H9 : Aside (LI R ((if takesN x = true then (x.words.drop 1).flatMap opW else []) ++ T) AL m c L wr) := h9
                clear HI hwb h9 H8
                go_wp2
                go_loopg [3, 9] x.words.length (fun g so sa wx => ∃ (j : Nat) (AL : Option Addr) (m c : Nat) (L : List (List UInt8)), j + g = x.words.length ∧ sa = .int .i64 (j + 1) ∧ so = .slice AL m c ∧ Aside (LI R ((if takesN x = true then (x.words.drop (j + 1)).flatMap opW else []) ++ T) AL m c L wx) ∧ Below w1.heap.size w1 wx)
                case atStart => exact ⟨0, AL, m, c, L, by omega, rfl, rfl, H9, hwb6⟩
                case round =>
                  clear H9 hwb6 hm4 H4 HWB HT0 hjz hjg
                  obtain ⟨j, AL, m, c, L, hjg, rfl, rfl, HI, hwb⟩ := hrel
                  have hbw : Below w.heap.size w wr := hwb1.trans (hwb.mono hwb1.size)
                  obtain ⟨z0, z1, z2, z3, z4, z5, z6, z7, z8⟩ := nineN (HC.out wr hwb)
                  have ct := takes_calls x wr (HX.out.1.up hbw) (Nat.le_trans HX.out.2 HW.out.2.2.1)
                  cases htk : takesN x with
                  | false =>
                    rw [htk] at ct
                    have ha : LI R T AL m c L wr := by have := HI.out; rw [htk] at this; exact this
                    have HA : Aside (LI R T AL m c L wr) := ha
                    clear htk ha HI
                    go_wp2_with (go_at_call 36; refine ct.mono ?_; rintro e w5 ⟨rfl, hb5⟩)
                    go_roundg g
                    case measure => omega
                    case rel => exact ⟨k + 1, AL, m, c, L, by omega, by simp, rfl, by rw [← HT.out]; exact LI.up HA.out hb5, hwb.trans (hb5.mono hwb.size)⟩
                  | true =>
                    rw [htk] at ct
                    have HI2 : Aside (LI R ((x.words.drop (j + 1)).flatMap opW ++ T) AL m c L wr) := by have := HI.out; rw [htk] at this; exact this
                    have hfix : Aside (∀ j T, (if takesN x = true then (x.words.drop j).flatMap opW else []) ++ T = (x.words.drop j).flatMap opW ++ T) := by intro j T; rw [htk]; rfl
                    clear htk HI
                    by_cases hjz : j + 1 < x.words.length
                    · have hjz1 : ((j : Int) + 1) < (x.words.length : Int) := by omega
                      obtain ⟨g2, rfl⟩ : ∃ g2, gk = g2 + 1 := ⟨gk - 1, by omega⟩
                      have hj0 : (0 : Int) ≤ (j : Int) + 1 := by omega
                      have hj63 : (j : Int) + 1 + 1 ≤ 9223372036854775807 := by omega
                      obtain ⟨y, hy⟩ : ∃ y, x.words[j + 1]? = some y := ⟨_, List.getElem?_eq_getElem hjz⟩
                      have HI3 : Aside (LI R (opW y ++ ((x.words.drop (j + 1 + 1)).flatMap opW ++ T)) AL m c L wr) := by have := HI2.out; rw [Lib.drop_at hy, List.flatMap_cons, List.append_assoc] at this; exact this
                      obtain ⟨b2, o2, he, hlt2, hc2⟩ := hr2.out (j + 1) y hy
                      have HY : Aside (∀ W, Below w.heap.size w W → W.cell? ⟨b2, o2 + (j + 1) * 2 + 1, none⟩ = some (.slice y.h.1 y.parts.length y.h.2)) := fun W hb => (hb.cell (p := ⟨b2, o2 + (j + 1) * 2 + 1, none⟩) hlt2).trans (hc2 1 _ rfl)
                      have hyw : y ∈ wordsT x := by
                        unfold wordsT
                        have := List.mem_of_getElem? hy
                        simp [this]
                      have HP : Aside (DeepP w y.h y.parts ∧ szPs y.parts ≤ 1048576) := ⟨HX.out.1.word hyw, by have := word_sz hyw; have := HX.out.2; have := HW.out.2.2.1; omega⟩
                      have HZ : Aside (∀ W, Below w1.heap.size w1 W → W.cell? ⟨b, o + k * 9 + 5, none⟩ = some (.slice (some ⟨b2, o2, none⟩) x.words.length x.wh.2)) := fun W hb => by have := HC.out W hb 5 _ rfl; rw [← he]; exact this
                      clear hy hlt2 hc2 hyw HI2 he
                      cases hl : litP y.parts with
                      | none =>
                        have HO : Aside (opW y = []) := by show _ = _; unfold opW; rw [hl]
                        have cl : Aside (∀ W, Below w.heap.size w W → Calls Tryz.prog 37 #[.slice y.h.1 y.parts.length y.h.2] W fun e w' => e = .returned (.tuple #[.string ⟨#[]⟩, .bool false]) ∧ Below W.heap.size W w') := fun W hb => by
                          have := litp_calls y.parts y.h.1 y.h.2 W HP.out.2 (HP.out.1.up hb)
                          rw [hl] at this; exact this
                        clear hl
                        go_wp2_with (first
                          | (go_at_call 36; refine ct.mono ?_; rintro e w5 ⟨rfl, hb5⟩; have hB5 : Below w1.heap.size w1 w5 := hwb.trans (hb5.mono hwb.size); have hC5 : Below w.heap.size w w5 := hwb1.trans (hB5.mono hwb1.size); have d5 := HZ.out w5 hB5; have e5 := HY.out w5 hC5)
                          | (go_at_call 37; refine (cl.out _ hC5).mono ?_; rintro e w6 ⟨rfl, hb6⟩))
                        go_roundg g2
                        case measure => omega
                        case rel => exact ⟨j + 1, AL, m, c, L, by omega, by simp, rfl, by rw [hfix.out]; have := LI.up (LI.up HI3.out hb5) hb6; rw [HO.out] at this; exact this, hB5.trans (hb6.mono hB5.size)⟩
                      | some v =>
                        have hvl : v.length ≤ 1048576 := Nat.le_trans (litP_len _ _ hl) HP.out.2
                        have cl : Aside (∀ W, Below w.heap.size w W → Calls Tryz.prog 37 #[.slice y.h.1 y.parts.length y.h.2] W fun e w' => e = .returned (.tuple #[.string ⟨v.toArray⟩, .bool true]) ∧ Below W.heap.size W w') := fun W hb => by
                          have := litp_calls y.parts y.h.1 y.h.2 W HP.out.2 (HP.out.1.up hb)
                          rw [hl] at this; exact this
                        have cb := fun W => before_calls v hvl W
                        have cn := fun W => rname_calls (cutE v) W
                        cases hn : nameB (cutE v) with
                        | false =>
                          have HO : Aside (opW y = []) := by show _ = _; unfold opW; rw [hl]; simp only [hn]; rfl
                          rw [hn] at cn
                          clear hl hn
                          go_wp2_with (first
                            | (go_at_call 36; refine ct.mono ?_; rintro e w5 ⟨rfl, hb5⟩; have hB5 : Below w1.heap.size w1 w5 := hwb.trans (hb5.mono hwb.size); have hC5 : Below w.heap.size w w5 := hwb1.trans (hB5.mono hwb1.size); have d5 := HZ.out w5 hB5; have e5 := HY.out w5 hC5)
                            | (go_at_call 37; refine (cl.out _ hC5).mono ?_; rintro e w6 ⟨rfl, hb6⟩)
                            | (go_at_call 39; refine (cb _).mono ?_; rintro e w7 ⟨rfl, rfl⟩)
                            | (go_at_call 38; refine (cn _).mono ?_; rintro e w8 ⟨rfl, rfl⟩))
                          go_roundg g2
                          case measure => omega
                          case rel => exact ⟨j + 1, AL, m, c, L, by omega, by simp, rfl, by rw [hfix.out]; have := LI.up (LI.up HI3.out hb5) hb6; rw [HO.out] at this; exact this, hB5.trans (hb6.mono hB5.size)⟩
                        | true =>
                          have HO : Aside (opW y = [cutE v]) := by show _ = _; unfold opW; rw [hl]; simp only [hn]; rfl
                          rw [hn] at cn
                          have HI4 : Aside (LI R ([cutE v] ++ ((x.words.drop (j + 1 + 1)).flatMap opW ++ T)) AL m c L wr) := by have := HI3.out; rw [HO.out] at this; exact this
                          have ca : Aside (∀ W, Below wr.heap.size wr W → Calls Tryz.prog 34 #[.slice AL m c, .string ⟨(cutE v).toArray⟩] W (ListP (addS (cutE v) L) W)) := fun W hb => add_calls L (cutE v) AL m c W HI4.out.1 (LI.sz HI4.out) HI4.out.2.1 (HI4.out.2.2.1.up hb)
                          clear hl hn HI3
                          go_wp2_with (first
                            | (go_at_call 36; refine ct.mono ?_; rintro e w5 ⟨rfl, hb5⟩; have hB5 : Below w1.heap.size w1 w5 := hwb.trans (hb5.mono hwb.size); have hC5 : Below w.heap.size w w5 := hwb1.trans (hB5.mono hwb1.size); have d5 := HZ.out w5 hB5; have e5 := HY.out w5 hC5)
                            | (go_at_call 37; refine (cl.out _ hC5).mono ?_; rintro e w6 ⟨rfl, hb6⟩; have hB6 : Below wr.heap.size wr w6 := hb5.trans (hb6.mono hb5.size))
                            | (go_at_call 39; refine (cb _).mono ?_; rintro e w7 ⟨rfl, rfl⟩)
                            | (go_at_call 38; refine (cn _).mono ?_; rintro e w8 ⟨rfl, rfl⟩)
                            | (go_at_call 34; refine (ca.out _ hB6).mono ?_; rintro e w9 ⟨A9, m9, c9, rfl, H9, hb9⟩))
                          go_roundg g2
                          case measure => omega
                          case rel => exact ⟨j + 1, A9, m9, c9, _, by omega, by simp, rfl, by rw [hfix.out]; exact LI.step HI4.out H9.out, (hB5.trans (hb6.mono hB5.size)).trans (hb9.mono (hB5.trans (hb6.mono hB5.size)).size)⟩
                    · have hjz1 : decide (((j : Int) + 1) < (x.words.length : Int)) = false := by simp; omega
                      have ha : LI R T AL m c L wr := by have := HI2.out; rw [List.drop_eq_nil_of_le (by omega)] at this; exact this
                      have HA : Aside (LI R T AL m c L wr) := ha
                      clear ha HI2 hjz
                      go_wp2_with (go_at_call 36; refine ct.mono ?_; rintro e w5 ⟨rfl, hb5⟩; have hB5 : Below w1.heap.size w1 w5 := hwb.trans (hb5.mono hwb.size); have d5 : w5.cell? ⟨b, o + k * 9 + 5, none⟩ = some (.slice x.wh.1 x.words.length x.wh.2) := HC.out w5 hB5 5 _ rfl)
                      go_roundg g
                      case measure => omega
                      case rel => exact ⟨k + 1, AL, m, c, L, by omega, by simp, rfl, by rw [← HT.out]; exact LI.up HA.out hb5, hwb.trans (hb5.mono hwb.size)⟩
end Go.Proofs.YtfdhkchglacccaaGreatDoor
