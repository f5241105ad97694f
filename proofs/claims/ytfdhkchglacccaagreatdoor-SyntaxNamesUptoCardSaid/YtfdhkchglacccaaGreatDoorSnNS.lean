/- The reference: Equal, Literal. No statement is proved here. -/
import Derived.Test.YtfdhkchglacccaaGreatDoorSnNI
import Derived.Test.YtfdhkchglacccaaGreatDoorSnNP
set_option linter.all false
/-! the reference: Equal, for one list read twice -/
namespace Go.Proofs.YtfdhkchglacccaaGreatDoor
open Go Go.RowKit Go.Mir Go.Syn
set_option maxHeartbeats 400000
set_option maxRecDepth 100000
theorem equal_calls (L : List (List UInt8)) (A B : Option Addr) (m n ca cb : Nat) (w : World) (hm : m = L.length) (hn : n = L.length) (hl : L.length ≤ 1048576) (ha : RdS 1 encS w A L) (hb : RdS 1 encS w B L) :
    Calls Tryz.prog 6 #[.slice A m ca, .slice B n cb] w fun e w' => e = .returned (.bool true) ∧ Below w.heap.size w w' := by
  have hnm : n = m := by rw [hm, hn]
  subst hnm
  have HL : Aside (n = L.length ∧ RdS 1 encS w A L ∧ RdS 1 encS w B L) := ⟨hm, ha, hb⟩
  have hl : n ≤ 1048576 := by rw [hm]; exact hl
  clear hm hn ha hb
  go_enter Tryz.func6, Tryz.ntmps6
  go_wp2
  go_loopg [5] n (fun g si wx => ∃ k : Nat, k + g = n ∧ si = .int .i64 k ∧ Below w.heap.size w wx)
  case atStart => exact ⟨0, by omega, rfl, Below.refl _ _⟩
  case round =>
    obtain ⟨k, hkg, rfl, hwb⟩ := hrel
    cases gk with
    | zero =>
      have hkz : ¬ (k : Int) < (n : Int) := by omega
      go_wp2
      go_ret
      exact ⟨rfl, hwb⟩
    | succ g =>
      have hk0 : (0 : Int) ≤ (k : Int) := by omega
      have hkz : (k : Int) < (n : Int) := by omega
      have hk63 : (k : Int) + 1 ≤ 9223372036854775807 := by omega
      obtain ⟨x, hx⟩ : ∃ x, L[k]? = some x := ⟨_, List.getElem?_eq_getElem (by have := HL.out.1; omega)⟩
      obtain ⟨b, o, rfl, _, hc⟩ := (HL.out.2.1.up hwb) k x hx
      obtain ⟨b', o', rfl, _, hc'⟩ := (HL.out.2.2.up hwb) k x hx
      have c0 : wr.cell? ⟨b, o + k, none⟩ = some (.string ⟨x.toArray⟩) := by have := hc 0 _ rfl; rwa [show o + k * 1 + 0 = o + k by omega] at this
      have c1 : wr.cell? ⟨b', o' + k, none⟩ = some (.string ⟨x.toArray⟩) := by have := hc' 0 _ rfl; rwa [show o' + k * 1 + 0 = o' + k by omega] at this
      clear hc hc' hx
      go_wp2
      go_quiet (fail)
      go_wp2
      go_roundg g
      case measure => omega
      case rel => exact ⟨k + 1, by omega, by simp, hwb.trans ((below_drew _ _).mono hwb.size)⟩
end Go.Proofs.YtfdhkchglacccaaGreatDoor

/-! the reference: Literal of parts -/
namespace Go.Proofs.YtfdhkchglacccaaGreatDoor
open Go Go.RowKit Go.Mir Go.Syn
set_option maxHeartbeats 400000
set_option maxRecDepth 100000
theorem app_str (a b : List UInt8) : (⟨a.toArray⟩ : ByteArray) ++ ⟨b.toArray⟩ = ⟨(a ++ b).toArray⟩ := by
  apply ByteArray.ext
  simp [ByteArray.data_append]
theorem litp_calls (l : List PartT) (A : Option Addr) (cap : Nat) (w : World) (hs : szPs l ≤ 1048576) (hd : DeepP w (A, cap) l) :
    Calls Tryz.prog 37 #[.slice A l.length cap] w fun e w' => e = .returned (optV (litP l)) ∧ Below w.heap.size w w' := by
  obtain ⟨sz, hsz0⟩ : ∃ n, n = l.length := ⟨_, rfl⟩
  have HL : Aside (sz = l.length ∧ RdS 5 encP w A l ∧ szPs l ≤ 1048576 ∧ ∀ p ∈ l, DeepP w p.h p.parts) := by
    obtain ⟨_, _, h1, h2⟩ := hd
    exact ⟨hsz0, h1, hs, h2⟩
  have hl : sz ≤ 1048576 := by rw [hsz0]; have := szPs_len l; omega
  rw [← hsz0]
  clear hsz0 hd hs
  obtain ⟨R, hR0⟩ : ∃ R, R = litP l := ⟨_, rfl⟩
  rw [← hR0]
  have HR : Aside ((litP l).map (([] : List UInt8) ++ ·) = R) := by show _ = _; rw [hR0]; cases litP l <;> rfl
  clear hR0
  go_enter Tryz.func37, Tryz.ntmps37
  go_wp2
  go_loopg [4, 5] sz (fun g so si wx => ∃ (k : Nat) (pre : List UInt8), k + g = sz ∧ si = .int .i64 k ∧ so = .string ⟨pre.toArray⟩ ∧ Aside ((litP (l.drop k)).map (pre ++ ·) = R ∧ pre.length + szPs (l.drop k) ≤ 1048576) ∧ Below w.heap.size w wx)
  case atStart => exact ⟨0, [], by omega, rfl, rfl, ⟨HR, by have := HL.out.2.2.1; simpa using this⟩, Below.refl _ _⟩
  case round =>
    obtain ⟨k, pre, hkg, rfl, rfl, HI, hwb⟩ := hrel
    cases gk with
    | zero =>
      have hkz : ¬ (k : Int) < (sz : Int) := by omega
      have ha : Aside (some pre = R) := by show _ = _; rw [← HI.out.1, List.drop_eq_nil_of_le (by have := HL.out.1; omega)]; simp [litP]
      go_wp2
      go_ret2
      exact ⟨by rw [← ha.out]; rfl, hwb⟩
    | succ g =>
      have hk0 : (0 : Int) ≤ (k : Int) := by omega
      have hkz : (k : Int) < (sz : Int) := by omega
      have hk63 : (k : Int) + 1 ≤ 9223372036854775807 := by omega
      obtain ⟨x, hx⟩ : ∃ x, l[k]? = some x := ⟨_, List.getElem?_eq_getElem (by have := HL.out.1; omega)⟩
      have hdrop : Aside (l.drop k = x :: l.drop (k + 1)) := Lib.drop_at hx
      obtain ⟨b, o, rfl, hlt, hc⟩ := (HL.out.2.1.up hwb) k x hx
      have c0 : wr.cell? ⟨b, o + k * 5, none⟩ = some (.int .i64 x.kind) := hc 0 _ rfl
      have c1 : wr.cell? ⟨b, o + k * 5 + 1, none⟩ = some (.string ⟨x.text.toArray⟩) := hc 1 _ rfl
      have c2 : wr.cell? ⟨b, o + k * 5 + 2, none⟩ = some (.int .i64 x.op) := hc 2 _ rfl
      have c3 : wr.cell? ⟨b, o + k * 5 + 3, none⟩ = some (.bool x.colon) := hc 3 _ rfl
      have c4 : wr.cell? ⟨b, o + k * 5 + 4, none⟩ = some (.slice x.h.1 x.parts.length x.h.2) := hc 4 _ rfl
      have HX : Aside (szPs x.parts ≤ 1048576 ∧ DeepP wr x.h x.parts) := ⟨by have := szPs_kid (List.mem_of_getElem? hx); have := HL.out.2.2.1; omega, (HL.out.2.2.2 x (List.mem_of_getElem? hx)).up hwb⟩
      have HBX : Aside (Below wr.heap.size wr (boxP wr x)) := (Below.refl _ _).alloc (Nat.le_refl _) _
      obtain ⟨z0, z1, z2, z3, z4⟩ := boxP_in (Below.refl (boxP wr x).heap.size (boxP wr x))
      clear hc hx hlt
      have hsz : Aside (pre.length + (x.text.length + 1 + szPs x.parts + szPs (l.drop (k + 1))) ≤ 1048576) := by have h1 := HI.out.2; rw [hdrop.out] at h1; have h2 : szPs (x :: l.drop (k + 1)) = szP x + szPs (l.drop (k + 1)) := rfl; rw [h2, szP_eq] at h1; exact h1
      have hcat : ¬ 9223372036854775807 < pre.length + x.text.length := by have := hsz.out; omega
      by_cases h12 : x.kind = 1 ∨ x.kind = 2
      · have h3 : (x.kind != 3) = true := by rcases h12 with h | h <;> rw [h] <;> rfl
        have X : Aside ((litP (l.drop (k + 1))).map ((pre ++ x.text) ++ ·) = R) := by
          show _ = _
          rw [← HI.out.1, hdrop.out, litP, if_pos h12, Option.map_map]
          congr 1
          funext y
          simp
        rcases h12 with h | h
        · have h1 : (x.kind != 1) = false := by rw [h]; rfl
          clear h
          go_wp2
          go_roundg g
          case measure => omega
          case rel => exact ⟨k + 1, pre ++ x.text, by omega, by simp, by rw [← app_str], ⟨X.out, by have := hsz.out; rw [List.length_append]; omega⟩, hwb.trans (HBX.out.mono hwb.size)⟩
        · have h1 : (x.kind != 1) = true := by rw [h]; rfl
          have h2 : (x.kind != 2) = false := by rw [h]; rfl
          clear h
          go_wp2
          go_roundg g
          case measure => omega
          case rel => exact ⟨k + 1, pre ++ x.text, by omega, by simp, by rw [← app_str], ⟨X.out, by have := hsz.out; rw [List.length_append]; omega⟩, hwb.trans (HBX.out.mono hwb.size)⟩
      · have h1 : (x.kind != 1) = true := by simpa using fun h => h12 (.inl h)
        have h2 : (x.kind != 2) = true := by simpa using fun h => h12 (.inr h)
        by_cases h3e : x.kind = 3
        · have h3 : (x.kind != 3) = false := by rw [h3e]; rfl
          obtain ⟨pz, hpz⟩ : ∃ q, q = x.parts.length := ⟨_, rfl⟩
          have HP : Aside (pz = x.parts.length ∧ litP (l.drop k) = if x.parts.all (fun q => decide (q.kind = 1)) = true then (litP (l.drop (k + 1))).map (x.parts.flatMap (·.text) ++ ·) else none) := by
            refine ⟨hpz, ?_⟩
            rw [hdrop.out, litP, if_neg h12, if_pos h3e]
          have hpl : pz ≤ 1048576 := by rw [hpz]; exact Nat.le_trans (szPs_len _) HX.out.1
          clear h12 h3e
          have HWW : Aside (Below w.heap.size w (boxP wr x)) := hwb.trans (HBX.out.mono hwb.size)
          have HXX : Aside (DeepP (boxP wr x) x.h x.parts) := HX.out.2.up HBX.out
          have HBI : Aside (∀ W, Below (boxP wr x).heap.size (boxP wr x) W → W.cell? ⟨wr.heap.size, 4, none⟩ = some (.slice x.h.1 x.parts.length x.h.2)) := fun W h => (boxP_in h).2.2.2.2
          go_wp2
          go_loopg [4, 7] x.parts.length (fun g so sj wx => ∃ (j : Nat) (pr : List UInt8), j + g = x.parts.length ∧ sj = .int .i64 j ∧ so = .string ⟨pr.toArray⟩ ∧ Aside (pr = pre ++ (x.parts.take j).flatMap (·.text) ∧ (x.parts.take j).all (fun q => decide (q.kind = 1)) = true ∧ pr.length + szPs (x.parts.drop j) + szPs (l.drop (k + 1)) ≤ 1048576) ∧ Below (boxP wr x).heap.size (boxP wr x) wx)
          case atStart => exact ⟨0, pre, by omega, rfl, rfl, ⟨by simp, by simp, by have := hsz.out; simp only [List.drop_zero]; omega⟩, Below.refl _ _⟩
          case round =>
            clear z0 z1 z2 z3 z4 c0 c1 c2 c3 c4 hcat
            obtain ⟨j, pr, hjg, rfl, rfl, HJ, hwj⟩ := hrel
            have z4 := HBI.out _ hwj
            cases gk with
            | zero =>
              have hjz : ¬ (j : Int) < (x.parts.length : Int) := by omega
              have HF : Aside ((litP (l.drop (k + 1))).map (pr ++ ·) = R ∧ pr.length + szPs (l.drop (k + 1)) ≤ 1048576) := by
                have h1 := HJ.out
                rw [List.take_of_length_le (by omega)] at h1
                refine ⟨?_, by have := h1.2.2; omega⟩
                rw [← HI.out.1, HP.out.2, if_pos h1.2.1, h1.1, Option.map_map]
                congr 1
                funext y
                simp
              go_wp2
              go_roundg g
              case measure => omega
              case rel => exact ⟨k + 1, pr, by omega, by simp, rfl, HF.out, HWW.out.trans (hwj.mono HWW.out.size)⟩
            | succ g2 =>
              have hj0 : (0 : Int) ≤ (j : Int) := by omega
              have hjz : (j : Int) < (x.parts.length : Int) := by omega
              have hj63 : (j : Int) + 1 ≤ 9223372036854775807 := by omega
              obtain ⟨y, hy⟩ : ∃ y, x.parts[j]? = some y := ⟨_, List.getElem?_eq_getElem (by omega)⟩
              have HRY : RdS 5 encP wr x.h.1 x.parts := by obtain ⟨_, _, h1, _⟩ := HXX.out.up hwj; exact h1
              obtain ⟨b2, o2, he, hlt, hc⟩ := HRY j y hy
              have c0 : wr.cell? ⟨b2, o2 + j * 5, none⟩ = some (.int .i64 y.kind) := hc 0 _ rfl
              have c1 : wr.cell? ⟨b2, o2 + j * 5 + 1, none⟩ = some (.string ⟨y.text.toArray⟩) := hc 1 _ rfl
              have htk : x.parts.take (j + 1) = x.parts.take j ++ [y] := by rw [List.take_add_one, hy]; rfl
              have hdr : Aside (x.parts.drop j = y :: x.parts.drop (j + 1)) := Lib.drop_at hy
              have HJ2 : Aside (pr.length + (y.text.length + 1 + szPs y.parts + szPs (x.parts.drop (j + 1))) + szPs (l.drop (k + 1)) ≤ 1048576) := by have h1 := HJ.out.2.2; rw [hdr.out] at h1; have h2 : szPs (y :: x.parts.drop (j + 1)) = szP y + szPs (x.parts.drop (j + 1)) := rfl; rw [h2, szP_eq] at h1; exact h1
              have hcat : ¬ 9223372036854775807 < pr.length + y.text.length := by have := HJ2.out; omega
              have hall : Aside (x.parts.all (fun q => decide (q.kind = 1)) = true → y.kind = 1) := fun h => by simpa using List.all_eq_true.1 h y (List.mem_of_getElem? hy)
              have HTK : Aside (x.parts.take (j + 1) = x.parts.take j ++ [y]) := htk
              rw [he] at z4
              clear hc hlt HRY htk hy
              by_cases hyk : y.kind = 1
              · have hk1 : (y.kind != 1) = false := by rw [hyk]; rfl
                have X : Aside (pr ++ y.text = pre ++ (x.parts.take (j + 1)).flatMap (·.text) ∧ (x.parts.take (j + 1)).all (fun q => decide (q.kind = 1)) = true ∧ (pr ++ y.text).length + szPs (x.parts.drop (j + 1)) + szPs (l.drop (k + 1)) ≤ 1048576) := by
                  rw [HTK.out]
                  refine ⟨?_, ?_, ?_⟩
                  · rw [HJ.out.1]; simp [List.flatMap_append]
                  · rw [List.all_append, HJ.out.2.1]; simp [hyk]
                  · have := HJ2.out; rw [List.length_append]; omega
                clear hyk
                go_wp2
                go_roundg g2
                case measure => omega
                case rel => exact ⟨j + 1, pr ++ y.text, by omega, by simp, by rw [← app_str], X, hwj⟩
              · have hk1 : (y.kind != 1) = true := by simpa using hyk
                have ha : Aside (none = R) := by
                  show _ = _
                  rw [← HI.out.1, HP.out.2, if_neg (fun h => hyk (hall.out h))]; rfl
                clear hyk
                go_wp2
                go_ret2
                exact ⟨by rw [← ha.out]; rfl, HWW.out.trans (hwj.mono HWW.out.size)⟩
        · have h3 : (x.kind != 3) = true := by simpa using h3e
          have ha : Aside (none = R) := by
            show _ = _
            rw [← HI.out.1, hdrop.out, litP, if_neg h12, if_neg h3e]; rfl
          clear h12 h3e
          go_wp2
          go_ret2
          exact ⟨by rw [← ha.out]; rfl, hwb.trans (HBX.out.mono hwb.size)⟩
end Go.Proofs.YtfdhkchglacccaaGreatDoor

/-! how many names there are -/
namespace Go.Proofs.YtfdhkchglacccaaGreatDoor
open Go Go.Mir Go.Syn
theorem runsF_len : ∀ (f : Nat) (t : List UInt8), (runsF f t).length ≤ t.length
  | 0, t => by simp [runsF]
  | f + 1, t => by
    rw [runsF_step]
    split
    · simp
    · rename_i hne
      have h1 := runsF_len f ((t.dropWhile fun c => !isWord c.toNat).dropWhile fun c => isWord c.toNat)
      have hl : (t.dropWhile fun c => !isWord c.toNat).length ≤ t.length := (List.dropWhile_suffix _).length_le
      obtain ⟨c, u, hu⟩ := List.exists_cons_of_ne_nil hne
      have hw : isWord c.toNat = true := by
        have := List.head_dropWhile_not (p := fun c : UInt8 => !isWord c.toNat) (l := t) hne
        simp only [hu, List.head_cons] at this
        simpa using this
      rw [hu] at hl h1 ⊢
      rw [List.dropWhile_cons, if_pos hw] at h1 ⊢
      have := (List.dropWhile_suffix (l := u) fun c : UInt8 => isWord c.toNat).length_le
      simp only [List.length_cons] at hl ⊢
      omega
theorem nms_len (t : List UInt8) : (nmsT t).length ≤ t.length := Nat.le_trans (List.length_filter_le _ _) (runsF_len _ _)
theorem use_nil : ∀ N, useF N [] = []
  | 0 => rfl
  | _ + 1 => rfl
theorem use_len : ∀ (N : Nat) (l : List PartT), (calcL l).length + (useF N l).length ≤ szPs l
  | N, [] => by rw [use_nil]; simp [calcL]
  | 0, p :: l => by
    have h1 := use_len 0 l
    have h2 : calcL (p :: l) = (if p.kind = 1 then nmsT p.text else []) ++ calcL l := rfl
    have h3 : szPs (p :: l) = szP p + szPs l := rfl
    have h4 := nms_len p.text
    rw [h2, h3, szP_eq, List.length_append]
    have h5 : useF 0 (p :: l) = [] := rfl
    rw [h5]
    split
    · simp only [List.length_nil]; omega
    · simp only [List.length_nil]; omega
  | N + 1, p :: l => by
    have h1 := use_len (N + 1) l
    have h6 := use_len N p.parts
    have h2 : calcL (p :: l) = (if p.kind = 1 then nmsT p.text else []) ++ calcL l := rfl
    have h3 : szPs (p :: l) = szP p + szPs l := rfl
    have h4 := nms_len p.text
    rw [h2, h3, szP_eq, useF_cons, useOwn]
    simp only [List.length_append]
    by_cases k1 : p.kind = 1
    · rw [if_pos k1, if_neg (by rw [k1]; decide), if_neg (by rw [k1]; decide)]
      simp only [List.length_nil]; omega
    · rw [if_neg k1]
      by_cases k4 : p.kind = 4
      · rw [if_pos k4, if_neg (by rw [k4]; decide)]
        simp only [List.length_nil, List.length_singleton]; omega
      · rw [if_neg k4]
        by_cases k6 : p.kind = 6
        · rw [if_pos k6, calcN_eq]
          simp only [List.length_nil]; omega
        · rw [if_neg k6]
          simp only [List.length_nil]; omega
theorem both_items (l : List (ItemH × List NodeT)) : ((l.flatMap (·.1.pats)).map szW).sum + ((l.flatMap (·.2)).map szN).sum ≤ (l.map szI).sum := by
  induction l with
  | nil => simp
  | cons i l ih =>
    simp only [List.flatMap_cons, List.map_append, List.sum_append, List.map_cons, List.sum_cons]
    have := szI_eq i
    omega
theorem both_sum (n : NodeT) : ((wordsT n).map szW).sum + ((kidsT n).map szN).sum < szN n := by
  rw [szN_eq, kidsT_eq]
  unfold wordsT
  simp only [List.map_append, List.sum_append, List.map_map]
  have h1 := both_items n.items
  have h2 : (n.assigns.map (szW ∘ (·.w))).sum ≤ (n.assigns.map szA).sum := by
    induction n.assigns with
    | nil => simp
    | cons a l ih => simp only [List.map_cons, List.sum_cons, Function.comp]; have : szA a = a.name.length + szW a.w := rfl; omega
  have h3 : (n.redirs.map (szW ∘ (·.w))).sum = (n.redirs.map szR).sum := rfl
  omega
theorem useN_len (M : Nat) (l : List WordT) : (l.flatMap fun w => useF M w.parts).length ≤ (l.map szW).sum := by
  induction l with
  | nil => simp
  | cons x l ih =>
    rw [List.flatMap_cons, List.length_append, List.map_cons, List.sum_cons]
    have h1 := use_len M x.parts
    have h2 : szW x = szPs x.parts + 1 := rfl
    omega
theorem uses_len (M : Nat) : ∀ (N : Nat) (n : NodeT), ((walkF N n).flatMap (useN M)).length ≤ szN n
  | 0, n => by simp [walkF]
  | N + 1, n => by
    have h1 := both_sum n
    have h2 : (useN M n).length ≤ ((wordsT n).map szW).sum := useN_len M (wordsT n)
    have h3 : (((kidsT n).flatMap (walkF N)).flatMap (useN M)).length ≤ ((kidsT n).map szN).sum := by
      induction kidsT n with
      | nil => simp
      | cons a l ih =>
        rw [List.flatMap_cons, List.flatMap_append, List.length_append, List.map_cons, List.sum_cons]
        have := uses_len M N a
        omega
    rw [walkF, List.flatMap_cons, List.length_append]
    omega
end Go.Proofs.YtfdhkchglacccaaGreatDoor
