/- The program: Uses. No statement is proved here. -/
import Derived.Test.YtfdhkchglacccaaGreatDoorSnPU
import Derived.Test.YtfdhkchglacccaaGreatDoorSnPE
import Derived.Test.YtfdhkchglacccaaGreatDoorSnNS
import Derived.Deep.RegionHeld3
set_option linter.all false
/-! what the program's sets are: the plain part; from the map to the sorted list -/
namespace Go.Proofs.YtfdhkchglacccaaGreatDoor
open Go Go.RowKit Go.Maps Go.Mir Go.Shelf Go.Sort Go.Syn
theorem par_ari_len : ∀ (N : Nat) (l : List PartT), (parF N l).length + (ariF N l).length = (useF N l).length
  | 0, _ => rfl
  | N + 1, l => by
    induction l with
    | nil => rfl
    | cons p l ih =>
      have h := par_ari_len N p.parts
      simp only [parF, ariF, useF, List.flatMap_cons, List.length_append] at ih ⊢
      omega
/-- what the program's Uses adds for a word, for a node -/
def pUw (N : Nat) (x : WordT) : List (List UInt8) := parF N x.parts ++ ariF N x.parts
def pUn (N : Nat) (n : NodeT) : List (List UInt8) := (wordsT n).flatMap (pUw N)
theorem pUw_len (N : Nat) (x : WordT) : (pUw N x).length = (useF N x.parts).length := by unfold pUw; rw [List.length_append, par_ari_len]
theorem pUn_len (N : Nat) (n : NodeT) : (pUn N n).length = (useN N n).length := by
  unfold pUn useN
  induction wordsT n with
  | nil => rfl
  | cons x l ih => simp only [List.flatMap_cons, List.length_append, pUw_len, ih]
theorem pUs_len (M : Nat) (l : List NodeT) : (l.flatMap (pUn M)).length = (l.flatMap (useN M)).length := by
  induction l with
  | nil => rfl
  | cons x l ih => simp only [List.flatMap_cons, List.length_append, pUn_len, ih]
theorem pUs_mem (M : Nat) (l : List NodeT) (z : List UInt8) : z ∈ l.flatMap (pUn M) ↔ z ∈ l.flatMap (useN M) := by
  simp only [pUn, useN, pUw, List.mem_flatMap]
  constructor
  · rintro ⟨n, hn, x, hx, h⟩
    exact ⟨n, hn, x, hx, (use_mem z M x.parts).2 h⟩
  · rintro ⟨n, hn, x, hx, h⟩
    exact ⟨n, hn, x, hx, (use_mem z M x.parts).1 h⟩
/-- the keys of a set, sorted -/
theorem keys_sorted {w : World} {b n : Nat} (L ss : List (List UInt8)) (hown : w.ownsMap Tryz.prog 9 RB b n (setD L)) (h : ss.Perm (strKeys (setD L))) : ss.mergeSort (fun x y => decide (x ≤ y)) = setS L := by
  obtain ⟨b1, b2⟩ := foldS L [] List.Pairwise.nil
  have ne : ∀ x y : List UInt8, x < y → x ≠ y := fun x y h e => List.lt_irrefl x (e ▸ h)
  have hnd : (setS L).Nodup := List.Pairwise.imp (ne _ _) b1
  have h2 : (setS L).Perm (strKeys (setD L)) := by
    obtain ⟨es, hD, hpw, _⟩ := hown.entries law9
    obtain ⟨es', hD', hko⟩ := hown.keysOf
    obtain rfl : es = es' := by rw [hD] at hD'; simpa using hD'
    have := perm_strKeys (H := Unit) hpw (fun p hp => by obtain ⟨v, hv⟩ := hko p hp; obtain ⟨x, _, hx, _⟩ := Maps.keyOf_str Tryz.underlying9 hv; exact ⟨x, hx⟩) hnd (fun x => by
      rw [← hD, setD_has]
      unfold setS
      rw [b2]; simp)
    rw [hD]; exact this
  have h3 := mergeSort_of_perm (h.trans h2.symm)
  refine h3.trans (List.mergeSort_of_pairwise ?_)
  exact b1.imp (fun {x y} h => by simp only [leB, decide_eq_true_eq]; exact List.le_of_lt h)
/-- the sorted list of a set -/
theorem sorted_set (p b : Nat) (L : List (List UInt8)) (W : World) (hp : p < W.heap.size) (hc : W.cell? ⟨p, 0, none⟩ = some (.map (some b))) (hM : MapI b L W) (hl : L.length ≤ 1048576) :
    Calls Tryz.prog 31 #[.func (.func 72) #[] #[.pointer (some ⟨p, 0, none⟩)]] W (ListP (setS L) W) := by
  refine (sorted_any RB p b L.length (setD L) W hp hc hM (Maps.size (setD L)) (by have := setD_size L; omega) (Nat.le_refl _)).mono ?_
  rintro e w' ⟨v, ss, rfl, hperm, hrow, _, hb⟩
  have h1 := keys_sorted L ss hM hperm
  rw [h1] at hrow
  have h2 : ss.length = (setS L).length := by rw [← h1, List.length_mergeSort]
  refine list_of_row (e := 9) h2 ?_ hb
  have h3 : (setS L).map encStr = (setS L).flatMap encS := by
    induction setS L with
    | nil => rfl
    | cons x l ih => simp only [List.map_cons, List.flatMap_cons, ih]; rfl
  rw [← h3]; exact hrow
end Go.Proofs.YtfdhkchglacccaaGreatDoor

/-! Uses -/
namespace Go.Proofs.YtfdhkchglacccaaGreatDoor
open Go Go.RowKit Go.Maps Go.Mir Go.Shelf Go.Sort Go.Syn
set_option maxHeartbeats 1000000
set_option maxRecDepth 100000
noncomputable abbrev useW (w : World) (n : NodeT) : World := ((boxN w n).alloc (.map #[] 0)).alloc (.cells #[.map (some (w.heap.size + 1))] 53)
theorem useW_facts (w : World) (n : NodeT) : BoxM (w.heap.size + 1 + 1) (w.heap.size + 1) (useW w n) ∧ MapI (w.heap.size + 1) [] (useW w n) ∧ Below (boxN w n).heap.size (boxN w n) (useW w n) ∧ (useW w n).heap.size = w.heap.size + 1 + 1 + 1 := by
  have e2 : (boxN w n).heap.size = w.heap.size + 1 := by simp
  have e1 : ((boxN w n).alloc (.map #[] 0)).heap.size = w.heap.size + 1 + 1 := by simp
  refine ⟨?_, ?_, ((Below.refl _ _).alloc (Nat.le_refl _) _).alloc (by simp) _, by simp⟩
  · have := heap_alloc_new ((boxN w n).alloc (.map #[] 0)) (.cells #[.map (some (w.heap.size + 1))] 53)
    rw [e1] at this; exact this
  · have := World.ownsMap_made (boxN w n) Tryz.prog 9 RB
    rw [e2] at this
    exact World.ownsMap.alloc this _
theorem parF_txt : ∀ (N : Nat) (l : List PartT), ∀ z ∈ parF N l, z.length ≤ szPs l
  | 0, _, z, h => by simp [parF] at h
  | N + 1, l, z, h => by
    simp only [parF, List.mem_flatMap, List.mem_append] at h
    obtain ⟨p, hp, h⟩ := h
    have h1 := szPs_kid hp
    have h2 := szPs_text hp
    rcases h with h | h
    · split at h
      · rw [List.mem_singleton] at h; rw [h]; omega
      · simp at h
    · have := parF_txt N p.parts z h; omega
noncomputable abbrev boxV (w : World) (y : WordT) : World := w.alloc (.cells #[.int .i64 y.pos, .slice y.h.1 y.parts.length y.h.2] 37)
theorem boxV_in {w W : World} {y : WordT} (h : Below (boxV w y).heap.size (boxV w y) W) : W.cell? ⟨w.heap.size, 1, none⟩ = some (.slice y.h.1 y.parts.length y.h.2) := by
  have hl1 : w.heap.size < (boxV w y).heap.size := by simp
  exact (h.cell (p := ⟨w.heap.size, _, none⟩) hl1).trans (by simp)
theorem boxV_grown {w W : World} {y : WordT} {b : Nat} (hb : b < w.heap.size) (h : (boxV w y).grownBy W (some b)) : W.cell? ⟨w.heap.size, 1, none⟩ = some (.slice y.h.1 y.parts.length y.h.2) := by
  have z := boxV_in (Below.refl (boxV w y).heap.size (boxV w y))
  have h2 := h.block w.heap.size (by simp) (fun e => by have := Option.some.inj e; omega)
  simp only [World.cell?, h2] at z ⊢
  exact z
theorem puses_calls (N : Nat) (n : NodeT) (w : World) (hN : szN n ≤ N) (hM : N ≤ 1048576) (hd : DeepN w n) :
    Calls Tryz.prog 9 #[nodeV n] w (ListP (setS ((walkF N n).flatMap (pUn N))) w) := by
  have hmm := @Go.RowKit.run_makeMap Tryz.prog
  obtain ⟨f1, f2, f3, f4⟩ := useW_facts w n
  have hb1 : Below w.heap.size w (boxN w n) := (Below.refl _ _).alloc (Nat.le_refl _) _
  have hbw := hb1.trans (f3.mono hb1.size)
  have cp := preor_calls N n (useW w n) hN hM (hd.up hbw)
  obtain ⟨z0, z1, z2, z3, z4, z5, z6, z7, z8⟩ := boxN_in f3
  have hlen : (walkF N n).length ≤ 1048576 := by have := walk_len N n; omega
  have hR : ((walkF N n).flatMap (pUn N)).length ≤ 1048576 := by rw [pUs_len]; exact Nat.le_trans (uses_len N N n) (Nat.le_trans hN hM)
  have HW : Aside (DeepN w n ∧ szN n ≤ N ∧ N ≤ 1048576 ∧ (walkF N n).length ≤ 1048576 ∧ ((walkF N n).flatMap (pUn N)).length ≤ 1048576) := ⟨hd, hN, hM, hlen, hR⟩
  have HF : Aside (BoxM (w.heap.size + 1 + 1) (w.heap.size + 1) (useW w n) ∧ MapI (w.heap.size + 1) [] (useW w n) ∧ Below w.heap.size w (useW w n) ∧ (useW w n).heap.size = w.heap.size + 1 + 1 + 1) := ⟨f1, f2, hbw, f4⟩
  clear hd hN hM hlen hR f1 f2 f3 f4 hb1 hbw
  go_enter Tryz.func9, Tryz.ntmps9
  go_wp2_with (go_at_call 23; refine cp.mono ?_; rintro e w1 ⟨A1, m1, c1, rfl, H1, hb1⟩)
  have hm1 : m1 ≤ 1048576 := by rw [H1.out.1]; exact HW.out.2.2.2.1
  obtain ⟨b, hb⟩ : ∃ b, b = w.heap.size + 1 := ⟨_, rfl⟩
  obtain ⟨B, hB⟩ : ∃ B, B = w.heap.size + 1 + 1 := ⟨_, rfl⟩
  have HG : Aside (BoxM B b w1 ∧ MapI b [] w1 ∧ Below w.heap.size w w1 ∧ w.heap.size ≤ b ∧ w.heap.size ≤ B ∧ B ≠ b ∧ ∀ ad, A1 = some ad → ad.block ≠ b) := by
    subst hb; subst hB
    exact ⟨HF.out.1.below hb1, HF.out.2.1.below hb1, HF.out.2.2.1.trans (hb1.mono HF.out.2.2.1.size), by omega, by omega, by omega, fun ad h e => by have := H1.out.2.2 ad h; rw [HF.out.2.2.2] at this; omega⟩
  rw [← hB]
  clear z0 z1 z2 z3 z4 z5 z6 z7 z8 cp HF hb1 hmm hb hB
  go_loopg [12] m1 (fun g si wx => ∃ (k : Nat) (L : List (List UInt8)), k + g = m1 ∧ si = .int .i64 k ∧ Aside (L ++ ((walkF N n).drop k).flatMap (pUn N) = (walkF N n).flatMap (pUn N)) ∧ Aside (MapI b L wx) ∧ w1.grownBy wx (some b))
  case atStart => exact ⟨0, [], by omega, rfl, rfl, HG.out.2.1, World.grownBy.refl _ _⟩
  case round =>
    obtain ⟨k, L, hkg, rfl, HI, HQ, hgr⟩ := hrel
    cases gk with
    | zero =>
      have hkz : ¬ (k : Int) < (m1 : Int) := by omega
      have ha : Aside (L = (walkF N n).flatMap (pUn N)) := by show _ = _; rw [← HI.out, List.drop_eq_nil_of_le (by have := H1.out.1; omega)]; simp
      have hbx : BoxM B b wr := HG.out.1.grown hgr HG.out.2.2.2.2.2.1
      have e0 := cell_of_one hbx
      have hLl : L.length ≤ 1048576 := by rw [ha.out]; exact HW.out.2.2.2.2
      have cK := fun W => (callsIn_wide (n := 5)).1 (AnyZ.keys_in Tryz.keys71 Fence.wide 5 trivial rfl (some b) W)
      change ∀ W, Calls Tryz.prog 32 _ W _ at cK
      have cS := sorted_set wr.heap.size b L (wr.alloc (.cells #[.map (some b)] 53)) (by simp) (by simp) (HQ.out.alloc _) hLl
      have HBW : Aside (Below w.heap.size w (wr.alloc (.cells #[.map (some b)] 53))) := (below_add HG.out.2.2.1 hgr HG.out.2.2.2.1).alloc (below_add HG.out.2.2.1 hgr HG.out.2.2.2.1).size _
      clear hbx hLl
      go_wp2_with (first
        | (go_at_call 32; refine (cK _).mono ?_; rintro e W1 ⟨rfl, rfl⟩)
        | (go_at_call 31; refine cS.mono ?_; rintro e w2 ⟨a, m, c, rfl, H2, hb2⟩))
      go_ret
      exact ⟨a, m, c, rfl, by rw [← ha.out]; exact H2, HBW.out.trans (hb2.mono HBW.out.size)⟩
    | succ g =>
      have hkz : (k : Int) < (m1 : Int) := by omega
      have hk63 : (k : Int) + 1 ≤ 9223372036854775807 := by omega
      obtain ⟨x, hx⟩ : ∃ x, (walkF N n)[k]? = some x := ⟨_, List.getElem?_eq_getElem (by have := H1.out.1; omega)⟩
      have hbw : Below w.heap.size w wr := below_add HG.out.2.2.1 hgr HG.out.2.2.2.1
      have HX : Aside (DeepN w x ∧ szN x ≤ N) := by
        have h1 := walk_mem N n x w (List.mem_of_getElem? hx) HW.out.1
        exact ⟨h1.1, Nat.le_trans h1.2 HW.out.2.1⟩
      obtain ⟨b1, o1, rfl, hlt, hc⟩ := (rdS_kept H1.out.2.1 hgr (fun ad h e => HG.out.2.2.2.2.2.2 ad h (Option.some.inj e))) k x hx
      obtain ⟨c0, c1', c2, c3, c4, c5, c6, c7, c8⟩ := nineN hc
      have h5 := HI.out
      rw [Lib.drop_at hx, List.flatMap_cons] at h5
      obtain ⟨T, hT⟩ : ∃ T, T = ((walkF N n).drop (k + 1)).flatMap (pUn N) := ⟨_, rfl⟩
      rw [← hT] at h5
      have HT : Aside (T = ((walkF N n).drop (k + 1)).flatMap (pUn N)) := hT
      have H5 : Aside (L ++ ((wordsT x).flatMap (pUw N) ++ T) = (walkF N n).flatMap (pUn N)) := h5
      have HBX : Aside (Below wr.heap.size wr (boxN wr x)) := (Below.refl _ _).alloc (Nat.le_refl _) _
      have hbx1 : Below w.heap.size w (boxN wr x) := hbw.trans (HBX.out.mono hbw.size)
      obtain ⟨z0, z1, z2, z3, z4, z5, z6, z7, z8⟩ := boxN_in (Below.refl (boxN wr x).heap.size (boxN wr x))
      have cw := pwords_calls x (boxN wr x) (HX.out.1.up hbx1) (Nat.le_trans (words_len x) (Nat.le_trans HX.out.2 HW.out.2.2.1)) (Nat.le_trans (items_len x) (Nat.le_trans HX.out.2 HW.out.2.2.1))
      clear hc hx hlt h5 hT HI
      go_wp2_with (go_at_call 24; refine cw.mono ?_; rintro e w2 ⟨A2, m2, c2', rfl, H2, hb2⟩)
      have hm2 : m2 ≤ 1048576 := by rw [H2.out.1]; exact Nat.le_trans (words_len x) (Nat.le_trans HX.out.2 HW.out.2.2.1)
      have hbr2 : Below wr.heap.size wr w2 := HBX.out.trans (hb2.mono HBX.out.size)
      have HG2 : Aside (BoxM B b w2 ∧ MapI b L w2 ∧ Below w.heap.size w w2 ∧ w1.grownBy w2 (some b) ∧ ∀ ad, A2 = some ad → ad.block ≠ b) := ⟨(HG.out.1.grown hgr HG.out.2.2.2.2.2.1).below hbr2, HQ.out.below hbr2, hbw.trans (hbr2.mono hbw.size), hgr.trans (grown_of_below hbr2), fun ad h e => by have h1 := H2.out.2.2 ad h; have h2 := HQ.out.lt; have h3 := HBX.out.size; omega⟩
      clear z0 z1 z2 z3 z4 z5 z6 z7 z8 c0 c1' c2 c3 c4 c5 c6 c7 c8 cw hb2 hbr2 hbx1 hbw HBX HQ hgr
      go_loopg [19] m2 (fun g si wx => ∃ (j : Nat) (L : List (List UInt8)), j + g = m2 ∧ si = .int .i64 j ∧ Aside (L ++ (((wordsT x).drop j).flatMap (pUw N) ++ T) = (walkF N n).flatMap (pUn N)) ∧ Aside (MapI b L wx) ∧ w2.grownBy wx (some b))
      case atStart => exact ⟨0, L, by omega, rfl, H5.out, HG2.out.2.1, World.grownBy.refl _ _⟩
      case round =>
        clear H5
        obtain ⟨j, L, hjg, rfl, HI, HQ, hgr⟩ := hrel
        cases gk with
        | zero =>
          have hjz : ¬ (j : Int) < (m2 : Int) := by omega
          have HE : Aside (L ++ T = (walkF N n).flatMap (pUn N)) := by have h := HI.out; rw [List.drop_eq_nil_of_le (by have := H2.out.1; omega)] at h; exact h
          go_wp2
          go_roundg g
          case measure => omega
          case rel => exact ⟨k + 1, L, by omega, by simp, by rw [← HT.out]; exact HE.out, HQ.out, HG2.out.2.2.2.1.trans hgr⟩
        | succ g2 =>
          have hjz : (j : Int) < (m2 : Int) := by omega
          have hj63 : (j : Int) + 1 ≤ 9223372036854775807 := by omega
          obtain ⟨y, hy⟩ : ∃ y, (wordsT x)[j]? = some y := ⟨_, List.getElem?_eq_getElem (by have := H2.out.1; omega)⟩
          obtain ⟨b2, o2, rfl, hlt2, hc2⟩ := (rdS_kept H2.out.2.1 hgr (fun ad h e => HG2.out.2.2.2.2 ad h (Option.some.inj e))) j y hy
          have c0 : wr.cell? ⟨b2, o2 + j * 2, none⟩ = some (.int .i64 y.pos) := hc2 0 _ rfl
          have c1' : wr.cell? ⟨b2, o2 + j * 2 + 1, none⟩ = some (.slice y.h.1 y.parts.length y.h.2) := hc2 1 _ rfl
          have h6 := HI.out
          rw [Lib.drop_at hy, List.flatMap_cons, List.append_assoc, show pUw N y = parF N y.parts ++ ariF N y.parts from rfl, List.append_assoc] at h6
          have H6 : Aside (L ++ parF N y.parts ++ ariF N y.parts ++ (((wordsT x).drop (j + 1)).flatMap (pUw N) ++ T) = (walkF N n).flatMap (pUn N)) := by show _ = _; rw [← h6]; simp only [List.append_assoc]
          have hlR := HW.out.2.2.2.2
          rw [← H6.out] at hlR
          have HLR : Aside (L.length + (parF N y.parts).length ≤ 1048576 ∧ (L ++ parF N y.parts).length + (ariF N y.parts).length ≤ 1048576) := by simp only [List.length_append] at hlR ⊢; exact ⟨by omega, by omega⟩
          have hyw := List.mem_of_getElem? hy
          have HY : Aside (DeepP w y.h y.parts ∧ szPs y.parts ≤ N) := ⟨HX.out.1.word hyw, by have := word_sz hyw; have := HX.out.2; omega⟩
          have HBX : Aside (Below wr.heap.size wr (boxV wr y)) := (Below.refl _ _).alloc (Nat.le_refl _) _
          have hbw : Below w.heap.size w wr := below_add HG2.out.2.2.1 hgr HG.out.2.2.2.1
          have HWB : Aside (Below w.heap.size w (boxV wr y) ∧ MapI b L (boxV wr y) ∧ BoxM B b (boxV wr y) ∧ w2.grownBy (boxV wr y) (some b) ∧ b < wr.heap.size) := ⟨hbw.trans (HBX.out.mono hbw.size), HQ.out.below HBX.out, (HG2.out.1.grown hgr HG.out.2.2.2.2.2.1).below HBX.out, hgr.trans (grown_of_below HBX.out), HQ.out.lt⟩
          have e0 := cell_of_one HWB.out.2.2.1
          have q1 := boxV_in (Below.refl (boxV wr y).heap.size (boxV wr y))
          have cpar : Aside (∀ W, Below w.heap.size w W → Calls Tryz.prog 40 #[.slice y.h.1 y.parts.length y.h.2] W (NamesP (parF N y.parts) W)) := fun W h => params_calls N y.parts y.h.1 y.h.2 W HY.out.2 HW.out.2.2.1 (HY.out.1.up h) (by have := HLR.out.1; omega)
          have hbd : Below (boxV wr y).heap.size (boxV wr y) (boxV wr y).drew := below_drew (boxV wr y) 1
          clear hy hlt2 hc2 h6 hlR hyw HI HQ hgr hbw
          go_upto_region 8 with fail
          go_region_held3 (fun w' => w'.cell? ⟨B, 0, none⟩ = some (.map (some b)) ∧ w'.cell? ⟨wr.heap.size, 1, none⟩ = some (.slice y.h.1 y.parts.length y.h.2)) (first | exact ⟨e0, q1⟩ | exact ⟨e03, q13⟩ | exact ⟨e04, q14⟩) ((first
            | (go_at_call 40; refine (cpar.out _ (HWB.out.1.trans (hbd.mono HWB.out.1.size))).mono ?_; rintro e w3 ⟨A3, m3, c3, rfl, H3, hb3⟩; have hb13 : Below (boxV wr y).heap.size (boxV wr y) w3 := hbd.trans (hb3.mono hbd.size); have hB3 := HWB.out.2.2.1.below hb13; have e03 := cell_of_one hB3; have q13 := boxV_in hb13; have hm3 := HWB.out.2.1.below hb13)
            | (go_at_call 29; refine (adds_calls b L (parF N y.parts) A3 m3 c3 w3 H3.out.1 HLR.out.1 (fun z hz => Nat.le_trans (parF_txt N y.parts z hz) (Nat.le_trans HY.out.2 HW.out.2.2.1)) H3.out.2.1 hm3 (fun ad h e => by have h1 := H3.out.2.2 ad h; have h2 := HWB.out.2.2.2.2; have h3 := hbd.size; simp at h1; omega)).mono ?_; rintro e w4 ⟨rfl, hm4, hg4⟩; have hg14 : (boxV wr y).grownBy w4 (some b) := (grown_of_below hb13).trans hg4; have hB4 := hB3.grown hg4 HG.out.2.2.2.2.2.1; have e04 := cell_of_one hB4; have q14 := boxV_grown HWB.out.2.2.2.2 hg14)))
          have cv := visit_calls 41 B b ariOwn w (enters_of Tryz.func41 (by kernel_rfl) rfl) (uses1_vis B b w HG.out.2.2.2.2.1 HG.out.2.2.2.1 HG.out.2.2.2.2.2.1) HG.out.2.2.2.2.1 HG.out.2.2.2.1 HG.out.2.2.2.2.2.1 N y.parts y.h.1 y.h.2 (L ++ parF N y.parts) w4 HY.out.2 HW.out.2.2.1 HY.out.1 (below_add HWB.out.1 hg14 HG.out.2.2.2.1) hB4 hm4 (by rw [← ariF_vis]; exact HLR.out.2)
          rw [← ariF_vis] at cv
          go_wp2_with (go_at_call 25; refine cv.mono ?_; rintro e w5 ⟨rfl, hm5, hg5⟩)
          go_roundg g2
          case measure => omega
          case rel => exact ⟨j + 1, _, by omega, by simp, H6.out, hm5, HWB.out.2.2.2.1.trans (hg14.trans hg5)⟩
end Go.Proofs.YtfdhkchglacccaaGreatDoor
