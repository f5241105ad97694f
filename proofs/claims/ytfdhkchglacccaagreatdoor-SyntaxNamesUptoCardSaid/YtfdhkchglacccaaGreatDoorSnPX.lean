/- The program: Assigned. No statement is proved here. -/
import Derived.Test.YtfdhkchglacccaaGreatDoorSnPV
set_option linter.all false
/-! Assigned (printed by genPX.py) -/
namespace Go.Proofs.YtfdhkchglacccaaGreatDoor
open Go Go.RowKit Go.Maps Go.Mir Go.Shelf Go.Sort Go.Syn
set_option maxHeartbeats 2000000
set_option maxRecDepth 100000
noncomputable abbrev nodeG (n : NodeT) (AA : Option Addr) : Value := .agg #[.int .i64 n.kind, .int .i64 n.pos, .string ⟨n.name.toArray⟩, .bool n.all, .slice AA n.assigns.length n.ah.2, .slice n.wh.1 n.words.length n.wh.2, .slice n.rh.1 n.redirs.length n.rh.2, .slice n.kh.1 n.kids.length n.kh.2, .slice n.ih.1 n.items.length n.ih.2]
noncomputable abbrev boxG (w : World) (n : NodeT) (AA : Option Addr) : World := w.alloc (.cells #[.int .i64 n.kind, .int .i64 n.pos, .string ⟨n.name.toArray⟩, .bool n.all, .slice AA n.assigns.length n.ah.2, .slice n.wh.1 n.words.length n.wh.2, .slice n.rh.1 n.redirs.length n.rh.2, .slice n.kh.1 n.kids.length n.kh.2, .slice n.ih.1 n.items.length n.ih.2] 28)
theorem boxG_in {w : World} {n : NodeT} {AA : Option Addr} {W : World} (hb : W.heap[w.heap.size]? = (boxG w n AA).heap[w.heap.size]?) : W.cell? ⟨w.heap.size, 0, none⟩ = some (.int .i64 n.kind) ∧ W.cell? ⟨w.heap.size, 1, none⟩ = some (.int .i64 n.pos) ∧ W.cell? ⟨w.heap.size, 2, none⟩ = some (.string ⟨n.name.toArray⟩) ∧ W.cell? ⟨w.heap.size, 3, none⟩ = some (.bool n.all) ∧ W.cell? ⟨w.heap.size, 4, none⟩ = some (.slice AA n.assigns.length n.ah.2) ∧ W.cell? ⟨w.heap.size, 5, none⟩ = some (.slice n.wh.1 n.words.length n.wh.2) ∧ W.cell? ⟨w.heap.size, 6, none⟩ = some (.slice n.rh.1 n.redirs.length n.rh.2) ∧ W.cell? ⟨w.heap.size, 7, none⟩ = some (.slice n.kh.1 n.kids.length n.kh.2) ∧ W.cell? ⟨w.heap.size, 8, none⟩ = some (.slice n.ih.1 n.items.length n.ih.2) := by
  have h : W.heap[w.heap.size]? = some (.cells #[.int .i64 n.kind, .int .i64 n.pos, .string ⟨n.name.toArray⟩, .bool n.all, .slice AA n.assigns.length n.ah.2, .slice n.wh.1 n.words.length n.wh.2, .slice n.rh.1 n.redirs.length n.rh.2, .slice n.kh.1 n.kids.length n.kh.2, .slice n.ih.1 n.items.length n.ih.2] 28 (0, 0)) := hb.trans (heap_alloc_new w _)
  refine ⟨?_, ?_, ?_, ?_, ?_, ?_, ?_, ?_, ?_⟩
  all_goals simp [World.cell?, h]
theorem boxG_grown {w : World} {n : NodeT} {AA : Option Addr} {W : World} {b : Nat} (hb : b < w.heap.size) (h : (boxG w n AA).grownBy W (some b)) : W.cell? ⟨w.heap.size, 0, none⟩ = some (.int .i64 n.kind) ∧ W.cell? ⟨w.heap.size, 1, none⟩ = some (.int .i64 n.pos) ∧ W.cell? ⟨w.heap.size, 2, none⟩ = some (.string ⟨n.name.toArray⟩) ∧ W.cell? ⟨w.heap.size, 3, none⟩ = some (.bool n.all) ∧ W.cell? ⟨w.heap.size, 4, none⟩ = some (.slice AA n.assigns.length n.ah.2) ∧ W.cell? ⟨w.heap.size, 5, none⟩ = some (.slice n.wh.1 n.words.length n.wh.2) ∧ W.cell? ⟨w.heap.size, 6, none⟩ = some (.slice n.rh.1 n.redirs.length n.rh.2) ∧ W.cell? ⟨w.heap.size, 7, none⟩ = some (.slice n.kh.1 n.kids.length n.kh.2) ∧ W.cell? ⟨w.heap.size, 8, none⟩ = some (.slice n.ih.1 n.items.length n.ih.2) := boxG_in (h.block w.heap.size (by simp) (fun e => by have := Option.some.inj e; omega))
theorem name_sz (n : NodeT) : n.name.length ≤ szN n := by rw [szN_eq]; omega
theorem aname_sz {n : NodeT} {a : AssignT} (h : a ∈ n.assigns) : a.name.length ≤ szN n := by
  have h1 : szA a ≤ (n.assigns.map szA).sum := sum_mem szA h
  have h2 : szA a = a.name.length + szW a.w := rfl
  rw [szN_eq]; omega
theorem opW_txt (x : WordT) : ∀ z ∈ opW x, z.length ≤ szPs x.parts := by
  intro z h
  unfold opW at h
  cases hv : litP x.parts with
  | none => rw [hv] at h; simp at h
  | some v =>
    rw [hv] at h
    simp only at h
    split at h
    · rw [List.mem_singleton] at h
      rw [h]
      exact Nat.le_trans (cutE_len v) (litP_len _ _ hv)
    · simp at h
theorem operT_txt (n : NodeT) : ∀ z ∈ operT n, z.length ≤ szN n := by
  intro z h
  have key : ∀ y r, n.words = y :: r → z ∈ r.flatMap opW → z.length ≤ szN n := fun y r hw h => by
    obtain ⟨x, hx, h⟩ := List.mem_flatMap.1 h
    have h1 : x ∈ wordsT n := by unfold wordsT; simp [hw, hx]
    have := opW_txt x z h
    have := word_sz h1
    omega
  unfold operT at h
  split at h
  · simp at h
  · rename_i y r hw
    split at h
    · exact key y r hw h
    · simp at h
/-- what is known of the node under way -/
def AsgK (N : Nat) (n x : NodeT) (B b : Nat) (w w1 wr : World) (AA : Option Addr) (T : List (List UInt8)) : Prop := DeepN w n ∧ szN n ≤ N ∧ N ≤ 1048576 ∧ ((walkF N n).flatMap (asgN N)).length ≤ 1048576 ∧ DeepN w x ∧ szN x ≤ N ∧ AA = x.ah.1 ∧
  BoxM B b (boxG wr x AA) ∧ Below w.heap.size w (boxG wr x AA) ∧ w1.grownBy (boxG wr x AA) (some b) ∧ b < wr.heap.size ∧ w.heap.size ≤ b ∧ w.heap.size ≤ B ∧ B ≠ b
theorem pasgs_calls (N : Nat) (n : NodeT) (w : World) (hN : szN n ≤ N) (hM : N ≤ 1048576) (hd : DeepN w n) :
    Calls Tryz.prog 7 #[nodeV n] w (ListP (setS ((walkF N n).flatMap (asgN N))) w) := by
  have hmm := @Go.RowKit.run_makeMap Tryz.prog
  obtain ⟨f1, f2, f3, f4⟩ := useW_facts w n
  have hb1 : Below w.heap.size w (boxN w n) := (Below.refl _ _).alloc (Nat.le_refl _) _
  have hbw := hb1.trans (f3.mono hb1.size)
  have cp := preor_calls N n (useW w n) hN hM (hd.up hbw)
  obtain ⟨z0, z1, z2, z3, z4, z5, z6, z7, z8⟩ := boxN_in f3
  have hlen : (walkF N n).length ≤ 1048576 := by have := walk_len N n; omega
  have hR : ((walkF N n).flatMap (asgN N)).length ≤ 1048576 := Nat.le_trans (asgNs_len N N n) (Nat.le_trans hN hM)
  have HW : Aside (DeepN w n ∧ szN n ≤ N ∧ N ≤ 1048576 ∧ (walkF N n).length ≤ 1048576 ∧ ((walkF N n).flatMap (asgN N)).length ≤ 1048576) := ⟨hd, hN, hM, hlen, hR⟩
  have HF : Aside (BoxM (w.heap.size + 1 + 1) (w.heap.size + 1) (useW w n) ∧ MapI (w.heap.size + 1) [] (useW w n) ∧ Below w.heap.size w (useW w n) ∧ (useW w n).heap.size = w.heap.size + 1 + 1 + 1) := ⟨f1, f2, hbw, f4⟩
  clear hd hN hM hlen hR f1 f2 f3 f4 hb1 hbw
  go_enter Tryz.func7, Tryz.ntmps7
  go_wp2_with (go_at_call 23; refine cp.mono ?_; rintro e w1 ⟨A1, m1, c1, rfl, H1, hb1⟩)
  have hm1 : m1 ≤ 1048576 := by rw [H1.out.1]; exact HW.out.2.2.2.1
  obtain ⟨b, hb⟩ : ∃ b, b = w.heap.size + 1 := ⟨_, rfl⟩
  obtain ⟨B, hB⟩ : ∃ B, B = w.heap.size + 1 + 1 := ⟨_, rfl⟩
  have HG : Aside (BoxM B b w1 ∧ MapI b [] w1 ∧ Below w.heap.size w w1 ∧ w.heap.size ≤ b ∧ w.heap.size ≤ B ∧ B ≠ b ∧ ∀ ad, A1 = some ad → ad.block ≠ b) := by
    subst hb; subst hB
    exact ⟨HF.out.1.below hb1, HF.out.2.1.below hb1, HF.out.2.2.1.trans (hb1.mono HF.out.2.2.1.size), by omega, by omega, by omega, fun ad h e => by have := H1.out.2.2 ad h; rw [HF.out.2.2.2] at this; omega⟩
  rw [← hB]
  clear z0 z1 z2 z3 z4 z5 z6 z7 z8 cp HF hb1 hmm hb hB
  go_loopg [14] m1 (fun g si wx => ∃ (k : Nat) (L : List (List UInt8)), k + g = m1 ∧ si = .int .i64 k ∧ Aside (L ++ ((walkF N n).drop k).flatMap (asgN N) = (walkF N n).flatMap (asgN N)) ∧ Aside (MapI b L wx) ∧ w1.grownBy wx (some b))
  case atStart => exact ⟨0, [], by omega, rfl, rfl, HG.out.2.1, World.grownBy.refl _ _⟩
  case round =>
    obtain ⟨k, L, hkg, rfl, HI, HQ, hgr⟩ := hrel
    cases gk with
    | zero =>
      have hkz : ¬ (k : Int) < (m1 : Int) := by omega
      have ha : Aside (L = (walkF N n).flatMap (asgN N)) := by show _ = _; rw [← HI.out, List.drop_eq_nil_of_le (by have := H1.out.1; omega)]; simp
      have hbx : BoxM B b wr := HG.out.1.grown hgr HG.out.2.2.2.2.2.1
      have e0 := cell_of_one hbx
      have hLl : L.length ≤ 1048576 := by rw [ha.out]; exact HW.out.2.2.2.2
      have cK := fun W => (callsIn_wide (n := 5)).1 (AnyZ.keys_in Tryz.keys71 Fence.wide 5 trivial rfl (some b) W)
      change ∀ W, Calls Tryz.prog 32 _ W _ at cK
      have cS := sorted_set wr.heap.size b L (wr.alloc (.cells #[.map (some b)] 53)) (by simp) (by simp) (HQ.out.alloc _) hLl
      have HBW : Aside (Below w.heap.size w (wr.alloc (.cells #[.map (some b)] 53))) := (below_add HG.out.2.2.1 hgr HG.out.2.2.2.1).alloc (below_add HG.out.2.2.1 hgr HG.out.2.2.2.1).size _
      clear hbx hLl
      go_wp2_with (first
        | (go_at_call 32; refine (cK _).mono ?_; rintro e W1 ⟨rfl, rfl⟩)
        | (go_at_call 31; refine cS.mono ?_; rintro e w2 ⟨a, m, c, rfl, H2, hb2⟩))
      go_ret
      exact ⟨a, m, c, rfl, by rw [← ha.out]; exact H2, HBW.out.trans (hb2.mono HBW.out.size)⟩
    | succ g =>
      obtain ⟨q0, hq0⟩ : ∃ q, q = wr := ⟨_, rfl⟩
      subst hq0
      have hkz : (k : Int) < (m1 : Int) := by omega
      have hk63 : (k : Int) + 1 ≤ 9223372036854775807 := by omega
      obtain ⟨x, hx⟩ : ∃ x, (walkF N n)[k]? = some x := ⟨_, List.getElem?_eq_getElem (by have := H1.out.1; omega)⟩
      have hbw : Below w.heap.size w q0 := below_add HG.out.2.2.1 hgr HG.out.2.2.2.1
      obtain ⟨AA, hAA⟩ : ∃ a, a = x.ah.1 := ⟨_, rfl⟩
      have HX : Aside (DeepN w x ∧ szN x ≤ N) := by
        have h1 := walk_mem N n x w (List.mem_of_getElem? hx) HW.out.1
        exact ⟨h1.1, Nat.le_trans h1.2 HW.out.2.1⟩
      obtain ⟨b1, o1, rfl, hlt, hc⟩ := (rdS_kept H1.out.2.1 hgr (fun ad h e => HG.out.2.2.2.2.2.2 ad h (Option.some.inj e))) k x hx
      obtain ⟨c0, c1', c2, c3, c4, c5, c6, c7, c8⟩ := nineN hc
      rw [← hAA] at c4
      have h5 := HI.out
      rw [Lib.drop_at hx, List.flatMap_cons, asgN_eq] at h5
      obtain ⟨T, hT⟩ : ∃ T, T = ((walkF N n).drop (k + 1)).flatMap (asgN N) := ⟨_, rfl⟩
      rw [← hT] at h5
      simp only [List.append_assoc] at h5
      have HT : Aside (T = ((walkF N n).drop (k + 1)).flatMap (asgN N)) := hT
      have H5 : Aside (L ++ (x.assigns.map (·.name) ++ ((if x.kind = 13 then [x.name] else []) ++ (WBack N asgF (wordsT x) ++ (opsN x ++ T)))) = (walkF N n).flatMap (asgN N)) := h5
      have HBX : Aside (Below q0.heap.size q0 (boxG q0 x AA)) := (Below.refl _ _).alloc (Nat.le_refl _) _
      have HK : Aside (AsgK N n x B b w w1 q0 AA T) := ⟨HW.out.1, HW.out.2.1, HW.out.2.2.1, HW.out.2.2.2.2, HX.out.1, HX.out.2, hAA, (HG.out.1.grown hgr HG.out.2.2.2.2.2.1).below HBX.out, hbw.trans (HBX.out.mono hbw.size), hgr.trans (grown_of_below HBX.out), HQ.out.lt, HG.out.2.2.2.1, HG.out.2.2.2.2.1, HG.out.2.2.2.2.2.1⟩
      have HMX : Aside (MapI b L (boxG q0 x AA)) := HQ.out.below HBX.out
      have haa : Aside (RdS 4 encA w AA x.assigns) := by rw [hAA]; obtain ⟨n, h1, _, _, _, _, _, _, _, _, _⟩ := HX.out.1; exact h1.rd
      have hal : x.assigns.length ≤ 1048576 := Nat.le_trans (assigns_len x) (Nat.le_trans HX.out.2 HW.out.2.2.1)
      obtain ⟨z0, z1, z2, z3, z4, z5, z6, z7, z8⟩ := boxG_in (w := q0) (n := x) (AA := AA) (W := boxG q0 x AA) rfl
      clear hc hx hlt h5 hT HI hAA hgr hbw HBX HQ HX
      go_wp2
      go_loopg [21] x.assigns.length (fun g si wx => ∃ (j : Nat) (L : List (List UInt8)), j + g = x.assigns.length ∧ si = .int .i64 j ∧ Aside (L ++ ((x.assigns.drop j).map (·.name) ++ ((if x.kind = 13 then [x.name] else []) ++ (WBack N asgF (wordsT x) ++ (opsN x ++ T)))) = (walkF N n).flatMap (asgN N)) ∧ Aside (MapI b L wx) ∧ Aside ((boxG q0 x AA).grownBy wx (some b)))
      case atStart => exact ⟨0, L, by omega, rfl, H5.out, HMX.out, World.grownBy.refl _ _⟩
      case round =>
        clear H5 HMX z0 z1 z2 z3 z4 z5 z6 z7 z8 c0 c1' c2 c3 c4 c5 c6 c7 c8
        obtain ⟨j, L, hjg, rfl, HI, HQ, HGR⟩ := hrel
        cases gk with
        | succ g2 =>
          have hjz : (j : Int) < (x.assigns.length : Int) := by omega
          have hj63 : (j : Int) + 1 ≤ 9223372036854775807 := by omega
          obtain ⟨a, ha⟩ : ∃ y, x.assigns[j]? = some y := ⟨_, List.getElem?_eq_getElem (by omega)⟩
          have hbw2 : Below w.heap.size w wr := below_add HK.out.2.2.2.2.2.2.2.2.1 HGR.out HK.out.2.2.2.2.2.2.2.2.2.2.2.1
          obtain ⟨b2, o2, rfl, hlt2, hc2⟩ := (haa.out.up hbw2) j a ha
          have d0 : wr.cell? ⟨b2, o2 + j * 4, none⟩ = some (.int .i64 a.pos) := hc2 0 _ rfl
          have d1 : wr.cell? ⟨b2, o2 + j * 4 + 1, none⟩ = some (.string ⟨a.name.toArray⟩) := hc2 1 _ rfl
          have d2 : wr.cell? ⟨b2, o2 + j * 4 + 2, none⟩ = some (.int .i64 a.w.pos) := hc2 2 _ rfl
          have d3 : wr.cell? ⟨b2, o2 + j * 4 + 3, none⟩ = some (.slice a.w.h.1 a.w.parts.length a.w.h.2) := hc2 3 _ rfl
          have h6 := HI.out
          rw [Lib.drop_at ha, List.map_cons, List.cons_append] at h6
          have H6 : Aside ((L ++ [a.name]) ++ ((x.assigns.drop (j + 1)).map (·.name) ++ ((if x.kind = 13 then [x.name] else []) ++ (WBack N asgF (wordsT x) ++ (opsN x ++ T)))) = (walkF N n).flatMap (asgN N)) := by show _ = _; rw [← h6]; simp
          have hml : L.length < maxLen := by have h7 := HK.out.2.2.2.1; rw [← H6.out] at h7; simp only [List.length_append, List.length_singleton] at h7; unfold maxLen; omega
          have HBA : Aside (Below wr.heap.size wr (boxA wr a)) := (Below.refl _ _).alloc (Nat.le_refl _) _
          have hbx := (HK.out.2.2.2.2.2.2.2.1.grown HGR.out HK.out.2.2.2.2.2.2.2.2.2.2.2.2.2).below HBA.out
          have e0 := cell_of_one hbx
          have hmo : (boxA wr a).ownsMap Tryz.prog 9 RB b L.length (setD L) := HQ.out.below HBA.out
          have HKey : Aside (keyOf Tryz.prog 9 (.string ⟨a.name.toArray⟩) = some (.string a.name)) := keyS (by have h1 := aname_sz (List.mem_of_getElem? ha); have h2 := HK.out.2.2.2.2.2.1; have h3 := HK.out.2.2.1; unfold maxLen; omega)
          have HGA : Aside ((boxG q0 x (some ⟨b2, o2, none⟩)).grownBy (boxA wr a) (some b)) := HGR.out.trans (grown_of_below HBA.out)
          clear ha hlt2 hc2 h6 hbx hbw2 HI HQ HGR
          go_wp2_with (at_mapUpdate; go_loud (refine wpList_mapUpdate_own _ rfl _ _ _ 53 rfl 9 4 law9 Tryz.underlying53 _ b _ _ rfl hmo hml _ _ _ rfl rfl HKey.out _ [] (plainElem_bool Tryz.underlying4 true) ?_))
          intro w4 hown4 hgrow4
          go_wp2
          go_roundg g2
          case measure => omega
          case rel =>
            refine ⟨j + 1, L ++ [a.name], by omega, by simp, H6.out, ?_, HGA.out.trans hgrow4⟩
            show MapI _ _ _
            unfold MapI
            rw [setD_snoc, List.length_append]
            exact hown4
        | zero =>
          have hjz : ¬ (j : Int) < (x.assigns.length : Int) := by omega
          have h5 := HI.out
          rw [List.drop_eq_nil_of_le (by omega), List.map_nil, List.nil_append] at h5
          have H5 : Aside _ := h5
          obtain ⟨z0, z1, z2, z3, z4, z5, z6, z7, z8⟩ := boxG_grown HK.out.2.2.2.2.2.2.2.2.2.2.1 HGR.out
          have hbx := HK.out.2.2.2.2.2.2.2.1.grown HGR.out HK.out.2.2.2.2.2.2.2.2.2.2.2.2.2
          have e0 := cell_of_one hbx
          clear h5 HI hal hbx
          by_cases hk : x.kind = 13
          · have hkk : (x.kind == 13) = true := by simpa using hk
            have H6 : Aside ((L ++ [x.name]) ++ (WBack N asgF (wordsT x) ++ (opsN x ++ T)) = (walkF N n).flatMap (asgN N)) := by have h := H5.out; rw [if_pos hk] at h; show _ = _; rw [← h]; simp
            have hml : L.length < maxLen := by have h7 := HK.out.2.2.2.1; rw [← H6.out] at h7; simp only [List.length_append, List.length_singleton] at h7; unfold maxLen; omega
            have hmo : wr.ownsMap Tryz.prog 9 RB b L.length (setD L) := HQ.out
            have HKey : Aside (keyOf Tryz.prog 9 (.string ⟨x.name.toArray⟩) = some (.string x.name)) := keyS (by have h1 := name_sz x; have h2 := HK.out.2.2.2.2.2.1; have h3 := HK.out.2.2.1; unfold maxLen; omega)
            clear hk H5 HQ
            go_wp2_with (at_mapUpdate; go_loud (refine wpList_mapUpdate_own _ rfl _ _ _ 53 rfl 9 4 law9 Tryz.underlying53 _ b _ _ rfl hmo hml _ _ _ rfl rfl HKey.out _ [] (plainElem_bool Tryz.underlying4 true) ?_))
            intro w4 hown4 hgrow4
            have HQ4 : Aside (MapI b (L ++ [x.name]) w4) := by show MapI _ _ _; unfold MapI; rw [setD_snoc, List.length_append]; exact hown4
            have HG4 : Aside ((boxG q0 x AA).grownBy w4 (some b)) := HGR.out.trans hgrow4
            clear z0 z1 z2 z3 z4 z5 z6 z7 z8 e0 hmo hown4 hgrow4 hml
            obtain ⟨L4, hL4⟩ : ∃ L4, L4 = L ++ [x.name] := ⟨_, rfl⟩
            rw [← hL4] at H6 HQ4
            clear hL4
            obtain ⟨y0, y1, y2, y3, y4, y5, y6, y7, y8⟩ := boxG_grown HK.out.2.2.2.2.2.2.2.2.2.2.1 HG4.out
            have hbw4 : Below w.heap.size w w4 := below_add HK.out.2.2.2.2.2.2.2.2.1 HG4.out HK.out.2.2.2.2.2.2.2.2.2.2.2.1
            have cw : Calls Tryz.prog 24 #[nodeG x AA] w4 (WordsQ x w4) := by
              have := pwords_calls x w4 (HK.out.2.2.2.2.1.up hbw4) (Nat.le_trans (words_len x) (Nat.le_trans HK.out.2.2.2.2.2.1 HK.out.2.2.1)) (Nat.le_trans (items_len x) (Nat.le_trans HK.out.2.2.2.2.2.1 HK.out.2.2.1))
              rw [HK.out.2.2.2.2.2.2.1]; exact this
            have hbx4 := HK.out.2.2.2.2.2.2.2.1.grown HG4.out HK.out.2.2.2.2.2.2.2.2.2.2.2.2.2
            have e0 := cell_of_one hbx4
            have HB4 : Aside (Below w.heap.size w w4 ∧ BoxM B b w4) := ⟨hbw4, hbx4⟩
            clear hbw4 hbx4
            go_wp2_with (go_at_call 24; refine cw.mono ?_; rintro e w5 ⟨A2, m2, c2', rfl, H2, hb5⟩)
            have hm2 : m2 ≤ 1048576 := by rw [H2.out.1]; exact Nat.le_trans (words_len x) (Nat.le_trans HK.out.2.2.2.2.2.1 HK.out.2.2.1)
            have HG5 : Aside ((boxG q0 x AA).grownBy w5 (some b) ∧ MapI b L4 w5 ∧ BoxM B b w5 ∧ Below w.heap.size w w5 ∧ ∀ ad, A2 = some ad → ad.block ≠ b) := ⟨HG4.out.trans (grown_of_below hb5), HQ4.out.below hb5, HB4.out.2.below hb5, HB4.out.1.trans (hb5.mono HB4.out.1.size), fun ad h e => by have h1 := H2.out.2.2 ad h; have h2 := HQ4.out.lt; omega⟩
            clear y0 y1 y2 y3 y4 y5 y6 y7 y8 cw e0 hb5 HB4 HG4 HQ4 hkk hjz hjg
            go_loopg [38] m2 (fun g si wx => ∃ (j : Nat) (L : List (List UInt8)), j + g = m2 ∧ si = .int .i64 j ∧ Aside (L ++ (WBack N asgF ((wordsT x).drop j) ++ (opsN x ++ T)) = (walkF N n).flatMap (asgN N)) ∧ Aside (MapI b L wx) ∧ Aside (w5.grownBy wx (some b)))
            case atStart => exact ⟨0, L4, by omega, rfl, H6.out, HG5.out.2.1, World.grownBy.refl _ _⟩
            case round =>
              clear H6
              obtain ⟨j, L, hjg, rfl, HI, HQ, HGR⟩ := hrel
              cases gk with
              | succ g2 =>
                have hjz : (j : Int) < (m2 : Int) := by omega
                have hj63 : (j : Int) + 1 ≤ 9223372036854775807 := by omega
                obtain ⟨y, hy⟩ : ∃ y, (wordsT x)[j]? = some y := ⟨_, List.getElem?_eq_getElem (by have := H2.out.1; omega)⟩
                obtain ⟨b2, o2, rfl, hlt2, hc2⟩ := (rdS_kept H2.out.2.1 HGR.out (fun ad h e => HG5.out.2.2.2.2 ad h (Option.some.inj e))) j y hy
                have d0 : wr.cell? ⟨b2, o2 + j * 2, none⟩ = some (.int .i64 y.pos) := hc2 0 _ rfl
                have d1 : wr.cell? ⟨b2, o2 + j * 2 + 1, none⟩ = some (.slice y.h.1 y.parts.length y.h.2) := hc2 1 _ rfl
                have h6 := HI.out
                rw [show WBack N asgF ((wordsT x).drop j) = asgF N y.parts ++ WBack N asgF ((wordsT x).drop (j + 1)) by rw [Lib.drop_at hy]; rfl] at h6
                have H6 : Aside (L ++ asgF N y.parts ++ (WBack N asgF ((wordsT x).drop (j + 1)) ++ (opsN x ++ T)) = (walkF N n).flatMap (asgN N)) := by show _ = _; rw [← h6]; simp only [List.append_assoc]
                have hLR : L.length + (asgF N y.parts).length ≤ 1048576 := by have h7 := HK.out.2.2.2.1; rw [← H6.out] at h7; simp only [List.length_append] at h7; omega
                have hyw := List.mem_of_getElem? hy
                have hbw : Below w.heap.size w wr := below_add HG5.out.2.2.2.1 HGR.out HK.out.2.2.2.2.2.2.2.2.2.2.2.1
                have HBX : Aside (Below wr.heap.size wr (boxV wr y)) := (Below.refl _ _).alloc (Nat.le_refl _) _
                have q1 := boxV_in (Below.refl (boxV wr y).heap.size (boxV wr y))
                have hbx := (HG5.out.2.2.1.grown HGR.out HK.out.2.2.2.2.2.2.2.2.2.2.2.2.2).below HBX.out
                have cv := visit_calls 26 B b asgOwn w (enters_of Tryz.func26 (by kernel_rfl) rfl) (asg1_vis B b w HK.out.2.2.2.2.2.2.2.2.2.2.2.2.1 HK.out.2.2.2.2.2.2.2.2.2.2.2.1 HK.out.2.2.2.2.2.2.2.2.2.2.2.2.2) HK.out.2.2.2.2.2.2.2.2.2.2.2.2.1 HK.out.2.2.2.2.2.2.2.2.2.2.2.1 HK.out.2.2.2.2.2.2.2.2.2.2.2.2.2 N y.parts y.h.1 y.h.2 L (boxV wr y) (by have := word_sz hyw; have := HK.out.2.2.2.2.2.1; omega) HK.out.2.2.1 (HK.out.2.2.2.2.1.word hyw) (hbw.trans (HBX.out.mono hbw.size)) hbx (HQ.out.below HBX.out) (by rw [← asgF_vis]; exact hLR)
                rw [← asgF_vis] at cv
                have HGA : Aside (w5.grownBy (boxV wr y) (some b)) := HGR.out.trans (grown_of_below HBX.out)
                clear hy hlt2 hc2 h6 hLR hyw hbw hbx HI HQ HGR HBX
                go_wp2_with (go_at_call 25; refine cv.mono ?_; rintro e w6 ⟨rfl, hm6, hg6⟩)
                go_roundg g2
                case measure => omega
                case rel => exact ⟨j + 1, _, by omega, by simp, H6.out, hm6, HGA.out.trans hg6⟩
              | zero =>
                have hjz : ¬ (j : Int) < (m2 : Int) := by omega
                have HE : Aside (L ++ (opsN x ++ T) = (walkF N n).flatMap (asgN N)) := by have h := HI.out; rw [show WBack N asgF ((wordsT x).drop j) = [] by rw [List.drop_eq_nil_of_le (by have := H2.out.1; omega)]; rfl] at h; exact h
                have HGQ : Aside ((boxG q0 x AA).grownBy wr (some b)) := HG5.out.1.trans HGR.out
                obtain ⟨y0, y1, y2, y3, y4, y5, y6, y7, y8⟩ := boxG_grown HK.out.2.2.2.2.2.2.2.2.2.2.1 HGQ.out
                clear HI
                by_cases hk : x.kind = 1
                · have hkk : (x.kind == 1) = true := by simpa using hk
                  have HO : Aside (opsN x = operT x) := by show _ = _; rw [← opsN_eq, if_pos hk]
                  have hbw : Below w.heap.size w wr := below_add HK.out.2.2.2.2.2.2.2.2.1 HGQ.out HK.out.2.2.2.2.2.2.2.2.2.2.2.1
                  have hbx := HK.out.2.2.2.2.2.2.2.1.grown HGQ.out HK.out.2.2.2.2.2.2.2.2.2.2.2.2.2
                  have e0 := cell_of_one hbx
                  have hbd : Below wr.heap.size wr wr.drew := below_drew wr 1
                  have co : Calls Tryz.prog 30 #[nodeG x AA] wr.drew (NamesP (operT x) wr.drew) := by
                    have := oper_calls x wr.drew (HK.out.2.2.2.2.1.up (hbw.trans (hbd.mono hbw.size))) (Nat.le_trans HK.out.2.2.2.2.2.1 HK.out.2.2.1)
                    rw [HK.out.2.2.2.2.2.2.1]; exact this
                  have HLR : Aside (L.length + (operT x).length ≤ 1048576 ∧ L ++ operT x ++ T = (walkF N n).flatMap (asgN N)) := by
                    have h8 := HE.out
                    rw [HO.out] at h8
                    have h7 := HK.out.2.2.2.1
                    rw [← h8] at h7
                    simp only [List.length_append] at h7
                    exact ⟨by omega, by rw [← h8]; simp only [List.append_assoc]⟩
                  clear hk
                  go_upto_region 18 with fail
                  go_region_held3 (fun w' => w'.cell? ⟨B, 0, none⟩ = some (.map (some b)) ∧ w'.cell? ⟨q0.heap.size, 0, none⟩ = some (.int .i64 x.kind) ∧ w'.cell? ⟨q0.heap.size, 1, none⟩ = some (.int .i64 x.pos) ∧ w'.cell? ⟨q0.heap.size, 2, none⟩ = some (.string ⟨x.name.toArray⟩) ∧ w'.cell? ⟨q0.heap.size, 3, none⟩ = some (.bool x.all) ∧ w'.cell? ⟨q0.heap.size, 4, none⟩ = some (.slice AA x.assigns.length x.ah.2) ∧ w'.cell? ⟨q0.heap.size, 5, none⟩ = some (.slice x.wh.1 x.words.length x.wh.2) ∧ w'.cell? ⟨q0.heap.size, 6, none⟩ = some (.slice x.rh.1 x.redirs.length x.rh.2) ∧ w'.cell? ⟨q0.heap.size, 7, none⟩ = some (.slice x.kh.1 x.kids.length x.kh.2) ∧ w'.cell? ⟨q0.heap.size, 8, none⟩ = some (.slice x.ih.1 x.items.length x.ih.2)) (first | exact ⟨e0, y0, y1, y2, y3, y4, y5, y6, y7, y8⟩ | exact k3 | exact k4) ((first
                    | (go_at_call 30; refine co.mono ?_; rintro e w6 ⟨A3, m3, c3, rfl, H3, hb6⟩; have hb16 : Below wr.heap.size wr w6 := hbd.trans (hb6.mono hbd.size); have hB6 := hbx.below hb16; have k3 := And.intro (cell_of_one hB6) (boxG_grown HK.out.2.2.2.2.2.2.2.2.2.2.1 (HGQ.out.trans (grown_of_below hb16))); have hm6 := HQ.out.below hb16)
                    | (go_at_call 29; refine (adds_calls b L (operT x) A3 m3 c3 w6 H3.out.1 HLR.out.1 (fun z hz => Nat.le_trans (operT_txt x z hz) (Nat.le_trans HK.out.2.2.2.2.2.1 HK.out.2.2.1)) H3.out.2.1 hm6 (fun ad h e => by have h1 := H3.out.2.2 ad h; have h2 := HQ.out.lt; have h3 := hbd.size; omega)).mono ?_; rintro e w7 ⟨rfl, hm7, hg7⟩; have hg17 : wr.grownBy w7 (some b) := (grown_of_below hb16).trans hg7; have k4 := And.intro (cell_of_one (hB6.grown hg7 HK.out.2.2.2.2.2.2.2.2.2.2.2.2.2)) (boxG_grown HK.out.2.2.2.2.2.2.2.2.2.2.1 (HGQ.out.trans hg17)))))
                  go_wp2
                  go_roundg g
                  case measure => omega
                  case rel => exact ⟨k + 1, _, by omega, by simp, by rw [← HT.out]; exact HLR.out.2, hm7, HK.out.2.2.2.2.2.2.2.2.2.1.trans (HGQ.out.trans hg17)⟩
                · have hkk : (x.kind == 1) = false := by simpa using hk
                  have HO : Aside (opsN x = []) := by show _ = _; rw [← opsN_eq, if_neg hk]
                  clear hk
                  go_wp2
                  go_roundg g
                  case measure => omega
                  case rel => exact ⟨k + 1, L, by omega, by simp, by rw [← HT.out]; have := HE.out; rw [HO.out] at this; exact this, HQ.out, HK.out.2.2.2.2.2.2.2.2.2.1.trans HGQ.out⟩
          · have hkk : (x.kind == 13) = false := by simpa using hk
            have H6 : Aside (L ++ (WBack N asgF (wordsT x) ++ (opsN x ++ T)) = (walkF N n).flatMap (asgN N)) := by have h := H5.out; rw [if_neg hk] at h; exact h
            have HQ4 : Aside (MapI b L wr) := HQ.out
            have HG4 : Aside ((boxG q0 x AA).grownBy wr (some b)) := HGR.out
            clear hk H5 HQ z0 z1 z2 z3 z4 z5 z6 z7 z8 e0
            obtain ⟨y0, y1, y2, y3, y4, y5, y6, y7, y8⟩ := boxG_grown HK.out.2.2.2.2.2.2.2.2.2.2.1 HG4.out
            have hbw4 : Below w.heap.size w wr := below_add HK.out.2.2.2.2.2.2.2.2.1 HG4.out HK.out.2.2.2.2.2.2.2.2.2.2.2.1
            have cw : Calls Tryz.prog 24 #[nodeG x AA] wr (WordsQ x wr) := by
              have := pwords_calls x wr (HK.out.2.2.2.2.1.up hbw4) (Nat.le_trans (words_len x) (Nat.le_trans HK.out.2.2.2.2.2.1 HK.out.2.2.1)) (Nat.le_trans (items_len x) (Nat.le_trans HK.out.2.2.2.2.2.1 HK.out.2.2.1))
              rw [HK.out.2.2.2.2.2.2.1]; exact this
            have hbx4 := HK.out.2.2.2.2.2.2.2.1.grown HG4.out HK.out.2.2.2.2.2.2.2.2.2.2.2.2.2
            have e0 := cell_of_one hbx4
            have HB4 : Aside (Below w.heap.size w wr ∧ BoxM B b wr) := ⟨hbw4, hbx4⟩
            clear hbw4 hbx4
            go_wp2_with (go_at_call 24; refine cw.mono ?_; rintro e w5 ⟨A2, m2, c2', rfl, H2, hb5⟩)
            have hm2 : m2 ≤ 1048576 := by rw [H2.out.1]; exact Nat.le_trans (words_len x) (Nat.le_trans HK.out.2.2.2.2.2.1 HK.out.2.2.1)
            have HG5 : Aside ((boxG q0 x AA).grownBy w5 (some b) ∧ MapI b L w5 ∧ BoxM B b w5 ∧ Below w.heap.size w w5 ∧ ∀ ad, A2 = some ad → ad.block ≠ b) := ⟨HG4.out.trans (grown_of_below hb5), HQ4.out.below hb5, HB4.out.2.below hb5, HB4.out.1.trans (hb5.mono HB4.out.1.size), fun ad h e => by have h1 := H2.out.2.2 ad h; have h2 := HQ4.out.lt; omega⟩
            clear y0 y1 y2 y3 y4 y5 y6 y7 y8 cw e0 hb5 HB4 HG4 HQ4 hkk hjz hjg
            go_loopg [38] m2 (fun g si wx => ∃ (j : Nat) (L : List (List UInt8)), j + g = m2 ∧ si = .int .i64 j ∧ Aside (L ++ (WBack N asgF ((wordsT x).drop j) ++ (opsN x ++ T)) = (walkF N n).flatMap (asgN N)) ∧ Aside (MapI b L wx) ∧ Aside (w5.grownBy wx (some b)))
            case atStart => exact ⟨0, L, by omega, rfl, H6.out, HG5.out.2.1, World.grownBy.refl _ _⟩
            case round =>
              clear H6
              obtain ⟨j, L, hjg, rfl, HI, HQ, HGR⟩ := hrel
              cases gk with
              | succ g2 =>
                have hjz : (j : Int) < (m2 : Int) := by omega
                have hj63 : (j : Int) + 1 ≤ 9223372036854775807 := by omega
                obtain ⟨y, hy⟩ : ∃ y, (wordsT x)[j]? = some y := ⟨_, List.getElem?_eq_getElem (by have := H2.out.1; omega)⟩
                obtain ⟨b2, o2, rfl, hlt2, hc2⟩ := (rdS_kept H2.out.2.1 HGR.out (fun ad h e => HG5.out.2.2.2.2 ad h (Option.some.inj e))) j y hy
                have d0 : wr.cell? ⟨b2, o2 + j * 2, none⟩ = some (.int .i64 y.pos) := hc2 0 _ rfl
                have d1 : wr.cell? ⟨b2, o2 + j * 2 + 1, none⟩ = some (.slice y.h.1 y.parts.length y.h.2) := hc2 1 _ rfl
                have h6 := HI.out
                rw [show WBack N asgF ((wordsT x).drop j) = asgF N y.parts ++ WBack N asgF ((wordsT x).drop (j + 1)) by rw [Lib.drop_at hy]; rfl] at h6
                have H6 : Aside (L ++ asgF N y.parts ++ (WBack N asgF ((wordsT x).drop (j + 1)) ++ (opsN x ++ T)) = (walkF N n).flatMap (asgN N)) := by show _ = _; rw [← h6]; simp only [List.append_assoc]
                have hLR : L.length + (asgF N y.parts).length ≤ 1048576 := by have h7 := HK.out.2.2.2.1; rw [← H6.out] at h7; simp only [List.length_append] at h7; omega
                have hyw := List.mem_of_getElem? hy
                have hbw : Below w.heap.size w wr := below_add HG5.out.2.2.2.1 HGR.out HK.out.2.2.2.2.2.2.2.2.2.2.2.1
                have HBX : Aside (Below wr.heap.size wr (boxV wr y)) := (Below.refl _ _).alloc (Nat.le_refl _) _
                have q1 := boxV_in (Below.refl (boxV wr y).heap.size (boxV wr y))
                have hbx := (HG5.out.2.2.1.grown HGR.out HK.out.2.2.2.2.2.2.2.2.2.2.2.2.2).below HBX.out
                have cv := visit_calls 26 B b asgOwn w (enters_of Tryz.func26 (by kernel_rfl) rfl) (asg1_vis B b w HK.out.2.2.2.2.2.2.2.2.2.2.2.2.1 HK.out.2.2.2.2.2.2.2.2.2.2.2.1 HK.out.2.2.2.2.2.2.2.2.2.2.2.2.2) HK.out.2.2.2.2.2.2.2.2.2.2.2.2.1 HK.out.2.2.2.2.2.2.2.2.2.2.2.1 HK.out.2.2.2.2.2.2.2.2.2.2.2.2.2 N y.parts y.h.1 y.h.2 L (boxV wr y) (by have := word_sz hyw; have := HK.out.2.2.2.2.2.1; omega) HK.out.2.2.1 (HK.out.2.2.2.2.1.word hyw) (hbw.trans (HBX.out.mono hbw.size)) hbx (HQ.out.below HBX.out) (by rw [← asgF_vis]; exact hLR)
                rw [← asgF_vis] at cv
                have HGA : Aside (w5.grownBy (boxV wr y) (some b)) := HGR.out.trans (grown_of_below HBX.out)
                clear hy hlt2 hc2 h6 hLR hyw hbw hbx HI HQ HGR HBX
                go_wp2_with (go_at_call 25; refine cv.mono ?_; rintro e w6 ⟨rfl, hm6, hg6⟩)
                go_roundg g2
                case measure => omega
                case rel => exact ⟨j + 1, _, by omega, by simp, H6.out, hm6, HGA.out.trans hg6⟩
              | zero =>
                have hjz : ¬ (j : Int) < (m2 : Int) := by omega
                have HE : Aside (L ++ (opsN x ++ T) = (walkF N n).flatMap (asgN N)) := by have h := HI.out; rw [show WBack N asgF ((wordsT x).drop j) = [] by rw [List.drop_eq_nil_of_le (by have := H2.out.1; omega)]; rfl] at h; exact h
                have HGQ : Aside ((boxG q0 x AA).grownBy wr (some b)) := HG5.out.1.trans HGR.out
                obtain ⟨y0, y1, y2, y3, y4, y5, y6, y7, y8⟩ := boxG_grown HK.out.2.2.2.2.2.2.2.2.2.2.1 HGQ.out
                clear HI
                by_cases hk : x.kind = 1
                · have hkk : (x.kind == 1) = true := by simpa using hk
                  have HO : Aside (opsN x = operT x) := by show _ = _; rw [← opsN_eq, if_pos hk]
                  have hbw : Below w.heap.size w wr := below_add HK.out.2.2.2.2.2.2.2.2.1 HGQ.out HK.out.2.2.2.2.2.2.2.2.2.2.2.1
                  have hbx := HK.out.2.2.2.2.2.2.2.1.grown HGQ.out HK.out.2.2.2.2.2.2.2.2.2.2.2.2.2
                  have e0 := cell_of_one hbx
                  have hbd : Below wr.heap.size wr wr.drew := below_drew wr 1
                  have co : Calls Tryz.prog 30 #[nodeG x AA] wr.drew (NamesP (operT x) wr.drew) := by
                    have := oper_calls x wr.drew (HK.out.2.2.2.2.1.up (hbw.trans (hbd.mono hbw.size))) (Nat.le_trans HK.out.2.2.2.2.2.1 HK.out.2.2.1)
                    rw [HK.out.2.2.2.2.2.2.1]; exact this
                  have HLR : Aside (L.length + (operT x).length ≤ 1048576 ∧ L ++ operT x ++ T = (walkF N n).flatMap (asgN N)) := by
                    have h8 := HE.out
                    rw [HO.out] at h8
                    have h7 := HK.out.2.2.2.1
                    rw [← h8] at h7
                    simp only [List.length_append] at h7
                    exact ⟨by omega, by rw [← h8]; simp only [List.append_assoc]⟩
                  clear hk
                  go_upto_region 18 with fail
                  go_region_held3 (fun w' => w'.cell? ⟨B, 0, none⟩ = some (.map (some b)) ∧ w'.cell? ⟨q0.heap.size, 0, none⟩ = some (.int .i64 x.kind) ∧ w'.cell? ⟨q0.heap.size, 1, none⟩ = some (.int .i64 x.pos) ∧ w'.cell? ⟨q0.heap.size, 2, none⟩ = some (.string ⟨x.name.toArray⟩) ∧ w'.cell? ⟨q0.heap.size, 3, none⟩ = some (.bool x.all) ∧ w'.cell? ⟨q0.heap.size, 4, none⟩ = some (.slice AA x.assigns.length x.ah.2) ∧ w'.cell? ⟨q0.heap.size, 5, none⟩ = some (.slice x.wh.1 x.words.length x.wh.2) ∧ w'.cell? ⟨q0.heap.size, 6, none⟩ = some (.slice x.rh.1 x.redirs.length x.rh.2) ∧ w'.cell? ⟨q0.heap.size, 7, none⟩ = some (.slice x.kh.1 x.kids.length x.kh.2) ∧ w'.cell? ⟨q0.heap.size, 8, none⟩ = some (.slice x.ih.1 x.items.length x.ih.2)) (first | exact ⟨e0, y0, y1, y2, y3, y4, y5, y6, y7, y8⟩ | exact k3 | exact k4) ((first
                    | (go_at_call 30; refine co.mono ?_; rintro e w6 ⟨A3, m3, c3, rfl, H3, hb6⟩; have hb16 : Below wr.heap.size wr w6 := hbd.trans (hb6.mono hbd.size); have hB6 := hbx.below hb16; have k3 := And.intro (cell_of_one hB6) (boxG_grown HK.out.2.2.2.2.2.2.2.2.2.2.1 (HGQ.out.trans (grown_of_below hb16))); have hm6 := HQ.out.below hb16)
                    | (go_at_call 29; refine (adds_calls b L (operT x) A3 m3 c3 w6 H3.out.1 HLR.out.1 (fun z hz => Nat.le_trans (operT_txt x z hz) (Nat.le_trans HK.out.2.2.2.2.2.1 HK.out.2.2.1)) H3.out.2.1 hm6 (fun ad h e => by have h1 := H3.out.2.2 ad h; have h2 := HQ.out.lt; have h3 := hbd.size; omega)).mono ?_; rintro e w7 ⟨rfl, hm7, hg7⟩; have hg17 : wr.grownBy w7 (some b) := (grown_of_below hb16).trans hg7; have k4 := And.intro (cell_of_one (hB6.grown hg7 HK.out.2.2.2.2.2.2.2.2.2.2.2.2.2)) (boxG_grown HK.out.2.2.2.2.2.2.2.2.2.2.1 (HGQ.out.trans hg17)))))
                  go_wp2
                  go_roundg g
                  case measure => omega
                  case rel => exact ⟨k + 1, _, by omega, by simp, by rw [← HT.out]; exact HLR.out.2, hm7, HK.out.2.2.2.2.2.2.2.2.2.1.trans (HGQ.out.trans hg17)⟩
                · have hkk : (x.kind == 1) = false := by simpa using hk
                  have HO : Aside (opsN x = []) := by show _ = _; rw [← opsN_eq, if_neg hk]
                  clear hk
                  go_wp2
                  go_roundg g
                  case measure => omega
                  case rel => exact ⟨k + 1, L, by omega, by simp, by rw [← HT.out]; have := HE.out; rw [HO.out] at this; exact this, HQ.out, HK.out.2.2.2.2.2.2.2.2.2.1.trans HGQ.out⟩
end Go.Proofs.YtfdhkchglacccaaGreatDoor
