/- The program: From. No statement is proved here. -/
import Derived.Test.YtdifffdfiimlpaaGreatDoorEnFS
import Derived.Test.YtdifffdfiimlpaaGreatDoorEnFJ
import Derived.Below
import Derived.Laws.OwnMore
import Derived.Deep.Draws
import Derived.Laws.Rows
import Derived.RegionTactic
import Derived.OwnWalk
import Derived.Maps.OwnSet
import Derived.Maps.OwnOps
import Derived.Lib.Hide
import Derived.WalkKit
import Derived.Carry
import Derived.Deep.DeepMust
import Derived.Lib.Fold
import Derived.StringKeys
import Derived.Deep.Onto
import Derived.Maps.StringElems
import Derived.Lib.FieldsLaws
set_option linter.all false
namespace Go.Proofs.YtdifffdfiimlpaaGreatDoor
open Go Go.RowKit Go.Maps Go.Mir Go.Shelf Go.Sort
noncomputable def stepF (D : DataW Unit) (t : List UInt8) : Except Int (DataW Unit) :=
  if (cutN t).2.2 = true ∧ nameB (cutN t).1 = true then (if 4096 < (cutN t).2.1.length then .error 3 else .ok (D.put (.string (cutN t).1) (.lit (.string (cutN t).2.1)))) else .ok D
noncomputable def runF : List (List UInt8) → DataW Unit → Except Int (DataW Unit)
  | [], D => .ok D
  | t :: ls, D => match stepF D t with
    | .ok D' => runF ls D'
    | .error e => .error e
theorem law9 : Keyed Tryz.prog 9 := string_keyed Tryz.underlying9
theorem zeroE (w : World) : (zeroValue 9).run Tryz.prog w = .ok (.string ByteArray.empty) w := by kernel_rfl
noncomputable abbrev RS9 := plainElem (H := Unit) Tryz.prog 9
/-- the value of a key -/
noncomputable def valF (D : DataW Unit) (x : List UInt8) : List UInt8 := match D.atKey (.string x) (.lit (.string [])) with
  | .lit (.string y) => y
  | _ => []
noncomputable def rowF (D : DataW Unit) (x : List UInt8) : List Value := [encStr x, .string ⟨(valF D x).toArray⟩, .bool true, .bool true, .bool false]
noncomputable def rowsF (D : DataW Unit) (l : List (List UInt8)) : List Value := l.flatMap (rowF D)
theorem rowsF_length (D : DataW Unit) (l : List (List UInt8)) : (rowsF D l).length = l.length * 5 := by
  induction l with
  | nil => rfl
  | cons x l ih => simp only [rowsF, List.flatMap_cons, List.length_append, List.length_cons] at ih ⊢; rw [ih]; simp [rowF]; omega
theorem look_str {W : World} {b n : Nat} {D : DataW Unit} (h : W.ownsMap Tryz.prog 9 RS9 b n D) {x : List UInt8} (hx : x.length ≤ maxLen) : (Instr.lookup 91 (.map (some b)) (encStr x) false).run Tryz.prog W = .ok (.string ⟨(valF D x).toArray⟩) W := by
  have hkey : keyOf Tryz.prog 9 (encStr x) = some (.string x) := by
    have := Go.WideMaps.keyOf_string_mk (P := Tryz.prog) Tryz.underlying9 (s := ⟨x.toArray⟩) (by simpa [ByteArray.size] using hx)
    simpa [encStr] using this
  obtain ⟨v, ps, h1, h2⟩ := h.lookup law9 Tryz.underlying91 (zeroE _) (plainElem_string Tryz.underlying9 (s := ByteArray.empty) (by decide)) hkey
  obtain ⟨y, rfl, h3, _⟩ := Go.plainElem_string_inv Tryz.underlying9 h2
  rw [h1]
  have h4 : D.atKey (.string x) (.lit (.string [])) = .lit (.string y.data.toList) := (Prod.mk.inj h3).1
  unfold valF
  rw [h4]
/-- what From leaves -/
noncomputable def PostF (w : World) (r : Except Int (DataW Unit)) (e : Ending) (w' : World) : Prop := Below w.heap.size w w' ∧ match r with
  | .error x => e = .returned (.tuple #[.slice none 0 0, .int .i64 x])
  | .ok D => if 128 < Maps.size D then e = .returned (.tuple #[.slice none 0 0, .int .i64 4]) else
    ∃ (v : Value) (ss : List (List UInt8)), e = .returned (.tuple #[v, .int .i64 0]) ∧ ss.Perm (strKeys D) ∧ w'.ownsRow w.heap.size 43 5 v ss.length (rowsF D (ss.mergeSort (fun x y => decide (x ≤ y))))
set_option maxHeartbeats 4000000
set_option maxRecDepth 100000
theorem wrap64_k (k : Nat) (h : k < 2000000) : Value.int .i64 (wrap64 ((k : Int) + 1)) = .int .i64 ((k + 1 : Nat) : Int) := by
  rw [IntWalk.wrap64_in _ (by omega)]; simp
theorem row_form {w : World} {base : Nat} {e : TypeId} {v : Value} {n : Nat} {xs : List Value} (h : w.ownsRow base e 1 v n xs) : ∃ ao cap, v = .slice ao n cap ∧ ∀ k u, xs[k]? = some u → ∃ g, ao = some ⟨g, 0, none⟩ ∧ base ≤ g ∧ g < w.heap.size ∧ w.cell? ⟨g, k, none⟩ = some u := by
  obtain ⟨hl, h⟩ := h
  rcases h with ⟨rfl, rfl⟩ | ⟨g, cap, cur, rfl, hb, hg, hn, _, hsz, ht⟩
  · refine ⟨_, _, rfl, fun k u hk => ?_⟩
    have : k < xs.length := (List.getElem?_eq_some_iff.1 hk).1
    omega
  · refine ⟨_, _, rfl, fun k u hk => ⟨g, rfl, hb, (Array.getElem?_eq_some_iff.1 hg).1, ?_⟩⟩
    have h1 : k < xs.length := (List.getElem?_eq_some_iff.1 hk).1
    rw [← ht, List.getElem?_take_of_lt (by omega)] at hk
    simp only [World.cell?, hg]
    simpa using hk
theorem strKeys_size (D : DataW Unit) : (strKeys D).length ≤ Maps.size D := by
  cases D <;> simp [strKeys, Maps.size]
theorem from_calls
    (hcut : ∀ (t : List UInt8) (W : World), t.length ≤ maxLen → Calls Tryz.prog 50 #[.string ⟨t.toArray⟩, .string ⟨#[61]⟩] W fun e w' => e = .returned (.tuple #[.string ⟨(cutN t).1.toArray⟩, .string ⟨(cutN t).2.1.toArray⟩, .bool (cutN t).2.2]) ∧ Below W.heap.size W w')
    (hname : ∀ (t : List UInt8) (W : World), Calls Tryz.prog 51 #[.string ⟨t.toArray⟩] W fun e w' => e = .returned (.bool (nameB t)) ∧ Below W.heap.size W w')
    (ls : List (List UInt8)) (hls : ls.length < 1000000) (hlb : ∀ t ∈ ls, t.length ≤ maxLen) (ao : Option Addr) (cap : Nat) (w : World)
    (hcell : ∀ k t, ls[k]? = some t → ∃ b o, ao = some ⟨b, o, none⟩ ∧ w.cell? ⟨b, o + k, none⟩ = some (.string ⟨t.toArray⟩)) :
    Calls Tryz.prog 17 #[.slice ao ls.length cap] w (PostF w (runF ls (.map []))) := by
  have hmm := @Go.RowKit.run_makeMap Tryz.prog
  have HC : Aside (∀ k t, ls[k]? = some t → ∃ b o, ao = some ⟨b, o, none⟩ ∧ w.cell? ⟨b, o + k, none⟩ = some (.string ⟨t.toArray⟩)) := hcell
  clear hcell
  obtain ⟨sz, hsz0⟩ : ∃ n, n = ls.length := ⟨_, rfl⟩
  rw [← hsz0]
  have hsz : Aside (sz = ls.length) := hsz0
  clear hsz0
  go_enter Tryz.func17, Tryz.ntmps17
  go_wp2
  go_loopg [16] sz (fun g s16 wx => ∃ (k : Nat) (D : DataW Unit), k + g = sz ∧ s16 = .int .i64 k ∧ Aside (runF (ls.drop k) D = runF ls (.map [])) ∧
    wx.ownsMap Tryz.prog 9 RS9 w.heap.size k D ∧ (w.alloc (.map #[] 0)).grownBy wx (some w.heap.size) ∧ Below w.heap.size w wx)
  case atStart =>
    exact ⟨0, .map [], by omega, rfl, rfl, World.ownsMap_made _ _ _ _, World.grownBy.refl _ _, (Below.refl _ _).grown (row := none) (World.grownBy_alloc _ _ _) (Nat.le_refl _) (by simp)⟩
  case round =>
    obtain ⟨k, D, hkg, rfl, HI, hown, hgr, hbx⟩ := hrel
    cases gk with
    | zero =>
      have hkz : ¬ (k : Int) < (sz : Int) := by omega
      have hlen := fun ty => hown.len Tryz.underlying91 ty
      have hR : runF ls (.map []) = .ok D := by
        rw [← HI.out, List.drop_eq_nil_of_le (by have := hsz.out; omega)]; rfl
      rw [hR]
      by_cases h128 : 128 < Maps.size D
      · have h128' : (128 : Int) < (Maps.size D : Int) := by omega
        go_wp2
        go_ret2
        unfold PostF
        simp only [if_pos h128]
        exact ⟨hbx, rfl⟩
      · have h128' : ¬ (128 : Int) < (Maps.size D : Int) := by omega
        have cK := fun W => (callsIn_wide (n := 5)).1 (AnyZ.keys_in Tryz.keys71 Fence.wide 5 trivial rfl (some w.heap.size) W)
        change ∀ W, Calls Tryz.prog 53 _ W _ at cK
        have hwr : w.heap.size < wr.heap.size := hown.lt
        have hown1 := hown.alloc (.cells #[.map (some w.heap.size)] 91)
        have cS := sorted_any _ wr.heap.size w.heap.size k D (wr.alloc (.cells #[.map (some w.heap.size)] 91)) (by simp) (by simp) hown1 128 (by omega) (by omega)
        have hbx1 : Below w.heap.size w (wr.alloc (.cells #[.map (some w.heap.size)] 91)) := hbx.alloc hbx.size _
        go_wp2_with (first
          | (go_at_call 53; refine (cK _).mono ?_; rintro e W1 ⟨rfl, rfl⟩)
          | (go_at_call 52; refine cS.mono ?_; rintro e WS ⟨vS, ss, rfl, hperm, hrow, hnil, hBS⟩; obtain ⟨ao2, cap2, rfl, hSc⟩ := row_form hrow))
        have HS : Aside (∀ k u, ((ss.mergeSort fun x y => decide (x ≤ y)).map encStr)[k]? = some u → ∃ g, ao2 = some ⟨g, 0, none⟩ ∧ (wr.alloc (.cells #[.map (some w.heap.size)] 91)).heap.size ≤ g ∧ g < WS.heap.size ∧ WS.cell? ⟨g, k, none⟩ = some u) := hSc
        clear hSc hrow hnil
        have hBw : Below w.heap.size w WS := bel2 hbx1 hBS
        have hownS : WS.ownsMap Tryz.prog 9 RS9 w.heap.size k D := hown1.kept (row := none) ⟨hBS.os, hBS.tape, hBS.output, hBS.size, fun k hk _ => hBS.block k hk⟩ (by simp)
        obtain ⟨i0, hi, hz0, hz1, hz2⟩ := info_parts info43
        obtain ⟨m, hm0⟩ : ∃ m, m = ss.length := ⟨_, rfl⟩
        rw [← hm0]
        have hm : Aside (m = ss.length) := hm0
        have hm128 : m ≤ 128 := by have h1 := hperm.length_eq; have h2 := strKeys_size D; omega
        clear hm0
        have hlt : w.heap.size < WS.heap.size := hownS.lt
        go_loopg [10, 47] m (fun g s10 s47 wx => ∃ j : Nat, j + g = m ∧ s47 = .int .i64 j ∧ wx.ownsRow WS.heap.size 43 5 s10 j (rowsF D ((ss.mergeSort fun x y => decide (x ≤ y)).take j)) ∧ wx.ownsMap Tryz.prog 9 RS9 w.heap.size k D ∧ Below WS.heap.size WS wx ∧ Below w.heap.size w wx)
        case atStart => exact ⟨0, by omega, rfl, World.ownsRow_nil _ _ _ _, hownS, Below.refl _ _, hBw⟩
        case round =>
          obtain ⟨j, hjg, rfl, hro, hmo, hgro, hbo⟩ := hrel
          obtain ⟨S, hS⟩ : ∃ S, S = ss.mergeSort fun x y => decide (x ≤ y) := ⟨_, rfl⟩
          have hSl : S.length = ss.length := by rw [hS, List.length_mergeSort]
          rw [← hS] at hro HS
          cases gk with
          | zero =>
            have hkm : ¬ (j : Int) < (m : Int) := by omega
            have hjm : j = ss.length := by have := hm.out; omega
            go_wp2
            go_ret2
            unfold PostF
            simp only [if_neg h128]
            refine ⟨hbo, _, ss, rfl, hperm, ?_⟩
            rw [← hS, ← hjm]
            rw [List.take_of_length_le (by omega)] at hro
            exact hro.mono (Nat.le_of_lt hlt)
          | succ g =>
            have hkm : (j : Int) < (m : Int) := by omega
            obtain ⟨x, hx⟩ : ∃ x, S[j]? = some x := ⟨_, List.getElem?_eq_getElem (by have := hm.out; omega)⟩
            obtain ⟨q, rfl, hq1, hq2, hqc⟩ := HS.out j (encStr x) (by rw [List.getElem?_map, hx]; rfl)
            have hqx : wr.cell? ⟨q, j, none⟩ = some (encStr x) := (hgro.cell (p := ⟨q, j, none⟩) hq2).trans hqc
            have hxm : x ∈ strKeys D := hperm.subset ((List.mergeSort_perm _ _).subset (hS ▸ List.mem_of_getElem? hx))
            have hlx := look_str hmo (x := x) (strKeys_le hmo Tryz.underlying9 x hxm)
            have htake : S.take (j + 1) = S.take j ++ [x] := by rw [List.take_add_one, hx]; rfl
            go_wp2_with (first
              | (at_builtin; go_loud (refine wpList_append_own _ rfl _ _ 25 rfl WS.heap.size 43 i0 (.agg #[.string ⟨#[]⟩, .string ⟨#[]⟩, .bool false, .bool false, .bool false]) 5 40 Tryz.underlying25 hi hz0 hz1 hz2 rfl (by decide) _ _ _ rfl (hro.alloc _) ⟨_, 0, none⟩ 1 1 (rowF D x) rfl rfl (cell_five_new _ _ _ _ _ _ _) (fun x hx => by simp [rowF] at hx; rcases hx with rfl | rfl | rfl | rfl <;> rfl) (by unfold maxLen; omega) (by omega) (Nat.le_trans hgro.size (by simp)) ?_; intro v' w3 hown' hgrow3 hnil3)))
            go_roundg g
            case measure => omega
            case rel =>
              have hne := fun q h => (hro.lt q h).1
              refine ⟨j + 1, by omega, rfl, ?_, (hmo.alloc _).kept hgrow3 (fun h => by have := hne _ h.symm; omega), (hgro.alloc hgro.size _).grown hgrow3 (Nat.le_trans hgro.size (by simp)) (fun q h => hne q h), ?_⟩
              · rw [← hS, htake]; simp only [rowsF, List.flatMap_append, List.flatMap_cons, List.flatMap_nil, List.append_nil]; exact hown'
              · exact (hbo.alloc hbo.size _).grown hgrow3 (Nat.le_trans hbo.size (by simp)) (fun q h => Nat.le_of_lt (Nat.lt_of_lt_of_le hlt (hne q h)))
    | succ g =>
      have hkz : (k : Int) < (sz : Int) := by omega
      obtain ⟨t, ht⟩ : ∃ t, ls[k]? = some t := ⟨_, List.getElem?_eq_getElem (by have := hsz.out; omega)⟩
      obtain ⟨b, o, rfl, hc⟩ := HC.out k t ht
      have hbl : b < w.heap.size := World.block_lt_of_cell? w ⟨b, o + k, none⟩ hc
      have hcx : wr.cell? ⟨b, o + k, none⟩ = some (.string ⟨t.toArray⟩) := (hbx.cell (p := ⟨b, o + k, none⟩) hbl).trans hc
      have htb : t.length ≤ maxLen := hlb t (List.mem_of_getElem? ht)
      have c1 := hcut t wr htb
      have hdrop : ls.drop k = t :: ls.drop (k + 1) := Lib.drop_at ht
      have hgB : ∀ {a b : World}, Below a.heap.size a b → a.grownBy b (some w.heap.size) := fun hb => ⟨hb.os, hb.tape, hb.output, hb.size, fun k hk _ => hb.block k hk⟩
      have hgB0 : ∀ {a b : World}, Below a.heap.size a b → a.grownBy b none := fun hb => ⟨hb.os, hb.tape, hb.output, hb.size, fun k hk _ => hb.block k hk⟩
      obtain ⟨C, hC⟩ : ∃ C, C = cutN t := ⟨_, rfl⟩
      obtain ⟨x, y, f⟩ := C
      rw [← hC] at c1
      have hxl : x.length ≤ maxLen ∧ y.length ≤ maxLen := by
        unfold cutN at hC
        split at hC <;> (injection hC with h1 h2; injection h2 with h2 h3; subst h1; subst h2; simp; omega)
      have c2 := fun W => hname x W
      cases f with
      | false =>
        have hst : stepF D t = .ok D := by unfold stepF; rw [← hC]; simp
        go_wp2_with (first
          | (go_at_call 50; refine c1.mono ?_; rintro e W1 ⟨rfl, hB1⟩))
        go_roundg g
        case measure => omega
        case rel => exact ⟨k + 1, D, by omega, by rw [wrap64_k k (by have := hsz.out; omega)], by show _ = _; rw [← HI.out, hdrop]; simp only [runF, hst], (hown.kept (row := none) (hgB0 hB1) (by simp)).mono (by omega), hgr.trans (hgB hB1), bel2 hbx hB1⟩
      | true =>
        cases hn : nameB x with
        | false =>
          have hst : stepF D t = .ok D := by unfold stepF; rw [← hC]; simp [hn]
          go_wp2_with (first
            | (go_at_call 50; refine c1.mono ?_; rintro e W1 ⟨rfl, hB1⟩)
            | (go_at_call 51; refine (c2 _).mono ?_; rintro e W2 ⟨rfl, hB2⟩; rw [hn]))
          go_roundg g
          case measure => omega
          case rel => exact ⟨k + 1, D, by omega, by rw [wrap64_k k (by have := hsz.out; omega)], by show _ = _; rw [← HI.out, hdrop]; simp only [runF, hst], ((hown.kept (row := none) (hgB0 hB1) (by simp)).kept (row := none) (hgB0 hB2) (by simp)).mono (by omega), (hgr.trans (hgB hB1)).trans (hgB hB2), bel2 (bel2 hbx hB1) hB2⟩
        | true =>
          by_cases h4 : 4096 < y.length
          · have hst : stepF D t = .error 3 := by unfold stepF; rw [← hC]; simp [hn, h4]
            have h4' : (4096 : Int) < (y.length : Int) := by omega
            go_wp2_with (first
              | (go_at_call 50; refine c1.mono ?_; rintro e W1 ⟨rfl, hB1⟩)
              | (go_at_call 51; refine (c2 _).mono ?_; rintro e W2 ⟨rfl, hB2⟩; rw [hn]))
            go_ret2
            unfold PostF
            rw [← HI.out, hdrop]
            simp only [runF, hst]
            exact ⟨bel2 (bel2 hbx hB1) hB2, rfl⟩
          · have h4' : ¬ (4096 : Int) < (y.length : Int) := by omega
            have hst : stepF D t = .ok (D.put (.string x) (.lit (.string y))) := by unfold stepF; rw [← hC]; simp [hn, h4]
            have hkey : keyOf Tryz.prog 9 (.string ⟨x.toArray⟩) = some (.string x) := Go.WideMaps.keyOf_string_mk Tryz.underlying9 (by have h1 := hxl; unfold maxLen at h1 ⊢; simp [ByteArray.size] at h1 ⊢; omega)
            go_wp2_with (first
              | (go_at_call 50; refine c1.mono ?_; rintro e W1 ⟨rfl, hB1⟩)
              | (go_at_call 51; refine (c2 _).mono ?_; rintro e W2 ⟨rfl, hB2⟩; rw [hn])
              | (at_mapUpdate; refine wpList_mapUpdate_own _ rfl _ _ _ 91 rfl 9 9 law9 Tryz.underlying91 _ w.heap.size k _ rfl ((hown.kept (row := none) (hgB0 hB1) (by simp)).kept (row := none) (hgB0 hB2) (by simp)) (by have := hsz.out; unfold maxLen; omega) _ _ _ rfl rfl hkey _ [] (plainElem_string Tryz.underlying9 (by have h1 := hxl; unfold maxLen at h1 ⊢; simp [ByteArray.size] at h1 ⊢; omega)) ?_))
            intro w1 hown1 hgrow1
            go_wp2
            go_roundg g
            case measure => omega
            case rel => exact ⟨k + 1, _, by omega, by rw [wrap64_k k (by have := hsz.out; omega)], by show _ = _; rw [← HI.out, hdrop]; simp only [runF, hst], hown1, ((hgr.trans (hgB hB1)).trans (hgB hB2)).trans hgrow1, (bel2 (bel2 hbx hB1) hB2).grown hgrow1 (Nat.le_trans hbx.size (Nat.le_trans hB1.size hB2.size)) (fun j hj => by cases hj; exact Nat.le_refl _)⟩
end Go.Proofs.YtdifffdfiimlpaaGreatDoor
