/- SortFunc at the variables. No statement is proved here. -/
import Derived.Test.YtdifffdfiimlpaaGreatDoorEnF4
import Derived.Test.YtdifffdfiimlpaaGreatDoorEnFR
import Derived.Sort.OwnSorted
set_option linter.all false
/-! slices.SortFunc at the variables that New has laid -/
namespace Go.Proofs.YtdifffdfiimlpaaGreatDoor
open Go Go.RowKit Go.Mir Go.Maps Go.Sort Go.Shelf Go.Lib
set_option maxHeartbeats 1000000
theorem ltV_eq (x y : NV) : ltOf (fun x y : NV => cmp3 x.1 y.1) x y = decide (x.1 < y.1) := by unfold ltOf; exact lt_cmp3 _ _
theorem flatK_eq (l : List NV) : flatK encV 5 l.toArray = (flatV l).toArray := by
  refine ext_get! (by simp [flatV_length]) fun t ht => ?_
  have ht' : t < l.length * 5 := by simpa using ht
  rw [get_flatK _ _ _ t (by simpa using ht')]
  have hk : t / 5 < l.length := by omega
  have hx : l[t / 5]? = some l[t / 5] := List.getElem?_eq_getElem hk
  have hi : t % 5 < (encV l[t / 5]).length := by simp [encV]; omega
  have hu : (encV l[t / 5])[t % 5]? = some (encV l[t / 5])[t % 5] := List.getElem?_eq_getElem hi
  have h := flat_get l (t / 5) _ (t % 5) _ hx hu
  rw [show t / 5 * 5 + t % 5 = t by omega] at h
  have e1 : l.toArray[t / 5]! = l[t / 5] := by rw [getElem!_pos l.toArray _ (by simpa using hk)]; rfl
  rw [e1, getElem!_pos (encV l[t / 5]) _ hi, getElem!_pos (flatV l).toArray t (by simpa [flatV_length] using ht')]
  have h2 := (List.getElem?_eq_some_iff.1 h).2
  simpa using h2.symm
theorem holdsK_of {w : World} {g : Nat} {cur : Array Value} {e : TypeId} {l : List NV} (hb : w.heap[g]? = some (.cells cur e (0, 0))) (ht : cur.toList.take (l.length * 5) = flatV l) : HoldsK encV 5 w g 0 l.toArray := by
  unfold HoldsK
  rw [flatK_eq]
  intro j hj
  have hj' : j < (flatV l).length := by simpa using hj
  refine ⟨?_, by simp [World.frozen?, hb]⟩
  have hl := flatV_length l
  have h1 : (cur.toList.take (l.length * 5))[j]? = (flatV l)[j]? := by rw [ht]
  rw [List.getElem?_take_of_lt (by omega)] at h1
  simp only [World.cell?, hb, Nat.zero_add]
  simp only [Option.isSome_none, Bool.false_eq_true, if_false]
  rw [← Array.getElem?_toList, h1, List.getElem?_eq_getElem hj', getElem!_pos (flatV l).toArray j hj]
  rfl
theorem heap_sortedK {w : World} {g n : Nat} {os : Array Obj} {cur : Array Value} {e : TypeId} {fr : Nat × Nat} (F : Array Value) (hb : w.heap[g]? = some (.cells cur e fr)) :
    (grow (putRow id (Sort.ahead w n) g 0 F) os).heap[g]? = some (.cells (putCells id 0 F cur) e fr) := by
  have hg : g < w.heap.size := (Array.getElem?_eq_some_iff.1 hb).1
  rw [heap_grow_old _ _ (by simpa using hg)]
  simp [putRow, mapBlock, Sort.ahead, Array.getElem?_modify, hb, onCells]
theorem grownBy_sortedK {w : World} {g n : Nat} {os : Array Obj} (F : Array Value) : w.grownBy (grow (putRow id (Sort.ahead w n) g 0 F) os) (some g) := by
  refine ⟨rfl, rfl, rfl, by simp, fun k hk hne => ?_⟩
  rw [heap_grow_old _ _ (by simpa using hk)]
  have : g ≠ k := fun e => hne (by rw [e])
  simp [putRow, mapBlock, Sort.ahead, Array.getElem?_modify, this]
theorem take_putK (cur : Array Value) (F : List Value) (h : F.length ≤ cur.size) : (putCells id 0 F.toArray cur).toList.take F.length = F := by
  apply List.ext_getElem?
  intro j
  by_cases hj : j < F.length
  · rw [List.getElem?_take_of_lt hj, Array.getElem?_toList]
    simp [putCells, hj, show j < cur.size by omega]
  · rw [List.getElem?_take_eq_none (by omega), List.getElem?_eq_none (by omega)]
theorem perm_of_permIn {d d' : Array NV} (h : PermIn 0 d.size d d') : d'.toList.Perm d.toList := by
  have h1 := h.2.2
  have e1 : d'.extract 0 d.size = d' := by rw [← h.1]; simp
  have e2 : d.extract 0 d.size = d := by simp
  rw [e1, e2] at h1
  exact h1
theorem sorted_of_in {d' : Array NV} {n : Nat} (hn : d'.size = n) (h : SortedIn (ltOf fun x y : NV => cmp3 x.1 y.1) 0 n d') : d'.toList.Pairwise fun x y => x.1 ≤ y.1 := by
  rw [List.pairwise_iff_getElem]
  intro i j hi hj hij
  have hi' : i < d'.size := by simpa using hi
  have hj' : j < d'.size := by simpa using hj
  have := h i j (Nat.zero_le _) hij (by omega)
  rw [ltV_eq, getElem!_pos d' i hi', getElem!_pos d' j hj'] at this
  have h3 := List.not_lt.1 (of_decide_eq_false this)
  simpa using h3
theorem enc_one (x : NV) : ∀ v ∈ encV x, v.oneCell' = true := by
  intro v hv
  simp [encV] at hv
  rcases hv with rfl | rfl | rfl | rfl | rfl <;> rfl
theorem sort_own (l : List NV) (n : Nat) (hn : n = l.length) (hb : n < 100000) (h0 : 0 < n) {base : Nat} {v : Value} (w : World) (hro : w.ownsRow base 43 5 v n (flatV l)) :
    ∃ g cap, v = .slice (some ⟨g, 0, none⟩) n cap ∧ base ≤ g ∧ g < w.heap.size ∧ Calls Tryz.prog 19 #[.slice (some ⟨g, 0, none⟩) n cap, .func (.func 20) #[] #[]] w fun e w' => e = .returned (.tuple #[]) ∧ ∃ S : List NV, S.Perm l ∧ (S.Pairwise fun x y => x.1 ≤ y.1) ∧ w'.ownsRow base 43 5 (.slice (some ⟨g, 0, none⟩) n cap) n (flatV S) ∧ w.grownBy w' (some g) := by
  subst hn
  obtain ⟨hl, h⟩ := hro
  rcases h with ⟨rfl, h2⟩ | ⟨g, cap, cur, rfl, hbase, hg, hnc, hcm, hsz, ht⟩
  · omega
  · have hlt : g < w.heap.size := (Array.getElem?_eq_some_iff.1 hg).1
    refine ⟨g, cap, rfl, hbase, hlt, ?_⟩
    have hs := AnyQ.slices_SortFunc Tryz.sortF 5 Tryz.isAgg43 Tryz.sizeOf43 encV (fun _ => rfl) enc_one (fun x y : NV => cmp3 x.1 y.1) swoV 20 #[] g 0 cap l.toArray w (enters_of Tryz.func20 (by kernel_rfl) rfl) (fun _ _ _ _ x y => closure20 x y _) (holdsK_of hg ht) hlt (by simp; omega)
    have hs' : Calls Tryz.prog 19 #[.slice (some ⟨g, 0, none⟩) l.length cap, .func (.func 20) #[] #[]] w _ := hs
    refine hs'.mono ?_
    rintro e w' ⟨rfl, d', m, os, hp, hso, rfl⟩
    have hsz' : d'.size = l.length := by simpa using hp.1
    have hlen : d'.toList.length = l.length := by simpa using hsz'
    have hF : flatK encV 5 d' = (flatV d'.toList).toArray := flatK_eq d'.toList
    have hfl := flatV_length d'.toList
    refine ⟨rfl, d'.toList, by simpa using perm_of_permIn hp, sorted_of_in (by simpa using hsz') hso, ?_, ?_⟩
    · unfold sortWorldK putRowK
      rw [hF]
      refine ⟨by rw [flatV_length, hlen], .inr ⟨g, cap, _, rfl, hbase, heap_sortedK _ hg, hnc, hcm, by simp [putCells, hsz], ?_⟩⟩
      have h5 : l.length * 5 = (flatV d'.toList).length := by rw [hfl, hlen]
      rw [h5]
      exact take_putK cur _ (by rw [← h5, hsz]; omega)
    · unfold sortWorldK putRowK
      exact grownBy_sortedK _
end Go.Proofs.YtdifffdfiimlpaaGreatDoor
