/- A row of specifications that came in, read. No statement is proved here. -/
import Derived.Test.YtgllcbapmnflaaaGreatDoorValid
import Derived.Test.YtgllcbapmnflaaaGreatDoorStart
import Derived.Deep.Slices
namespace Go.Proofs.YtgllcbapmnflaaaGreatDoor
open Go.ChangeShapes Go.WideShapes Go.ChangeAt Go.RowKit
set_option linter.unusedVariables false
theorem texts_readsV {w : World} {x : Addr} {len cap : Nat} {ss : List ByteArray} (hl : len ≤ cap) (hz : ss.length = cap) (hcell : ∀ i, i < ss.length → w.cell? (x.add i) = some (.string (ss.getD i ByteArray.empty))) :
    ∃ d : List (List UInt8), len = d.length ∧ Reads w w.heap.size (some x) d := by
  have hlen : ((ss.take len).map fun s => s.data.toList).length = len := by simp; omega
  refine ⟨(ss.take len).map fun s => s.data.toList, hlen.symm, ?_⟩
  intro hn
  refine ⟨x, rfl, ?_, fun j t hj => ?_⟩
  · have := World.block_lt_of_cell? w _ (hcell 0 (by omega))
    rwa [block_of_add] at this
  · rw [List.getElem?_map, Option.map_eq_some_iff] at hj
    obtain ⟨s, hs, rfl⟩ := hj
    rw [List.getElem?_take] at hs
    split at hs
    · have hj : j < ss.length := by omega
      rw [hcell j hj]
      rw [List.getElem?_eq_getElem hj] at hs
      injection hs with hs
      simp only [List.getD_eq_getElem?_getD, List.getElem?_eq_getElem hj, Option.getD_some, hs]
    · cases hs
theorem strings_at {H : Type} {enc : TypeId × Value → H} {w : World} {fuel : Nat} {held : Bool} {v : Value} {x : DataW H × List MemPlace}
    (h : DataW.trod enc Tryz.prog w 0 (fun _ => true) held fuel 22 [v] = some x) : ∃ (A : Option Addr) (c : Nat) (d : List (List UInt8)), v = .slice A d.length c ∧ Reads w w.heap.size A d ∧ d.length ≤ 9223372036854775807 := by
  rcases open_strings (show Tryz.prog.underlying 22 = some (.slice 9) by kernel_rfl) (show Tryz.prog.underlying 9 = some .string by kernel_rfl) (by kernel_rfl) h with ⟨hcs, _⟩ | ⟨x, l, c, ss, hcs, _, hl, hm, hz, _, hcell, _⟩
  · injection hcs with hcs
    exact ⟨none, 0, [], hcs, fun hh => absurd hh (by simp), by simp⟩
  · injection hcs with hcs
    obtain ⟨d, rfl, hr⟩ := texts_readsV hl (by simpa using hz) hcell
    exact ⟨some x, c, d, hcs, hr, by unfold maxLen at hm; omega⟩
instance : Inhabited Sp := ⟨⟨[], none, 0, [], false, false, none, 0, []⟩⟩
theorem five {α : Type} {l : List α} (h : l.length = 5) : ∃ a b c d e, l = [a, b, c, d, e] := by
  match l, h with
  | [a, b, c, d, e], _ => exact ⟨a, b, c, d, e, rfl⟩
theorem spec_at {H : Type} {enc : TypeId × Value → H} {w : World} {fuel : Nat} {held : Bool} {cs : List Value} {x : DataW H × List MemPlace}
    (h : DataW.trod enc Tryz.prog w 0 (fun _ => true) held fuel 50 cs = some x) :
    ∃ s : Sp, cs = [.string ⟨s.cmd.toArray⟩, .slice s.A1 s.words.length s.c1, .bool s.f, .bool s.g, .slice s.A2 s.suf.length s.c2] ∧ Reads w w.heap.size s.A1 s.words ∧ Reads w w.heap.size s.A2 s.suf ∧ s.words.length ≤ 9223372036854775807 ∧ s.suf.length ≤ 9223372036854775807 ∧ s.cmd.length ≤ 9223372036854775807 := by
  obtain ⟨xs, n, _, _, hlen, hxl, hf⟩ := DataW.trod_struct Tryz.underlying50 h
  have h5 : Tryz.prog.cellsOf 50 = 5 := by kernel_rfl
  have c9 : Tryz.prog.cellsOf 9 = 1 := by kernel_rfl
  have c22 : Tryz.prog.cellsOf 22 = 1 := by kernel_rfl
  have c4 : Tryz.prog.cellsOf 4 = 1 := by kernel_rfl
  obtain ⟨a, b, c, d, e, rfl⟩ := five (hlen.trans h5)
  have hx5 : xs.length = 5 := hxl
  obtain ⟨x0, x1, x2, x3, x4, rfl⟩ := five hx5
  have f0 : DataW.trod enc Tryz.prog w 0 (fun _ => true) held n 9 (([a, b, c, d, e].drop 0).take (Tryz.prog.cellsOf 9)) = some x0 := hf 0 _ rfl
  rw [c9] at f0
  have f0 : DataW.trod enc Tryz.prog w 0 (fun _ => true) held n 9 [a] = some x0 := f0
  have f1 : DataW.trod enc Tryz.prog w 0 (fun _ => true) held n 22 (([a, b, c, d, e].drop 1).take (Tryz.prog.cellsOf 22)) = some x1 := hf 1 _ rfl
  rw [c22] at f1
  have f1 : DataW.trod enc Tryz.prog w 0 (fun _ => true) held n 22 [b] = some x1 := f1
  have f2 : DataW.trod enc Tryz.prog w 0 (fun _ => true) held n 4 (([a, b, c, d, e].drop 2).take (Tryz.prog.cellsOf 4)) = some x2 := hf 2 _ rfl
  rw [c4] at f2
  have f2 : DataW.trod enc Tryz.prog w 0 (fun _ => true) held n 4 [c] = some x2 := f2
  have f3 : DataW.trod enc Tryz.prog w 0 (fun _ => true) held n 4 (([a, b, c, d, e].drop 3).take (Tryz.prog.cellsOf 4)) = some x3 := hf 3 _ rfl
  rw [c4] at f3
  have f3 : DataW.trod enc Tryz.prog w 0 (fun _ => true) held n 4 [d] = some x3 := f3
  have f4 : DataW.trod enc Tryz.prog w 0 (fun _ => true) held n 22 (([a, b, c, d, e].drop 4).take (Tryz.prog.cellsOf 22)) = some x4 := hf 4 _ rfl
  rw [c22] at f4
  have f4 : DataW.trod enc Tryz.prog w 0 (fun _ => true) held n 22 [e] = some x4 := f4
  obtain ⟨s, e0, _, hs⟩ := DataW.trod_string (show Tryz.prog.underlying 9 = some .string by kernel_rfl) f0
  obtain ⟨A1, c1, d1, rfl, r1, l1⟩ := strings_at f1
  obtain ⟨b2, e2, _⟩ := DataW.trod_bool (show Tryz.prog.underlying 4 = some .bool by kernel_rfl) f2
  obtain ⟨b3, e3, _⟩ := DataW.trod_bool (show Tryz.prog.underlying 4 = some .bool by kernel_rfl) f3
  obtain ⟨A2, c2, d2, rfl, r2, l2⟩ := strings_at f4
  injection e0 with e0
  injection e2 with e2
  injection e3 with e3
  refine ⟨⟨s.data.toList, A1, c1, d1, b2, b3, A2, c2, d2⟩, ?_, r1, r2, l1, l2, ?_⟩
  · rw [e0, e2, e3]
  · have h2 : s.data.toList.length = s.size := by simp
    show s.data.toList.length ≤ _
    unfold maxLen at hs
    omega
theorem cells_get {w : World} {a : Addr} {n : Nat} {cs : List Value} (h : w.cells? 0 a n = some cs) : cs.length = n ∧ ∀ k v, cs[k]? = some v → w.cell? (a.add k) = some v := by
  unfold World.cells? at h
  rw [if_pos (Nat.zero_le _)] at h
  have hl := mapM_some_length h
  rw [List.length_range] at hl
  refine ⟨hl, fun k v hk => ?_⟩
  have hkn : k < n := by rw [← hl]; exact (List.getElem?_eq_some_iff.1 hk).1
  have := mapM_some_get h k k (by simp [hkn])
  rw [this]; exact hk
theorem specs_reads {H : Type} {enc : TypeId × Value → H} {w : World} {fuel : Nat} {held : Bool} {a0 : Option Addr} {len0 cap0 : Nat} {x : DataW H × List MemPlace}
    (h : DataW.trod enc Tryz.prog w 0 (fun _ => true) held fuel 27 [.slice a0 len0 cap0] = some x) : ∃ d : List Sp, len0 = d.length ∧ d.length ≤ 9223372036854775807 ∧ SReads w w.heap.size a0 d := by
  rcases Deep.open_slice (show Tryz.prog.underlying 27 = some (.slice 50) by kernel_rfl) h with ⟨hcs, _⟩ | ⟨a, len, cap, m, n, D, Pl, hcs, _, hl, hm, hmm, _, hel⟩
  · injection hcs with hcs
    injection hcs with e1 e2 e3
    subst e1; subst e2
    exact ⟨[], rfl, by simp, fun hh => absurd hh (by simp)⟩
  · injection hcs with hcs
    injection hcs with e1 e2 e3
    subst e1; subst e2; subst e3
    have h5 : Tryz.prog.cellsOf 50 = 5 := by kernel_rfl
    rw [h5] at hel
    have hmc : m = cap0 := by simpa using hmm
    have hch : ∀ i, i < len0 → ∃ s : Sp, w.cells? 0 (a.add (i * 5)) 5 = some [.string ⟨s.cmd.toArray⟩, .slice s.A1 s.words.length s.c1, .bool s.f, .bool s.g, .slice s.A2 s.suf.length s.c2] ∧ Reads w w.heap.size s.A1 s.words ∧ Reads w w.heap.size s.A2 s.suf ∧ s.words.length ≤ 9223372036854775807 ∧ s.suf.length ≤ 9223372036854775807 ∧ s.cmd.length ≤ 9223372036854775807 := fun i hi => by
      obtain ⟨cs', h1, h2⟩ := hel i (by omega)
      obtain ⟨s, rfl, hr⟩ := spec_at h2
      exact ⟨s, h1, hr⟩
    obtain ⟨F, hF⟩ := Deep.choose_lt hch
    refine ⟨(List.range len0).map F, by simp, by unfold maxLen at hm; simp; omega, fun hn => ?_⟩
    have hn0 : 0 < len0 := by simpa using hn
    have hsp : a.spot = none := by
      obtain ⟨h1, _⟩ := hF 0 hn0
      have := (cells_get h1).2 0 _ rfl
      obtain ⟨b, off, sp⟩ := a
      simpa [Addr.add] using World.cell?_spot this
    obtain ⟨b, off, sp⟩ := a
    have hsp' : sp = none := hsp
    subst hsp'
    have hadd : ∀ k i, ((⟨b, off, none⟩ : Addr).add k).add i = ⟨b, off + k + i, none⟩ := fun k i => by
      unfold Addr.add
      by_cases hk : k = 0 <;> by_cases hi : i = 0 <;> simp [hk, hi]
    refine ⟨b, off, rfl, ?_, fun j s hs => ?_⟩
    · obtain ⟨h1, _⟩ := hF 0 hn0
      have := (cells_get h1).2 0 _ rfl
      have := World.block_lt_of_cell? w _ this
      simpa [block_of_add] using this
    · rw [List.getElem?_map, Option.map_eq_some_iff] at hs
      obtain ⟨j', hj', rfl⟩ := hs
      have hj : j < len0 := by have := (List.getElem?_eq_some_iff.1 hj').1; simpa using this
      obtain rfl : j = j' := by rw [List.getElem?_range hj] at hj'; injection hj'
      obtain ⟨h1, hr⟩ := hF j hj
      have hc := (cells_get h1).2
      have k0 := hc 0 _ rfl
      have k1 := hc 1 _ rfl
      have k2 := hc 2 _ rfl
      have k3 := hc 3 _ rfl
      have k4 := hc 4 _ rfl
      rw [hadd] at k0 k1 k2 k3 k4
      exact ⟨k0, k1, k2, k3, k4, hr⟩
end Go.Proofs.YtgllcbapmnflaaaGreatDoor
