/- A tree that came in, read. No statement is proved here. -/
import Derived.Test.YtfdhkchglacccaaGreatDoorSnA
import Derived.Test.YtfdhkchglacccaaGreatDoorProg
import Derived.KernelRfl
import Derived.Test.YtfdhkchglacccaaGreatDoorRows
import Derived.Deep.Slices
import Derived.WalkKit
import Derived.OpenShut
import Derived.ChangeOld
set_option linter.all false
/-! a tree that came in, read -/
namespace Go.Proofs.YtfdhkchglacccaaGreatDoor
open Go Go.ChangeShapes Go.WideShapes Go.RowKit Go.Syn
open Rows (uptoBulk uptoBulkAll)
instance : Inhabited PartT := ⟨.mk 0 [] 0 false (none, 0) []⟩
instance : Inhabited WordT := ⟨⟨0, (none, 0), []⟩⟩
instance : Inhabited AssignT := ⟨⟨0, [], default⟩⟩
instance : Inhabited RedirT := ⟨⟨0, 0, 0, default⟩⟩
instance : Inhabited NodeT := ⟨.mk 0 0 [] false (none, 0) [] (none, 0) [] (none, 0) [] (none, 0) [] (none, 0) []⟩
instance : Inhabited ItemH := ⟨⟨(none, 0), [], (none, 0)⟩⟩
theorem bulk_append {H : Type} : ∀ a b : List (DataW H), uptoBulkAll (a ++ b) = uptoBulkAll a + uptoBulkAll b
  | [], b => by simp [uptoBulkAll]
  | x :: a, b => by simp only [List.cons_append, uptoBulkAll, bulk_append a b]; omega
theorem bulk_mem {H : Type} : ∀ {l : List (DataW H)} {d : DataW H}, d ∈ l → uptoBulk d ≤ uptoBulkAll l
  | x :: l, d, h => by
    simp only [uptoBulkAll]
    rcases List.mem_cons.1 h with rfl | h
    · omega
    · have := bulk_mem h; omega
theorem bulk_map {H : Type} {α : Type} (D : α → DataW H) (m : α → Nat) : ∀ l : List α, (∀ a ∈ l, m a ≤ uptoBulk (D a)) → (l.map m).sum ≤ uptoBulkAll (l.map D)
  | [], _ => by simp
  | x :: l, h => by
    have h1 := h x (List.mem_cons_self ..)
    have h2 := bulk_map D m l fun a ha => h a (List.mem_cons_of_mem _ ha)
    simp only [List.map_cons, List.sum_cons, uptoBulkAll]; omega
theorem cells_get {w : World} {a : Addr} {n : Nat} {cs : List Value} (h : w.cells? 0 a n = some cs) : cs.length = n ∧ ∀ k v, cs[k]? = some v → w.cell? (a.add k) = some v := by
  unfold World.cells? at h
  rw [if_pos (Nat.zero_le _)] at h
  have hl := mapM_some_length h
  rw [List.length_range] at hl
  refine ⟨hl, fun k v hk => ?_⟩
  have hkn : k < n := by rw [← hl]; exact (List.getElem?_eq_some_iff.1 hk).1
  have := mapM_some_get h k k (by simp [hkn])
  rw [this]; exact hk
theorem open_rows {α : Type} [Inhabited α] {H : Type} {enc : TypeId × Value → H} {w : World} {held : Bool} {tS tE : TypeId} {k : Nat} {ea : α → List Value} (Good : α → Prop) (mm : α → Nat) (hs : Tryz.prog.underlying tS = some (.slice tE)) (hc : Tryz.prog.cellsOf tE = k) (h0 : ∀ a, 0 < (ea a).length) {fuel : Nat} {v : Value} {x : DataW H × List MemPlace}
    (h : DataW.trod enc Tryz.prog w 0 (fun _ => true) held fuel tS [v] = some x)
    (hel : ∀ n cs y, uptoBulk y.1 < uptoBulk x.1 → DataW.trod enc Tryz.prog w 0 (fun _ => true) held n tE cs = some y → ∃ a : α, cs = ea a ∧ Good a ∧ mm a ≤ uptoBulk y.1) :
    ∃ (hd : Hd) (l : List α), v = slV hd l.length ∧ RdS k ea w hd.1 l ∧ (∀ a ∈ l, Good a) ∧ l.length ≤ hd.2 ∧ (l.map mm).sum + 1 ≤ uptoBulk x.1 := by
  rcases Deep.open_slice hs h with ⟨hcs, rfl⟩ | ⟨a, len, cap, m, n, D, Pl, hcs, _, hl, hm, hmm, rfl, hx⟩
  · injection hcs with hcs
    exact ⟨(none, 0), [], hcs, (fun i x hx => by simp at hx), (fun a ha => by cases ha), by simp, by simp [uptoBulk]⟩
  · injection hcs with hcs
    have hmc : m = cap := by simpa using hmm
    rw [hc] at hx
    have hb : ∀ i, i < len → uptoBulk (D i) < uptoBulk (DataW.slice ((List.range len).map D) ((List.range (m - len)).map fun j => D (len + j))) := fun i hi => by
      have := bulk_mem (List.mem_map_of_mem (f := D) (List.mem_range.2 hi))
      simp only [uptoBulk]; omega
    have hch : ∀ i, i < len → ∃ e : α, w.cells? 0 (a.add (i * k)) k = some (ea e) ∧ Good e ∧ mm e ≤ uptoBulk (D i) := fun i hi => by
      obtain ⟨cs', h1, h2⟩ := hx i (by omega)
      obtain ⟨e, rfl, hg, hm2⟩ := hel n cs' _ (hb i hi) h2
      exact ⟨e, h1, hg, hm2⟩
    obtain ⟨F, hF⟩ := Deep.choose_lt hch
    refine ⟨(some a, cap), (List.range len).map F, by rw [hcs]; simp [slV], ?_, ?_, by simp only [List.length_map, List.length_range]; omega, ?_⟩
    · intro j e he
      rw [List.getElem?_map, Option.map_eq_some_iff] at he
      obtain ⟨j', hj', rfl⟩ := he
      have hj : j < len := by have := (List.getElem?_eq_some_iff.1 hj').1; simpa using this
      obtain rfl : j = j' := by rw [List.getElem?_range hj] at hj'; injection hj'
      obtain ⟨h1, _⟩ := hF j hj
      have hcg := (cells_get h1).2
      have hz := hcg 0 _ (List.getElem?_eq_getElem (h0 (F j)))
      obtain ⟨b, off, sp⟩ := a
      have hsp : sp = none := by
        have hz0 := (cells_get (hF 0 (by omega)).1).2 0 _ (List.getElem?_eq_getElem (h0 (F 0)))
        simpa [Addr.add] using World.cell?_spot hz0
      subst hsp
      have hadd : ∀ q i, ((⟨b, off, none⟩ : Addr).add q).add i = ⟨b, off + q + i, none⟩ := fun q i => by
        unfold Addr.add
        by_cases hq : q = 0 <;> by_cases hi : i = 0 <;> simp [hq, hi]
      refine ⟨b, off, rfl, ?_, fun i u hu => ?_⟩
      · rw [hadd] at hz
        exact World.block_lt_of_cell? w _ hz
      · have := hcg i u hu
        rw [hadd] at this
        exact this
    · intro e he
      obtain ⟨j, hj, rfl⟩ := List.mem_map.1 he
      exact (hF j (List.mem_range.1 hj)).2.1
    · have h1 : (((List.range len).map F).map mm).sum ≤ uptoBulkAll ((List.range len).map D) := by
        rw [List.map_map]
        exact bulk_map D (mm ∘ F) _ fun j hj => (hF j (List.mem_range.1 hj)).2.2
      simp only [uptoBulk]; omega
end Go.Proofs.YtfdhkchglacccaaGreatDoor

/-! the parts of words, and words, that came in -/
namespace Go.Proofs.YtfdhkchglacccaaGreatDoor
open Go Go.ChangeShapes Go.WideShapes Go.RowKit Go.Syn
open Rows (uptoBulk uptoBulkAll)
mutual
def szP : PartT → Nat
  | .mk _ t _ _ _ l => t.length + 1 + szPs l
def szPs : List PartT → Nat
  | [] => 0
  | p :: l => szP p + szPs l
end
theorem szPs_sum : ∀ l : List PartT, szPs l = (l.map szP).sum
  | [] => rfl
  | p :: l => by simp only [szPs, List.map_cons, List.sum_cons, szPs_sum l]
def szW (x : WordT) : Nat := szPs x.parts + 1
def szA (a : AssignT) : Nat := a.name.length + szW a.w
def szR (r : RedirT) : Nat := szW r.w
mutual
def szN : NodeT → Nat
  | .mk _ _ name _ _ al _ ws _ rs _ ks _ is => name.length + 1 + (al.map szA).sum + (ws.map szW).sum + (rs.map szR).sum + szNs ks + szIs is
def szNs : List NodeT → Nat
  | [] => 0
  | n :: l => szN n + szNs l
def szIs : List (ItemH × List NodeT) → Nat
  | [] => 0
  | (i, b) :: l => (i.pats.map szW).sum + 1 + szNs b + szIs l
end
theorem szNs_sum : ∀ l : List NodeT, szNs l = (l.map szN).sum
  | [] => rfl
  | p :: l => by simp only [szNs, List.map_cons, List.sum_cons, szNs_sum l]
def szI (i : ItemH × List NodeT) : Nat := (i.1.pats.map szW).sum + 1 + szNs i.2
theorem szIs_sum : ∀ l : List (ItemH × List NodeT), szIs l = (l.map szI).sum
  | [] => rfl
  | (i, b) :: l => by simp only [szIs, List.map_cons, List.sum_cons, szIs_sum l, szI]
theorem two {α : Type} {l : List α} (h : l.length = 2) : ∃ a b, l = [a, b] := by
  match l, h with
  | [a, b], _ => exact ⟨a, b, rfl⟩
theorem four {α : Type} {l : List α} (h : l.length = 4) : ∃ a b c d, l = [a, b, c, d] := by
  match l, h with
  | [a, b, c, d], _ => exact ⟨a, b, c, d, rfl⟩
theorem five {α : Type} {l : List α} (h : l.length = 5) : ∃ a b c d e, l = [a, b, c, d, e] := by
  match l, h with
  | [a, b, c, d, e], _ => exact ⟨a, b, c, d, e, rfl⟩
theorem c3 : Tryz.prog.cellsOf 3 = 1 := by kernel_rfl
theorem c9 : Tryz.prog.cellsOf 9 = 1 := by kernel_rfl
theorem c4 : Tryz.prog.cellsOf 4 = 1 := by kernel_rfl
theorem cPs : Tryz.prog.cellsOf 35 = 1 := by kernel_rfl
theorem cP : Tryz.prog.cellsOf 56 = 5 := by kernel_rfl
theorem u3 : Tryz.prog.underlying 3 = some (.int .i64) := by kernel_rfl
theorem u9 : Tryz.prog.underlying 9 = some .string := by kernel_rfl
theorem u4 : Tryz.prog.underlying 4 = some .bool := by kernel_rfl
theorem uPs : Tryz.prog.underlying 35 = some (.slice 56) := by kernel_rfl
theorem parts_at {H : Type} {enc : TypeId × Value → H} {w : World} {held : Bool} : ∀ (N : Nat) {fuel : Nat} {v : Value} {x : DataW H × List MemPlace}, uptoBulk x.1 ≤ N →
    DataW.trod enc Tryz.prog w 0 (fun _ => true) held fuel 35 [v] = some x → ∃ (hd : Hd) (l : List PartT), v = slV hd l.length ∧ DeepP w hd l ∧ l.length ≤ hd.2 ∧ szPs l + 1 ≤ uptoBulk x.1
  | 0, fuel, v, x, hN, h => by
    obtain ⟨hd, l, _, _, _, _, hb⟩ := open_rows (α := PartT) (ea := encP) (fun _ => True) (fun _ => 0) uPs cP (fun _ => by simp [encP]) h (fun n cs y hy _ => absurd hy (by omega))
    omega
  | N + 1, fuel, v, x, hN, h => by
    obtain ⟨hd, l, hv, hr, hg, hl, hb⟩ := open_rows (α := PartT) (ea := encP) (fun p => DeepP w p.h p.parts) szP uPs cP (fun _ => by simp [encP]) h (fun n cs y hy hy2 => by
      obtain ⟨xs, m, _, hye, hlen, hxl, hf⟩ := DataW.trod_struct Tryz.underlying56 hy2
      obtain ⟨a, b, c, d, e, rfl⟩ := five (hlen.trans cP)
      obtain ⟨x0, x1, x2, x3, x4, rfl⟩ := five (show xs.length = 5 from hxl)
      have f0 : DataW.trod enc Tryz.prog w 0 (fun _ => true) held m 3 (([a, b, c, d, e].drop 0).take (Tryz.prog.cellsOf 3)) = some x0 := hf 0 _ rfl
      have f1 : DataW.trod enc Tryz.prog w 0 (fun _ => true) held m 9 (([a, b, c, d, e].drop 1).take (Tryz.prog.cellsOf 9)) = some x1 := hf 1 _ rfl
      have f2 : DataW.trod enc Tryz.prog w 0 (fun _ => true) held m 3 (([a, b, c, d, e].drop 2).take (Tryz.prog.cellsOf 3)) = some x2 := hf 2 _ rfl
      have f3 : DataW.trod enc Tryz.prog w 0 (fun _ => true) held m 4 (([a, b, c, d, e].drop 3).take (Tryz.prog.cellsOf 4)) = some x3 := hf 3 _ rfl
      have f4 : DataW.trod enc Tryz.prog w 0 (fun _ => true) held m 35 (([a, b, c, d, e].drop 4).take (Tryz.prog.cellsOf 35)) = some x4 := hf 4 _ rfl
      rw [c3] at f0 f2
      rw [c9] at f1
      rw [c4] at f3
      rw [cPs] at f4
      obtain ⟨i0, e0, rfl, _⟩ := DataW.trod_int u3 f0
      obtain ⟨s1, e1, rfl, hs1⟩ := DataW.trod_string u9 f1
      obtain ⟨i2, e2, rfl, _⟩ := DataW.trod_int u3 f2
      obtain ⟨b3, e3, rfl⟩ := DataW.trod_bool u4 f3
      have hyb : uptoBulk y.1 = uptoBulk (DataW.lit (.int .i64 i0) : DataW H) + (uptoBulk (DataW.lit (.string s1.data.toList) : DataW H) + (uptoBulk (DataW.lit (.int .i64 i2) : DataW H) + (uptoBulk (DataW.lit (.bool b3) : DataW H) + (uptoBulk x4.1 + 0)))) + 1 := by rw [hye]; simp only [List.map_cons, List.map_nil, uptoBulk, uptoBulkAll]
      obtain ⟨hd4, l4, e4, hd4', hl4, hb4⟩ := parts_at N (fuel := m) (v := e) (x := x4) (by omega) f4
      injection e0 with e0
      injection e1 with e1
      injection e2 with e2
      injection e3 with e3
      have e0 : a = .int .i64 i0 := e0
      have e1 : b = .string s1 := e1
      have e2 : c = .int .i64 i2 := e2
      have e3 : d = .bool b3 := e3
      refine ⟨.mk i0 s1.data.toList i2 b3 hd4 l4, ?_, hd4', ?_⟩
      · rw [e0, e1, e2, e3, e4]; rfl
      · have h1 : uptoBulk (DataW.lit (.string s1.data.toList) : DataW H) = s1.data.toList.length + 1 := by simp only [uptoBulk]
        show s1.data.toList.length + 1 + szPs l4 ≤ _
        omega)
    refine ⟨hd, l, hv, .mk hd l hr hg, hl, ?_⟩
    rw [szPs_sum]; exact hb
end Go.Proofs.YtfdhkchglacccaaGreatDoor

/-! words, assignments, redirections, nodes that came in -/
namespace Go.Proofs.YtfdhkchglacccaaGreatDoor
open Go Go.ChangeShapes Go.WideShapes Go.RowKit Go.Syn
open Rows (uptoBulk uptoBulkAll)
theorem nine {α : Type} {l : List α} (h : l.length = 9) : ∃ a b c d e f g i j, l = [a, b, c, d, e, f, g, i, j] := by
  match l, h with
  | [a, b, c, d, e, f, g, i, j], _ => exact ⟨a, b, c, d, e, f, g, i, j, rfl⟩
theorem three {α : Type} {l : List α} (h : l.length = 3) : ∃ a b c, l = [a, b, c] := by
  match l, h with
  | [a, b, c], _ => exact ⟨a, b, c, rfl⟩
theorem cW : Tryz.prog.cellsOf 37 = 2 := by kernel_rfl
theorem cA : Tryz.prog.cellsOf 39 = 4 := by kernel_rfl
theorem cR : Tryz.prog.cellsOf 73 = 5 := by kernel_rfl
theorem cI : Tryz.prog.cellsOf 75 = 2 := by kernel_rfl
theorem cN : Tryz.prog.cellsOf 28 = 9 := by kernel_rfl
theorem cWs : Tryz.prog.cellsOf 23 = 1 := by kernel_rfl
theorem cAs : Tryz.prog.cellsOf 22 = 1 := by kernel_rfl
theorem cRs : Tryz.prog.cellsOf 24 = 1 := by kernel_rfl
theorem cIs : Tryz.prog.cellsOf 26 = 1 := by kernel_rfl
theorem cNs : Tryz.prog.cellsOf 25 = 1 := by kernel_rfl
theorem uWs : Tryz.prog.underlying 23 = some (.slice 37) := by kernel_rfl
theorem uAs : Tryz.prog.underlying 22 = some (.slice 39) := by kernel_rfl
theorem uRs : Tryz.prog.underlying 24 = some (.slice 73) := by kernel_rfl
theorem uIs : Tryz.prog.underlying 26 = some (.slice 75) := by kernel_rfl
theorem uNs : Tryz.prog.underlying 25 = some (.slice 28) := by kernel_rfl
section
variable {H : Type} {enc : TypeId × Value → H} {w : World} {held : Bool}
theorem word_at {fuel : Nat} {cs : List Value} {y : DataW H × List MemPlace} (h : DataW.trod enc Tryz.prog w 0 (fun _ => true) held fuel 37 cs = some y) :
    ∃ x : WordT, cs = encW x ∧ DeepP w x.h x.parts ∧ szW x ≤ uptoBulk y.1 := by
  obtain ⟨xs, m, _, hye, hlen, hxl, hf⟩ := DataW.trod_struct Tryz.underlying37 h
  obtain ⟨a, b, rfl⟩ := two (hlen.trans cW)
  obtain ⟨x0, x1, rfl⟩ := two (show xs.length = 2 from hxl)
  have f0 : DataW.trod enc Tryz.prog w 0 (fun _ => true) held m 3 (([a, b].drop 0).take (Tryz.prog.cellsOf 3)) = some x0 := hf 0 _ rfl
  have f1 : DataW.trod enc Tryz.prog w 0 (fun _ => true) held m 35 (([a, b].drop 1).take (Tryz.prog.cellsOf 35)) = some x1 := hf 1 _ rfl
  rw [c3] at f0
  rw [cPs] at f1
  obtain ⟨i0, e0, rfl, _⟩ := DataW.trod_int u3 f0
  have hyb : uptoBulk y.1 = uptoBulk (DataW.lit (.int .i64 i0) : DataW H) + (uptoBulk x1.1 + 0) + 1 := by rw [hye]; simp only [List.map_cons, List.map_nil, uptoBulk, uptoBulkAll]
  obtain ⟨hd, l, e1, hd', hl, hb⟩ := parts_at _ (fuel := m) (v := b) (x := x1) (Nat.le_refl _) f1
  injection e0 with e0
  have e0 : a = .int .i64 i0 := e0
  refine ⟨⟨i0, hd, l⟩, by rw [e0, e1]; rfl, hd', ?_⟩
  show szPs l + 1 ≤ _
  omega
theorem words_at {fuel : Nat} {v : Value} {x : DataW H × List MemPlace} (h : DataW.trod enc Tryz.prog w 0 (fun _ => true) held fuel 23 [v] = some x) :
    ∃ (hd : Hd) (l : List WordT), v = slV hd l.length ∧ DeepW w hd l ∧ l.length ≤ hd.2 ∧ (l.map szW).sum + 1 ≤ uptoBulk x.1 := by
  obtain ⟨hd, l, hv, hr, hg, hl, hb⟩ := open_rows (α := WordT) (ea := encW) (fun p => DeepP w p.h p.parts) szW uWs cW (fun _ => by simp [encW]) h (fun n cs y _ hy => word_at hy)
  exact ⟨hd, l, hv, ⟨hr, hg⟩, hl, hb⟩
theorem assigns_at {fuel : Nat} {v : Value} {x : DataW H × List MemPlace} (h : DataW.trod enc Tryz.prog w 0 (fun _ => true) held fuel 22 [v] = some x) :
    ∃ (hd : Hd) (l : List AssignT), v = slV hd l.length ∧ DeepA w hd l ∧ l.length ≤ hd.2 ∧ (l.map szA).sum + 1 ≤ uptoBulk x.1 := by
  obtain ⟨hd, l, hv, hr, hg, hl, hb⟩ := open_rows (α := AssignT) (ea := encA) (fun p => DeepP w p.w.h p.w.parts) szA uAs cA (fun _ => by simp [encA]) h (fun n cs y _ hy => by
    obtain ⟨xs, m, _, hye, hlen, hxl, hf⟩ := DataW.trod_struct Tryz.underlying39 hy
    obtain ⟨a, b, c, d, rfl⟩ := four (hlen.trans cA)
    obtain ⟨x0, x1, x2, rfl⟩ := three (show xs.length = 3 from hxl)
    have f0 : DataW.trod enc Tryz.prog w 0 (fun _ => true) held m 3 (([a, b, c, d].drop 0).take (Tryz.prog.cellsOf 3)) = some x0 := hf 0 _ rfl
    have f1 : DataW.trod enc Tryz.prog w 0 (fun _ => true) held m 9 (([a, b, c, d].drop 1).take (Tryz.prog.cellsOf 9)) = some x1 := hf 1 _ rfl
    have f2 : DataW.trod enc Tryz.prog w 0 (fun _ => true) held m 37 (([a, b, c, d].drop 2).take (Tryz.prog.cellsOf 37)) = some x2 := hf 2 _ rfl
    rw [c3] at f0
    rw [c9] at f1
    rw [cW] at f2
    obtain ⟨i0, e0, rfl, _⟩ := DataW.trod_int u3 f0
    obtain ⟨s1, e1, rfl, hs1⟩ := DataW.trod_string u9 f1
    obtain ⟨x, e2, hx, hb⟩ := word_at f2
    have hyb : uptoBulk y.1 = uptoBulk (DataW.lit (.int .i64 i0) : DataW H) + (uptoBulk (DataW.lit (.string s1.data.toList) : DataW H) + (uptoBulk x2.1 + 0)) + 1 := by rw [hye]; simp only [List.map_cons, List.map_nil, uptoBulk, uptoBulkAll]
    have h1 : uptoBulk (DataW.lit (.string s1.data.toList) : DataW H) = s1.data.toList.length + 1 := by simp only [uptoBulk]
    injection e0 with e0
    injection e1 with e1
    have e0 : a = .int .i64 i0 := e0
    have e1 : b = .string s1 := e1
    have e2 : [c, d] = encW x := e2
    refine ⟨⟨i0, s1.data.toList, x⟩, ?_, hx, ?_⟩
    · injection e2 with ec e2
      injection e2 with ed _
      rw [e0, e1, ec, ed]; rfl
    · show s1.data.toList.length + szW x ≤ _
      omega)
  exact ⟨hd, l, hv, ⟨hr, hg⟩, hl, hb⟩
theorem redirs_at {fuel : Nat} {v : Value} {x : DataW H × List MemPlace} (h : DataW.trod enc Tryz.prog w 0 (fun _ => true) held fuel 24 [v] = some x) :
    ∃ (hd : Hd) (l : List RedirT), v = slV hd l.length ∧ DeepR w hd l ∧ l.length ≤ hd.2 ∧ (l.map szR).sum + 1 ≤ uptoBulk x.1 := by
  obtain ⟨hd, l, hv, hr, hg, hl, hb⟩ := open_rows (α := RedirT) (ea := encR) (fun p => DeepP w p.w.h p.w.parts) szR uRs cR (fun _ => by simp [encR]) h (fun n cs y _ hy => by
    obtain ⟨xs, m, _, hye, hlen, hxl, hf⟩ := DataW.trod_struct Tryz.underlying73 hy
    obtain ⟨a, b, c, d, e, rfl⟩ := five (hlen.trans cR)
    obtain ⟨x0, x1, x2, x3, rfl⟩ := four (show xs.length = 4 from hxl)
    have f0 : DataW.trod enc Tryz.prog w 0 (fun _ => true) held m 3 (([a, b, c, d, e].drop 0).take (Tryz.prog.cellsOf 3)) = some x0 := hf 0 _ rfl
    have f1 : DataW.trod enc Tryz.prog w 0 (fun _ => true) held m 3 (([a, b, c, d, e].drop 1).take (Tryz.prog.cellsOf 3)) = some x1 := hf 1 _ rfl
    have f2 : DataW.trod enc Tryz.prog w 0 (fun _ => true) held m 3 (([a, b, c, d, e].drop 2).take (Tryz.prog.cellsOf 3)) = some x2 := hf 2 _ rfl
    have f3 : DataW.trod enc Tryz.prog w 0 (fun _ => true) held m 37 (([a, b, c, d, e].drop 3).take (Tryz.prog.cellsOf 37)) = some x3 := hf 3 _ rfl
    rw [c3] at f0 f1 f2
    rw [cW] at f3
    obtain ⟨i0, e0, rfl, _⟩ := DataW.trod_int u3 f0
    obtain ⟨i1, e1, rfl, _⟩ := DataW.trod_int u3 f1
    obtain ⟨i2, e2, rfl, _⟩ := DataW.trod_int u3 f2
    obtain ⟨x, e3, hx, hb⟩ := word_at f3
    have hyb : uptoBulk y.1 = uptoBulk (DataW.lit (.int .i64 i0) : DataW H) + (uptoBulk (DataW.lit (.int .i64 i1) : DataW H) + (uptoBulk (DataW.lit (.int .i64 i2) : DataW H) + (uptoBulk x3.1 + 0))) + 1 := by rw [hye]; simp only [List.map_cons, List.map_nil, uptoBulk, uptoBulkAll]
    injection e0 with e0
    injection e1 with e1
    injection e2 with e2
    have e0 : a = .int .i64 i0 := e0
    have e1 : b = .int .i64 i1 := e1
    have e2 : c = .int .i64 i2 := e2
    have e3 : [d, e] = encW x := e3
    refine ⟨⟨i0, i1, i2, x⟩, ?_, hx, ?_⟩
    · injection e3 with ed e3
      injection e3 with ee _
      rw [e0, e1, e2, ed, ee]; rfl
    · show szW x ≤ _
      omega)
  exact ⟨hd, l, hv, ⟨hr, hg⟩, hl, hb⟩
theorem node_at : ∀ (N : Nat) {fuel : Nat} {cs : List Value} {y : DataW H × List MemPlace}, uptoBulk y.1 ≤ N → DataW.trod enc Tryz.prog w 0 (fun _ => true) held fuel 28 cs = some y →
    ∃ n : NodeT, cs = encN n ∧ DeepN w n ∧ szN n ≤ uptoBulk y.1
  | 0, fuel, cs, y, hN, h => by
    obtain ⟨xs, m, _, hye, _⟩ := DataW.trod_struct Tryz.underlying28 h
    rw [hye] at hN
    simp only [uptoBulk] at hN
    omega
  | N + 1, fuel, cs, y, hN, h => by
    obtain ⟨xs, m, _, hye, hlen, hxl, hf⟩ := DataW.trod_struct Tryz.underlying28 h
    obtain ⟨a0, a1, a2, a3, a4, a5, a6, a7, a8, rfl⟩ := nine (hlen.trans cN)
    obtain ⟨x0, x1, x2, x3, x4, x5, x6, x7, x8, rfl⟩ := nine (show xs.length = 9 from hxl)
    have f0 : DataW.trod enc Tryz.prog w 0 (fun _ => true) held m 3 (([a0, a1, a2, a3, a4, a5, a6, a7, a8].drop 0).take (Tryz.prog.cellsOf 3)) = some x0 := hf 0 _ rfl
    have f1 : DataW.trod enc Tryz.prog w 0 (fun _ => true) held m 3 (([a0, a1, a2, a3, a4, a5, a6, a7, a8].drop 1).take (Tryz.prog.cellsOf 3)) = some x1 := hf 1 _ rfl
    have f2 : DataW.trod enc Tryz.prog w 0 (fun _ => true) held m 9 (([a0, a1, a2, a3, a4, a5, a6, a7, a8].drop 2).take (Tryz.prog.cellsOf 9)) = some x2 := hf 2 _ rfl
    have f3 : DataW.trod enc Tryz.prog w 0 (fun _ => true) held m 4 (([a0, a1, a2, a3, a4, a5, a6, a7, a8].drop 3).take (Tryz.prog.cellsOf 4)) = some x3 := hf 3 _ rfl
    have f4 : DataW.trod enc Tryz.prog w 0 (fun _ => true) held m 22 (([a0, a1, a2, a3, a4, a5, a6, a7, a8].drop 4).take (Tryz.prog.cellsOf 22)) = some x4 := hf 4 _ rfl
    have f5 : DataW.trod enc Tryz.prog w 0 (fun _ => true) held m 23 (([a0, a1, a2, a3, a4, a5, a6, a7, a8].drop 5).take (Tryz.prog.cellsOf 23)) = some x5 := hf 5 _ rfl
    have f6 : DataW.trod enc Tryz.prog w 0 (fun _ => true) held m 24 (([a0, a1, a2, a3, a4, a5, a6, a7, a8].drop 6).take (Tryz.prog.cellsOf 24)) = some x6 := hf 6 _ rfl
    have f7 : DataW.trod enc Tryz.prog w 0 (fun _ => true) held m 25 (([a0, a1, a2, a3, a4, a5, a6, a7, a8].drop 7).take (Tryz.prog.cellsOf 25)) = some x7 := hf 7 _ rfl
    have f8 : DataW.trod enc Tryz.prog w 0 (fun _ => true) held m 26 (([a0, a1, a2, a3, a4, a5, a6, a7, a8].drop 8).take (Tryz.prog.cellsOf 26)) = some x8 := hf 8 _ rfl
    rw [c3] at f0 f1
    rw [c9] at f2
    rw [c4] at f3
    rw [cAs] at f4
    rw [cWs] at f5
    rw [cRs] at f6
    rw [cNs] at f7
    rw [cIs] at f8
    obtain ⟨i0, e0, rfl, _⟩ := DataW.trod_int u3 f0
    obtain ⟨i1, e1, rfl, _⟩ := DataW.trod_int u3 f1
    obtain ⟨s2, e2, rfl, hs2⟩ := DataW.trod_string u9 f2
    obtain ⟨b3, e3, rfl⟩ := DataW.trod_bool u4 f3
    have hyb : uptoBulk y.1 = uptoBulk (DataW.lit (.int .i64 i0) : DataW H) + (uptoBulk (DataW.lit (.int .i64 i1) : DataW H) + (uptoBulk (DataW.lit (.string s2.data.toList) : DataW H) + (uptoBulk (DataW.lit (.bool b3) : DataW H) + (uptoBulk x4.1 + (uptoBulk x5.1 + (uptoBulk x6.1 + (uptoBulk x7.1 + (uptoBulk x8.1 + 0)))))))) + 1 := by rw [hye]; simp only [List.map_cons, List.map_nil, uptoBulk, uptoBulkAll]
    have h1 : uptoBulk (DataW.lit (.string s2.data.toList) : DataW H) = s2.data.toList.length + 1 := by simp only [uptoBulk]
    obtain ⟨h4, l4, v4, d4, _, b4⟩ := assigns_at (v := a4) f4
    obtain ⟨h5, l5, v5, d5, q5, b5⟩ := words_at (v := a5) f5
    obtain ⟨h6, l6, v6, d6, _, b6⟩ := redirs_at (v := a6) f6
    obtain ⟨h7, l7, v7, r7, g7, q7, b7⟩ := open_rows (α := NodeT) (ea := encN) (v := a7) (DeepN w) szN uNs cN (fun _ => by simp [encN]) f7 (fun n cs y hy hh => node_at N (by omega) hh)
    obtain ⟨h8, l8, v8, r8, g8, _, b8⟩ := open_rows (α := ItemH × List NodeT) (ea := encI) (v := a8) (fun i => DeepW w i.1.ph i.1.pats ∧ RdS 9 encN w i.1.bh.1 i.2 ∧ ∀ k ∈ i.2, DeepN w k) szI uIs cI (fun _ => by simp [encI]) f8 (fun n cs y hy hh => by
      obtain ⟨zs, q, _, hze, hzl, hzx, hzf⟩ := DataW.trod_struct Tryz.underlying75 hh
      obtain ⟨p, b, rfl⟩ := two (hzl.trans cI)
      obtain ⟨z0, z1, rfl⟩ := two (show zs.length = 2 from hzx)
      have k0 : DataW.trod enc Tryz.prog w 0 (fun _ => true) held q 23 (([p, b].drop 0).take (Tryz.prog.cellsOf 23)) = some z0 := hzf 0 _ rfl
      have k1 : DataW.trod enc Tryz.prog w 0 (fun _ => true) held q 25 (([p, b].drop 1).take (Tryz.prog.cellsOf 25)) = some z1 := hzf 1 _ rfl
      rw [cWs] at k0
      rw [cNs] at k1
      have hzb : uptoBulk y.1 = uptoBulk z0.1 + (uptoBulk z1.1 + 0) + 1 := by rw [hze]; simp only [List.map_cons, List.map_nil, uptoBulk, uptoBulkAll]
      obtain ⟨hp, lp, vp, dp, _, bp⟩ := words_at (v := p) k0
      obtain ⟨hb, lb, vb, rb, gb, _, bb⟩ := open_rows (α := NodeT) (ea := encN) (v := b) (DeepN w) szN uNs cN (fun _ => by simp [encN]) k1 (fun n cs y hy hh => node_at N (by omega) hh)
      refine ⟨(⟨hp, lp, hb⟩, lb), by rw [vp, vb]; rfl, ⟨dp, rb, gb⟩, ?_⟩
      show (lp.map szW).sum + 1 + szNs lb ≤ _
      rw [szNs_sum]; omega)
    injection e0 with e0
    injection e1 with e1
    injection e2 with e2
    injection e3 with e3
    have e0 : a0 = .int .i64 i0 := e0
    have e1 : a1 = .int .i64 i1 := e1
    have e2 : a2 = .string s2 := e2
    have e3 : a3 = .bool b3 := e3
    refine ⟨.mk i0 i1 s2.data.toList b3 h4 l4 h5 l5 h6 l6 h7 l7 h8 l8, ?_, .mk _ d4 d5 d6 r7 g7 r8 (fun i hi => (g8 i hi).1) (fun i hi => (g8 i hi).2.1) (fun i hi => (g8 i hi).2.2) ⟨q7, q5⟩, ?_⟩
    · rw [e0, e1, e2, e3, v4, v5, v6, v7, v8]; rfl
    · show s2.data.toList.length + 1 + (l4.map szA).sum + (l5.map szW).sum + (l6.map szR).sum + szNs l7 + szIs l8 ≤ _
      rw [szNs_sum, szIs_sum]; omega
end
end Go.Proofs.YtfdhkchglacccaaGreatDoor
