/- The program: preorder. No statement is proved here. -/
import Derived.Test.YtfdhkchglacccaaGreatDoorSnPG
import Derived.OneCell
import Derived.Deep.RegionLaw
import Derived.Deep.CutBlock
import Derived.Deep.DeepCutAuto
import Derived.Deep.DeepFit
import Derived.Deep.AppendLies
import Derived.Test.YtfdhkchglacccaaGreatDoorSnNG
import Derived.Laws.EntriesVeiled
set_option linter.all false
/-! preorder: the state of its function value, and the append of a node in one region -/
namespace Go.Proofs.YtfdhkchglacccaaGreatDoor
open Go Go.RowKit Go.Mir Go.Syn
theorem step_append_anyR {P : Program} {w : World} {ops : Array Oper} {o : Oper} {a : Act} {K : Act → World → Prop} {Q : Exit → Act → World → Prop} {E : Prop} (hgd : o.guard = none) (s x : Operand) (t : TypeId)
    (ho : o.op = .call { callee := .builtin .append, args := #[s, x], argTypes := #[t, t] })
    (base : Nat) (e : TypeId) (i : TypeInfo) (z : Value) (size bytes : Nat) (ht : P.underlying t = some (.slice e)) (hi : P.info? e = some i) (hz : i.zero = some z)
    (hsize : i.size = size) (hby : i.bytes = bytes) (hzs : z.cells.size = size) (hsz : 0 < size)
    (v : Value) (n : Nat) (xs : List Value) (hs : a.eval s = v) (hown : w.ownsRow base e size v n xs)
    (A : Option Addr) (m c : Nat) (news : List Value) (hx : a.eval x = .slice A m c) (hr : ReadsR w size A m news) (h1 : ∀ u ∈ news, u.oneCell' = true)
    (h63 : n + m ≤ maxLen) (hbytes : (n + m) * bytes ≤ 140737488355328) (hbase : base ≤ w.heap.size)
    (h : ∀ v' w', w'.ownsRow base e size v' (n + m) (xs ++ news) → w.grownBy w' v.ownBlock → (v'.ownBlock = v.ownBlock ∨ v'.ownBlock = some w.heap.size) → K (a.put o.dst v') w') :
    if Region.wanted o (yielded ops a.tmps) = true then Oper.wp P o a w K Q else E := by
  have hw : Region.wanted o (yielded ops a.tmps) = true := by simp [Region.wanted, hgd]
  rw [if_pos hw]
  exact wp_append_any w s x t ho base e i z size bytes ht hi hz hsize hby hzs hsz v n xs hs hown A m c news hx hr h1 h63 hbytes hbase h
theorem own_heap {w w' : World} {base : Nat} {e : TypeId} {size : Nat} {v : Value} {n : Nat} {xs : List Value} (h : w.ownsRow base e size v n xs) (hh : w'.heap = w.heap) : w'.ownsRow base e size v n xs := by
  obtain ⟨h1, h2⟩ := h
  refine ⟨h1, ?_⟩
  rcases h2 with h2 | ⟨g, cap, cur, hv, hg, hq, r⟩
  · exact .inl h2
  · exact .inr ⟨g, cap, cur, hv, hg, by rw [hh]; exact hq, r⟩
def zeroN : List Value := [.int .i64 0, .int .i64 0, .string ⟨#[]⟩, .bool false, .slice none 0 0, .slice none 0 0, .slice none 0 0, .slice none 0 0, .slice none 0 0]
theorem oneZ : ∀ u ∈ zeroN, u.oneCell' = true := by
  intro u hu
  simp [zeroN] at hu
  rcases hu with rfl | rfl | rfl | rfl <;> rfl
theorem reads_lit {w : World} {k : Nat} {t : TypeId} (hk : k = w.heap.size) : ReadsR (w.alloc (.cells #[.int .i64 0, .int .i64 0, .string ⟨#[]⟩, .bool false, .slice none 0 0, .slice none 0 0, .slice none 0 0, .slice none 0 0, .slice none 0 0] t)) 9 (some ⟨k, 0, none⟩) 1 zeroN := by
  subst hk
  refine ⟨rfl, fun _ => ⟨_, rfl, fun j u hu => ?_⟩⟩
  have hj : j < 9 := (List.getElem?_eq_some_iff.1 hu).1
  rw [add_none, Nat.zero_add]
  have e : ((w.alloc (.cells #[.int .i64 0, .int .i64 0, .string ⟨#[]⟩, .bool false, .slice none 0 0, .slice none 0 0, .slice none 0 0, .slice none 0 0, .slice none 0 0] t)).cell? ⟨w.heap.size, j, none⟩) = (#[Value.int .i64 0, .int .i64 0, .string ⟨#[]⟩, .bool false, .slice none 0 0, .slice none 0 0, .slice none 0 0, .slice none 0 0, .slice none 0 0] : Array Value)[j]? := by
    simp only [World.cell?, heap_alloc_new]
    rfl
  rw [e, ← hu]
  simp [zeroN]
noncomputable abbrev fill9 (w : World) (g o : Nat) (n : NodeT) : World := ((((((((w.setCell ⟨g, o, none⟩ (.int .i64 n.kind)).setCell ⟨g, o + 1, none⟩ (.int .i64 n.pos)).setCell ⟨g, o + 2, none⟩ (.string ⟨n.name.toArray⟩)).setCell ⟨g, o + 3, none⟩ (.bool n.all)).setCell ⟨g, o + 4, none⟩ (.slice n.ah.1 n.assigns.length n.ah.2)).setCell ⟨g, o + 5, none⟩ (.slice n.wh.1 n.words.length n.wh.2)).setCell ⟨g, o + 6, none⟩ (.slice n.rh.1 n.redirs.length n.rh.2)).setCell ⟨g, o + 7, none⟩ (.slice n.kh.1 n.kids.length n.kh.2)).setCell ⟨g, o + 8, none⟩ (.slice n.ih.1 n.items.length n.ih.2)
theorem set9 (xs : List Value) (m : Nat) (h : xs.length = m) (v0 v1 v2 v3 v4 v5 v6 v7 v8 : Value) : (((((((((xs ++ zeroN).set m v0).set (m + 1) v1).set (m + 2) v2).set (m + 3) v3).set (m + 4) v4).set (m + 5) v5).set (m + 6) v6).set (m + 7) v7).set (m + 8) v8 = xs ++ [v0, v1, v2, v3, v4, v5, v6, v7, v8] := by
  subst h
  simp [zeroN, List.set_append]
theorem row_fill9 {w : World} {base g k cap : Nat} {l : List NodeT} {n : NodeT} (hk : k = l.length) (h : w.ownsRow base 28 9 (.slice (some ⟨g, 0, none⟩) (k + 1) cap) (k + 1) (l.flatMap encN ++ zeroN)) :
    (fill9 w g (k * 9) n).ownsRow base 28 9 (.slice (some ⟨g, 0, none⟩) (k + 1) cap) (k + 1) ((l ++ [n]).flatMap encN) := by
  have := (World.ownsRow.stored (World.ownsRow.stored (World.ownsRow.stored (World.ownsRow.stored (World.ownsRow.stored (World.ownsRow.stored (World.ownsRow.stored (World.ownsRow.stored (World.ownsRow.stored h (k * 9) (.int .i64 n.kind)).1 (k * 9 + 1) (.int .i64 n.pos)).1 (k * 9 + 2) (.string ⟨n.name.toArray⟩)).1 (k * 9 + 3) (.bool n.all)).1 (k * 9 + 4) (.slice n.ah.1 n.assigns.length n.ah.2)).1 (k * 9 + 5) (.slice n.wh.1 n.words.length n.wh.2)).1 (k * 9 + 6) (.slice n.rh.1 n.redirs.length n.rh.2)).1 (k * 9 + 7) (.slice n.kh.1 n.kids.length n.kh.2)).1 (k * 9 + 8) (.slice n.ih.1 n.items.length n.ih.2)).1
  rw [set9 _ _ (by rw [flat_lenK lenN, hk])] at this
  rw [List.flatMap_append]
  simpa [encN, slV] using this
theorem heap_fill9 (w : World) (g o : Nat) (n : NodeT) (b : Nat) (hb : b ≠ g) : (fill9 w g o n).heap[b]? = w.heap[b]? := by
  have e : ∀ (w : World) (a : Addr) (u : Value), b ≠ a.block → (w.setCell a u).heap[b]? = w.heap[b]? := fun w a u h => Below.heap_setCell w a u b h
  unfold fill9
  rw [e _ _ _ hb, e _ _ _ hb, e _ _ _ hb, e _ _ _ hb, e _ _ _ hb, e _ _ _ hb, e _ _ _ hb, e _ _ _ hb, e _ _ _ hb]
theorem below_fill9 {B : Nat} {a w : World} (h : Below B a w) {g : Nat} (hg : B ≤ g) (o : Nat) (n : NodeT) : Below B a (fill9 w g o n) :=
  ((((((((h.setCell hg _).setCell hg _).setCell hg _).setCell hg _).setCell hg _).setCell hg _).setCell hg _).setCell hg _).setCell hg _
theorem setCell_comm (w : World) (a b : Addr) (u v : Value) (h : a.block ≠ b.block) : (w.setCell a u).setCell b v = (w.setCell b v).setCell a u := by
  have hh : ((w.setCell a u).setCell b v).heap = ((w.setCell b v).setCell a u).heap := by
    apply Array.ext_getElem?
    intro i
    unfold World.setCell
    simp only [Array.getElem?_modify]
    by_cases h1 : a.block = i
    · have h2 : ¬ b.block = i := fun e => h (h1.trans e.symm)
      simp [h1, h2]
    · by_cases h2 : b.block = i
      · simp [h1, h2]
      · simp [h1, h2]
  have e : ∀ x y : World, x.heap = y.heap → x = { y with heap := x.heap } → x = y := fun x y h1 h2 => by rw [h2, h1]
  exact e _ _ hh rfl
theorem fill9_comm (w : World) (g o : Nat) (n : NodeT) (b : Nat) (v : Value) (h : b ≠ g) : fill9 (w.setCell ⟨b, 0, none⟩ v) g o n = (fill9 w g o n).setCell ⟨b, 0, none⟩ v := by
  have e : ∀ (w : World) (j : Nat) (u : Value), (w.setCell ⟨b, 0, none⟩ v).setCell ⟨g, j, none⟩ u = (w.setCell ⟨g, j, none⟩ u).setCell ⟨b, 0, none⟩ v := fun w j u => setCell_comm w _ _ _ _ h
  unfold fill9
  rw [e, e, e, e, e, e, e, e, e]
theorem row_new {w : World} {B0 k : Nat} {v : Value} {l : List NodeT} (hk : k = l.length) (h : w.ownsRow B0 28 9 v (k + 1) (l.flatMap encN ++ zeroN)) :
    ∃ g cap, v = .slice (some ⟨g, 0, none⟩) (k + 1) cap ∧ B0 ≤ g ∧ g < w.heap.size ∧ (w.cell? ⟨g, k * 9, none⟩ = some (.int .i64 0) ∧ w.cell? ⟨g, k * 9 + 1, none⟩ = some (.int .i64 0) ∧ w.cell? ⟨g, k * 9 + 2, none⟩ = some (.string ⟨#[]⟩) ∧ w.cell? ⟨g, k * 9 + 3, none⟩ = some (.bool false) ∧ w.cell? ⟨g, k * 9 + 4, none⟩ = some (.slice none 0 0) ∧ w.cell? ⟨g, k * 9 + 5, none⟩ = some (.slice none 0 0) ∧ w.cell? ⟨g, k * 9 + 6, none⟩ = some (.slice none 0 0) ∧ w.cell? ⟨g, k * 9 + 7, none⟩ = some (.slice none 0 0) ∧ w.cell? ⟨g, k * 9 + 8, none⟩ = some (.slice none 0 0)) ∧ (w.frozen? ⟨g, k * 9, none⟩ = false ∧ w.frozen? ⟨g, k * 9 + 1, none⟩ = false ∧ w.frozen? ⟨g, k * 9 + 2, none⟩ = false ∧ w.frozen? ⟨g, k * 9 + 3, none⟩ = false ∧ w.frozen? ⟨g, k * 9 + 4, none⟩ = false ∧ w.frozen? ⟨g, k * 9 + 5, none⟩ = false ∧ w.frozen? ⟨g, k * 9 + 6, none⟩ = false ∧ w.frozen? ⟨g, k * 9 + 7, none⟩ = false ∧ w.frozen? ⟨g, k * 9 + 8, none⟩ = false) := by
  obtain ⟨g, cap, hv⟩ : ∃ g cap, v = .slice (some ⟨g, 0, none⟩) (k + 1) cap := by
    rcases h.2 with ⟨_, h0⟩ | ⟨g, cap, cur, hv, _⟩
    · omega
    · exact ⟨g, cap, hv⟩
  subst hv
  have hx : ∀ j z, zeroN[j]? = some z → w.cell? ⟨g, k * 9 + j, none⟩ = some z := fun j z hz => by
    have hj : j < 9 := (List.getElem?_eq_some_iff.1 hz).1
    rw [h.cellAt (k * 9 + j) (by omega), List.getElem?_append_right (by rw [flat_lenK lenN, hk]; omega), flat_lenK lenN, hk, Nat.add_sub_cancel_left]
    exact hz
  exact ⟨g, cap, rfl, (h.lt g rfl).1, (h.lt g rfl).2, ⟨hx 0 _ rfl, hx 1 _ rfl, hx 2 _ rfl, hx 3 _ rfl, hx 4 _ rfl, hx 5 _ rfl, hx 6 _ rfl, hx 7 _ rfl, hx 8 _ rfl⟩, h.frozenAt _, h.frozenAt _, h.frozenAt _, h.frozenAt _, h.frozenAt _, h.frozenAt _, h.frozenAt _, h.frozenAt _, h.frozenAt _⟩
end Go.Proofs.YtfdhkchglacccaaGreatDoor

/-! preorder's function value (printed by genPP.py) -/
namespace Go.Proofs.YtfdhkchglacccaaGreatDoor
open Go Go.RowKit Go.Mir Go.Syn
/-- the captured variables: the list so far in block Bl, the function itself in block Bv; rows lie from B0 on -/
def PreI (Bl Bv B0 : Nat) (L : List NodeT) (w0 W : World) : Prop := Below w0.heap.size w0 W ∧ W.heap[Bv]? = some (.cells #[.func (.func 61) #[] #[.pointer (some ⟨Bl, 0, none⟩), .pointer (some ⟨Bv, 0, none⟩)]] 93 (0, 0)) ∧
  ∃ v, W.heap[Bl]? = some (.cells #[v] 25 (0, 0)) ∧ W.ownsRow B0 28 9 v L.length (L.flatMap encN)
theorem PreI.up {Bl Bv B0 : Nat} {L : List NodeT} {w0 W W' : World} (h : PreI Bl Bv B0 L w0 W) (hb : Below W.heap.size W W') : PreI Bl Bv B0 L w0 W' := by
  obtain ⟨h1, h2, v, h3, h4⟩ := h
  exact ⟨h1.trans (hb.mono h1.size), (hb.block _ (lt_of_block h2)).trans h2, v, (hb.block _ (lt_of_block h3)).trans h3, own_up h4 hb⟩
/-- a block that the list's growth does not touch -/
def SafeB (Bl q : Nat) (W : World) : Prop := q < W.heap.size ∧ q ≠ Bl ∧ ∀ v, W.heap[Bl]? = some (.cells #[v] 25 (0, 0)) → v.ownBlock ≠ some q
def PreF (Bl : Nat) (W W' : World) : Prop := ∀ q, SafeB Bl q W → SafeB Bl q W' ∧ W'.heap[q]? = W.heap[q]?
theorem PreF.trans {Bl : Nat} {A B C : World} (h : PreF Bl A B) (k : PreF Bl B C) : PreF Bl A C := fun q hq => by
  obtain ⟨h1, h2⟩ := h q hq
  obtain ⟨h3, h4⟩ := k q h1
  exact ⟨h3, h4.trans h2⟩
theorem PreF.below {Bl : Nat} {W W' : World} (hl : Bl < W.heap.size) (h : Below W.heap.size W W') : PreF Bl W W' := fun q hq => ⟨⟨Nat.lt_of_lt_of_le hq.1 h.size, hq.2.1, fun v hv => hq.2.2 v ((h.block Bl hl).symm.trans hv)⟩, h.block q hq.1⟩
theorem PreF.rd {Bl : Nat} {α : Type} {k : Nat} {enc : α → List Value} {W W' : World} {ao : Option Addr} {l : List α} (h : PreF Bl W W') (hs : 0 < l.length → ∀ ad, ao = some ad → SafeB Bl ad.block W) (hr : RdS k enc W ao l) : RdS k enc W' ao l := fun i x hx => by
  obtain ⟨b, o, e, hlt, hc⟩ := hr i x hx
  obtain ⟨h1, h2⟩ := h b (hs (Nat.lt_of_le_of_lt (Nat.zero_le _) (List.getElem?_eq_some_iff.1 hx).1) _ e)
  exact ⟨b, o, e, h1.1, fun j u hu => by have := hc j u hu; simp only [World.cell?, h2] at this ⊢; exact this⟩
theorem pre_end {Bl Bv B0 : Nat} {L : List NodeT} {w0 W w3 F : World} {n : NodeT} {g cap : Nat} {v : Value} (hB : Bl < B0 ∧ Bv < B0 ∧ Bl ≠ Bv ∧ w0.heap.size ≤ Bl ∧ w0.heap.size ≤ Bv ∧ w0.heap.size ≤ B0)
    (h : PreI Bl Bv B0 L w0 W) (hBW : B0 ≤ W.heap.size) (hv : W.heap[Bl]? = some (.cells #[v] 25 (0, 0))) (hvb : ∀ q, v.ownBlock = some q → B0 ≤ q) (hg : (W.alloc (.cells #[.int .i64 0, .int .i64 0, .string ⟨#[]⟩, .bool false, .slice none 0 0, .slice none 0 0, .slice none 0 0, .slice none 0 0, .slice none 0 0] 28)).grownBy w3 v.ownBlock)
    (hown : w3.ownsRow B0 28 9 (.slice (some ⟨g, 0, none⟩) (L.length + 1) cap) (L.length + 1) (L.flatMap encN ++ zeroN)) (hga : v.ownBlock = some g ∨ W.heap.size ≤ g)
    (hF : F = ((fill9 w3 g (L.length * 9) n).setCell ⟨Bl, 0, none⟩ (.slice (some ⟨g, 0, none⟩) (L.length + 1) cap))) : Aside (PreI Bl Bv B0 (L ++ [n]) w0 F ∧ B0 ≤ F.heap.size) ∧ Aside (PreF Bl W F) := by
  have f1 : F.heap = ((fill9 w3 g (L.length * 9) n).setCell ⟨Bl, 0, none⟩ (.slice (some ⟨g, 0, none⟩) (L.length + 1) cap)).heap := by rw [hF]
  obtain ⟨hB1, hB2, hB3, hB4, hB5, hB6⟩ := hB
  obtain ⟨h1, h2, _⟩ := h
  have hgB : B0 ≤ g := (hown.lt g rfl).1
  have hk : ∀ q, q < W.heap.size → v.ownBlock ≠ some q → w3.heap[q]? = W.heap[q]? := fun q hq h => by
    rw [hg.block q (by simp; exact Nat.lt_succ_of_lt hq) (fun e => h e.symm)]
    exact Below.heap_alloc _ _ _ hq
  have k1 := (hk Bl (lt_of_block hv) (fun e => by have := hvb _ e; omega)).trans hv
  have k2 := (hk Bv (lt_of_block h2) (fun e => by have := hvb _ e; omega)).trans h2
  have b1 : Below w0.heap.size w0 (W.alloc (.cells #[.int .i64 0, .int .i64 0, .string ⟨#[]⟩, .bool false, .slice none 0 0, .slice none 0 0, .slice none 0 0, .slice none 0 0, .slice none 0 0] 28)) := h1.alloc h1.size _
  have b2 : Below w0.heap.size w0 w3 := b1.grown hg b1.size (fun q hq => Nat.le_trans hB6 (hvb q hq))
  have b3 := (below_fill9 b2 (Nat.le_trans hB6 hgB) (L.length * 9) n).setCell (p := ⟨Bl, 0, none⟩) hB4 (.slice (some ⟨g, 0, none⟩) (L.length + 1) cap)
  have hsz : F.heap.size = w3.heap.size := by rw [f1]; simp only [fill9, World.size_setCell]
  have hsW : W.heap.size ≤ F.heap.size := by rw [hsz]; have := hg.size; simp at this; omega
  have hbl : F.heap[Bl]? = some (.cells #[.slice (some ⟨g, 0, none⟩) (L.length + 1) cap] 25 (0, 0)) := by
    rw [f1]
    exact one_setCell (by rw [heap_fill9 _ _ _ _ _ (by omega)]; exact k1)
  refine ⟨⟨⟨by rw [hF]; exact b3, ?_, .slice (some ⟨g, 0, none⟩) (L.length + 1) cap, hbl, ?_⟩, by omega⟩, ?_⟩
  · rw [f1, Below.heap_setCell _ _ _ _ (show Bv ≠ Bl from fun e => hB3 e.symm), heap_fill9 _ _ _ _ _ (by omega)]
    exact k2
  · rw [List.length_append]
    exact own_heap (ownsRow_setCell_other (row_fill9 rfl hown) (by simp [Value.ownBlock]; omega) _) f1
  · intro q hq
    have hvq := hq.2.2 v hv
    have hgq : g ≠ q := by
      rcases hga with h | h
      · exact fun e => hvq (by rw [← e]; exact h)
      · have := hq.1; omega
    refine ⟨⟨Nat.lt_of_lt_of_le hq.1 hsW, hq.2.1, fun v2 hv2 => ?_⟩, ?_⟩
    · rw [hbl] at hv2
      have : v2 = .slice (some ⟨g, 0, none⟩) (L.length + 1) cap := by simpa using hv2.symm
      rw [this]
      intro e
      exact hgq (by simpa [Value.ownBlock] using e)
    · rw [f1, Below.heap_setCell _ _ _ _ (show q ≠ Bl from hq.2.1), heap_fill9 _ _ _ _ _ (fun e => hgq e.symm)]
      exact hk q hq.1 hvq
theorem pre_endA {Bl Bv B0 : Nat} {L : List NodeT} {w0 W w3 : World} {n : NodeT} {g cap : Nat} {v : Value} (hB : Bl < B0 ∧ Bv < B0 ∧ Bl ≠ Bv ∧ w0.heap.size ≤ Bl ∧ w0.heap.size ≤ Bv ∧ w0.heap.size ≤ B0)
    (h : PreI Bl Bv B0 L w0 W) (hBW : B0 ≤ W.heap.size) (hv : W.heap[Bl]? = some (.cells #[v] 25 (0, 0))) (hvb : ∀ q, v.ownBlock = some q → B0 ≤ q) (hg : (W.alloc (.cells #[.int .i64 0, .int .i64 0, .string ⟨#[]⟩, .bool false, .slice none 0 0, .slice none 0 0, .slice none 0 0, .slice none 0 0, .slice none 0 0] 28)).grownBy w3 v.ownBlock)
    (hown : w3.ownsRow B0 28 9 (.slice (some ⟨g, 0, none⟩) (L.length + 1) cap) (L.length + 1) (L.flatMap encN ++ zeroN)) (hga : v.ownBlock = some g ∨ W.heap.size ≤ g)
    : Aside (PreI Bl Bv B0 (L ++ [n]) w0 ((fill9 w3 g (L.length * 9) n).setCell ⟨Bl, 0, none⟩ (.slice (some ⟨g, 0, none⟩) (L.length + 1) cap)) ∧ B0 ≤ ((fill9 w3 g (L.length * 9) n).setCell ⟨Bl, 0, none⟩ (.slice (some ⟨g, 0, none⟩) (L.length + 1) cap)).heap.size) ∧ Aside (PreF Bl W ((fill9 w3 g (L.length * 9) n).setCell ⟨Bl, 0, none⟩ (.slice (some ⟨g, 0, none⟩) (L.length + 1) cap))) :=
  pre_end hB h hBW hv hvb hg hown hga rfl
theorem pre_endB {Bl Bv B0 : Nat} {L : List NodeT} {w0 W w3 : World} {n : NodeT} {g cap : Nat} {v : Value} (hB : Bl < B0 ∧ Bv < B0 ∧ Bl ≠ Bv ∧ w0.heap.size ≤ Bl ∧ w0.heap.size ≤ Bv ∧ w0.heap.size ≤ B0)
    (h : PreI Bl Bv B0 L w0 W) (hBW : B0 ≤ W.heap.size) (hv : W.heap[Bl]? = some (.cells #[v] 25 (0, 0))) (hvb : ∀ q, v.ownBlock = some q → B0 ≤ q) (hg : (W.alloc (.cells #[.int .i64 0, .int .i64 0, .string ⟨#[]⟩, .bool false, .slice none 0 0, .slice none 0 0, .slice none 0 0, .slice none 0 0, .slice none 0 0] 28)).grownBy w3 v.ownBlock)
    (hown : w3.ownsRow B0 28 9 (.slice (some ⟨g, 0, none⟩) (L.length + 1) cap) (L.length + 1) (L.flatMap encN ++ zeroN)) (hga : v.ownBlock = some g ∨ W.heap.size ≤ g)
    : Aside (PreI Bl Bv B0 (L ++ [n]) w0 (fill9 (w3.setCell ⟨Bl, 0, none⟩ (.slice (some ⟨g, 0, none⟩) (L.length + 1) cap)) g (L.length * 9) n) ∧ B0 ≤ (fill9 (w3.setCell ⟨Bl, 0, none⟩ (.slice (some ⟨g, 0, none⟩) (L.length + 1) cap)) g (L.length * 9) n).heap.size) ∧ Aside (PreF Bl W (fill9 (w3.setCell ⟨Bl, 0, none⟩ (.slice (some ⟨g, 0, none⟩) (L.length + 1) cap)) g (L.length * 9) n)) :=
  pre_end hB h hBW hv hvb hg hown hga (fill9_comm _ _ _ _ _ _ (fun e => by have := (hown.lt g rfl).1; have := hB.1; omega))
theorem bl_after {W w3 : World} {Bl B0 n : Nat} {v : Value} {xs : List Value} {o : Obj} (hb : W.heap[Bl]? = some (.cells #[v] 25 (0, 0))) (hown : W.ownsRow B0 28 9 v n xs) (hB : Bl < B0) (hg : (W.alloc o).grownBy w3 v.ownBlock) : w3.cell? ⟨Bl, 0, none⟩ = some v ∧ w3.frozen? ⟨Bl, 0, none⟩ = false := by
  have h : w3.heap[Bl]? = some (.cells #[v] 25 (0, 0)) := by
    rw [hg.block Bl (by simp; exact Nat.lt_succ_of_lt (lt_of_block hb)) (fun e => by have := (hown.lt Bl e.symm).1; omega)]
    exact (Below.heap_alloc _ _ _ (lt_of_block hb)).trans hb
  exact ⟨cell_of_one h, free_of_one h⟩
theorem gq {g m cap q0 k : Nat} {v : Value} (h : (Value.slice (some ⟨g, 0, none⟩) m cap).ownBlock = v.ownBlock ∨ (Value.slice (some ⟨g, 0, none⟩) m cap).ownBlock = some k) (hk : q0 ≤ k) : v.ownBlock = some g ∨ q0 ≤ g := by
  rcases h with h | h
  · exact .inl (by rw [← h]; rfl)
  · have h2 : some g = some k := h
    injection h2 with h2
    exact .inr (by omega)
theorem safe_kids {Bl Bv B0 : Nat} {L : List NodeT} {w0 wc w1 : World} {n : NodeT} {A : Option Addr} {ad : Addr} (hd : DeepN w0 n) (hB : Bl < B0 ∧ Bv < B0 ∧ Bl ≠ Bv ∧ w0.heap.size ≤ Bl ∧ w0.heap.size ≤ Bv ∧ w0.heap.size ≤ B0) (h : PreI Bl Bv B0 L w0 wc) (hs : B0 ≤ wc.heap.size) (hb : Below wc.heap.size wc w1) (hp : 0 < (kidsT n).length) (hr : RdS 9 encN w1 A (kidsT n))
    (hor : (∀ ad, A = some ad → wc.heap.size ≤ ad.block) ∨ (A = n.kh.1 ∧ kidsT n = n.kids)) (e : A = some ad) : SafeB Bl ad.block w1 := by
  obtain ⟨hB1, hB2, hB3, hB4, hB5, hB6⟩ := hB
  obtain ⟨_, _, v, hv, hown⟩ := h
  obtain ⟨x, hx⟩ : ∃ x, (kidsT n)[0]? = some x := ⟨_, List.getElem?_eq_getElem hp⟩
  obtain ⟨b, o, e1, hlt, _⟩ := hr 0 x hx
  have hbe : ad.block = b := by
    have := e.symm.trans e1
    injection this with this
    rw [this]
  rw [hbe]
  have hv1 := (hb.block Bl (lt_of_block hv)).trans hv
  have hvv : ∀ v2, w1.heap[Bl]? = some (.cells #[v2] 25 (0, 0)) → v2 = v := fun v2 h2 => by
    have := h2.symm.trans hv1
    simpa using this
  rcases hor with h1 | ⟨h1, h2⟩
  · have h3 : wc.heap.size ≤ b := by have := h1 ad e; omega
    refine ⟨hlt, by omega, fun v2 h2 => ?_⟩
    rw [hvv v2 h2]
    intro h4
    have := (hown.lt b h4).2
    omega
  · have hk : RdS 9 encN w0 n.kh.1 n.kids := by
      obtain ⟨n, _, _, _, hk, _, _, _, _, _, _⟩ := hd
      exact hk
    obtain ⟨b2, o2, e2, hlt2, _⟩ := hk 0 x (by rw [← h2]; exact hx)
    have h3 : b = b2 := by
      have := (e1.symm.trans h1).trans e2
      injection this with this
      injection this
    refine ⟨hlt, by omega, fun v2 h2 => ?_⟩
    rw [hvv v2 h2]
    intro h4
    have := (hown.lt b h4).1
    omega
/-- what is known behind the append -/
def PreC (Bl Bv B0 : Nat) (L : List NodeT) (w0 W wx : World) : Prop := Aside (PreI Bl Bv B0 L w0 wx ∧ B0 ≤ wx.heap.size) ∧ Aside (PreF Bl W wx)
set_option maxHeartbeats 4000000
set_option maxRecDepth 100000
theorem pre1_calls (Bl Bv B0 : Nat) (w0 : World) (hB : Bl < B0 ∧ Bv < B0 ∧ Bl ≠ Bv ∧ w0.heap.size ≤ Bl ∧ w0.heap.size ≤ Bv ∧ w0.heap.size ≤ B0) : ∀ (N : Nat) (n : NodeT) (L : List NodeT) (W : World), szN n ≤ N → N ≤ 1048576 → DeepN w0 n → PreI Bl Bv B0 L w0 W → B0 ≤ W.heap.size → L.length + (walkF N n).length ≤ 1048576 →
    Calls Tryz.prog 61 #[nodeV n, .pointer (some ⟨Bl, 0, none⟩), .pointer (some ⟨Bv, 0, none⟩)] W fun e w' => e = .returned (.tuple #[]) ∧ Aside (PreI Bl Bv B0 (L ++ walkF N n) w0 w' ∧ B0 ≤ w'.heap.size ∧ PreF Bl W w') := by
  obtain ⟨i0, hi, hz0, hz1, hz2⟩ := info_parts info28
  intro N
  induction N with
  | zero => intro n L W hN; have := szN_one n; omega
  | succ N ih =>
    intro n L W hN hM hd hP hBW hn
    have HW : Aside (DeepN w0 n ∧ szN n ≤ 1048576 ∧ (∀ k ∈ kidsT n, ∀ L W, PreI Bl Bv B0 L w0 W → B0 ≤ W.heap.size → L.length + (walkF N k).length ≤ 1048576 → Calls Tryz.prog 61 #[nodeV k, .pointer (some ⟨Bl, 0, none⟩), .pointer (some ⟨Bv, 0, none⟩)] W fun e w' => e = .returned (.tuple #[]) ∧ Aside (PreI Bl Bv B0 (L ++ walkF N k) w0 w' ∧ B0 ≤ w'.heap.size ∧ PreF Bl W w')) ∧
        Bl < B0 ∧ Bv < B0 ∧ Bl ≠ Bv ∧ w0.heap.size ≤ Bl ∧ w0.heap.size ≤ Bv ∧ w0.heap.size ≤ B0) :=
      ⟨hd, by omega, fun k hk L W h1 h2 h3 => ih k L W (by have := kid_sz hk; omega) (by omega) (hd.kid hk) h1 h2 h3, hB⟩
    have HE : Aside (walkF (N + 1) n = n :: (kidsT n).flatMap (walkF N) ∧ L.length + (walkF (N + 1) n).length ≤ 1048576) := ⟨rfl, hn⟩
    clear ih hN hM hd hn hB
    have HB : Aside (Below W.heap.size W (boxN W n)) := (Below.refl _ _).alloc (Nat.le_refl _) _
    obtain ⟨_, _, v, hbl, hown⟩ := id hP
    have HP : Aside (PreI Bl Bv B0 L w0 (boxN W n) ∧ B0 ≤ (boxN W n).heap.size ∧ B0 ≤ W.heap.size ∧ PreF Bl W (boxN W n) ∧ SafeB Bl W.heap.size (boxN W n)) :=
      ⟨hP.up HB.out, by have := HB.out.size; omega, hBW, PreF.below (by have := HW.out.2.2.2.1; omega) HB.out, by simp, by have := HW.out.2.2.2.1; omega, fun v2 h2 e => by
        have h3 := (Below.heap_alloc W (Obj.cells #[.int .i64 n.kind, .int .i64 n.pos, .string ⟨n.name.toArray⟩, .bool n.all, .slice n.ah.1 n.assigns.length n.ah.2, .slice n.wh.1 n.words.length n.wh.2, .slice n.rh.1 n.redirs.length n.rh.2, .slice n.kh.1 n.kids.length n.kh.2, .slice n.ih.1 n.items.length n.ih.2] 28) Bl (lt_of_block hbl)).trans hbl
        have h4 := h2.symm.trans h3
        have h5 : v2 = v := by simpa using h4
        rw [h5] at e
        exact Nat.lt_irrefl _ (hown.lt _ e).2⟩
    have HV : Aside ((boxN W n).heap[Bl]? = some (.cells #[v] 25 (0, 0)) ∧ (boxN W n).ownsRow B0 28 9 v L.length (L.flatMap encN)) := ⟨(HB.out.block _ (lt_of_block hbl)).trans hbl, own_up hown HB.out⟩
    obtain ⟨z0, z1, z2, z3, z4, z5, z6, z7, z8⟩ := boxN_in (Below.refl (boxN W n).heap.size (boxN W n))
    have e0 := cell_of_one HV.out.1
    have e1 := free_of_one HV.out.1
    have hvl : ∃ ao cp, v = .slice ao L.length cp := by
      obtain ⟨a, c, h, _⟩ := rdS_of_row lenN rfl hown
      exact ⟨a, c, h⟩
    obtain ⟨ao, cp, rfl⟩ := hvl
    have hLl : L.length + 1 ≤ 1048576 := by have := HE.out.2; rw [HE.out.1, List.length_cons] at this; omega
    clear hP hbl hBW hown
    have e02 : ((boxN W n).alloc (Obj.cells #[.int .i64 0, .int .i64 0, .string ⟨#[]⟩, .bool false, .slice none 0 0, .slice none 0 0, .slice none 0 0, .slice none 0 0, .slice none 0 0] 28)).cell? ⟨Bl, 0, none⟩ = some (.slice ao L.length cp) := cell_of_one ((Below.heap_alloc _ _ _ (lt_of_block HV.out.1)).trans HV.out.1)
    obtain ⟨r0, r1, r2, r3, r4, r5, r6, r7, r8⟩ := boxN_in (W := (boxN W n).alloc (Obj.cells #[.int .i64 0, .int .i64 0, .string ⟨#[]⟩, .bool false, .slice none 0 0, .slice none 0 0, .slice none 0 0, .slice none 0 0, .slice none 0 0] 28)) ((Below.refl _ _).alloc (Nat.le_refl _) _)
    have hlt1 : (L.length : Int) < (L.length : Int) + 1 := by omega
    go_enter Tryz.func61, Tryz.ntmps61
    go_upto_region 1 with fail
    go_cut [] (fun wx => PreC Bl Bv B0 (L ++ [n]) w0 (boxN W n) wx)
    case first =>
      go_region_law (go_loud (refine step_append_anyR rfl _ _ 25 rfl B0 28 i0 (.agg #[.int .i64 0, .int .i64 0, .string ⟨#[]⟩, .bool false, .slice none 0 0, .slice none 0 0, .slice none 0 0, .slice none 0 0, .slice none 0 0]) 9 160 Tryz.underlying25 hi hz0 hz1 hz2 rfl (by decide) _ _ _ rfl (own_heap (HV.out.2.alloc (Obj.cells #[.int .i64 0, .int .i64 0, .string ⟨#[]⟩, .bool false, .slice none 0 0, .slice none 0 0, .slice none 0 0, .slice none 0 0, .slice none 0 0] 28)) rfl) (some ⟨_, 0, none⟩) 1 1 zeroN rfl (reads_lit (by simp)) oneZ (by unfold maxLen; omega) (by omega) (Nat.le_trans HP.out.2.1 (by simp [Nat.add_assoc])) ?_; intro v' w3 hown3 hgrow3 hat3; obtain ⟨g, cap, rfl, hg1, hg2, ⟨y0, y1, y2, y3, y4, y5, y6, y7, y8⟩, x0, x1, x2, x3, x4, x5, x6, x7, x8⟩ := row_new rfl hown3; have hgl : ¬ g = Bl := (fun e => by have := HW.out.2.2.2.1; omega); have hlg : ¬ Bl = g := (fun e => hgl e.symm); have hgr : ((boxN W n).alloc (Obj.cells #[.int .i64 0, .int .i64 0, .string ⟨#[]⟩, .bool false, .slice none 0 0, .slice none 0 0, .slice none 0 0, .slice none 0 0, .slice none 0 0] 28)).grownBy w3 (Value.slice ao L.length cp).ownBlock := ⟨hgrow3.os, hgrow3.tape, hgrow3.output, hgrow3.size, hgrow3.block⟩; obtain ⟨d0, d1⟩ := bl_after HV.out.1 HV.out.2 HW.out.2.2.2.1 hgr; have hga := gq (q0 := (boxN W n).heap.size) (v := Value.slice ao L.length cp) hat3 (by simp [Nat.add_assoc]); clear hgrow3 hat3))
      all_goals (go_wp2_with fail)
      all_goals go_meet
      iterate 6 ((case rel => exact pre_endA (n := n) HW.out.2.2.2 HP.out.1 HP.out.2.1 HV.out.1 (fun q hq => (HV.out.2.lt q hq).1) hgr hown3 hga); (case rel => exact pre_endB (n := n) HW.out.2.2.2 HP.out.1 HP.out.2.1 HV.out.1 (fun q hq => (HV.out.2.lt q hq).1) hgr hown3 hga))
    case rest =>
      obtain ⟨HC, HF⟩ := hcut
      have hcb := (HF.out _ HP.out.2.2.2.2).2
      have HQ : Aside (∀ j u, (boxN W n).cell? ⟨W.heap.size, j, none⟩ = some u → wc.cell? ⟨W.heap.size, j, none⟩ = some u) := fun j u h => by simp only [World.cell?, hcb] at h ⊢; exact h
      have y0 := HQ.out 0 _ z0
      have y1 := HQ.out 1 _ z1
      have y2 := HQ.out 2 _ z2
      have y3 := HQ.out 3 _ z3
      have y4 := HQ.out 4 _ z4
      have y5 := HQ.out 5 _ z5
      have y6 := HQ.out 6 _ z6
      have y7 := HQ.out 7 _ z7
      have y8 := HQ.out 8 _ z8
      have cc := child_calls n wc (HW.out.1.up HC.out.1.1) (Nat.le_trans (kids_len n) HW.out.2.1) (Nat.le_trans (items_len n) HW.out.2.1)
      clear z0 z1 z2 z3 z4 z5 z6 z7 z8 r0 r1 r2 r3 r4 r5 r6 r7 r8 e0 e1 e02 HQ HV hlt1 hLl hcb
      go_wp2_with (go_at_call 43; refine cc.mono ?_; rintro e w1 ⟨A, m, c, rfl, H1, hb1⟩)
      have hm : m ≤ 1048576 := by rw [H1.out.1]; exact Nat.le_trans (kids_len n) HW.out.2.1
      clear y0 y1 y2 y3 y4 y5 y6 y7 y8 cc
      have hlw : Bl < wc.heap.size := by have := HC.out.2; have := HW.out.2.2.2.1; omega
      have HP1 : Aside (PreI Bl Bv B0 (L ++ [n]) w0 w1 ∧ B0 ≤ w1.heap.size ∧ PreF Bl W w1) := ⟨HC.out.1.up hb1, Nat.le_trans HC.out.2 hb1.size, (HP.out.2.2.2.1.trans HF.out).trans (PreF.below hlw hb1)⟩
      obtain ⟨KL, hKL⟩ : ∃ K, K = kidsT n := ⟨_, rfl⟩
      rw [← hKL] at H1
      have HK : Aside (m = KL.length ∧ (∀ k ∈ KL, k ∈ kidsT n) ∧ RdS 9 encN w1 A KL ∧ (0 < KL.length → ∀ ad, A = some ad → SafeB Bl ad.block w1)) := ⟨H1.out.1, fun k hk => hKL ▸ hk, H1.out.2.1, fun hp ad e => safe_kids HW.out.1 HW.out.2.2.2 HC.out.1 HC.out.2 hb1 (hKL ▸ hp) (hKL ▸ H1.out.2.1) (hKL ▸ H1.out.2.2) e⟩
      have HR : Aside (L ++ [n] ++ KL.flatMap (walkF N) = L ++ walkF (N + 1) n ∧ (L ++ walkF (N + 1) n).length ≤ 1048576) := by refine ⟨by rw [HE.out.1, hKL]; simp, ?_⟩; rw [List.length_append]; exact HE.out.2
      clear hKL HC HF hb1 hlw HP HB
      go_loopg [15] m (fun g s wx => ∃ (k : Nat) (L1 : List NodeT), k + g = m ∧ s = .int .i64 k ∧ Aside (L1 ++ (KL.drop k).flatMap (walkF N) = L ++ walkF (N + 1) n) ∧ Aside (PreI Bl Bv B0 L1 w0 wx ∧ B0 ≤ wx.heap.size ∧ PreF Bl w1 wx))
      case atStart => exact ⟨0, L ++ [n], by omega, rfl, HR.out.1, HP1.out.1, HP1.out.2.1, fun q hq => ⟨hq, rfl⟩⟩
      case round =>
        obtain ⟨k, L1, hkg, rfl, HI, HQ⟩ := hrel
        cases gk with
        | zero =>
          have hkz : ¬ (k : Int) < (m : Int) := by omega
          have ha : Aside (L1 = L ++ walkF (N + 1) n) := by show _ = _; rw [← HI.out, List.drop_eq_nil_of_le (by have := HK.out.1; omega)]; simp
          go_wp2
          go_end0
          exact ⟨rfl, by rw [← ha.out]; exact HQ.out.1, HQ.out.2.1, HP1.out.2.2.trans HQ.out.2.2⟩
        | succ g =>
          have hkz : (k : Int) < (m : Int) := by omega
          have hk63 : (k : Int) + 1 ≤ 9223372036854775807 := by omega
          obtain ⟨x, hx⟩ : ∃ x, KL[k]? = some x := ⟨_, List.getElem?_eq_getElem (by have := HK.out.1; omega)⟩
          have hdr : Aside (KL.drop k = x :: KL.drop (k + 1)) := Lib.drop_at hx
          have h6 : L1 ++ walkF N x ++ (KL.drop (k + 1)).flatMap (walkF N) = L ++ walkF (N + 1) n := by rw [← HI.out, hdr.out]; simp
          have hl6 : L1.length + (walkF N x).length ≤ 1048576 := by have := HR.out.2; rw [← h6] at this; simp only [List.length_append] at this; omega
          have hrd : RdS 9 encN wr A KL := HQ.out.2.2.rd HK.out.2.2.2 HK.out.2.2.1
          obtain ⟨b, o, rfl, hlt, hc⟩ := hrd k x hx
          have c0 : wr.cell? ⟨b, o + k * 9, none⟩ = some (.int .i64 x.kind) := hc 0 _ rfl
          have c1 : wr.cell? ⟨b, o + k * 9 + 1, none⟩ = some (.int .i64 x.pos) := hc 1 _ rfl
          have c2 : wr.cell? ⟨b, o + k * 9 + 2, none⟩ = some (.string ⟨x.name.toArray⟩) := hc 2 _ rfl
          have c3 : wr.cell? ⟨b, o + k * 9 + 3, none⟩ = some (.bool x.all) := hc 3 _ rfl
          have c4 : wr.cell? ⟨b, o + k * 9 + 4, none⟩ = some (.slice x.ah.1 x.assigns.length x.ah.2) := hc 4 _ rfl
          have c5 : wr.cell? ⟨b, o + k * 9 + 5, none⟩ = some (.slice x.wh.1 x.words.length x.wh.2) := hc 5 _ rfl
          have c6 : wr.cell? ⟨b, o + k * 9 + 6, none⟩ = some (.slice x.rh.1 x.redirs.length x.rh.2) := hc 6 _ rfl
          have c7 : wr.cell? ⟨b, o + k * 9 + 7, none⟩ = some (.slice x.kh.1 x.kids.length x.kh.2) := hc 7 _ rfl
          have c8 : wr.cell? ⟨b, o + k * 9 + 8, none⟩ = some (.slice x.ih.1 x.items.length x.ih.2) := hc 8 _ rfl
          have HBX : Aside (Below wr.heap.size wr (boxN wr x)) := (Below.refl _ _).alloc (Nat.le_refl _) _
          obtain ⟨z0, z1, z2, z3, z4, z5, z6, z7, z8⟩ := boxN_in (Below.refl (boxN wr x).heap.size (boxN wr x))
          have hPx := HQ.out.1.up HBX.out
          have ev := cell_of_one hPx.2.1
          have cr := HW.out.2.2.1 x (HK.out.2.1 x (List.mem_of_getElem? hx)) L1 (boxN wr x) hPx (Nat.le_trans HQ.out.2.1 HBX.out.size) hl6
          have hlw : Bl < wr.heap.size := by have := HQ.out.2.1; have := HW.out.2.2.2.1; omega
          have H6 : Aside _ := h6
          clear hc hx hlt h6 hl6 hrd hPx hdr
          go_wp2_with (go_at_call 61; refine cr.mono ?_; rintro e w2 ⟨rfl, H2⟩)
          go_roundg g
          case measure => omega
          case rel => exact ⟨k + 1, _, by omega, by simp, H6.out, H2.out.1, H2.out.2.1, (HQ.out.2.2.trans (PreF.below hlw HBX.out)).trans H2.out.2.2⟩
end Go.Proofs.YtfdhkchglacccaaGreatDoor

/-! preorder -/
namespace Go.Proofs.YtfdhkchglacccaaGreatDoor
open Go Go.RowKit Go.Mir Go.Syn
set_option maxHeartbeats 1000000
set_option maxRecDepth 100000
def PreorP (N : Nat) (n : NodeT) (w : World) (e : Ending) (w' : World) : Prop := ∃ (a : Option Addr) (m c : Nat), e = .returned (.slice a m c) ∧ Aside (m = (walkF N n).length ∧ RdS 9 encN w' a (walkF N n) ∧ ∀ ad, a = some ad → w.heap.size ≤ ad.block) ∧ Below w.heap.size w w'
noncomputable abbrev preW (w : World) (n : NodeT) : World := ((boxN w n).alloc (.cells #[.slice none 0 0] 25)).alloc (.cells #[.func (.func 61) #[] #[.pointer (some ⟨w.heap.size + 1, 0, none⟩), .pointer (some ⟨w.heap.size + 1 + 1, 0, none⟩)]] 93)
theorem preW_facts (w : World) (n : NodeT) : (preW w n).heap[w.heap.size + 1 + 1]? = some (.cells #[.func (.func 61) #[] #[.pointer (some ⟨w.heap.size + 1, 0, none⟩), .pointer (some ⟨w.heap.size + 1 + 1, 0, none⟩)]] 93 (0, 0)) ∧ (preW w n).heap[w.heap.size + 1]? = some (.cells #[.slice none 0 0] 25 (0, 0)) ∧ Below (boxN w n).heap.size (boxN w n) (preW w n) ∧ (preW w n).heap.size = w.heap.size + 1 + 1 + 1 := by
  have e1 : ((boxN w n).alloc (.cells #[.slice none 0 0] 25)).heap.size = w.heap.size + 1 + 1 := by simp
  have e2 : (boxN w n).heap.size = w.heap.size + 1 := by simp
  refine ⟨?_, ?_, ((Below.refl _ _).alloc (Nat.le_refl _) _).alloc (by simp) _, by simp⟩
  · have := heap_alloc_new ((boxN w n).alloc (.cells #[.slice none 0 0] 25)) (.cells #[.func (.func 61) #[] #[.pointer (some ⟨w.heap.size + 1, 0, none⟩), .pointer (some ⟨w.heap.size + 1 + 1, 0, none⟩)]] 93)
    rw [e1] at this; exact this
  · have := heap_alloc_new (boxN w n) (.cells #[.slice none 0 0] 25)
    rw [e2] at this
    rw [Below.heap_alloc _ _ _ (by simp)]; exact this
theorem preor_calls (N : Nat) (n : NodeT) (w : World) (hN : szN n ≤ N) (hM : N ≤ 1048576) (hd : DeepN w n) : Calls Tryz.prog 23 #[nodeV n] w (PreorP N n w) := by
  have hlen : (walkF N n).length ≤ 1048576 := by have := walk_len N n; omega
  obtain ⟨f1, f2, f3, f4⟩ := preW_facts w n
  have hb1 : Below w.heap.size w (boxN w n) := (Below.refl _ _).alloc (Nat.le_refl _) _
  have hbW := hb1.trans (f3.mono hb1.size)
  have hP : PreI (w.heap.size + 1) (w.heap.size + 1 + 1) (w.heap.size + 1 + 1 + 1) [] w (preW w n) := ⟨hbW, f1, .slice none 0 0, f2, World.ownsRow_nil _ _ _ _⟩
  have cc := pre1_calls (w.heap.size + 1) (w.heap.size + 1 + 1) (w.heap.size + 1 + 1 + 1) w (by omega) N n [] _ hN hM hd hP (by rw [f4]; exact Nat.le_refl _) (by simpa using hlen)
  obtain ⟨z0, z1, z2, z3, z4, z5, z6, z7, z8⟩ := boxN_in f3
  have e0 := cell_of_one f1
  clear hP hN hM hd hb1 f1 f2 f3 f4 hbW hlen
  go_enter Tryz.func23, Tryz.ntmps23
  go_wp2_with (go_at_call 61; refine cc.mono ?_; rintro e w2 ⟨rfl, H2⟩; obtain ⟨h1, h2, v, h3, h4⟩ := H2.out.1; have e0 := cell_of_one h3; rw [List.nil_append] at h4; obtain ⟨a, c, hv, hr, hk⟩ := rdS_of_row lenN rfl h4; have HR : Aside (RdS 9 encN w2 a (walkF N n) ∧ Below w.heap.size w w2 ∧ ∀ ad, a = some ad → w.heap.size ≤ ad.block) := ⟨hr, h1, fun ad h => by have := hk ad h; omega⟩; rw [hv] at e0; clear h1 h2 h3 h4 hv hr hk)
  go_ret
  exact ⟨a, _, c, rfl, ⟨rfl, HR.out.1, HR.out.2.2⟩, HR.out.2.1⟩
end Go.Proofs.YtfdhkchglacccaaGreatDoor
