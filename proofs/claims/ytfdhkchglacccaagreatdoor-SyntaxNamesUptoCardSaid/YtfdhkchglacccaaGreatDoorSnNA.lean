/- The reference: Kids, Words. No statement is proved here. -/
import Derived.Test.YtfdhkchglacccaaGreatDoorSnB
import Derived.Maps.AppendAt
import Derived.Laws.OwnMore
import Derived.OwnWalk
import Derived.WalkKit
import Derived.Test.YtfdhkchglacccaaGreatDoorSnFB
import Derived.Deep.LoopGhost
import Derived.Deep.DeepMust
import Derived.Carry
set_option linter.all false
/-! append of a row that is only read -/
namespace Go.Proofs.YtfdhkchglacccaaGreatDoor
open Go Go.RowKit Go.Syn
/-- a slice of m elements of size cells each, read -/
def ReadsR (w : World) (size : Nat) (A : Option Addr) (m : Nat) (news : List Value) : Prop := news.length = m * size ∧ (0 < m → ∃ ad, A = some ad ∧ ∀ j u, news[j]? = some u → w.cell? (ad.add j) = some u)
section
variable {P : Program} (w : World)
theorem run_append_of_nil (base : Nat) (t ty e : TypeId) (i : TypeInfo) (size : Nat) (ht : P.underlying t = some (.slice e)) (hi : P.info? e = some i)
    (v : Value) (n : Nat) (xs : List Value) (hown : w.ownsRow base e size v n xs) (c : Nat) : (Builtin.append_ #[t, t] ty #[v, .slice none 0 c]).run P w = .ok v w := by
  rcases hown.2 with ⟨rfl, rfl⟩ | ⟨g, cap, cur, rfl, _, _, hnc, _⟩
  · simp [Builtin.append_, run_underlying ht, sizeOf, typeInfo, hi, Builtin.lenOf, Builtin.firstCells]
  · simp [Builtin.append_, run_underlying ht, sizeOf, typeInfo, hi, Builtin.lenOf, Builtin.firstCells, hnc, storeCells]

theorem run_append_any (base : Nat) (t ty e : TypeId) (i : TypeInfo) (z : Value) (size bytes : Nat) (ht : P.underlying t = some (.slice e)) (hi : P.info? e = some i) (hz : i.zero = some z)
    (hsize : i.size = size) (hby : i.bytes = bytes) (hzs : z.cells.size = size) (hsz : 0 < size)
    (v : Value) (n : Nat) (xs : List Value) (hown : w.ownsRow base e size v n xs)
    (A : Option Addr) (m c : Nat) (news : List Value) (hr : ReadsR w size A m news) (h1 : ∀ u ∈ news, u.oneCell' = true)
    (h63 : n + m ≤ maxLen) (hbytes : (n + m) * bytes ≤ 140737488355328) (hbase : base ≤ w.heap.size) :
    ∃ v' w', (Builtin.append_ #[t, t] ty #[v, .slice A m c]).run P w = .ok v' w' ∧ w'.ownsRow base e size v' (n + m) (xs ++ news) ∧ w.grownBy w' v.ownBlock ∧
      (v'.ownBlock = v.ownBlock ∨ v'.ownBlock = some w.heap.size) := by
  rcases A with _ | ad
  · have hm : m = 0 := by
      rcases Nat.eq_zero_or_pos m with h0 | h0
      · exact h0
      · obtain ⟨ad, h, _⟩ := hr.2 h0
        cases h
    subst hm
    have hn : news = [] := List.eq_nil_of_length_eq_zero (by simpa using hr.1)
    subst hn
    exact ⟨v, w, run_append_of_nil w base t ty e i size ht hi v n xs hown c, by simpa using hown, World.grownBy.refl w _, .inl rfl⟩
  · have hcells : ∀ j u, news[j]? = some u → w.cell? (ad.add j) = some u := by
      intro j u hu
      rcases Nat.eq_zero_or_pos m with h0 | h0
      · subst h0
        have hn : news = [] := List.eq_nil_of_length_eq_zero (by simpa using hr.1)
        subst hn
        simp at hu
      · obtain ⟨ad', h, hc⟩ := hr.2 h0
        injection h with h
        subst h
        exact hc j u hu
    obtain ⟨v', w', hrun, h2, h3, _, h5⟩ := run_append_own_at (P := P) w base t ty e i z size bytes ht hi hz hsize hby hzs hsz v n xs hown ad m c news hr.1 hcells h1 h63 hbytes hbase
    exact ⟨v', w', hrun, h2, h3, h5⟩

theorem wp_append_any {o : Oper} {a : Act} {K : Act → World → Prop} {Q : Exit → Act → World → Prop} (s x : Operand) (t : TypeId)
    (ho : o.op = .call { callee := .builtin .append, args := #[s, x], argTypes := #[t, t] })
    (base : Nat) (e : TypeId) (i : TypeInfo) (z : Value) (size bytes : Nat) (ht : P.underlying t = some (.slice e)) (hi : P.info? e = some i) (hz : i.zero = some z)
    (hsize : i.size = size) (hby : i.bytes = bytes) (hzs : z.cells.size = size) (hsz : 0 < size)
    (v : Value) (n : Nat) (xs : List Value) (hs : a.eval s = v) (hown : w.ownsRow base e size v n xs)
    (A : Option Addr) (m c : Nat) (news : List Value) (hx : a.eval x = .slice A m c) (hr : ReadsR w size A m news) (h1 : ∀ u ∈ news, u.oneCell' = true)
    (h63 : n + m ≤ maxLen) (hbytes : (n + m) * bytes ≤ 140737488355328) (hbase : base ≤ w.heap.size)
    (h : ∀ v' w', w'.ownsRow base e size v' (n + m) (xs ++ news) → w.grownBy w' v.ownBlock → (v'.ownBlock = v.ownBlock ∨ v'.ownBlock = some w.heap.size) → K (a.put o.dst v') w') : o.wp P a w K Q := by
  obtain ⟨v', w', hrun, h2, h3, h4⟩ := run_append_any (P := P) w base t o.type e i z size bytes ht hi hz hsize hby hzs hsz v n xs hown A m c news hr h1 h63 hbytes hbase
  unfold Oper.wp execOp
  simp only [ho, resolve, invoke, builtin, Sem.run_bind, Sem.run_pure, Result.andThen_ok, List.map_toArray, List.map_cons, List.map_nil, hs, hx, hrun]
  exact h v' w' h2 h3 h4

theorem wpList_append_any {ops : Array Oper} {rest : List Oper} {o : Oper} {a : Act} {Q : Exit → Act → World → Prop} (hgd : o.guard = none) (s x : Operand) (t : TypeId)
    (ho : o.op = .call { callee := .builtin .append, args := #[s, x], argTypes := #[t, t] })
    (base : Nat) (e : TypeId) (i : TypeInfo) (z : Value) (size bytes : Nat) (ht : P.underlying t = some (.slice e)) (hi : P.info? e = some i) (hz : i.zero = some z)
    (hsize : i.size = size) (hby : i.bytes = bytes) (hzs : z.cells.size = size) (hsz : 0 < size)
    (v : Value) (n : Nat) (xs : List Value) (hs : a.eval s = v) (hown : w.ownsRow base e size v n xs)
    (A : Option Addr) (m c : Nat) (news : List Value) (hx : a.eval x = .slice A m c) (hr : ReadsR w size A m news) (h1 : ∀ u ∈ news, u.oneCell' = true)
    (h63 : n + m ≤ maxLen) (hbytes : (n + m) * bytes ≤ 140737488355328) (hbase : base ≤ w.heap.size)
    (h : ∀ v' w', w'.ownsRow base e size v' (n + m) (xs ++ news) → w.grownBy w' v.ownBlock → (v'.ownBlock = v.ownBlock ∨ v'.ownBlock = some w.heap.size) → wpList P ops Q rest (a.put o.dst v') w') : wpList P ops Q (o :: rest) a w :=
  wpList_plain hgd fun _ hK => wp_append_any w s x t ho base e i z size bytes ht hi hz hsize hby hzs hsz v n xs hs hown A m c news hx hr h1 h63 hbytes hbase fun v' w' h2 h3 h4 => hK _ _ (h v' w' h2 h3 h4)

end
theorem add_none (b o j : Nat) : (⟨b, o, none⟩ : Addr).add j = ⟨b, o + j, none⟩ := by unfold Addr.add; split <;> simp_all
theorem reads_of {α : Type} {k : Nat} {enc : α → List Value} (hk : ∀ x, (enc x).length = k) (h0 : 0 < k) {w : World} {A : Option Addr} {l : List α} {m : Nat} (hm : m = l.length) (h : RdS k enc w A l) : ReadsR w k A m (l.flatMap enc) := by
  subst hm
  refine ⟨flat_lenK hk l, fun hn => ?_⟩
  obtain ⟨x, hx⟩ : ∃ x, l[0]? = some x := ⟨_, List.getElem?_eq_getElem hn⟩
  obtain ⟨b, o, rfl, hlt, _⟩ := h 0 x hx
  refine ⟨_, rfl, fun j u hu => ?_⟩
  have hj : j < l.length * k := by rw [← flat_lenK hk l]; exact (List.getElem?_eq_some_iff.1 hu).1
  have hq : j / k < l.length := Nat.div_lt_of_lt_mul (by rw [Nat.mul_comm]; exact hj)
  obtain ⟨y, hy⟩ : ∃ y, l[j / k]? = some y := ⟨_, List.getElem?_eq_getElem hq⟩
  obtain ⟨b', o', e', _, hc⟩ := h (j / k) y hy
  injection e' with e'
  injection e' with eb eo
  subst eb; subst eo
  have hr : j % k < (enc y).length := by rw [hk]; exact Nat.mod_lt _ h0
  have h1 := flat_getK hk l (j / k) y (j % k) _ hy (List.getElem?_eq_getElem hr)
  have e2 : j / k * k + j % k = j := by rw [Nat.mul_comm]; exact Nat.div_add_mod j k
  rw [e2] at h1
  have h2 := hc (j % k) _ (List.getElem?_eq_getElem hr)
  rw [h1] at hu
  injection hu with hu
  rw [add_none, ← hu, ← h2]
  congr 2
  omega
end Go.Proofs.YtfdhkchglacccaaGreatDoor

/-! the reference: Kids -/
namespace Go.Proofs.YtfdhkchglacccaaGreatDoor
open Go Go.RowKit Go.Mir Go.Syn
set_option maxHeartbeats 1000000
set_option maxRecDepth 100000
noncomputable abbrev nodeV (n : NodeT) : Value := .agg #[.int .i64 n.kind, .int .i64 n.pos, .string ⟨n.name.toArray⟩, .bool n.all, .slice n.ah.1 n.assigns.length n.ah.2, .slice n.wh.1 n.words.length n.wh.2, .slice n.rh.1 n.redirs.length n.rh.2, .slice n.kh.1 n.kids.length n.kh.2, .slice n.ih.1 n.items.length n.ih.2]
noncomputable abbrev boxN (w : World) (n : NodeT) : World := w.alloc (.cells #[.int .i64 n.kind, .int .i64 n.pos, .string ⟨n.name.toArray⟩, .bool n.all, .slice n.ah.1 n.assigns.length n.ah.2, .slice n.wh.1 n.words.length n.wh.2, .slice n.rh.1 n.redirs.length n.rh.2, .slice n.kh.1 n.kids.length n.kh.2, .slice n.ih.1 n.items.length n.ih.2] 28)
theorem boxN_in {w W : World} {n : NodeT} (h : Below (boxN w n).heap.size (boxN w n) W) : W.cell? ⟨w.heap.size, 0, none⟩ = some (.int .i64 n.kind) ∧ W.cell? ⟨w.heap.size, 1, none⟩ = some (.int .i64 n.pos) ∧ W.cell? ⟨w.heap.size, 2, none⟩ = some (.string ⟨n.name.toArray⟩) ∧ W.cell? ⟨w.heap.size, 3, none⟩ = some (.bool n.all) ∧ W.cell? ⟨w.heap.size, 4, none⟩ = some (.slice n.ah.1 n.assigns.length n.ah.2) ∧ W.cell? ⟨w.heap.size, 5, none⟩ = some (.slice n.wh.1 n.words.length n.wh.2) ∧ W.cell? ⟨w.heap.size, 6, none⟩ = some (.slice n.rh.1 n.redirs.length n.rh.2) ∧ W.cell? ⟨w.heap.size, 7, none⟩ = some (.slice n.kh.1 n.kids.length n.kh.2) ∧ W.cell? ⟨w.heap.size, 8, none⟩ = some (.slice n.ih.1 n.items.length n.ih.2) := by
  have hl1 : w.heap.size < (boxN w n).heap.size := by simp
  refine ⟨?_, ?_, ?_, ?_, ?_, ?_, ?_, ?_, ?_⟩
  all_goals exact (h.cell (p := ⟨w.heap.size, _, none⟩) hl1).trans (by simp)
theorem info28 : (Tryz.prog.info? 28).map (fun i => (i.zero, i.size, i.bytes)) = some (some (.agg #[.int .i64 0, .int .i64 0, .string ⟨#[]⟩, .bool false, .slice none 0 0, .slice none 0 0, .slice none 0 0, .slice none 0 0, .slice none 0 0]), 9, 160) := by kernel_rfl
theorem lenN (n : NodeT) : (encN n).length = 9 := rfl
theorem oneN (l : List NodeT) : ∀ u ∈ l.flatMap encN, u.oneCell' = true := by
  intro u hu
  obtain ⟨n, _, hu⟩ := List.mem_flatMap.1 hu
  simp [encN, slV] at hu
  rcases hu with rfl | rfl | rfl | rfl | rfl | rfl | rfl | rfl | rfl <;> rfl
/-- the nodes in the branches from i on -/
theorem kidsT_eq (n : NodeT) : kidsT n = n.kids ++ n.items.flatMap (·.2) := rfl
def KidsP (n : NodeT) (w : World) (e : Ending) (w' : World) : Prop := ∃ (a : Option Addr) (m c : Nat), e = .returned (.slice a m c) ∧ Aside (m = (kidsT n).length ∧ RdS 9 encN w' a (kidsT n) ∧ ∀ ad, a = some ad → w.heap.size ≤ ad.block) ∧ Below w.heap.size w w'
theorem kids_calls (n : NodeT) (w : World) (hd : DeepN w n) (hs : (kidsT n).length ≤ 1048576) (hi8 : n.items.length ≤ 1048576) :
    Calls Tryz.prog 13 #[nodeV n] w (KidsP n w) := by
  obtain ⟨i0, hi, hz0, hz1, hz2⟩ := info_parts info28
  have HD : Aside (DeepN w n ∧ (kidsT n).length ≤ 1048576) := ⟨hd, hs⟩
  obtain ⟨KL, hKL⟩ : ∃ K, K = n.kids := ⟨_, rfl⟩
  obtain ⟨IL, hIL⟩ : ∃ K, K = n.items := ⟨_, rfl⟩
  have hrk : Aside (RdS 9 encN w n.kh.1 KL) := by
    obtain ⟨n, _, _, _, hk, _, _, _, _, _, _⟩ := hd
    rw [hKL]; exact hk
  have hri : Aside (RdS 2 encI w n.ih.1 IL ∧ ∀ i ∈ IL, RdS 9 encN w i.1.bh.1 i.2) := by
    obtain ⟨n, _, _, _, _, _, hi, _, hib, _, _⟩ := hd
    rw [hIL]; exact ⟨hi, hib⟩
  have HK : Aside (kidsT n = KL ++ IL.flatMap (·.2)) := by show _ = _; rw [hKL, hIL]; rfl
  clear hd hs
  have hkl : n.kids.length ≤ 1048576 := by have := HD.out.2; rw [kidsT_eq, List.length_append] at this; omega
  have hSZ : Aside (∀ k, (KL ++ (IL.take k).flatMap (·.2)).length ≤ 1048576) := by
    intro k
    have h1 := HD.out.2
    rw [HK.out] at h1
    have h2 : ((IL.take k).flatMap (·.2)).length ≤ (IL.flatMap (·.2)).length := by
      have e := List.take_append_drop k IL
      rw [show IL.flatMap (·.2) = (IL.take k ++ IL.drop k).flatMap (·.2) by rw [e], List.flatMap_append, List.length_append]
      omega
    rw [List.length_append] at h1 ⊢
    omega
  have hIz : Aside (IL.length = n.items.length) := by show _ = _; rw [hIL]
  have hKz : Aside (KL.length = n.kids.length) := by show _ = _; rw [hKL]
  go_enter Tryz.func13, Tryz.ntmps13
  go_wp2_with (at_builtin; refine wpList_append_any _ rfl _ _ 25 rfl (boxN w n).heap.size 28 i0 (.agg #[.int .i64 0, .int .i64 0, .string ⟨#[]⟩, .bool false, .slice none 0 0, .slice none 0 0, .slice none 0 0, .slice none 0 0, .slice none 0 0]) 9 160 Tryz.underlying25 hi hz0 hz1 hz2 rfl (by decide) _ 0 [] rfl (World.ownsRow_nil _ _ _ _) n.kh.1 n.kids.length n.kh.2 (KL.flatMap encN) rfl (reads_of lenN (by decide) (by rw [hKL]) (hrk.out.up ((Below.refl _ _).alloc (Nat.le_refl _) _))) (oneN KL) (by unfold maxLen; omega) (by omega) (Nat.le_refl _) ?_; intro v1 w1 hown1 hgrow1 hat1)
  clear hKL hIL
  have hgrow1 : (boxN w n).grownBy w1 (Value.ownBlock (.slice none 0 0)) := hgrow1
  have hb1 : Below (boxN w n).heap.size (boxN w n) w1 := ⟨hgrow1.os, hgrow1.tape, hgrow1.output, hgrow1.size, fun j hj => hgrow1.block j hj (by simp [Value.ownBlock])⟩
  rw [Nat.zero_add, List.nil_append] at hown1
  go_loopg [3, 4] n.items.length (fun g so si wx => ∃ (k m : Nat), k + g = n.items.length ∧ si = .int .i64 k ∧ wx.ownsRow (boxN w n).heap.size 28 9 so m ((KL ++ (IL.take k).flatMap (·.2)).flatMap encN) ∧ Aside (m = (KL ++ (IL.take k).flatMap (·.2)).length) ∧ Below (boxN w n).heap.size (boxN w n) wx)
  case atStart => exact ⟨0, n.kids.length, by omega, rfl, by simpa using hown1, by show _ = _; rw [← hKz.out]; simp, hb1⟩
  case round =>
    obtain ⟨k, m, hkg, rfl, hro, HM, hbo⟩ := hrel
    obtain ⟨z0, z1, z2, z3, z4, z5, z6, z7, z8⟩ := boxN_in hbo
    have hmb : m ≤ 1048576 := by rw [HM.out]; exact hSZ.out k
    have hwb : Below w.heap.size w wr := ((Below.refl _ _).alloc (Nat.le_refl _) _).trans (hbo.mono (by simp))
    cases gk with
    | zero =>
      have hkz : ¬ (k : Int) < (n.items.length : Int) := by omega
      have hek : Aside (KL ++ (IL.take k).flatMap (·.2) = kidsT n) := by
        show _ = _
        rw [HK.out, List.take_of_length_le (by have := hIz.out; omega)]
      rw [hek.out] at hro
      obtain ⟨a, c, rfl, hrd, hf⟩ := rdS_of_row lenN (by rw [HM.out, hek.out]) hro
      go_wp2
      go_ret
      exact ⟨a, m, c, rfl, ⟨by rw [HM.out, hek.out], hrd, fun ad h => Nat.le_trans (by simp) (hf ad h)⟩, hwb⟩
    | succ g =>
      have hk0 : (0 : Int) ≤ (k : Int) := by omega
      have hkz : (k : Int) < (n.items.length : Int) := by omega
      have hk63 : (k : Int) + 1 ≤ 9223372036854775807 := by omega
      obtain ⟨x, hx⟩ : ∃ x, IL[k]? = some x := ⟨_, List.getElem?_eq_getElem (by have := hIz.out; omega)⟩
      obtain ⟨b, o, hih, hlt, hc⟩ := (hri.out.1.up hwb) k x hx
      have c1 : wr.cell? ⟨b, o + k * 2 + 1, none⟩ = some (.slice x.1.bh.1 x.2.length x.1.bh.2) := hc 1 _ rfl
      have hrx : RdS 9 encN wr x.1.bh.1 x.2 := (hri.out.2 x (List.mem_of_getElem? hx)).up hwb
      have htk : IL.take (k + 1) = IL.take k ++ [x] := by rw [List.take_add_one, hx]; rfl
      have hX : Aside ((KL ++ (IL.take k).flatMap (·.2)).flatMap encN ++ x.2.flatMap encN = (KL ++ (IL.take (k + 1)).flatMap (·.2)).flatMap encN ∧ m + x.2.length = (KL ++ (IL.take (k + 1)).flatMap (·.2)).length) := by
        refine ⟨?_, ?_⟩
        · rw [htk]; simp [List.flatMap_append]
        · rw [htk, HM.out]; simp; omega
      have hxl : m + x.2.length ≤ 1048576 := by rw [hX.out.2]; exact hSZ.out (k + 1)
      clear hc htk
      rw [hih] at z8
      go_wp2_with (at_builtin; refine wpList_append_any _ rfl _ _ 25 rfl (boxN w n).heap.size 28 i0 (.agg #[.int .i64 0, .int .i64 0, .string ⟨#[]⟩, .bool false, .slice none 0 0, .slice none 0 0, .slice none 0 0, .slice none 0 0, .slice none 0 0]) 9 160 Tryz.underlying25 hi hz0 hz1 hz2 rfl (by decide) _ m _ rfl hro x.1.bh.1 x.2.length x.1.bh.2 (x.2.flatMap encN) rfl (reads_of lenN (by decide) rfl hrx) (oneN x.2) (by unfold maxLen; omega) (by omega) hbo.size ?_; intro v2 w2 hown2 hgrow2 hat2)
      go_roundg g
      case measure => omega
      case rel =>
        refine ⟨k + 1, m + x.2.length, by omega, by simp, by rw [← hX.out.1]; exact hown2, hX.out.2, hbo.grown hgrow2 hbo.size (fun q h => (hro.lt q h).1)⟩
end Go.Proofs.YtfdhkchglacccaaGreatDoor

/-! the reference: Words -/
namespace Go.Proofs.YtfdhkchglacccaaGreatDoor
open Go Go.RowKit Go.Mir Go.Syn
set_option maxHeartbeats 1000000
set_option maxRecDepth 100000
theorem info37 : (Tryz.prog.info? 37).map (fun i => (i.zero, i.size, i.bytes)) = some (some (.agg #[.int .i64 0, .slice none 0 0]), 2, 32) := by kernel_rfl
theorem lenW (x : WordT) : (encW x).length = 2 := rfl
theorem oneW1 (x : WordT) : ∀ u ∈ encW x, u.oneCell' = true := by
  intro u hu
  simp [encW, slV] at hu
  rcases hu with rfl | rfl <;> rfl
theorem oneW (l : List WordT) : ∀ u ∈ l.flatMap encW, u.oneCell' = true := by
  intro u hu
  obtain ⟨n, _, hu⟩ := List.mem_flatMap.1 hu
  exact oneW1 n u hu
theorem cell_two_new (w : World) (t : TypeId) (a b : Value) : ∀ j u, [a, b][j]? = some u → (w.alloc (.cells #[a, b] t)).cell? ((⟨w.heap.size, 0, none⟩ : Addr).add j) = some u := by
  intro j u h
  rcases j with _ | _ | j
  · simp at h; subst h; rw [add_none]; simp
  · simp at h; subst h; rw [add_none]; simp
  · simp at h
def WordsP (n : NodeT) (w : World) (e : Ending) (w' : World) : Prop := ∃ (a : Option Addr) (m c : Nat), e = .returned (.slice a m c) ∧ Aside (m = (wordsT n).length ∧ RdS 2 encW w' a (wordsT n)) ∧ Below w.heap.size w w'
theorem flatW_take {α : Type} (f : α → WordT) {l : List α} {k : Nat} {x : α} (h : l[k]? = some x) : ((l.take k).map f).flatMap encW ++ encW (f x) = ((l.take (k + 1)).map f).flatMap encW := by
  rw [List.take_add_one, h]; simp
theorem words_calls (n : NodeT) (w : World) (hd : DeepN w n) (hs : (wordsT n).length ≤ 1048576) (hi8 : n.items.length ≤ 1048576) :
    Calls Tryz.prog 11 #[nodeV n] w (WordsP n w) := by
  obtain ⟨i0, hi, hz0, hz1, hz2⟩ := info_parts info37
  have HW : Aside (wordsT n = n.assigns.map (·.w) ++ n.words ++ n.redirs.map (·.w) ++ n.items.flatMap (·.1.pats) ∧ (wordsT n).length ≤ 1048576 ∧ DeepN w n) := ⟨rfl, hs, hd⟩
  have hsum : n.assigns.length + n.words.length + n.redirs.length ≤ 1048576 := by rw [HW.out.1] at hs; simp only [List.length_append, List.length_map] at hs; omega
  have HSZ : Aside (∀ k, n.assigns.length + n.words.length + n.redirs.length + ((n.items.take k).flatMap (·.1.pats)).length ≤ 1048576) := by
    intro k
    have h1 := HW.out.2.1
    rw [HW.out.1] at h1
    simp only [List.length_append, List.length_map] at h1
    have h2 : ((n.items.take k).flatMap (·.1.pats)).length ≤ (n.items.flatMap (·.1.pats)).length := by
      have e := List.take_append_drop k n.items
      rw [show n.items.flatMap (·.1.pats) = (n.items.take k ++ n.items.drop k).flatMap (·.1.pats) by rw [e], List.flatMap_append, List.length_append]
      omega
    omega
  clear hs hd
  go_enter Tryz.func11, Tryz.ntmps11
  go_wp2
  go_loopg [3, 4] n.assigns.length (fun g so si wx => ∃ k : Nat, k + g = n.assigns.length ∧ si = .int .i64 k ∧ wx.ownsRow (boxN w n).heap.size 37 2 so k (((n.assigns.take k).map (·.w)).flatMap encW) ∧ Below (boxN w n).heap.size (boxN w n) wx)
  case atStart => exact ⟨0, by omega, rfl, by simpa using World.ownsRow_nil _ _ _ _, Below.refl _ _⟩
  case round =>
    obtain ⟨k, hkg, rfl, hro, hbo⟩ := hrel
    obtain ⟨z0, z1, z2, z3, z4, z5, z6, z7, z8⟩ := boxN_in hbo
    have hwb : Below w.heap.size w wr := ((Below.refl _ _).alloc (Nat.le_refl _) _).trans (hbo.mono (by simp))
    cases gk with
    | zero =>
      have hkz : ¬ (k : Int) < (n.assigns.length : Int) := by omega
      have hek : Aside (n.assigns.take k = n.assigns) := by show _ = _; exact List.take_of_length_le (by omega)
      rw [hek.out, show k = n.assigns.length by omega] at hro
      have HRW : Aside (RdS 2 encW wr n.wh.1 n.words) := by
        obtain ⟨n, _, hw, _, _, _, _, _, _, _, _⟩ := HW.out.2.2
        exact hw.rd.up hwb
      go_wp2_with (at_builtin; refine wpList_append_any _ rfl _ _ 23 rfl (boxN w n).heap.size 37 i0 (.agg #[.int .i64 0, .slice none 0 0]) 2 32 Tryz.underlying23 hi hz0 hz1 hz2 rfl (by decide) _ _ _ rfl hro n.wh.1 n.words.length n.wh.2 (n.words.flatMap encW) rfl (reads_of lenW (by decide) rfl HRW.out) (oneW _) (by unfold maxLen; omega) (by omega) hbo.size ?_; intro v' w2 hownw2 hgroww2 hatw2)
      have hb2 : Below (boxN w n).heap.size (boxN w n) w2 := hbo.grown hgroww2 hbo.size (fun q h => (hro.lt q h).1)
      go_loopg [3, 5] n.redirs.length (fun g so si wx => ∃ k : Nat, k + g = n.redirs.length ∧ si = .int .i64 k ∧ wx.ownsRow (boxN w n).heap.size 37 2 so (n.assigns.length + n.words.length + k) ((n.assigns.map (·.w)).flatMap encW ++ n.words.flatMap encW ++ ((n.redirs.take k).map (·.w)).flatMap encW) ∧ Below (boxN w n).heap.size (boxN w n) wx)
      case atStart => exact ⟨0, by omega, rfl, by simpa using hownw2, hb2⟩
      case round =>
        clear hro hbo hwb hownw2 hgroww2 hb2 hatw2 HRW hkz hek
        clear z0 z1 z2 z3 z4 z5 z6 z7 z8 hkg
        obtain ⟨k, hkg, rfl, hro, hbo⟩ := hrel
        obtain ⟨z0, z1, z2, z3, z4, z5, z6, z7, z8⟩ := boxN_in hbo
        have hwb : Below w.heap.size w wr := ((Below.refl _ _).alloc (Nat.le_refl _) _).trans (hbo.mono (by simp))
        cases gk with
        | zero =>
          have hkz : ¬ (k : Int) < (n.redirs.length : Int) := by omega
          have hek : Aside (n.redirs.take k = n.redirs) := by show _ = _; exact List.take_of_length_le (by omega)
          rw [hek.out] at hro
          have hkr : k = n.redirs.length := by omega
          rw [hkr] at hro
          clear hek
          go_wp2
          go_loopg [3, 6] n.items.length (fun g so si wx => ∃ k m : Nat, k + g = n.items.length ∧ si = .int .i64 k ∧ wx.ownsRow (boxN w n).heap.size 37 2 so m ((n.assigns.map (·.w)).flatMap encW ++ n.words.flatMap encW ++ (n.redirs.map (·.w)).flatMap encW ++ ((n.items.take k).flatMap (·.1.pats)).flatMap encW) ∧ Aside (m = n.assigns.length + n.words.length + n.redirs.length + ((n.items.take k).flatMap (·.1.pats)).length) ∧ Below (boxN w n).heap.size (boxN w n) wx)
          case atStart => exact ⟨0, n.assigns.length + n.words.length + n.redirs.length, by omega, rfl, by simpa using hro, by show _ = _; simp, hbo⟩
          case round =>
            clear hro hbo hwb hkz hkr
            clear z0 z1 z2 z3 z4 z5 z6 z7 z8 hkg
            obtain ⟨k, m, hkg, rfl, hro, HM, hbo⟩ := hrel
            obtain ⟨z0, z1, z2, z3, z4, z5, z6, z7, z8⟩ := boxN_in hbo
            have hwb : Below w.heap.size w wr := ((Below.refl _ _).alloc (Nat.le_refl _) _).trans (hbo.mono (by simp))
            have hmb : m ≤ 1048576 := by rw [HM.out]; exact HSZ.out k
            cases gk with
            | zero =>
              have hkz : ¬ (k : Int) < (n.items.length : Int) := by omega
              have hek : Aside (n.items.take k = n.items) := by show _ = _; exact List.take_of_length_le (by omega)
              have HWL : Aside ((n.assigns.map (·.w)).flatMap encW ++ n.words.flatMap encW ++ (n.redirs.map (·.w)).flatMap encW ++ ((n.items.take k).flatMap (·.1.pats)).flatMap encW = (wordsT n).flatMap encW ∧ m = (wordsT n).length) := by
                refine ⟨?_, ?_⟩
                · rw [HW.out.1, hek.out]; simp [List.flatMap_append]
                · rw [HW.out.1, HM.out, hek.out]; simp [Nat.add_assoc]
              rw [HWL.out.1] at hro
              obtain ⟨a, c, rfl, hrd, hf⟩ := rdS_of_row lenW HWL.out.2 hro
              go_wp2
              go_ret
              exact ⟨a, m, c, rfl, ⟨HWL.out.2, hrd⟩, hwb⟩
            | succ g =>
              have hk0 : (0 : Int) ≤ (k : Int) := by omega
              have hkz : (k : Int) < (n.items.length : Int) := by omega
              have hk63 : (k : Int) + 1 ≤ 9223372036854775807 := by omega
              obtain ⟨x, hx⟩ : ∃ x, n.items[k]? = some x := ⟨_, List.getElem?_eq_getElem (by omega)⟩
              have HRA : RdS 2 encI wr n.ih.1 n.items ∧ RdS 2 encW wr x.1.ph.1 x.1.pats := by
                obtain ⟨n, _, _, _, _, _, hi, hip, _, _, _⟩ := HW.out.2.2
                exact ⟨hi.up hwb, (hip x (List.mem_of_getElem? hx)).rd.up hwb⟩
              have HRP : Aside (RdS 2 encW wr x.1.ph.1 x.1.pats) := HRA.2
              obtain ⟨b, o, hih, hlt, hc⟩ := HRA.1 k x hx
              have c1 : wr.cell? ⟨b, o + k * 2, none⟩ = some (.slice x.1.ph.1 x.1.pats.length x.1.ph.2) := hc 0 _ rfl
              have hX : Aside (((n.items.take k).flatMap (·.1.pats)).flatMap encW ++ x.1.pats.flatMap encW = ((n.items.take (k + 1)).flatMap (·.1.pats)).flatMap encW ∧ m + x.1.pats.length = n.assigns.length + n.words.length + n.redirs.length + ((n.items.take (k + 1)).flatMap (·.1.pats)).length) := by
                rw [List.take_add_one, hx, HM.out]
                refine ⟨?_, ?_⟩
                · simp [List.flatMap_append]
                · simp [List.flatMap_append]; omega
              have hxl : m + x.1.pats.length ≤ 1048576 := by rw [hX.out.2]; exact HSZ.out (k + 1)
              clear hc HRA hx
              rw [hih] at z8
              go_wp2_with (at_builtin; refine wpList_append_any _ rfl _ _ 23 rfl (boxN w n).heap.size 37 i0 (.agg #[.int .i64 0, .slice none 0 0]) 2 32 Tryz.underlying23 hi hz0 hz1 hz2 rfl (by decide) _ _ _ rfl hro x.1.ph.1 x.1.pats.length x.1.ph.2 (x.1.pats.flatMap encW) rfl (reads_of lenW (by decide) rfl HRP.out) (oneW _) (by unfold maxLen; omega) (by omega) hbo.size ?_; intro v' w3 hownw3 hgroww3 hatw3)
              go_roundg g
              case measure => omega
              case rel =>
                refine ⟨k + 1, m + x.1.pats.length, by omega, by simp, ?_, hX.out.2, hbo.grown hgroww3 hbo.size (fun q h => (hro.lt q h).1)⟩
                rw [List.append_assoc, hX.out.1] at hownw3
                exact hownw3
        | succ g =>
          have hk0 : (0 : Int) ≤ (k : Int) := by omega
          have hkz : (k : Int) < (n.redirs.length : Int) := by omega
          have hk63 : (k : Int) + 1 ≤ 9223372036854775807 := by omega
          obtain ⟨x, hx⟩ : ∃ x, n.redirs[k]? = some x := ⟨_, List.getElem?_eq_getElem (by omega)⟩
          have HRA : RdS 5 encR wr n.rh.1 n.redirs := by
            obtain ⟨n, _, _, hr, _, _, _, _, _, _, _⟩ := HW.out.2.2
            exact hr.rd.up hwb
          obtain ⟨b, o, hih, hlt, hc⟩ := HRA k x hx
          have c1 : wr.cell? ⟨b, o + k * 5 + 3, none⟩ = some (.int .i64 x.w.pos) := hc 3 _ rfl
          have c2 : wr.cell? ⟨b, o + k * 5 + 3 + 1, none⟩ = some (.slice x.w.h.1 x.w.parts.length x.w.h.2) := hc 4 _ rfl
          have HT : Aside (((n.redirs.take k).map (·.w)).flatMap encW ++ encW x.w = ((n.redirs.take (k + 1)).map (·.w)).flatMap encW) := flatW_take (fun y : RedirT => y.w) hx
          clear hc HRA hx
          rw [hih] at z6
          go_wp2_with (at_builtin; refine wpList_append_own _ rfl _ _ 23 rfl (boxN w n).heap.size 37 i0 (.agg #[.int .i64 0, .slice none 0 0]) 2 32 Tryz.underlying23 hi hz0 hz1 hz2 rfl (by decide) _ _ _ rfl (hro.alloc _) ⟨_, 0, none⟩ 1 1 (encW x.w) rfl rfl (cell_two_new _ _ _ _) (oneW1 x.w) (by unfold maxLen; omega) (by omega) (Nat.le_trans hbo.size (by simp)) ?_; intro v' w3 hownw3 hgroww3 hnilw3)
          go_roundg g
          case measure => omega
          case rel =>
            refine ⟨k + 1, by omega, by simp, ?_, (hbo.alloc hbo.size _).grown hgroww3 (Nat.le_trans hbo.size (by simp)) (fun q h => (hro.lt q h).1)⟩
            rw [List.append_assoc, HT.out] at hownw3
            exact hownw3
    | succ g =>
      have hk0 : (0 : Int) ≤ (k : Int) := by omega
      have hkz : (k : Int) < (n.assigns.length : Int) := by omega
      have hk63 : (k : Int) + 1 ≤ 9223372036854775807 := by omega
      obtain ⟨x, hx⟩ : ∃ x, n.assigns[k]? = some x := ⟨_, List.getElem?_eq_getElem (by omega)⟩
      have HRA : RdS 4 encA wr n.ah.1 n.assigns := by
        obtain ⟨n, ha, _, _, _, _, _, _, _, _, _⟩ := HW.out.2.2
        exact ha.rd.up hwb
      obtain ⟨b, o, hih, hlt, hc⟩ := HRA k x hx
      have c1 : wr.cell? ⟨b, o + k * 4 + 2, none⟩ = some (.int .i64 x.w.pos) := hc 2 _ rfl
      have c2 : wr.cell? ⟨b, o + k * 4 + 2 + 1, none⟩ = some (.slice x.w.h.1 x.w.parts.length x.w.h.2) := hc 3 _ rfl
      have HT : Aside (((n.assigns.take k).map (·.w)).flatMap encW ++ encW x.w = ((n.assigns.take (k + 1)).map (·.w)).flatMap encW) := flatW_take (fun y : AssignT => y.w) hx
      clear hc HRA hx
      rw [hih] at z4
      go_wp2_with (at_builtin; refine wpList_append_own _ rfl _ _ 23 rfl (boxN w n).heap.size 37 i0 (.agg #[.int .i64 0, .slice none 0 0]) 2 32 Tryz.underlying23 hi hz0 hz1 hz2 rfl (by decide) _ _ _ rfl (hro.alloc _) ⟨_, 0, none⟩ 1 1 (encW x.w) rfl rfl (cell_two_new _ _ _ _) (oneW1 x.w) (by unfold maxLen; omega) (by omega) (Nat.le_trans hbo.size (by simp)) ?_; intro v' w3 hownw3 hgroww3 hnilw3)
      go_roundg g
      case measure => omega
      case rel =>
        refine ⟨k + 1, by omega, by simp, by rw [← HT.out]; exact hownw3, (hbo.alloc hbo.size _).grown hgroww3 (Nat.le_trans hbo.size (by simp)) (fun q h => (hro.lt q h).1)⟩
end Go.Proofs.YtfdhkchglacccaaGreatDoor
