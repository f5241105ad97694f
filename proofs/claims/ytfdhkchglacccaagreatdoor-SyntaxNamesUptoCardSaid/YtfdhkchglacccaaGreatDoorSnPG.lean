/- The program: children, wordsOf. No statement is proved here. -/
import Derived.Test.YtfdhkchglacccaaGreatDoorSnNA
import Derived.ArgAppend
set_option linter.all false
/-! append to a slice that is shared and full, or owned -/
namespace Go.Proofs.YtfdhkchglacccaaGreatDoor
open Go Go.RowKit Go.Syn
/-- a slice that is the call's own, or one that is read and has no room -/
def SO {α : Type} (k : Nat) (enc : α → List Value) (e : TypeId) (base : Nat) (S : Option Addr × List α) (v : Value) (l : List α) (w : World) : Prop := w.ownsRow base e k v l.length (l.flatMap enc) ∨ (l = S.2 ∧ v = .slice S.1 l.length l.length ∧ RdS k enc w S.1 l)
theorem SO.up {α : Type} {k : Nat} {enc : α → List Value} {e : TypeId} {base : Nat} {S : Option Addr × List α} {v : Value} {l : List α} {w w' : World} (h : SO k enc e base S v l w) (hb : Below w.heap.size w w') : SO k enc e base S v l w' := by
  rcases h with h | ⟨h0, h1, h2⟩
  · exact .inl (h.kept (row := none) ⟨hb.os, hb.tape, hb.output, hb.size, fun k hk _ => hb.block k hk⟩ (by cases hv : v.ownBlock <;> simp))
  · exact .inr ⟨h0, h1, h2.up hb⟩
theorem SO.rd {α : Type} {k : Nat} {enc : α → List Value} (hk : ∀ x, (enc x).length = k) {e : TypeId} {base : Nat} {S : Option Addr × List α} {v : Value} {l : List α} {w : World} (h : SO k enc e base S v l w) : ∃ ao cap, v = .slice ao l.length cap ∧ RdS k enc w ao l ∧ ((∀ ad, ao = some ad → base ≤ ad.block) ∨ (ao = S.1 ∧ l = S.2)) := by
  rcases h with h | ⟨h0, h1, h2⟩
  · obtain ⟨ao, cap, h1, h2, h3⟩ := rdS_of_row hk rfl h
    exact ⟨ao, cap, h1, h2, .inl h3⟩
  · exact ⟨_, _, h1, h2, .inr ⟨rfl, h0⟩⟩
theorem row_mono {w : World} {b b' : Nat} {e : TypeId} {k : Nat} {v : Value} {n : Nat} {xs : List Value} (h : w.ownsRow b' e k v n xs) (hb : b ≤ b') : w.ownsRow b e k v n xs := by
  obtain ⟨h1, h2⟩ := h
  refine ⟨h1, ?_⟩
  rcases h2 with h2 | ⟨g, cap, cur, hv, hg, r⟩
  · exact .inl h2
  · exact .inr ⟨g, cap, cur, hv, Nat.le_trans hb hg, r⟩
section
variable {P : Program}
theorem run_append_so {α : Type} {k : Nat} {enc : α → List Value} (hk : ∀ x, (enc x).length = k) (h0 : 0 < k) (h1 : ∀ (l : List α), ∀ u ∈ l.flatMap enc, u.oneCell' = true) (w : World) (base : Nat) (t ty e : TypeId) (i : TypeInfo) (z : Value) (bytes : Nat) (ht : P.underlying t = some (.slice e)) (hi : P.info? e = some i) (hz : i.zero = some z)
    (hsize : i.size = k) (hby : i.bytes = bytes) (hzs : z.cells.size = k) (S : Option Addr × List α) (v : Value) (l l2 : List α) (hso : SO k enc e base S v l w) (A : Option Addr) (m c : Nat) (hm : m = l2.length) (hr : RdS k enc w A l2)
    (h63 : l.length + l2.length ≤ 1048576) (hbytes : bytes ≤ 1000) (hbase : base ≤ w.heap.size) :
    ∃ v' w', (Builtin.append_ #[t, t] ty #[v, .slice A m c]).run P w = .ok v' w' ∧ SO k enc e base S v' (l ++ l2) w' ∧ Below base w w' := by
  have hbb : (l.length + l2.length) * bytes ≤ 140737488355328 := Nat.le_trans (Nat.mul_le_mul h63 hbytes) (by decide)
  have hml : l.length + l2.length ≤ maxLen := by unfold maxLen; omega
  have hown : w.ownsRow base e k v l.length (l.flatMap enc) → ∃ v' w', (Builtin.append_ #[t, t] ty #[v, .slice A m c]).run P w = .ok v' w' ∧ SO k enc e base S v' (l ++ l2) w' ∧ Below base w w' := fun h => by
    subst hm
    obtain ⟨v', w', g1, g2, g3, _⟩ := run_append_any (P := P) w base t ty e i z k bytes ht hi hz hsize hby hzs h0 v _ _ h A _ c _ (reads_of hk h0 rfl hr) (h1 l2) hml hbb hbase
    refine ⟨v', w', g1, .inl ?_, (Below.refl _ _).grown g3 hbase (fun q hq => (h.lt q hq).1)⟩
    rw [List.length_append, List.flatMap_append]
    exact g2
  rcases hso with h | ⟨hs0, hv, h2⟩
  · exact hown h
  · obtain ⟨ao, hao⟩ : ∃ ao, ao = S.1 := ⟨_, rfl⟩
    rw [← hao] at hv h2
    rcases ao with _ | a
    · have hl : l = [] := by
        cases l with
        | nil => rfl
        | cons x l => obtain ⟨b, o, h, _⟩ := h2 0 x rfl; cases h
      subst hl
      exact hown (by rw [hv]; exact World.ownsRow_nil _ _ _ _)
    · cases l2 with
      | nil =>
        refine ⟨v, w, ?_, by rw [List.append_nil]; exact .inr ⟨hs0, by rw [← hao]; exact hv, by rw [← hao]; exact h2⟩, Below.refl _ _⟩
        subst hm
        rw [hv]
        cases A with
        | none => simp [Builtin.append_, run_underlying ht, sizeOf, typeInfo, hi, Builtin.lenOf, Builtin.firstCells, storeCells]
        | some a2 => simp [Builtin.append_, run_underlying ht, sizeOf, typeInfo, hi, Builtin.lenOf, Builtin.firstCells, storeCells, loadCells, loadCellsFrom]
      | cons y l3 =>
        obtain ⟨b2, o2, rfl, _⟩ := hr 0 y rfl
        have r1 := reads_of hk h0 hm hr
        have hmp : 0 < m := by rw [hm]; exact Nat.succ_pos _
        obtain ⟨ad, had, hcells⟩ := r1.2 hmp
        injection had with had
        subst had
        have r0 := reads_of hk h0 rfl h2
        have holds : ∀ j u, (l.flatMap enc)[j]? = some u → w.cell? (a.add j) = some u := fun j u hu => by
          rcases Nat.eq_zero_or_pos l.length with hz0 | hp
          · rw [List.eq_nil_of_length_eq_zero hz0] at hu; simp at hu
          · obtain ⟨ad, had, hc⟩ := r0.2 hp
            injection had with had
            subst had
            exact hc j u hu
        obtain ⟨v', w', g1, g2, g3⟩ := run_append_arg_grows (P := P) w t ty e i z k bytes ht hi hz hsize hby hzs h0 a l.length l.length (l.flatMap enc) r0.1 holds ⟨b2, o2, none⟩ m c ((y :: l3).flatMap enc) r1.1 hcells (by omega) (by rw [hm]; exact hml) (by rw [hm]; exact hbb)
        refine ⟨v', w', by rw [hv]; exact g1, .inl ?_, (Below.refl _ _).grown g3 hbase (fun q hq => by cases hq)⟩
        rw [List.length_append, List.flatMap_append, ← hm]
        exact row_mono g2 hbase
theorem wpList_append_so {α : Type} {k : Nat} {enc : α → List Value} (hk : ∀ x, (enc x).length = k) (h0 : 0 < k) (h1 : ∀ (l : List α), ∀ u ∈ l.flatMap enc, u.oneCell' = true) (w : World) {ops : Array Oper} {rest : List Oper} {o : Oper} {a : Act} {Q : Exit → Act → World → Prop} (hgd : o.guard = none) (s x : Operand) (t : TypeId)
    (ho : o.op = .call { callee := .builtin .append, args := #[s, x], argTypes := #[t, t] }) (base : Nat) (e : TypeId) (i : TypeInfo) (z : Value) (bytes : Nat) (ht : P.underlying t = some (.slice e)) (hi : P.info? e = some i) (hz : i.zero = some z)
    (hsize : i.size = k) (hby : i.bytes = bytes) (hzs : z.cells.size = k) (S : Option Addr × List α) (v : Value) (l l2 : List α) (hs : a.eval s = v) (hso : SO k enc e base S v l w) (A : Option Addr) (m c : Nat) (hx : a.eval x = .slice A m c) (hm : m = l2.length) (hr : RdS k enc w A l2)
    (h63 : l.length + l2.length ≤ 1048576) (hbytes : bytes ≤ 1000) (hbase : base ≤ w.heap.size)
    (h : ∀ v' w', SO k enc e base S v' (l ++ l2) w' → Below base w w' → wpList P ops Q rest (a.put o.dst v') w') : wpList P ops Q (o :: rest) a w := by
  refine wpList_plain hgd fun K hK => ?_
  obtain ⟨v', w', hrun, h2, h3⟩ := run_append_so (P := P) hk h0 h1 w base t o.type e i z bytes ht hi hz hsize hby hzs S v l l2 hso A m c hm hr h63 hbytes hbase
  unfold Oper.wp execOp
  simp only [ho, resolve, invoke, builtin, Sem.run_bind, Sem.run_pure, Result.andThen_ok, List.map_toArray, List.map_cons, List.map_nil, hs, hx, hrun]
  exact hK _ _ (h v' w' h2 h3)
end
end Go.Proofs.YtfdhkchglacccaaGreatDoor

/-! children -/
namespace Go.Proofs.YtfdhkchglacccaaGreatDoor
open Go Go.RowKit Go.Mir Go.Syn
set_option maxHeartbeats 1000000
set_option maxRecDepth 100000
noncomputable abbrev boxI (w : World) (x : ItemH × List NodeT) : World := w.alloc (.cells #[.slice x.1.ph.1 x.1.pats.length x.1.ph.2, .slice x.1.bh.1 x.2.length x.1.bh.2] 75)
theorem boxI_in {w W : World} {x : ItemH × List NodeT} (h : Below (boxI w x).heap.size (boxI w x) W) : W.cell? ⟨w.heap.size, 0, none⟩ = some (.slice x.1.ph.1 x.1.pats.length x.1.ph.2) ∧ W.cell? ⟨w.heap.size, 1, none⟩ = some (.slice x.1.bh.1 x.2.length x.1.bh.2) := by
  have hl1 : w.heap.size < (boxI w x).heap.size := by simp
  refine ⟨?_, ?_⟩
  all_goals exact (h.cell (p := ⟨w.heap.size, _, none⟩) hl1).trans (by simp)
def ChildP (n : NodeT) (w : World) (e : Ending) (w' : World) : Prop := ∃ (a : Option Addr) (m c : Nat), e = .returned (.slice a m c) ∧ Aside (m = (kidsT n).length ∧ RdS 9 encN w' a (kidsT n) ∧ ((∀ ad, a = some ad → w.heap.size ≤ ad.block) ∨ (a = n.kh.1 ∧ kidsT n = n.kids))) ∧ Below w.heap.size w w'
theorem child_core (n : NodeT) (w : World) (hd : DeepN w n) (hs : (kidsT n).length ≤ 1048576) (hi8 : n.items.length ≤ 1048576) (b o : Nat) (hih : n.ih.1 = some ⟨b, o, none⟩) :
    Calls Tryz.prog 43 #[nodeV n] w (ChildP n w) := by
  obtain ⟨i0, hi, hz0, hz1, hz2⟩ := info_parts info28
  have HD : Aside ((kidsT n).length ≤ 1048576) := hs
  obtain ⟨KL, hKL⟩ : ∃ K, K = n.kids := ⟨_, rfl⟩
  obtain ⟨IL, hIL⟩ : ∃ K, K = n.items := ⟨_, rfl⟩
  have hcap : n.kids.length ≤ n.kh.2 := by
    obtain ⟨n, _, _, _, _, _, _, _, _, _, hc⟩ := hd
    exact hc.1
  have hrk : Aside (RdS 9 encN w n.kh.1 KL) := by
    obtain ⟨n, _, _, _, hk, _, _, _, _, _, _⟩ := hd
    rw [hKL]; exact hk
  have hri : Aside (RdS 2 encI w n.ih.1 IL ∧ ∀ i ∈ IL, RdS 9 encN w i.1.bh.1 i.2) := by
    obtain ⟨n, _, _, _, _, _, hi, _, hib, _, _⟩ := hd
    rw [hIL]; exact ⟨hi, hib⟩
  have HK : Aside (kidsT n = KL ++ IL.flatMap (·.2)) := by show _ = _; rw [hKL, hIL]; rfl
  have hkl : n.kids.length ≤ 1048576 := by have := HD.out; rw [kidsT_eq, List.length_append] at this; omega
  have HKL : Aside (KL = n.kids) := hKL
  have hKz : Aside (KL.length = n.kids.length) := by show _ = _; rw [hKL]
  have hIz : Aside (IL.length = n.items.length) := by show _ = _; rw [hIL]
  have hSZ : Aside (∀ k, (KL ++ (IL.take k).flatMap (·.2)).length ≤ 1048576) := by
    intro k
    have h1 := HD.out
    rw [HK.out] at h1
    have h2 : ((IL.take k).flatMap (·.2)).length ≤ (IL.flatMap (·.2)).length := by
      have e := List.take_append_drop k IL
      rw [show IL.flatMap (·.2) = (IL.take k ++ IL.drop k).flatMap (·.2) by rw [e], List.flatMap_append, List.length_append]
      omega
    rw [List.length_append] at h1 ⊢
    omega
  clear hd hs hKL hIL
  have hwb0 : Below w.heap.size w (boxN w n) := (Below.refl _ _).alloc (Nat.le_refl _) _
  obtain ⟨z0, z1, z2, z3, z4, z5, z6, z7, z8⟩ := boxN_in (Below.refl (boxN w n).heap.size (boxN w n))
  rw [hih] at z8
  go_enter Tryz.func43, Tryz.ntmps43
  go_wp2
  go_loopg [3, 18] n.items.length (fun g so si wx => ∃ k : Nat, k + g = n.items.length ∧ si = .int .i64 k ∧ Aside (SO 9 encN 28 (boxN w n).heap.size (n.kh.1, n.kids) so (KL ++ (IL.take k).flatMap (·.2)) wx) ∧ Below (boxN w n).heap.size (boxN w n) wx)
  case atStart => rw [← hih]; exact ⟨0, by omega, rfl, by simp only [List.take_zero, List.flatMap_nil, List.append_nil]; exact .inr ⟨HKL.out, by rw [hKz.out], hrk.out.up hwb0⟩, Below.refl _ _⟩
  case round =>
    clear z0 z1 z2 z3 z4 z5 z6 z7 z8 hcap
    obtain ⟨k, hkg, rfl, HM, hbo⟩ := hrel
    obtain ⟨z0, z1, z2, z3, z4, z5, z6, z7, z8⟩ := boxN_in hbo
    rw [hih] at z8
    have hwb : Below w.heap.size w wr := hwb0.trans (hbo.mono hwb0.size)
    cases gk with
    | zero =>
      have hkz : ¬ (k : Int) < (n.items.length : Int) := by omega
      have hek : Aside (KL ++ (IL.take k).flatMap (·.2) = kidsT n) := by
        show _ = _
        rw [HK.out, List.take_of_length_le (by have := hIz.out; omega)]
      rw [hek.out] at HM
      obtain ⟨a, c, rfl, hrd, hor⟩ := SO.rd lenN HM.out
      have HR : Aside (RdS 9 encN wr a (kidsT n) ∧ ((∀ ad, a = some ad → w.heap.size ≤ ad.block) ∨ (a = n.kh.1 ∧ kidsT n = n.kids))) := ⟨hrd, hor.imp (fun h ad e => Nat.le_trans hwb0.size (h ad e)) id⟩
      clear hrd hor
      go_wp2
      go_ret
      exact ⟨a, _, c, rfl, ⟨rfl, HR.out.1, HR.out.2⟩, hwb⟩
    | succ g =>
      have hk0 : (0 : Int) ≤ (k : Int) := by omega
      have hkz : (k : Int) < (n.items.length : Int) := by omega
      have hk63 : (k : Int) + 1 ≤ 9223372036854775807 := by omega
      obtain ⟨x, hx⟩ : ∃ x, IL[k]? = some x := ⟨_, List.getElem?_eq_getElem (by have := hIz.out; omega)⟩
      obtain ⟨b2, o2, hih2, hlt, hc⟩ := (hri.out.1.up hwb) k x hx
      rw [hih] at hih2
      injection hih2 with hih2
      injection hih2 with hb2 ho2
      subst hb2; subst ho2
      have c0 : wr.cell? ⟨b, o + k * 2, none⟩ = some (.slice x.1.ph.1 x.1.pats.length x.1.ph.2) := hc 0 _ rfl
      have c1 : wr.cell? ⟨b, o + k * 2 + 1, none⟩ = some (.slice x.1.bh.1 x.2.length x.1.bh.2) := hc 1 _ rfl
      have HBI : Aside (Below wr.heap.size wr (boxI wr x)) := (Below.refl _ _).alloc (Nat.le_refl _) _
      have hrx : Aside (RdS 9 encN (boxI wr x) x.1.bh.1 x.2) := ((hri.out.2 x (List.mem_of_getElem? hx)).up hwb).up HBI.out
      have htk : IL.take (k + 1) = IL.take k ++ [x] := by rw [List.take_add_one, hx]; rfl
      have hX : Aside (KL ++ (IL.take k).flatMap (·.2) ++ x.2 = KL ++ (IL.take (k + 1)).flatMap (·.2)) := by
        show _ = _
        rw [htk]; simp [List.flatMap_append]
      have hxl : (KL ++ (IL.take k).flatMap (·.2)).length + x.2.length ≤ 1048576 := by rw [← List.length_append, hX.out]; exact hSZ.out (k + 1)
      have HXL : Aside ((KL ++ (IL.take k).flatMap (·.2)).length + x.2.length ≤ 1048576) := hxl
      have hso : Aside (SO 9 encN 28 (boxN w n).heap.size (n.kh.1, n.kids) _ (KL ++ (IL.take k).flatMap (·.2)) (boxI wr x)) := HM.out.up HBI.out
      have hsz : (boxN w n).heap.size ≤ (boxI wr x).heap.size := Nat.le_trans hbo.size HBI.out.size
      clear hc htk hx hxl HM
      go_wp2_with (at_builtin; refine wpList_append_so lenN (by decide) oneN _ rfl _ _ 25 rfl (boxN w n).heap.size 28 i0 (.agg #[.int .i64 0, .int .i64 0, .string ⟨#[]⟩, .bool false, .slice none 0 0, .slice none 0 0, .slice none 0 0, .slice none 0 0, .slice none 0 0]) 160 Tryz.underlying25 hi hz0 hz1 hz2 rfl (n.kh.1, n.kids) _ _ x.2 rfl hso.out x.1.bh.1 x.2.length x.1.bh.2 rfl rfl hrx.out HXL.out (by decide) hsz ?_; intro v2 w2 hown2 hb2)
      go_roundg g
      case measure => omega
      case rel => exact ⟨k + 1, by omega, by simp, by rw [← hX.out]; exact hown2, (hbo.trans (HBI.out.mono hbo.size)).trans hb2⟩
theorem child_none (n : NodeT) (w : World) (hd : DeepN w n) (hs : (kidsT n).length ≤ 1048576) (hit : n.items = []) :
    Calls Tryz.prog 43 #[nodeV n] w (ChildP n w) := by
  have hcap : n.kids.length ≤ n.kh.2 := by
    obtain ⟨n, _, _, _, _, _, _, _, _, _, hc⟩ := hd
    exact hc.1
  have HK : Aside (kidsT n = n.kids) := by show _ = _; rw [kidsT_eq, hit]; simp
  have hrk : Aside (RdS 9 encN w n.kh.1 n.kids) := by
    obtain ⟨n, _, _, _, hk, _, _, _, _, _, _⟩ := hd
    exact hk
  have hkl : n.kids.length ≤ 1048576 := by rw [← HK.out]; exact hs
  have hin : n.items.length = 0 := by rw [hit]; rfl
  have hn0 : ¬ (0 : Int) < (n.items.length : Int) := by omega
  clear hd hs hit
  have hwb0 : Below w.heap.size w (boxN w n) := (Below.refl _ _).alloc (Nat.le_refl _) _
  obtain ⟨z0, z1, z2, z3, z4, z5, z6, z7, z8⟩ := boxN_in (Below.refl (boxN w n).heap.size (boxN w n))
  obtain ⟨il, hil⟩ : ∃ m, m = n.items.length := ⟨_, rfl⟩
  rw [← hil] at z8 hn0
  have HIL : Aside (il = n.items.length) := hil
  clear hin hil
  go_enter Tryz.func43, Tryz.ntmps43
  go_wp2
  go_loopg [3, 18] 0 (fun g so si wx => so = .slice n.kh.1 n.kids.length n.kids.length ∧ si = .int .i64 0 ∧ boxN w n = wx)
  case atStart => exact ⟨rfl, rfl, rfl⟩
  case round =>
    obtain ⟨rfl, rfl, rfl⟩ := hrel
    go_wp2
    go_ret
    exact ⟨_, _, _, rfl, ⟨by rw [HK.out], by rw [HK.out]; exact hrk.out.up hwb0, .inr ⟨rfl, HK.out⟩⟩, hwb0⟩
theorem child_calls (n : NodeT) (w : World) (hd : DeepN w n) (hs : (kidsT n).length ≤ 1048576) (hi8 : n.items.length ≤ 1048576) : Calls Tryz.prog 43 #[nodeV n] w (ChildP n w) := by
  cases hit : n.items with
  | nil => exact child_none n w hd hs hit
  | cons x l =>
    have hd2 := hd
    obtain ⟨n, _, _, _, _, _, hi, _, _, _, _⟩ := hd2
    obtain ⟨b, o, h, _⟩ := hi 0 x (by rw [hit]; rfl)
    exact child_core n w hd hs hi8 b o h
end Go.Proofs.YtfdhkchglacccaaGreatDoor

/-! wordsOf (printed by genPW.py) -/
namespace Go.Proofs.YtfdhkchglacccaaGreatDoor
open Go Go.RowKit Go.Mir Go.Syn
set_option maxHeartbeats 1000000
set_option maxRecDepth 100000
noncomputable abbrev boxQ (w : World) (n : NodeT) (AA : Option Addr) (AC : Nat) (RA : Option Addr) (RC : Nat) (IA : Option Addr) (IC : Nat) : World := w.alloc (.cells #[.int .i64 n.kind, .int .i64 n.pos, .string ⟨n.name.toArray⟩, .bool n.all, .slice AA n.assigns.length AC, .slice n.wh.1 n.words.length n.wh.2, .slice RA n.redirs.length RC, .slice n.kh.1 n.kids.length n.kh.2, .slice IA n.items.length IC] 28)
theorem boxQ_in {w W : World} {n : NodeT} {AA RA IA : Option Addr} {AC RC IC : Nat} (h : Below (boxQ w n AA AC RA RC IA IC).heap.size (boxQ w n AA AC RA RC IA IC) W) : W.cell? ⟨w.heap.size, 4, none⟩ = some (.slice AA n.assigns.length AC) ∧ W.cell? ⟨w.heap.size, 5, none⟩ = some (.slice n.wh.1 n.words.length n.wh.2) ∧ W.cell? ⟨w.heap.size, 6, none⟩ = some (.slice RA n.redirs.length RC) ∧ W.cell? ⟨w.heap.size, 8, none⟩ = some (.slice IA n.items.length IC) := by
  have hl1 : w.heap.size < (boxQ w n AA AC RA RC IA IC).heap.size := by simp
  refine ⟨?_, ?_, ?_, ?_⟩
  all_goals exact (h.cell (p := ⟨w.heap.size, _, none⟩) hl1).trans (by simp)
noncomputable abbrev boxA (w : World) (x : AssignT) : World := w.alloc (.cells #[.int .i64 x.pos, .string ⟨x.name.toArray⟩, .int .i64 x.w.pos, .slice x.w.h.1 x.w.parts.length x.w.h.2] 39)
noncomputable abbrev boxR (w : World) (x : RedirT) : World := w.alloc (.cells #[.int .i64 x.pos, .int .i64 x.fd, .int .i64 x.op, .int .i64 x.w.pos, .slice x.w.h.1 x.w.parts.length x.w.h.2] 73)
theorem two_at {w : World} {k : Nat} {t : TypeId} {a b : Value} (hk : k = w.heap.size) : ∀ j u, [a, b][j]? = some u → (w.alloc (.cells #[a, b] t)).cell? ((⟨k, 0, none⟩ : Addr).add j) = some u := by
  subst hk; exact cell_two_new w t a b
/-- words that lie in memory of the call's own -/
def RowW (base : Nat) (v : Value) (l : List WordT) (w : World) : Prop := w.ownsRow base 37 2 v l.length (l.flatMap encW)
theorem RowW.up {base : Nat} {v : Value} {l : List WordT} {w w' : World} (h : RowW base v l w) (hb : Below w.heap.size w w') : RowW base v l w' :=
  World.ownsRow.kept h (row := none) ⟨hb.os, hb.tape, hb.output, hb.size, fun k hk _ => hb.block k hk⟩ (by cases hv : v.ownBlock <;> simp)
theorem RowW.snoc {base m : Nat} {v : Value} {l : List WordT} {x : WordT} {w : World} (hm : m = l.length + 1) (h : w.ownsRow base 37 2 v m (l.flatMap encW ++ encW x)) : RowW base v (l ++ [x]) w := by
  unfold RowW
  rw [List.length_append, List.flatMap_append, List.length_singleton, ← hm]
  simpa using h
theorem RowW.app {base m : Nat} {v : Value} {l l2 : List WordT} {w : World} (hm : m = l.length + l2.length) (h : w.ownsRow base 37 2 v m (l.flatMap encW ++ l2.flatMap encW)) : RowW base v (l ++ l2) w := by
  unfold RowW
  rw [List.length_append, List.flatMap_append, ← hm]
  exact h
def WordsQ (n : NodeT) (w : World) (e : Ending) (w' : World) : Prop := ∃ (a : Option Addr) (m c : Nat), e = .returned (.slice a m c) ∧ Aside (m = (wordsT n).length ∧ RdS 2 encW w' a (wordsT n) ∧ ∀ ad, a = some ad → w.heap.size ≤ ad.block) ∧ Below w.heap.size w w'
theorem pwords_core (n : NodeT) (AA RA IA : Option Addr) (AC RC IC : Nat) (w : World) (haa : RdS 4 encA w AA n.assigns) (hww : RdS 2 encW w n.wh.1 n.words) (hrr : RdS 5 encR w RA n.redirs) (hii : RdS 2 encI w IA n.items) (hpp : ∀ i ∈ n.items, RdS 2 encW w i.1.ph.1 i.1.pats) (hs : (wordsT n).length ≤ 1048576) (hi8 : n.items.length ≤ 1048576) :
    Calls Tryz.prog 24 #[.agg #[.int .i64 n.kind, .int .i64 n.pos, .string ⟨n.name.toArray⟩, .bool n.all, .slice AA n.assigns.length AC, .slice n.wh.1 n.words.length n.wh.2, .slice RA n.redirs.length RC, .slice n.kh.1 n.kids.length n.kh.2, .slice IA n.items.length IC]] w (WordsQ n w) := by
  obtain ⟨i0, hi, hz0, hz1, hz2⟩ := info_parts info37
  have HL : Aside ((wordsT n).length ≤ 1048576) := hs
  have HA : Aside (RdS 4 encA w AA n.assigns) := haa
  have HR : Aside (RdS 5 encR w RA n.redirs) := hrr
  have HI : Aside (RdS 2 encI w IA n.items) := hii
  have HP : Aside (RdS 2 encW w n.wh.1 n.words ∧ ∀ i ∈ n.items, RdS 2 encW w i.1.ph.1 i.1.pats) := ⟨hww, hpp⟩
  have hal : n.assigns.length ≤ 1048576 ∧ n.words.length ≤ 1048576 ∧ n.redirs.length ≤ 1048576 := by unfold wordsT at hs; simp only [List.length_append, List.length_map] at hs; omega
  obtain ⟨hal, hwl, hrl⟩ := hal
  clear haa hww hrr hii hpp hs
  have hwb0 : Below w.heap.size w (boxQ w n AA AC RA RC IA IC) := (Below.refl _ _).alloc (Nat.le_refl _) _
  obtain ⟨z4, z5, z6, z8⟩ := boxQ_in (Below.refl (boxQ w n AA AC RA RC IA IC).heap.size (boxQ w n AA AC RA RC IA IC))
  obtain ⟨W0, hW0⟩ : ∃ W, W = boxQ w n AA AC RA RC IA IC := ⟨_, rfl⟩
  have HB0 : Aside (Below w.heap.size w W0) := by rw [hW0]; exact hwb0
  have HQ : Aside (∀ W, Below W0.heap.size W0 W → W.cell? ⟨w.heap.size, 5, none⟩ = some (.slice n.wh.1 n.words.length n.wh.2) ∧ W.cell? ⟨w.heap.size, 6, none⟩ = some (.slice RA n.redirs.length RC) ∧ W.cell? ⟨w.heap.size, 8, none⟩ = some (.slice IA n.items.length IC)) := by rw [hW0]; exact fun W h => (boxQ_in h).2
  have HW : Aside (∀ L rest, L ++ rest = wordsT n → L.length + rest.length ≤ 1048576) := fun L rest h => by rw [← List.length_append, h]; exact HL.out
  go_enter Tryz.func24, Tryz.ntmps24
  go_wp2
  go_loopg [3, 13] n.assigns.length (fun g so si wx => ∃ (k : Nat) (L : List WordT), k + g = n.assigns.length ∧ si = .int .i64 k ∧ Aside (L ++ ((n.assigns.drop k).map (·.w) ++ (n.words ++ (n.redirs.map (·.w) ++ n.items.flatMap (·.1.pats)))) = wordsT n) ∧ Aside (RowW W0.heap.size so L wx) ∧ Below W0.heap.size W0 wx)
  case atStart => exact ⟨0, [], by omega, rfl, by show _ = _; unfold wordsT; simp, World.ownsRow_nil _ _ _ _, by rw [hW0]; exact Below.refl _ _⟩
  case round =>
    clear z4 z5 z6 z8 hwb0 hW0
    obtain ⟨k, L, hkg, rfl, HE, HO, hbo⟩ := hrel
    have hwb : Below w.heap.size w wr := HB0.out.trans (hbo.mono HB0.out.size)
    cases gk with
    | succ g =>
      have hkz : (k : Int) < (n.assigns.length : Int) := by omega
      have hk63 : (k : Int) + 1 ≤ 9223372036854775807 := by omega
      obtain ⟨x, hx⟩ : ∃ x, n.assigns[k]? = some x := ⟨_, List.getElem?_eq_getElem (by omega)⟩
      obtain ⟨b, o, rfl, hlt, hc⟩ := (HA.out.up hwb) k x hx
      have c0 : wr.cell? ⟨b, o + k * 4, none⟩ = some (.int .i64 x.pos) := hc 0 _ rfl
      have c1 : wr.cell? ⟨b, o + k * 4 + 1, none⟩ = some (.string ⟨x.name.toArray⟩) := hc 1 _ rfl
      have c2 : wr.cell? ⟨b, o + k * 4 + 2, none⟩ = some (.int .i64 x.w.pos) := hc 2 _ rfl
      have c3 : wr.cell? ⟨b, o + k * 4 + 3, none⟩ = some (.slice x.w.h.1 x.w.parts.length x.w.h.2) := hc 3 _ rfl
      have HE2 : Aside ((L ++ [x.w]) ++ ((n.assigns.drop (k + 1)).map (·.w) ++ (n.words ++ (n.redirs.map (·.w) ++ n.items.flatMap (·.1.pats)))) = wordsT n) := by have h := HE.out; rw [Lib.drop_at hx] at h; show _ = _; rw [← h]; simp
      have HLL := HW.out _ _ HE2.out
      have hLL : L.length + 1 ≤ 1048576 := by simp only [List.length_append, List.length_singleton] at HLL; omega
      clear hc hx hlt HE HLL
      have HBW : Aside (Below wr.heap.size wr (boxA wr x)) := (Below.refl _ _).alloc (Nat.le_refl _) _
      have hown : World.ownsRow (boxA wr x) W0.heap.size 37 2 _ L.length (L.flatMap encW) := HO.out.up HBW.out
      have HS : Aside (W0.heap.size ≤ (boxA wr x).heap.size) := Nat.le_trans hbo.size HBW.out.size
      clear HO
      go_wp2_with (at_builtin; go_loud (refine wpList_append_any _ rfl _ _ 23 rfl W0.heap.size 37 i0 (.agg #[.int .i64 0, .slice none 0 0]) 2 32 Tryz.underlying23 hi hz0 hz1 hz2 rfl (by decide) _ _ _ rfl (hown.alloc _) (some ⟨_, 0, none⟩) 1 1 (encW x.w) rfl ⟨rfl, fun _ => ⟨_, rfl, two_at (by simp)⟩⟩ (oneW1 x.w) (by unfold maxLen; omega) (by omega) (Nat.le_trans HS.out (by simp)) ?_; intro v' w3 hown3 hgrow3 hat3))
      go_roundg g
      case measure => omega
      case rel =>
        refine ⟨k + 1, _, by omega, by simp, HE2.out, RowW.snoc rfl hown3, ?_⟩
        have hb1 : Below W0.heap.size W0 (boxA wr x) := hbo.trans (HBW.out.mono hbo.size)
        exact (hb1.alloc hb1.size _).grown hgrow3 (Nat.le_trans hb1.size (by simp)) (fun q h => (hown.lt q h).1)
    | zero =>
      have hkz : ¬ (k : Int) < (n.assigns.length : Int) := by omega
      have HE2 : Aside (L ++ (n.words ++ (n.redirs.map (·.w) ++ n.items.flatMap (·.1.pats))) = wordsT n) := by have h := HE.out; rw [List.drop_eq_nil_of_le (by omega)] at h; exact h
      have HLL := HW.out _ _ HE2.out
      have hLL : L.length + n.words.length ≤ 1048576 := by simp only [List.length_append] at HLL; omega
      obtain ⟨q5, q6, q8⟩ := HQ.out wr hbo
      have HRW : Aside (RdS 2 encW wr n.wh.1 n.words) := HP.out.1.up hwb
      have hown : World.ownsRow wr W0.heap.size 37 2 _ L.length (L.flatMap encW) := HO.out
      have HS : Aside (W0.heap.size ≤ wr.heap.size) := hbo.size
      clear HE HLL HO
      go_wp2_with (at_builtin; go_loud (refine wpList_append_any _ rfl _ _ 23 rfl W0.heap.size 37 i0 (.agg #[.int .i64 0, .slice none 0 0]) 2 32 Tryz.underlying23 hi hz0 hz1 hz2 rfl (by decide) _ _ _ rfl hown n.wh.1 n.words.length n.wh.2 (n.words.flatMap encW) rfl (reads_of lenW (by decide) rfl HRW.out) (oneW _) (by unfold maxLen; omega) (by omega) HS.out ?_; intro v2 w2 hown2 hgrow2 hat2); have hb2 : Below W0.heap.size W0 w2 := hbo.grown hgrow2 hbo.size (fun q h => (hown.lt q h).1); obtain ⟨y5, y6, y8⟩ := HQ.out w2 hb2)
      go_loopg [3, 30] n.redirs.length (fun g so si wx => ∃ (k : Nat) (L : List WordT), k + g = n.redirs.length ∧ si = .int .i64 k ∧ Aside (L ++ ((n.redirs.drop k).map (·.w) ++ n.items.flatMap (·.1.pats)) = wordsT n) ∧ Aside (RowW W0.heap.size so L wx) ∧ Below W0.heap.size W0 wx)
      case atStart => exact ⟨0, L ++ n.words, by omega, rfl, by have := HE2.out; show _ = _; rw [← this]; simp, RowW.app rfl hown2, hb2⟩
      case round =>
        clear q5 q6 q8 y5 y6 y8 hwb hbo hkz hkg hown HS hown2 hgrow2 hat2 HRW hLL HE2 hb2
        obtain ⟨k, L, hkg, rfl, HE, HO, hbo⟩ := hrel
        have hwb : Below w.heap.size w wr := HB0.out.trans (hbo.mono HB0.out.size)
        cases gk with
        | succ g =>
          have hkz : (k : Int) < (n.redirs.length : Int) := by omega
          have hk63 : (k : Int) + 1 ≤ 9223372036854775807 := by omega
          obtain ⟨x, hx⟩ : ∃ x, n.redirs[k]? = some x := ⟨_, List.getElem?_eq_getElem (by omega)⟩
          obtain ⟨b, o, rfl, hlt, hc⟩ := (HR.out.up hwb) k x hx
          have c0 : wr.cell? ⟨b, o + k * 5, none⟩ = some (.int .i64 x.pos) := hc 0 _ rfl
          have c1 : wr.cell? ⟨b, o + k * 5 + 1, none⟩ = some (.int .i64 x.fd) := hc 1 _ rfl
          have c2 : wr.cell? ⟨b, o + k * 5 + 2, none⟩ = some (.int .i64 x.op) := hc 2 _ rfl
          have c3 : wr.cell? ⟨b, o + k * 5 + 3, none⟩ = some (.int .i64 x.w.pos) := hc 3 _ rfl
          have c4 : wr.cell? ⟨b, o + k * 5 + 4, none⟩ = some (.slice x.w.h.1 x.w.parts.length x.w.h.2) := hc 4 _ rfl
          have HE2 : Aside ((L ++ [x.w]) ++ ((n.redirs.drop (k + 1)).map (·.w) ++ n.items.flatMap (·.1.pats)) = wordsT n) := by have h := HE.out; rw [Lib.drop_at hx] at h; show _ = _; rw [← h]; simp
          have HLL := HW.out _ _ HE2.out
          have hLL : L.length + 1 ≤ 1048576 := by simp only [List.length_append, List.length_singleton] at HLL; omega
          clear hc hx hlt HE HLL
          have HBW : Aside (Below wr.heap.size wr (boxR wr x)) := (Below.refl _ _).alloc (Nat.le_refl _) _
          have hown : World.ownsRow (boxR wr x) W0.heap.size 37 2 _ L.length (L.flatMap encW) := HO.out.up HBW.out
          have HS : Aside (W0.heap.size ≤ (boxR wr x).heap.size) := Nat.le_trans hbo.size HBW.out.size
          clear HO
          go_wp2_with (at_builtin; go_loud (refine wpList_append_any _ rfl _ _ 23 rfl W0.heap.size 37 i0 (.agg #[.int .i64 0, .slice none 0 0]) 2 32 Tryz.underlying23 hi hz0 hz1 hz2 rfl (by decide) _ _ _ rfl (hown.alloc _) (some ⟨_, 0, none⟩) 1 1 (encW x.w) rfl ⟨rfl, fun _ => ⟨_, rfl, two_at (by simp)⟩⟩ (oneW1 x.w) (by unfold maxLen; omega) (by omega) (Nat.le_trans HS.out (by simp)) ?_; intro v' w3 hown3 hgrow3 hat3))
          go_roundg g
          case measure => omega
          case rel =>
            refine ⟨k + 1, _, by omega, by simp, HE2.out, RowW.snoc rfl hown3, ?_⟩
            have hb1 : Below W0.heap.size W0 (boxR wr x) := hbo.trans (HBW.out.mono hbo.size)
            exact (hb1.alloc hb1.size _).grown hgrow3 (Nat.le_trans hb1.size (by simp)) (fun q h => (hown.lt q h).1)
        | zero =>
          have hkz : ¬ (k : Int) < (n.redirs.length : Int) := by omega
          have HE2 : Aside (L ++ n.items.flatMap (·.1.pats) = wordsT n) := by have h := HE.out; rw [List.drop_eq_nil_of_le (by omega)] at h; exact h
          obtain ⟨q5, q6, q8⟩ := HQ.out wr hbo
          clear HE
          go_wp2
          go_loopg [3, 43] n.items.length (fun g so si wx => ∃ (k : Nat) (L : List WordT), k + g = n.items.length ∧ si = .int .i64 k ∧ Aside (L ++ (n.items.drop k).flatMap (·.1.pats) = wordsT n) ∧ Aside (RowW W0.heap.size so L wx) ∧ Below W0.heap.size W0 wx)
          case atStart => exact ⟨0, L, by omega, rfl, HE2.out, HO.out, hbo⟩
          case round =>
            clear q5 q6 q8 hwb hbo hkz hkg HO HE2
            obtain ⟨k, L, hkg, rfl, HE, HO, hbo⟩ := hrel
            have hwb : Below w.heap.size w wr := HB0.out.trans (hbo.mono HB0.out.size)
            cases gk with
            | succ g =>
              have hkz : (k : Int) < (n.items.length : Int) := by omega
              have hk63 : (k : Int) + 1 ≤ 9223372036854775807 := by omega
              obtain ⟨x, hx⟩ : ∃ x, n.items[k]? = some x := ⟨_, List.getElem?_eq_getElem (by omega)⟩
              obtain ⟨b, o, rfl, hlt, hc⟩ := (HI.out.up hwb) k x hx
              have c0 : wr.cell? ⟨b, o + k * 2, none⟩ = some (.slice x.1.ph.1 x.1.pats.length x.1.ph.2) := hc 0 _ rfl
              have c1 : wr.cell? ⟨b, o + k * 2 + 1, none⟩ = some (.slice x.1.bh.1 x.2.length x.1.bh.2) := hc 1 _ rfl
              have HE2 : Aside ((L ++ x.1.pats) ++ (n.items.drop (k + 1)).flatMap (·.1.pats) = wordsT n) := by have h := HE.out; rw [Lib.drop_at hx] at h; show _ = _; rw [← h]; simp
              have HLL := HW.out _ _ HE2.out
              have hLL : L.length + x.1.pats.length ≤ 1048576 := by simp only [List.length_append] at HLL; omega
              have HRP := HP.out.2 x (List.mem_of_getElem? hx)
              clear hc hx hlt HE HLL
              have HBW : Aside (Below wr.heap.size wr (boxI wr x)) := (Below.refl _ _).alloc (Nat.le_refl _) _
              have HRW : Aside (RdS 2 encW (boxI wr x) x.1.ph.1 x.1.pats) := (HRP.up hwb).up HBW.out
              have hown : World.ownsRow (boxI wr x) W0.heap.size 37 2 _ L.length (L.flatMap encW) := HO.out.up HBW.out
              have HS : Aside (W0.heap.size ≤ (boxI wr x).heap.size) := Nat.le_trans hbo.size HBW.out.size
              clear HRP HO
              go_wp2_with (at_builtin; go_loud (refine wpList_append_any _ rfl _ _ 23 rfl W0.heap.size 37 i0 (.agg #[.int .i64 0, .slice none 0 0]) 2 32 Tryz.underlying23 hi hz0 hz1 hz2 rfl (by decide) _ _ _ rfl hown x.1.ph.1 x.1.pats.length x.1.ph.2 (x.1.pats.flatMap encW) rfl (reads_of lenW (by decide) rfl HRW.out) (oneW _) (by unfold maxLen; omega) (by omega) HS.out ?_; intro v2 w2 hown2 hgrow2 hat2))
              go_roundg g
              case measure => omega
              case rel =>
                have hb1 : Below W0.heap.size W0 (boxI wr x) := hbo.trans (HBW.out.mono hbo.size)
                exact ⟨k + 1, _, by omega, by simp, HE2.out, RowW.app rfl hown2, hb1.grown hgrow2 hb1.size (fun q h => (hown.lt q h).1)⟩
            | zero =>
              have hkz : ¬ (k : Int) < (n.items.length : Int) := by omega
              have HE2 : Aside (L = wordsT n) := by have h := HE.out; rw [List.drop_eq_nil_of_le (by omega)] at h; show _ = _; simpa using h
              obtain ⟨a, c, rfl, hrd, hbk⟩ := rdS_of_row lenW rfl HO.out
              have HRR : Aside (RdS 2 encW wr a L ∧ ∀ ad, a = some ad → w.heap.size ≤ ad.block) := ⟨hrd, fun ad h => Nat.le_trans HB0.out.size (hbk ad h)⟩
              clear hrd HE hbk
              go_wp2
              go_ret
              exact ⟨a, _, c, rfl, by rw [← HE2.out]; exact ⟨rfl, HRR.out⟩, hwb⟩
theorem pwords_calls (n : NodeT) (w : World) (hd : DeepN w n) (hs : (wordsT n).length ≤ 1048576) (hi8 : n.items.length ≤ 1048576) : Calls Tryz.prog 24 #[nodeV n] w (WordsQ n w) := by
  have hd2 := hd
  obtain ⟨n, ha, hw, hr, _, _, hi, hip, _, _, _⟩ := hd2
  exact pwords_core n n.ah.1 n.rh.1 n.ih.1 n.ah.2 n.rh.2 n.ih.2 w ha.rd hw.rd hr.rd hi (fun i hi => (hip i hi).rd) hs hi8
end Go.Proofs.YtfdhkchglacccaaGreatDoor
