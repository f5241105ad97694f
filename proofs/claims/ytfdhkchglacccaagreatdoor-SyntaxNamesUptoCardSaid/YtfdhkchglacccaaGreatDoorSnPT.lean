/- The program: the literal value of parts. No statement is proved here. -/
import Derived.Test.YtfdhkchglacccaaGreatDoorSnLayB
import Derived.Test.YtfdhkchglacccaaGreatDoorSnPS
import Derived.Test.YtfdhkchglacccaaGreatDoorSnNS
import Derived.Test.YtfdhkchglacccaaGreatDoorSnPE
set_option linter.all false
/-! words.Literal -/
namespace Go.Proofs.YtfdhkchglacccaaGreatDoor
open Go Go.RowKit Go.Mir Go.Syn
set_option maxHeartbeats 1000000
set_option maxRecDepth 100000
/-- a builder of the call's own that holds bytes -/
def BldI (B b : Nat) (l : List UInt8) (w : World) : Prop := Lib.IsBuilder 121 5 B b (Lib.byteCells l) w
theorem BldI.up {B b : Nat} {l : List UInt8} {w w' : World} (h : BldI B b l w) (hb : Below w.heap.size w w') : BldI B b l w' := by
  have k : ∀ p, Lib.BuilderAt 121 5 B b p (Lib.byteCells l) w → Lib.BuilderAt 121 5 B b p (Lib.byteCells l) w' := fun p ⟨h1, v, h2, h3, h4⟩ => ⟨h1, v, (hb.block _ (lt_of_block h2)).trans h2, own_up h3 hb, h4⟩
  exact h.imp (k _) (k _)
theorem bwr_calls (B b : Nat) (l t : List UInt8) (w : World) (h : BldI B b l w) (hl : l.length + t.length ≤ 1048576) (hB : B ≤ w.heap.size) :
    Calls Tryz.prog 94 #[.pointer (some ⟨b, 0, none⟩), .string ⟨t.toArray⟩] w fun e w' => e = .returned (.tuple #[.int .i64 t.length, .nilIface]) ∧ Aside (BldI B b (l ++ t) w') ∧ Below B w w' := by
  have c := Any.Builder_WriteString Tryz.bwr Tryz.bwrX B b (Lib.byteCells l) ⟨t.toArray⟩ w h (by simp [Lib.byteCells_length, ByteArray.size]; omega) hB
  refine Calls.mono (show Calls Tryz.prog 94 #[.pointer (some ⟨b, 0, none⟩), .string ⟨t.toArray⟩] w _ from c) ?_
  rintro e w' ⟨h1, h2, h3⟩
  refine ⟨by rw [h1]; simp [ByteArray.size], ?_, h3⟩
  have e : Lib.byteCells l ++ Lib.strCells ⟨t.toArray⟩ = Lib.byteCells (l ++ t) := by rw [Lib.byteCells_append]; rfl
  rw [e] at h2
  exact .inr h2
theorem bst_calls (B b : Nat) (l : List UInt8) (w : World) (h : BldI B b l w) (hB : B ≤ w.heap.size) :
    Calls Tryz.prog 95 #[.pointer (some ⟨b, 0, none⟩)] w fun e w' => e = .returned (.string ⟨l.toArray⟩) ∧ Below B w w' := Any.Builder_String_any Tryz.bst Tryz.bstX B b l w h hB
noncomputable abbrev boxH (w : World) (x : PartT) (XA : Option Addr) : World := w.alloc (.cells #[.int .i64 x.kind, .string ⟨x.text.toArray⟩, .int .i64 x.op, .bool x.colon, .slice XA x.parts.length x.h.2] 56)
theorem boxH_in {w W : World} {x : PartT} {XA : Option Addr} (h : Below (boxH w x XA).heap.size (boxH w x XA) W) : W.cell? ⟨w.heap.size, 0, none⟩ = some (.int .i64 x.kind) ∧ W.cell? ⟨w.heap.size, 1, none⟩ = some (.string ⟨x.text.toArray⟩) ∧ W.cell? ⟨w.heap.size, 4, none⟩ = some (.slice XA x.parts.length x.h.2) := by
  have hl1 : w.heap.size < (boxH w x XA).heap.size := by simp
  refine ⟨?_, ?_, ?_⟩
  all_goals exact (h.cell (p := ⟨w.heap.size, _, none⟩) hl1).trans (by simp)
theorem bld_new (w : World) : BldI w.heap.size w.heap.size [] (w.alloc (.cells #[.pointer none, .slice none 0 0] 121)) := .inl ⟨Nat.le_refl _, .slice none 0 0, heap_alloc_new w _, World.ownsRow_nil _ _ _ _, by simp [Value.ownBlock]⟩
theorem plitp_calls (l : List PartT) (A : Option Addr) (cap : Nat) (w : World) (hs : szPs l ≤ 1048576) (hd : DeepP w (A, cap) l) :
    Calls Tryz.prog 68 #[.slice A l.length cap] w fun e w' => e = .returned (optV (litP l)) ∧ Below w.heap.size w w' := by
  obtain ⟨sz, hsz0⟩ : ∃ n, n = l.length := ⟨_, rfl⟩
  have HL : Aside (sz = l.length ∧ RdS 5 encP w A l ∧ szPs l ≤ 1048576 ∧ ∀ p ∈ l, DeepP w p.h p.parts) := by
    obtain ⟨_, _, h1, h2⟩ := hd
    exact ⟨hsz0, h1, hs, h2⟩
  have hl : sz ≤ 1048576 := by rw [hsz0]; have := szPs_len l; omega
  rw [← hsz0]
  clear hsz0 hd hs
  obtain ⟨R, hR0⟩ : ∃ R, R = litP l := ⟨_, rfl⟩
  rw [← hR0]
  have HR : Aside ((litP l).map (([] : List UInt8) ++ ·) = R) := by show _ = _; rw [hR0]; cases litP l <;> rfl
  clear hR0
  have hB0 : Below w.heap.size w (w.alloc (.cells #[.pointer none, .slice none 0 0] 121)) := (Below.refl _ _).alloc (Nat.le_refl _) _
  have hbl := bld_new w
  have HB : Aside (BldI w.heap.size w.heap.size [] (w.alloc (.cells #[.pointer none, .slice none 0 0] 121)) ∧ Below w.heap.size w (w.alloc (.cells #[.pointer none, .slice none 0 0] 121))) := ⟨hbl, hB0⟩
  clear hbl hB0
  go_enter Tryz.func68, Tryz.ntmps68
  go_wp2
  go_loopg [11] sz (fun g si wx => ∃ (k : Nat) (pre : List UInt8), k + g = sz ∧ si = .int .i64 k ∧ Aside ((litP (l.drop k)).map (pre ++ ·) = R ∧ pre.length + szPs (l.drop k) ≤ 1048576) ∧ Aside (BldI w.heap.size w.heap.size pre wx) ∧ Below w.heap.size w wx)
  case atStart => exact ⟨0, [], by omega, rfl, ⟨HR.out, by have := HL.out.2.2.1; simpa using this⟩, HB.out.1, HB.out.2⟩
  case round =>
    obtain ⟨k, pre, hkg, rfl, HI, HQ, hwb⟩ := hrel
    cases gk with
    | zero =>
      have hkz : ¬ (k : Int) < (sz : Int) := by omega
      have ha : Aside (some pre = R) := by show _ = _; rw [← HI.out.1, List.drop_eq_nil_of_le (by have := HL.out.1; omega)]; simp [litP]
      have cs := bst_calls w.heap.size w.heap.size pre wr HQ.out hwb.size
      go_wp2_with (go_at_call 95; refine cs.mono ?_; rintro e w2 ⟨rfl, hb2⟩)
      go_ret2
      exact ⟨by rw [← ha.out]; rfl, hwb.trans hb2⟩
    | succ g =>
      have hkz : (k : Int) < (sz : Int) := by omega
      have hk63 : (k : Int) + 1 ≤ 9223372036854775807 := by omega
      obtain ⟨x, hx⟩ : ∃ x, l[k]? = some x := ⟨_, List.getElem?_eq_getElem (by have := HL.out.1; omega)⟩
      have hdrop : Aside (l.drop k = x :: l.drop (k + 1)) := Lib.drop_at hx
      obtain ⟨XA, hXA⟩ : ∃ a, a = x.h.1 := ⟨_, rfl⟩
      obtain ⟨b, o, rfl, hlt, hc⟩ := (HL.out.2.1.up hwb) k x hx
      have c0 : wr.cell? ⟨b, o + k * 5, none⟩ = some (.int .i64 x.kind) := hc 0 _ rfl
      have c1 : wr.cell? ⟨b, o + k * 5 + 1, none⟩ = some (.string ⟨x.text.toArray⟩) := hc 1 _ rfl
      have c2 : wr.cell? ⟨b, o + k * 5 + 2, none⟩ = some (.int .i64 x.op) := hc 2 _ rfl
      have c3 : wr.cell? ⟨b, o + k * 5 + 3, none⟩ = some (.bool x.colon) := hc 3 _ rfl
      have c4 : wr.cell? ⟨b, o + k * 5 + 4, none⟩ = some (.slice XA x.parts.length x.h.2) := by rw [hXA]; exact hc 4 _ rfl
      have HX : Aside (szPs x.parts ≤ 1048576 ∧ RdS 5 encP w XA x.parts) := ⟨by have := szPs_kid (List.mem_of_getElem? hx); have := HL.out.2.2.1; omega, by rw [hXA]; exact rd_parts (HL.out.2.2.2 x (List.mem_of_getElem? hx))⟩
      have HBX : Aside (Below wr.heap.size wr (boxH wr x XA)) := (Below.refl _ _).alloc (Nat.le_refl _) _
      obtain ⟨z0, z1, z4⟩ := boxH_in (Below.refl (boxH wr x XA).heap.size (boxH wr x XA))
      have HQX : Aside (BldI w.heap.size w.heap.size pre (boxH wr x XA) ∧ Below w.heap.size w (boxH wr x XA)) := ⟨HQ.out.up HBX.out, hwb.trans (HBX.out.mono hwb.size)⟩
      clear hc hx hlt hXA
      have hsz : Aside (pre.length + (x.text.length + 1 + szPs x.parts + szPs (l.drop (k + 1))) ≤ 1048576) := by have h1 := HI.out.2; rw [hdrop.out] at h1; have h2 : szPs (x :: l.drop (k + 1)) = szP x + szPs (l.drop (k + 1)) := rfl; rw [h2, szP_eq] at h1; exact h1
      have cw := bwr_calls w.heap.size w.heap.size pre x.text (boxH wr x XA) HQX.out.1 (by have := hsz.out; omega) HQX.out.2.size
      by_cases h12 : x.kind = 1 ∨ x.kind = 2
      · have X : Aside ((litP (l.drop (k + 1))).map ((pre ++ x.text) ++ ·) = R) := by
          show _ = _
          rw [← HI.out.1, hdrop.out, litP, if_pos h12, Option.map_map]
          congr 1
          funext y
          simp
        rcases h12 with h | h
        · have h1 : (x.kind == 1) = true := by rw [h]; rfl
          clear h
          go_wp2_with (go_at_call 94; refine cw.mono ?_; rintro e w2 ⟨rfl, H2, hb2⟩)
          go_roundg g
          case measure => omega
          case rel => exact ⟨k + 1, pre ++ x.text, by omega, by simp, ⟨X.out, by have := hsz.out; rw [List.length_append]; omega⟩, H2.out, HQX.out.2.trans hb2⟩
        · have h1 : (x.kind == 1) = false := by rw [h]; rfl
          have h2 : (x.kind == 2) = true := by rw [h]; rfl
          clear h
          go_wp2_with (go_at_call 94; refine cw.mono ?_; rintro e w2 ⟨rfl, H2, hb2⟩)
          go_roundg g
          case measure => omega
          case rel => exact ⟨k + 1, pre ++ x.text, by omega, by simp, ⟨X.out, by have := hsz.out; rw [List.length_append]; omega⟩, H2.out, HQX.out.2.trans hb2⟩
      · have h1 : (x.kind == 1) = false := by simpa using fun h => h12 (.inl h)
        have h2 : (x.kind == 2) = false := by simpa using fun h => h12 (.inr h)
        by_cases h3e : x.kind = 3
        · have h3 : (x.kind == 3) = true := by rw [h3e]; rfl
          have HP : Aside (litP (l.drop k) = if x.parts.all (fun q => decide (q.kind = 1)) = true then (litP (l.drop (k + 1))).map (x.parts.flatMap (·.text) ++ ·) else none) := by
            show _ = _
            rw [hdrop.out, litP, if_neg h12, if_pos h3e]
          have hpl : x.parts.length ≤ 1048576 := Nat.le_trans (szPs_len _) HX.out.1
          clear h12 h3e cw
          go_wp2
          go_loopg [28] x.parts.length (fun g sj wx => ∃ (j : Nat) (pr : List UInt8), j + g = x.parts.length ∧ sj = .int .i64 j ∧ Aside (pr = pre ++ (x.parts.take j).flatMap (·.text) ∧ (x.parts.take j).all (fun q => decide (q.kind = 1)) = true ∧ pr.length + szPs (x.parts.drop j) + szPs (l.drop (k + 1)) ≤ 1048576) ∧ Aside (BldI w.heap.size w.heap.size pr wx) ∧ Below w.heap.size w wx)
          case atStart => exact ⟨0, pre, by omega, rfl, ⟨by simp, by simp, by have := hsz.out; simp only [List.drop_zero]; omega⟩, HQX.out.1, HQX.out.2⟩
          case round =>
            clear z0 z1 z4 c0 c1 c2 c3 c4 hwb HQ HQX HBX
            obtain ⟨j, pr, hjg, rfl, HJ, HQ, hwb⟩ := hrel
            cases gk with
            | zero =>
              have hjz : ¬ (j : Int) < (x.parts.length : Int) := by omega
              have HF : Aside ((litP (l.drop (k + 1))).map (pr ++ ·) = R ∧ pr.length + szPs (l.drop (k + 1)) ≤ 1048576) := by
                have h1 := HJ.out
                rw [List.take_of_length_le (by omega)] at h1
                refine ⟨?_, by have := h1.2.2; omega⟩
                rw [← HI.out.1, HP.out, if_pos h1.2.1, h1.1, Option.map_map]
                congr 1
                funext y
                simp
              go_wp2
              go_roundg g
              case measure => omega
              case rel => exact ⟨k + 1, pr, by omega, by simp, HF.out, HQ.out, hwb⟩
            | succ g2 =>
              have hjz : (j : Int) < (x.parts.length : Int) := by omega
              have hj63 : (j : Int) + 1 ≤ 9223372036854775807 := by omega
              obtain ⟨y, hy⟩ : ∃ y, x.parts[j]? = some y := ⟨_, List.getElem?_eq_getElem (by omega)⟩
              obtain ⟨b2, o2, rfl, hlt, hc⟩ := (HX.out.2.up hwb) j y hy
              have c0 : wr.cell? ⟨b2, o2 + j * 5, none⟩ = some (.int .i64 y.kind) := hc 0 _ rfl
              have c1 : wr.cell? ⟨b2, o2 + j * 5 + 1, none⟩ = some (.string ⟨y.text.toArray⟩) := hc 1 _ rfl
              have c2 : wr.cell? ⟨b2, o2 + j * 5 + 2, none⟩ = some (.int .i64 y.op) := hc 2 _ rfl
              have c3 : wr.cell? ⟨b2, o2 + j * 5 + 3, none⟩ = some (.bool y.colon) := hc 3 _ rfl
              have c4 : wr.cell? ⟨b2, o2 + j * 5 + 4, none⟩ = some (.slice y.h.1 y.parts.length y.h.2) := hc 4 _ rfl
              have htk : x.parts.take (j + 1) = x.parts.take j ++ [y] := by rw [List.take_add_one, hy]; rfl
              have hdr : Aside (x.parts.drop j = y :: x.parts.drop (j + 1)) := Lib.drop_at hy
              have HJ2 : Aside (pr.length + (y.text.length + 1 + szPs y.parts + szPs (x.parts.drop (j + 1))) + szPs (l.drop (k + 1)) ≤ 1048576) := by have h1 := HJ.out.2.2; rw [hdr.out] at h1; have h2 : szPs (y :: x.parts.drop (j + 1)) = szP y + szPs (x.parts.drop (j + 1)) := rfl; rw [h2, szP_eq] at h1; exact h1
              have hall : Aside (x.parts.all (fun q => decide (q.kind = 1)) = true → y.kind = 1) := fun h => by simpa using List.all_eq_true.1 h y (List.mem_of_getElem? hy)
              have HTK : Aside (x.parts.take (j + 1) = x.parts.take j ++ [y]) := htk
              have HBX : Aside (Below wr.heap.size wr (boxP wr y)) := (Below.refl _ _).alloc (Nat.le_refl _) _
              obtain ⟨z0, z1, z2, z3, z4⟩ := boxP_in (Below.refl (boxP wr y).heap.size (boxP wr y))
              have HQX : Aside (BldI w.heap.size w.heap.size pr (boxP wr y) ∧ Below w.heap.size w (boxP wr y)) := ⟨HQ.out.up HBX.out, hwb.trans (HBX.out.mono hwb.size)⟩
              have cw := bwr_calls w.heap.size w.heap.size pr y.text (boxP wr y) HQX.out.1 (by have := HJ2.out; omega) HQX.out.2.size
              clear hc hlt htk hy
              by_cases hyk : y.kind = 1
              · have hk1 : (y.kind != 1) = false := by rw [hyk]; rfl
                have X : Aside (pr ++ y.text = pre ++ (x.parts.take (j + 1)).flatMap (·.text) ∧ (x.parts.take (j + 1)).all (fun q => decide (q.kind = 1)) = true ∧ (pr ++ y.text).length + szPs (x.parts.drop (j + 1)) + szPs (l.drop (k + 1)) ≤ 1048576) := by
                  rw [HTK.out]
                  refine ⟨?_, ?_, ?_⟩
                  · rw [HJ.out.1]; simp [List.flatMap_append]
                  · rw [List.all_append, HJ.out.2.1]; simp [hyk]
                  · have := HJ2.out; rw [List.length_append]; omega
                clear hyk
                go_wp2_with (go_at_call 94; refine cw.mono ?_; rintro e w2 ⟨rfl, H2, hb2⟩)
                go_roundg g2
                case measure => omega
                case rel => exact ⟨j + 1, pr ++ y.text, by omega, by simp, X.out, H2.out, HQX.out.2.trans hb2⟩
              · have hk1 : (y.kind != 1) = true := by simpa using hyk
                have HF : Aside (R = none) := by
                  show _ = _
                  rw [← HI.out.1, HP.out, if_neg (fun h => hyk (hall.out h))]; rfl
                clear hyk cw
                go_wp2
                go_ret2
                exact ⟨by rw [HF.out]; rfl, HQX.out.2⟩
        · have h3 : (x.kind == 3) = false := by simpa using h3e
          have HF : Aside (R = none) := by
            show _ = _
            rw [← HI.out.1, hdrop.out, litP, if_neg h12, if_neg h3e]; rfl
          clear h12 h3e cw
          go_wp2
          go_ret2
          exact ⟨by rw [HF.out]; rfl, HQX.out.2⟩
end Go.Proofs.YtfdhkchglacccaaGreatDoor
