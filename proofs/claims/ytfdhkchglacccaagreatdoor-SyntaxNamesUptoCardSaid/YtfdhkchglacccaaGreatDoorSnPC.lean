/- The program: calculated. No statement is proved here. -/
import Derived.Test.YtfdhkchglacccaaGreatDoorSnPC0
import Derived.Test.YtfdhkchglacccaaGreatDoorSnPA
import Derived.Test.YtfdhkchglacccaaGreatDoorSnLayF
import Derived.Test.YtfdhkchglacccaaGreatDoorSnFB
import Derived.KernelRfl
import Derived.Test.YtfdhkchglacccaaGreatDoorSnNN
set_option linter.all false
/-! strings.Contains, the rune predicate, strings.FieldsFunc, calculated -/
namespace Go.Proofs.YtfdhkchglacccaaGreatDoor
open Go Go.RowKit Go.Maps Go.Mir Go.Shelf Go.Sort Go.Syn Go.Lib
set_option maxHeartbeats 1000000
set_option maxRecDepth 100000
theorem contains_ix (t : List UInt8) : decide (0 ≤ Lib.indexByte t 61) = t.contains 61 := by
  induction t with
  | nil => rfl
  | cons b l ih =>
    by_cases hb : b = 61
    · subst hb
      simp [Lib.indexByte]
    · have h1 : (b :: l).contains 61 = l.contains 61 := by
        rw [List.contains_cons]
        have : ((61 : UInt8) == b) = false := by simpa using (fun h => hb h.symm)
        rw [this]; rfl
      rw [h1, ← ih]
      have h2 : (b == 61) = false := by simpa using hb
      rw [show Lib.indexByte (b :: l) 61 = if Lib.indexByte l 61 == -1 then -1 else Lib.indexByte l 61 + 1 by simp only [Lib.indexByte, h2, Bool.false_eq_true, if_false]]
      by_cases h3 : Lib.indexByte l 61 = -1
      · rw [h3]; rfl
      · rw [if_neg (by simpa using h3)]
        rw [Bool.eq_iff_iff]
        simp only [decide_eq_true_eq]
        omega
theorem index93 (t : List UInt8) (w : World) : Calls Tryz.prog 93 #[.string ⟨t.toArray⟩, .string ⟨#[61]⟩] w fun e w' => e = .returned (.int .i64 (Lib.indexByte t 61)) ∧ w = w' := by
  have c := ix_calls t w
  go_enter Tryz.func93, Tryz.ntmps93
  go_wp2_with (go_at_call 119; refine c.mono ?_; rintro e w' ⟨rfl, rfl⟩)
  go_ret
  exact ⟨rfl, rfl⟩
theorem contains_calls (t : List UInt8) (w : World) : Calls Tryz.prog 64 #[.string ⟨t.toArray⟩, .string ⟨#[61]⟩] w fun e w' => e = .returned (.bool (t.contains 61)) ∧ w = w' := by
  have c := index93 t w
  have h := contains_ix t
  obtain ⟨k, hk⟩ : ∃ k, k = Lib.indexByte t 61 := ⟨_, rfl⟩
  rw [← hk] at c h
  rw [← h]
  clear hk h
  cases hd : decide (0 ≤ k) with
  | true =>
    have h1 : (0 : Int) ≤ k := of_decide_eq_true hd
    clear hd
    go_enter Tryz.func64, Tryz.ntmps64
    go_wp2_with (go_at_call 93; refine c.mono ?_; rintro e w' ⟨rfl, rfl⟩)
    go_ret
    first | exact ⟨rfl, rfl⟩ | (refine ⟨?_, rfl⟩; simp [h1])
  | false =>
    have h1 : ¬ (0 : Int) ≤ k := of_decide_eq_false hd
    clear hd
    go_enter Tryz.func64, Tryz.ntmps64
    go_wp2_with (go_at_call 93; refine c.mono ?_; rintro e w' ⟨rfl, rfl⟩)
    go_ret
    first | exact ⟨rfl, rfl⟩ | (refine ⟨?_, rfl⟩; simp [h1])
theorem info117 : (Tryz.prog.info? 117).map (fun i => (i.zero, i.size, i.bytes)) = some (some (.agg #[.int .i64 0, .int .i64 0]), 2, 16) := by kernel_rfl
theorem fields_calls (t : List UInt8) (w : World) (ht : t.length ≤ 1048576) : Calls Tryz.prog 65 #[.string ⟨t.toArray⟩, .func (.func 66) #[] #[]] w fun e w' => ∃ A, e = .returned (.slice (some ⟨A, 0, none⟩) (runsT t).length (runsT t).length) ∧ w.heap.size ≤ A ∧ A < w'.heap.size ∧ Aside (RdS 1 encS w' (some ⟨A, 0, none⟩) (runsT t)) ∧ Below w.heap.size w w' := by
  have h := Any.strings_FieldsFunc_runes Tryz.ffun 66 #[] (enters_of Tryz.func66 (by kernel_rfl) rfl) sepR ⟨t.toArray⟩ w (by simp [ByteArray.size]; omega) (sep_at w) info117 info9
  rw [fields_runs] at h
  refine Calls.mono (show Calls Tryz.prog 65 #[.string ⟨t.toArray⟩, .func (.func 66) #[] #[]] w _ from h) ?_
  rintro e w' ⟨A, h1, h2, h3, h4⟩
  rw [List.length_map] at h1 h3
  refine ⟨A, h1, h2, (h3.lt A rfl).2, ?_, h4⟩
  have h5 : w'.ownsRow w.heap.size 9 1 (.slice (some ⟨A, 0, none⟩) (runsT t).length (runsT t).length) (runsT t).length ((runsT t).flatMap encS) := by
    have e : (runsT t).flatMap encS = (List.map toB (runsT t)).map Value.string := by
      rw [List.map_map, List.flatMap_def]
      induction runsT t with
      | nil => rfl
      | cons x l ih => simp only [List.map_cons, List.flatten_cons, ih]; rfl
    rw [e]; exact h3
  obtain ⟨a, c, hv, hr, _⟩ := rdS_of_row lenS rfl h5
  injection hv with hv _ _
  rw [hv]; exact hr
end Go.Proofs.YtfdhkchglacccaaGreatDoor

/-! calculated -/
namespace Go.Proofs.YtfdhkchglacccaaGreatDoor
open Go Go.RowKit Go.Maps Go.Mir Go.Shelf Go.Sort Go.Syn Go.Lib
set_option maxHeartbeats 1000000
set_option maxRecDepth 100000
/-- what calculated gives -/
def CalcP (L : List (List UInt8)) (a : Bool) (w : World) (e : Ending) (w' : World) : Prop := ∃ (A : Option Addr) (m c : Nat), e = .returned (.tuple #[.slice A m c, .bool a]) ∧ Aside (m = L.length ∧ RdS 1 encS w' A L ∧ ∀ ad, A = some ad → w.heap.size ≤ ad.block) ∧ Below w.heap.size w w'
theorem calcL_len (l : List PartT) : (calcL l).length ≤ szPs l := by have := use_len 0 l; omega
theorem runs_len (t : List UInt8) : (runsT t).length ≤ t.length := runsF_len _ _
theorem calc_calls (p : PartT) (w : World) (hs : szP p ≤ 1048576) (hr0 : RdS 5 encP w p.h.1 p.parts) : Calls Tryz.prog 28 #[partV p] w (CalcP (calcL p.parts) (setL p.parts) w) := by
  obtain ⟨i0, hi, hz0, hz1, hz2⟩ := info_parts info9
  obtain ⟨R, hR0⟩ : ∃ R, R = calcL p.parts := ⟨_, rfl⟩
  obtain ⟨sb, hsb⟩ : ∃ b, b = setL p.parts := ⟨_, rfl⟩
  have hps : szPs p.parts ≤ 1048576 := by rw [szP_eq] at hs; omega
  have HR : Aside (calcL p.parts = R ∧ setL p.parts = sb ∧ R.length ≤ 1048576) := ⟨hR0.symm, hsb.symm, by rw [hR0]; exact Nat.le_trans (calcL_len _) hps⟩
  rw [← hR0, ← hsb]
  have HL : Aside (RdS 5 encP w p.h.1 p.parts ∧ szPs p.parts ≤ 1048576) := ⟨hr0, hps⟩
  have hl : p.parts.length ≤ 1048576 := Nat.le_trans (szPs_len _) hps
  have HBX : Aside (Below w.heap.size w (boxP w p)) := (Below.refl _ _).alloc (Nat.le_refl _) _
  clear hR0 hsb hs hps hr0
  obtain ⟨pkind, ptext, pop, pcolon, ⟨A, cap⟩, parts⟩ := p
  simp only [partV, boxP, PartT.kind, PartT.text, PartT.op, PartT.colon, PartT.h, PartT.parts] at HR HL hl HBX ⊢
  go_enter Tryz.func28, Tryz.ntmps28
  go_wp2
  go_loopg [4, 5, 14] parts.length (fun g sn sa si wx => ∃ (k : Nat) (L1 : List (List UInt8)) (a : Bool), k + g = parts.length ∧ si = .int .i64 k ∧ sa = .bool a ∧ Aside (L1 ++ calcL (parts.drop k) = R ∧ (a || setL (parts.drop k)) = sb) ∧ wx.ownsRow w.heap.size 9 1 sn L1.length (L1.flatMap encS) ∧ Below w.heap.size w wx)
  case atStart => exact ⟨0, [], false, by omega, rfl, rfl, ⟨HR.out.1, by simpa using HR.out.2.1⟩, World.ownsRow_nil _ _ _ _, HBX.out⟩
  case round =>
    obtain ⟨k, L1, a, hkg, rfl, rfl, HI, hro, hbo⟩ := hrel
    cases gk with
    | zero =>
      have hkz : ¬ (k : Int) < (parts.length : Int) := by omega
      have ha : Aside (L1 = R ∧ a = sb) := by
        have h := HI.out
        rw [List.drop_eq_nil_of_le (by omega)] at h
        exact ⟨by simpa [calcL] using h.1, by simpa [setL] using h.2⟩
      go_wp2
      go_ret2
      obtain ⟨A, c, rfl, hrd, hbk⟩ := rdS_of_row lenS rfl hro
      rw [← ha.out.1, ← ha.out.2]
      exact ⟨A, _, c, rfl, ⟨rfl, hrd, hbk⟩, hbo⟩
    | succ g =>
      have hkz : (k : Int) < (parts.length : Int) := by omega
      have hk63 : (k : Int) + 1 ≤ 9223372036854775807 := by omega
      obtain ⟨x, hx⟩ : ∃ x, parts[k]? = some x := ⟨_, List.getElem?_eq_getElem (by omega)⟩
      have hdr : Aside (parts.drop k = x :: parts.drop (k + 1)) := Lib.drop_at hx
      obtain ⟨b1, o1, rfl, hlt, hc⟩ := (HL.out.1.up hbo) k x hx
      have c0 : wr.cell? ⟨b1, o1 + k * 5, none⟩ = some (.int .i64 x.kind) := hc 0 _ rfl
      have c1 : wr.cell? ⟨b1, o1 + k * 5 + 1, none⟩ = some (.string ⟨x.text.toArray⟩) := hc 1 _ rfl
      have c2 : wr.cell? ⟨b1, o1 + k * 5 + 2, none⟩ = some (.int .i64 x.op) := hc 2 _ rfl
      have c3 : wr.cell? ⟨b1, o1 + k * 5 + 3, none⟩ = some (.bool x.colon) := hc 3 _ rfl
      have c4 : wr.cell? ⟨b1, o1 + k * 5 + 4, none⟩ = some (.slice x.h.1 x.parts.length x.h.2) := hc 4 _ rfl
      have hbx : Below wr.heap.size wr (boxP wr x) := (Below.refl _ _).alloc (Nat.le_refl _) _
      have hbo1 : Below w.heap.size w (boxP wr x) := hbo.trans (hbx.mono hbo.size)
      obtain ⟨z0, z1, z2, z3, z4⟩ := boxP_in (Below.refl (boxP wr x).heap.size (boxP wr x))
      have hro1 := hro.alloc (Obj.cells #[.int .i64 x.kind, .string ⟨x.text.toArray⟩, .int .i64 x.op, .bool x.colon, .slice x.h.1 x.parts.length x.h.2] 56)
      have htl : x.text.length ≤ 1048576 := by have := szPs_text (List.mem_of_getElem? hx); have := HL.out.2; omega
      clear hc hx hlt
      by_cases hk : x.kind = 1
      · have hkk : (x.kind != 1) = false := by simpa using hk
        have h6 : L1 ++ ((runsT x.text).filter nameB ++ calcL (parts.drop (k + 1))) = R ∧ ((a || x.text.contains 61) || setL (parts.drop (k + 1))) = sb := by
          have h := HI.out
          rw [hdr.out] at h
          refine ⟨?_, ?_⟩
          · rw [← h.1]
            show _ = L1 ++ ((if x.kind = 1 then nmsT x.text else []) ++ calcL (parts.drop (k + 1)))
            rw [if_pos hk]; rfl
          · rw [← h.2, Bool.or_assoc]
            show _ = (a || ((decide (x.kind = 1) && x.text.contains 61) || setL (parts.drop (k + 1))))
            rw [hk]; simp
        have H6 : Aside _ := h6
        have cc : ∀ W, Calls Tryz.prog 64 #[.string ⟨x.text.toArray⟩, .string ⟨#[61]⟩] W fun e w' => e = .returned (.bool (x.text.contains 61)) ∧ W = w' := fun W => contains_calls x.text W
        have cf := fields_calls x.text (boxP wr x) htl
        have HRL : Aside ((runsT x.text).length ≤ 1048576) := Nat.le_trans (runs_len _) htl
        obtain ⟨a1, ha1⟩ : ∃ b, b = x.text.contains 61 := ⟨_, rfl⟩
        obtain ⟨S, hS⟩ : ∃ S, S = runsT x.text := ⟨_, rfl⟩
        rw [← ha1] at cc
        rw [← ha1, ← hS] at H6
        rw [← hS] at cf HRL
        have hSl : S.length ≤ 1048576 := HRL.out
        clear hk ha1 hS h6 HI hdr htl
        cases a with
        | false =>
          go_wp2_with (first
            | (go_at_call 64; refine (cc _).mono ?_; rintro e w0 ⟨rfl, rfl⟩)
            | (go_at_call 65; refine cf.mono ?_; rintro e w1 ⟨AA, rfl, hA1, hA2, HS, hb1⟩; have hbw1 : Below w.heap.size w w1 := hbo1.trans (hb1.mono hbo1.size)))
          go_loopg [4, 32] S.length (fun g2 sn sj wx => ∃ (j : Nat) (L2 : List (List UInt8)), j + g2 = S.length ∧ sj = .int .i64 j ∧ Aside (L2 ++ ((S.drop j).filter nameB ++ calcL (parts.drop (k + 1))) = R) ∧ wx.ownsRow w.heap.size 9 1 sn L2.length (L2.flatMap encS) ∧ Aside (some AA ≠ sn.ownBlock ∧ AA < wx.heap.size ∧ RdS 1 encS wx (some ⟨AA, 0, none⟩) S) ∧ Below w.heap.size w wx)
          case atStart => exact ⟨0, L1, by omega, rfl, H6.out.1, own_up hro1 hb1, ⟨fun h => Nat.lt_irrefl _ (Nat.lt_of_lt_of_le (hro1.lt AA h.symm).2 hA1), hA2, HS.out⟩, hbw1⟩
          case round =>
            clear z0 z1 z2 z3 z4 hro hbo hbx hro1
            obtain ⟨j, L2, hjg, rfl, HJ, hro, HA, hbw⟩ := hrel
            cases gk with
            | zero =>
              have hjz : ¬ (j : Int) < (S.length : Int) := by omega
              have HJ2 : Aside (L2 ++ calcL (parts.drop (k + 1)) = R) := by have := HJ.out; rw [List.drop_eq_nil_of_le (by omega)] at this; exact this
              go_wp2
              go_roundg g
              case measure => omega
              case rel => exact ⟨k + 1, L2, _, by omega, by simp, rfl, ⟨HJ2.out, H6.out.2⟩, hro, hbw⟩
            | succ g2 =>
              have hjz : (j : Int) < (S.length : Int) := by omega
              have hj63 : (j : Int) + 1 ≤ 9223372036854775807 := by omega
              obtain ⟨y, hy⟩ : ∃ y, S[j]? = some y := ⟨_, List.getElem?_eq_getElem (by omega)⟩
              obtain ⟨bb, oo, hAA, hlt2, hc2⟩ := HA.out.2.2 j y hy
              have hAA2 : AA = bb ∧ 0 = oo := by injection hAA with h; injection h with h1 h2; exact ⟨h1, h2⟩
              obtain ⟨rfl, rfl⟩ := hAA2
              have d0 : wr.cell? ⟨AA, j, none⟩ = some (.string ⟨y.toArray⟩) := by
                have h := hc2 0 _ rfl
                rwa [show 0 + j * 1 + 0 = j by omega] at h
              have hsd : Aside (S.drop j = y :: S.drop (j + 1)) := Lib.drop_at hy
              have cn := name_any y wr
              have hL2 : L2.length ≤ 1048576 := by have := HJ.out; have := HR.out.2.2; rw [← HJ.out] at this; simp only [List.length_append] at this; omega
              clear hAA hlt2 hc2 hy
              cases hn : nameB y with
              | false =>
                have HJ2 : Aside (L2 ++ ((S.drop (j + 1)).filter nameB ++ calcL (parts.drop (k + 1))) = R) := by have := HJ.out; rw [hsd.out, List.filter_cons, hn] at this; exact this
                rw [hn] at cn
                clear hn HJ hsd
                go_wp2_with (go_at_call 27; refine cn.mono ?_; rintro e w2 ⟨rfl, hb2⟩)
                go_roundg g2
                case measure => omega
                case rel => exact ⟨j + 1, L2, by omega, by simp, HJ2.out, own_up hro hb2, ⟨HA.out.1, Nat.lt_of_lt_of_le HA.out.2.1 hb2.size, HA.out.2.2.up hb2⟩, hbw.trans (hb2.mono hbw.size)⟩
              | true =>
                have HJ2 : Aside ((L2 ++ [y]) ++ ((S.drop (j + 1)).filter nameB ++ calcL (parts.drop (k + 1))) = R) := by have := HJ.out; rw [hsd.out, List.filter_cons, hn] at this; show _ = _; rw [← this]; simp
                rw [hn] at cn
                clear hn HJ hsd
                go_wp2_with (first
                  | (go_at_call 27; refine cn.mono ?_; rintro e w2 ⟨rfl, hb2⟩; have hro2 := own_up hro hb2; have hbw2 : Below w.heap.size w w2 := hbw.trans (hb2.mono hbw.size))
                  | (at_builtin; refine wpList_append_any _ rfl _ _ 32 rfl w.heap.size 9 i0 (.string ⟨#[]⟩) 1 16 Tryz.underlying32 hi hz0 hz1 hz2 rfl (by decide) _ _ _ rfl (hro2.alloc _) (some ⟨_, 0, none⟩) 1 1 (encS y) rfl ⟨rfl, fun _ => ⟨_, rfl, cell_one_new _ _ _⟩⟩ (oneS1 y) (by unfold maxLen; omega) (by omega) (Nat.le_trans hbw2.size (by simp)) ?_; intro v3 w3 hown3 hgrow3 hat3))
                go_roundg g2
                case measure => omega
                case rel =>
                  have hlt2 : AA < w2.heap.size := Nat.lt_of_lt_of_le HA.out.2.1 hb2.size
                  refine ⟨j + 1, L2 ++ [y], by omega, by simp, HJ2.out, ?_, ⟨?_, ?_, ?_⟩, ?_⟩
                  · rw [List.flatMap_append]
                    simpa using hown3
                  · rcases hat3 with h | h
                    · rw [h]; exact HA.out.1
                    · rw [h]; intro e; have := Option.some.inj e; simp at this; omega
                  · exact Nat.lt_of_lt_of_le (by simp; omega) hgrow3.size
                  · exact rdS_kept ((HA.out.2.2.up hb2).up ((Below.refl _ _).alloc (Nat.le_refl _) _)) hgrow3 (fun ad h => by cases h; exact HA.out.1)
                  · exact (hbw2.alloc hbw2.size _).grown hgrow3 (Nat.le_trans hbw2.size (by simp)) (fun q h => (hro2.lt q h).1)
        | true =>
          go_wp2_with (first
            | (go_at_call 64; refine (cc _).mono ?_; rintro e w0 ⟨rfl, rfl⟩)
            | (go_at_call 65; refine cf.mono ?_; rintro e w1 ⟨AA, rfl, hA1, hA2, HS, hb1⟩; have hbw1 : Below w.heap.size w w1 := hbo1.trans (hb1.mono hbo1.size)))
          go_loopg [4, 32] S.length (fun g2 sn sj wx => ∃ (j : Nat) (L2 : List (List UInt8)), j + g2 = S.length ∧ sj = .int .i64 j ∧ Aside (L2 ++ ((S.drop j).filter nameB ++ calcL (parts.drop (k + 1))) = R) ∧ wx.ownsRow w.heap.size 9 1 sn L2.length (L2.flatMap encS) ∧ Aside (some AA ≠ sn.ownBlock ∧ AA < wx.heap.size ∧ RdS 1 encS wx (some ⟨AA, 0, none⟩) S) ∧ Below w.heap.size w wx)
          case atStart => exact ⟨0, L1, by omega, rfl, H6.out.1, own_up hro1 hb1, ⟨fun h => Nat.lt_irrefl _ (Nat.lt_of_lt_of_le (hro1.lt AA h.symm).2 hA1), hA2, HS.out⟩, hbw1⟩
          case round =>
            clear z0 z1 z2 z3 z4 hro hbo hbx hro1
            obtain ⟨j, L2, hjg, rfl, HJ, hro, HA, hbw⟩ := hrel
            cases gk with
            | zero =>
              have hjz : ¬ (j : Int) < (S.length : Int) := by omega
              have HJ2 : Aside (L2 ++ calcL (parts.drop (k + 1)) = R) := by have := HJ.out; rw [List.drop_eq_nil_of_le (by omega)] at this; exact this
              go_wp2
              go_roundg g
              case measure => omega
              case rel => exact ⟨k + 1, L2, _, by omega, by simp, rfl, ⟨HJ2.out, H6.out.2⟩, hro, hbw⟩
            | succ g2 =>
              have hjz : (j : Int) < (S.length : Int) := by omega
              have hj63 : (j : Int) + 1 ≤ 9223372036854775807 := by omega
              obtain ⟨y, hy⟩ : ∃ y, S[j]? = some y := ⟨_, List.getElem?_eq_getElem (by omega)⟩
              obtain ⟨bb, oo, hAA, hlt2, hc2⟩ := HA.out.2.2 j y hy
              have hAA2 : AA = bb ∧ 0 = oo := by injection hAA with h; injection h with h1 h2; exact ⟨h1, h2⟩
              obtain ⟨rfl, rfl⟩ := hAA2
              have d0 : wr.cell? ⟨AA, j, none⟩ = some (.string ⟨y.toArray⟩) := by
                have h := hc2 0 _ rfl
                rwa [show 0 + j * 1 + 0 = j by omega] at h
              have hsd : Aside (S.drop j = y :: S.drop (j + 1)) := Lib.drop_at hy
              have cn := name_any y wr
              have hL2 : L2.length ≤ 1048576 := by have := HJ.out; have := HR.out.2.2; rw [← HJ.out] at this; simp only [List.length_append] at this; omega
              clear hAA hlt2 hc2 hy
              cases hn : nameB y with
              | false =>
                have HJ2 : Aside (L2 ++ ((S.drop (j + 1)).filter nameB ++ calcL (parts.drop (k + 1))) = R) := by have := HJ.out; rw [hsd.out, List.filter_cons, hn] at this; exact this
                rw [hn] at cn
                clear hn HJ hsd
                go_wp2_with (go_at_call 27; refine cn.mono ?_; rintro e w2 ⟨rfl, hb2⟩)
                go_roundg g2
                case measure => omega
                case rel => exact ⟨j + 1, L2, by omega, by simp, HJ2.out, own_up hro hb2, ⟨HA.out.1, Nat.lt_of_lt_of_le HA.out.2.1 hb2.size, HA.out.2.2.up hb2⟩, hbw.trans (hb2.mono hbw.size)⟩
              | true =>
                have HJ2 : Aside ((L2 ++ [y]) ++ ((S.drop (j + 1)).filter nameB ++ calcL (parts.drop (k + 1))) = R) := by have := HJ.out; rw [hsd.out, List.filter_cons, hn] at this; show _ = _; rw [← this]; simp
                rw [hn] at cn
                clear hn HJ hsd
                go_wp2_with (first
                  | (go_at_call 27; refine cn.mono ?_; rintro e w2 ⟨rfl, hb2⟩; have hro2 := own_up hro hb2; have hbw2 : Below w.heap.size w w2 := hbw.trans (hb2.mono hbw.size))
                  | (at_builtin; refine wpList_append_any _ rfl _ _ 32 rfl w.heap.size 9 i0 (.string ⟨#[]⟩) 1 16 Tryz.underlying32 hi hz0 hz1 hz2 rfl (by decide) _ _ _ rfl (hro2.alloc _) (some ⟨_, 0, none⟩) 1 1 (encS y) rfl ⟨rfl, fun _ => ⟨_, rfl, cell_one_new _ _ _⟩⟩ (oneS1 y) (by unfold maxLen; omega) (by omega) (Nat.le_trans hbw2.size (by simp)) ?_; intro v3 w3 hown3 hgrow3 hat3))
                go_roundg g2
                case measure => omega
                case rel =>
                  have hlt2 : AA < w2.heap.size := Nat.lt_of_lt_of_le HA.out.2.1 hb2.size
                  refine ⟨j + 1, L2 ++ [y], by omega, by simp, HJ2.out, ?_, ⟨?_, ?_, ?_⟩, ?_⟩
                  · rw [List.flatMap_append]
                    simpa using hown3
                  · rcases hat3 with h | h
                    · rw [h]; exact HA.out.1
                    · rw [h]; intro e; have := Option.some.inj e; simp at this; omega
                  · exact Nat.lt_of_lt_of_le (by simp; omega) hgrow3.size
                  · exact rdS_kept ((HA.out.2.2.up hb2).up ((Below.refl _ _).alloc (Nat.le_refl _) _)) hgrow3 (fun ad h => by cases h; exact HA.out.1)
                  · exact (hbw2.alloc hbw2.size _).grown hgrow3 (Nat.le_trans hbw2.size (by simp)) (fun q h => (hro2.lt q h).1)
      · have hkk : (x.kind != 1) = true := by simpa using hk
        have HI2 : Aside (L1 ++ calcL (parts.drop (k + 1)) = R ∧ (a || setL (parts.drop (k + 1))) = sb) := by
          have h := HI.out
          rw [hdr.out] at h
          refine ⟨?_, ?_⟩
          · rw [← h.1]
            show _ = L1 ++ ((if x.kind = 1 then nmsT x.text else []) ++ calcL (parts.drop (k + 1)))
            rw [if_neg hk]; rfl
          · rw [← h.2]
            show _ = (a || ((decide (x.kind = 1) && x.text.contains 61) || setL (parts.drop (k + 1))))
            rw [decide_eq_false hk]; rfl
        clear hk HI hdr
        go_wp2
        go_roundg g
        case measure => omega
        case rel => exact ⟨k + 1, L1, a, by omega, by simp, rfl, HI2.out, hro1, hbo1⟩
end Go.Proofs.YtfdhkchglacccaaGreatDoor
