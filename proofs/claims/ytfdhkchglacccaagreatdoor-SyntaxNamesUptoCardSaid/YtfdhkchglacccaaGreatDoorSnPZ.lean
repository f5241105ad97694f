/- The law SyntaxNames, walked. No statement is proved here. -/
import Derived.Test.YtfdhkchglacccaaGreatDoorSnPX
import Derived.Test.YtfdhkchglacccaaGreatDoorSnLN
import Derived.Test.YtfdhkchglacccaaGreatDoorSnNP
import Derived.Test.YtfdhkchglacccaaGreatDoorSnND
import Derived.Test.YtfdhkchglacccaaGreatDoorSnNS
import Derived.Test.YtfdhkchglacccaaGreatDoorSnNU
import Derived.Deep.RegionHeld3
set_option linter.all false
/-! the law SyntaxNames, walked -/
namespace Go.Proofs.YtfdhkchglacccaaGreatDoor
open Go Go.RowKit Go.Maps Go.Mir Go.Shelf Go.Sort Go.Syn
set_option maxHeartbeats 2000000
set_option maxRecDepth 100000
theorem uses_same (N : Nat) (n : NodeT) : setS ((walkF N n).flatMap (pUn N)) = addAll ((walkF N n).flatMap (useN N)) [] := setS_ext (fun z => pUs_mem N (walkF N n) z)
theorem setS_len (l : List (List UInt8)) : (setS l).length ≤ l.length := by have := addAll_len l []; rw [List.length_nil, Nat.zero_add] at this; exact this
theorem law_calls (N : Nat) (n : NodeT) (w : World) (hN : szN n ≤ N) (hM : N ≤ 1048576) (hd : DeepN w n) (hg : Tryz.prog.globals.size ≤ w.heap.size) :
    Calls Tryz.prog 3 #[nodeV n] w fun e w' => e = .returned (.bool true) ∧ Below w.heap.size w w' := by
  have HB : Aside (Below w.heap.size w (boxN w n)) := (Below.refl _ _).alloc (Nat.le_refl _) _
  obtain ⟨z0, z1, z2, z3, z4, z5, z6, z7, z8⟩ := boxN_in (Below.refl (boxN w n).heap.size (boxN w n))
  have cw := weight_calls N n (boxN w n) hN hM (hd.up HB.out)
  have HA : Aside (∀ W, Below w.heap.size w W → Calls Tryz.prog 5 #[] W fun e w' => e = .returned (.bool true) ∧ Below W.heap.size W w') := fun W h => awake_calls W (Nat.le_trans hg h.size)
  have H7 : Aside (∀ W, Below w.heap.size w W → Calls Tryz.prog 7 #[nodeV n] W (ListP (setS ((walkF N n).flatMap (asgN N))) W)) := fun W h => pasgs_calls N n W hN hM (hd.up h)
  have H8 : Aside (∀ W, Below w.heap.size w W → Calls Tryz.prog 8 #[nodeV n] W (ListP (setS ((walkF N n).flatMap (asgN N))) W)) := fun W h => asgs_calls N n W hN hM (hd.up h)
  have H9 : Aside (∀ W, Below w.heap.size w W → Calls Tryz.prog 9 #[nodeV n] W (ListP (setS ((walkF N n).flatMap (pUn N))) W)) := fun W h => puses_calls N n W hN hM (hd.up h)
  have H10 : Aside (∀ W, Below w.heap.size w W → Calls Tryz.prog 10 #[nodeV n] W (ListP (setS ((walkF N n).flatMap (pUn N))) W)) := fun W h => by rw [uses_same]; exact uses_calls N n W hN hM (hd.up h) (Nat.le_trans (uses_len N N n) (Nat.le_trans hN hM))
  have HLa : Aside ((setS ((walkF N n).flatMap (asgN N))).length ≤ 1048576) := Nat.le_trans (setS_len _) (Nat.le_trans (asgNs_len N N n) (Nat.le_trans hN hM))
  have HLu : Aside ((setS ((walkF N n).flatMap (pUn N))).length ≤ 1048576) := Nat.le_trans (setS_len _) (by rw [pUs_len]; exact Nat.le_trans (uses_len N N n) (Nat.le_trans hN hM))
  obtain ⟨RA, hRA⟩ : ∃ R, R = setS ((walkF N n).flatMap (asgN N)) := ⟨_, rfl⟩
  obtain ⟨RU, hRU⟩ : ∃ R, R = setS ((walkF N n).flatMap (pUn N)) := ⟨_, rfl⟩
  rw [← hRA] at H7 H8 HLa
  rw [← hRU] at H9 H10 HLu
  clear hRA hRU hN hM hd hg
  go_enter Tryz.func3, Tryz.ntmps3
  go_wp2_with fail
  refine cw.mono ?_
  rintro e w1 ⟨⟨a, rfl⟩, hb1⟩
  have HB1 : Aside (Below w.heap.size w w1) := HB.out.trans (hb1.mono HB.out.size)
  have HBB : Aside (Below (boxN w n).heap.size (boxN w n) w1) := hb1
  obtain ⟨y0, y1, y2, y3, y4, y5, y6, y7, y8⟩ := boxN_in hb1
  clear z0 z1 z2 z3 z4 z5 z6 z7 z8 cw hb1
  by_cases ha : 3000 < a
  · go_wp2_with (go_at_call 5; refine (HA.out _ HB1.out).mono ?_; rintro e w2 ⟨rfl, hb2⟩)
    go_ret
    exact ⟨rfl, HB1.out.trans (hb2.mono HB1.out.size)⟩
  · go_upto_region 3 with fail
    go_region_held3 (fun w' => w'.cell? ⟨w.heap.size, 0, none⟩ = some (.int .i64 n.kind) ∧ w'.cell? ⟨w.heap.size, 1, none⟩ = some (.int .i64 n.pos) ∧ w'.cell? ⟨w.heap.size, 2, none⟩ = some (.string ⟨n.name.toArray⟩) ∧ w'.cell? ⟨w.heap.size, 3, none⟩ = some (.bool n.all) ∧ w'.cell? ⟨w.heap.size, 4, none⟩ = some (.slice n.ah.1 n.assigns.length n.ah.2) ∧ w'.cell? ⟨w.heap.size, 5, none⟩ = some (.slice n.wh.1 n.words.length n.wh.2) ∧ w'.cell? ⟨w.heap.size, 6, none⟩ = some (.slice n.rh.1 n.redirs.length n.rh.2) ∧ w'.cell? ⟨w.heap.size, 7, none⟩ = some (.slice n.kh.1 n.kids.length n.kh.2) ∧ w'.cell? ⟨w.heap.size, 8, none⟩ = some (.slice n.ih.1 n.items.length n.ih.2)) (first | exact ⟨y0, y1, y2, y3, y4, y5, y6, y7, y8⟩ | exact k2 | exact k3 | exact k4 | exact k5 | exact k6 | exact k7 | exact k8) ((first
      | (go_at_call 7; have hd1 := below_drew w1 1; have hB1 : Below w.heap.size w w1.drew := HB1.out.trans (hd1.mono HB1.out.size); have hC1 : Below (boxN w n).heap.size (boxN w n) w1.drew := HBB.out.trans (hd1.mono HBB.out.size); refine (H7.out _ hB1).mono ?_; rintro e w2 ⟨A2, m2, c2, rfl, G2, hb2⟩; have hB2 := hB1.trans (hb2.mono hB1.size); have hC2 := hC1.trans (hb2.mono hC1.size); have k2 := boxN_in hC2)
      | (go_at_call 8; refine (H8.out _ hB2).mono ?_; rintro e w3 ⟨A3, m3, c3, rfl, G3, hb3⟩; have hB3 := hB2.trans (hb3.mono hB2.size); have hC3 := hC2.trans (hb3.mono hC2.size); have k3 := boxN_in hC3)
      | (go_at_call 9; refine (H9.out _ hB4).mono ?_; rintro e w5 ⟨A5, m5, c5, rfl, G5, hb5⟩; have hB5 := hB4.trans (hb5.mono hB4.size); have hC5 := hC4.trans (hb5.mono hC4.size); have k5 := boxN_in hC5)
      | (go_at_call 10; refine (H10.out _ hB5).mono ?_; rintro e w6 ⟨A6, m6, c6, rfl, G6, hb6⟩; have hB6 := hB5.trans (hb6.mono hB5.size); have hC6 := hC5.trans (hb6.mono hC5.size); have k6 := boxN_in hC6)
      | (go_at_call 6; refine (equal_calls RU A5 A6 m5 m6 c5 c6 w6 G5.out.1 G6.out.1 HLu.out (G5.out.2.2.up hb6) G6.out.2.2).mono ?_; rintro e w7 ⟨rfl, hb7⟩; have hB7 := hB6.trans (hb7.mono hB6.size); have hC7 := hC6.trans (hb7.mono hC6.size); have k7 := boxN_in hC7)
      | (go_at_call 6; refine (equal_calls RA A2 A3 m2 m3 c2 c3 w3 G2.out.1 G3.out.1 HLa.out (G2.out.2.2.up hb3) G3.out.2.2).mono ?_; rintro e w4 ⟨rfl, hb4⟩; have hB4 := hB3.trans (hb4.mono hB3.size); have hC4 := hC3.trans (hb4.mono hC3.size); have k4 := boxN_in hC4)
      | (go_at_call 5; refine (HA.out _ hB7).mono ?_; rintro e w8 ⟨rfl, hb8⟩; have hB8 := hB7.trans (hb8.mono hB7.size); have hC8 := hC7.trans (hb8.mono hC7.size); have k8 := boxN_in hC8)))
    go_wp2
    go_ret
    exact ⟨rfl, hB8⟩
end Go.Proofs.YtfdhkchglacccaaGreatDoor
