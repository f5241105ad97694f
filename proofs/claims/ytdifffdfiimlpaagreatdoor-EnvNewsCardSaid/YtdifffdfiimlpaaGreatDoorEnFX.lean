/- The law EnvNews, walked. No statement is proved here. -/
import Derived.Test.YtdifffdfiimlpaaGreatDoorEnFW
import Derived.Test.YtdifffdfiimlpaaGreatDoorEnLN
set_option linter.all false
namespace Go.Proofs.YtdifffdfiimlpaaGreatDoor
open Go Go.RowKit Go.Mir Go.Maps Go.Sort
set_option maxHeartbeats 1000000
set_option maxRecDepth 100000
theorem newF_ok {name : List UInt8} {ps ls : List (List UInt8)} {R : List NV} (h : newF name ps ls = .ok R) : GoodV R ∧ R.length ≤ 128 ∧ name.length ≤ 4096 ∧ argsL ps = 0 := by
  unfold newF at h
  cases hR : refF ls [] with
  | error x => rw [hR] at h; cases h
  | ok L =>
    have hg := refF_good ls [] L good_nil hR
    rw [hR] at h
    simp only at h
    split at h
    · cases h
    · split at h
      · cases h
      · split at h
        · split at h
          · cases h
          · injection h with h
            subst h
            refine ⟨put3_good hg.toGoodV, ?_, ?_, ?_⟩
            · omega
            · omega
            · assumption
        · cases h
theorem newF_err {name : List UInt8} {ps ls : List (List UInt8)} {x : Int} (h : newF name ps ls = .error x) : x = 3 ∨ x = 4 := by
  unfold newF at h
  cases hR : refF ls [] with
  | error y => rw [hR] at h; injection h with h; exact .inl (h ▸ refF_err ls [] y hR)
  | ok L =>
    rw [hR] at h
    simp only at h
    split at h
    · injection h with h; exact .inr h.symm
    · split at h
      · injection h with h; exact .inl h.symm
      · split at h
        · split at h
          · injection h with h; exact .inr h.symm
          · cases h
        · rename_i h0
          injection h with h
          rcases argsL_cases ps with e | e | e
          · exact absurd e h0
          · exact .inl (h ▸ e)
          · exact .inr (h ▸ e)
theorem law_long (name : List UInt8) (ps ls : List (List UInt8)) (ao bo : Option Addr) (c d n1 n2 : Nat) (w : World) (N1 : Aside (n1 = ps.length ∧ n1 ≤ maxLen ∧ RdT w ao ps)) (N2 : Aside (n2 = ls.length ∧ n2 ≤ maxLen ∧ RdT w bo ls)) (HLB : Aside (∀ t ∈ ls, t.length ≤ maxLen))
    (cA : ∀ W : World, Below w.heap.size w W → Calls Tryz.prog 6 #[] W fun e w' => e = .returned (.bool true) ∧ Below W.heap.size W w')
    (cB : Calls Tryz.prog 4 #[.slice ao n1 c] w fun e w' => SmallP n1 514 e ∧ w = w') (cF : Calls Tryz.prog 5 #[.slice bo n2 d] w fun e w' => SmallP n2 138 e ∧ w = w') (e1 : (60 : Int) < (name.length : Int)) (e2 : (name.length : Int) ≤ 4096) :
    Calls Tryz.prog 3 #[.string ⟨name.toArray⟩, .slice ao n1 c, .slice bo n2 d] w fun e w' => e = .returned (.bool true) ∧ Below w.heap.size w w' := by
  go_enter Tryz.func3, Tryz.ntmps3
  go_wp2_with (go_at_call 6; refine (cA _ (Below.refl _ _)).mono ?_; rintro e w' ⟨rfl, hB⟩)
  go_ret
  exact ⟨rfl, hB⟩
theorem law_short (name : List UInt8) (ps ls : List (List UInt8)) (ao bo : Option Addr) (c d n1 n2 : Nat) (w : World) (N1 : Aside (n1 = ps.length ∧ n1 ≤ maxLen ∧ RdT w ao ps)) (N2 : Aside (n2 = ls.length ∧ n2 ≤ maxLen ∧ RdT w bo ls)) (HLB : Aside (∀ t ∈ ls, t.length ≤ maxLen))
    (cA : ∀ W : World, Below w.heap.size w W → Calls Tryz.prog 6 #[] W fun e w' => e = .returned (.bool true) ∧ Below W.heap.size W w')
    (cB : Calls Tryz.prog 4 #[.slice ao n1 c] w fun e w' => SmallP n1 514 e ∧ w = w') (cF : Calls Tryz.prog 5 #[.slice bo n2 d] w fun e w' => SmallP n2 138 e ∧ w = w') (e1 : decide ((60 : Int) < (name.length : Int)) = false) :
    Calls Tryz.prog 3 #[.string ⟨name.toArray⟩, .slice ao n1 c, .slice bo n2 d] w fun e w' => e = .returned (.bool true) ∧ Below w.heap.size w w' := by
  go_enter Tryz.func3, Tryz.ntmps3
  go_wp2_with fail
  refine cB.mono ?_
  rintro e w' ⟨⟨bb, rfl, hbt⟩, rfl⟩
  cases bb with
  | false =>
    go_wp2_with (go_at_call 6; refine (cA _ (Below.refl _ _)).mono ?_; rintro e w' ⟨rfl, hB⟩)
    go_ret
    exact ⟨rfl, hB⟩
  | true =>
    have hb5 : n1 ≤ 514 := hbt rfl
    clear hbt
    go_wp2_with fail
    refine cF.mono ?_
    rintro e w' ⟨⟨bf, rfl, hft⟩, rfl⟩
    cases bf with
    | false =>
      go_wp2_with (go_at_call 6; refine (cA _ (Below.refl _ _)).mono ?_; rintro e w' ⟨rfl, hB⟩)
      go_ret
      exact ⟨rfl, hB⟩
    | true =>
      have hf5 : n2 ≤ 138 := hft rfl
      clear hft cB cF
      have cN := new_calls name ps ls (by have := N1.out.1; omega) (by have := N2.out.1; omega) HLB.out ao bo c d w N1.out.2.2 N2.out.2.2
      have cR := fun (W : World) (hB : Below w.heap.size w W) => refnew_calls name ps ls (by have := N1.out.1; have := N1.out.2.1; omega) (by have := N2.out.1; omega) HLB.out ao bo c d W (N1.out.2.2.below hB) (N2.out.2.2.below hB)
      rw [← N1.out.1, ← N2.out.1] at cN cR
      have NF : Aside (∀ R, newF name ps ls = .ok R → GoodV R ∧ R.length ≤ 128 ∧ name.length ≤ 4096 ∧ argsL ps = 0) := fun R h => newF_ok h
      have NE : Aside (∀ x, newF name ps ls = .error x → x = 3 ∨ x = 4) := fun x h => newF_err h
      cases hq : newF name ps ls with
      | error x =>
        rw [hq] at cN cR
        have cN' : Calls Tryz.prog 7 #[.string ⟨name.toArray⟩, .slice ao n1 c, .slice bo n2 d] w fun e w' => e = .returned (.tuple #[zEnv, .int .i64 x]) ∧ Below w.heap.size w w' := cN
        have cR' : ∀ W, Below w.heap.size w W → Calls Tryz.prog 8 #[.string ⟨name.toArray⟩, .slice ao n1 c, .slice bo n2 d] W fun e w' => e = .returned (.tuple #[zEnv, .int .i64 x]) ∧ Below W.heap.size W w' := fun W hB => cR W hB
        have hx0 : (x != 0) = true := by rcases NE.out x hq with rfl | rfl <;> rfl
        have hxx : (x == x) = true := by simp
        clear cN cR hq
        have cS := fun (W : World) => same_calls [] [] 0 [] [] (by simp) (by simp) none none none none 0 0 0 0 0 0 rfl rfl W (fun k x h => by simp at h) (fun k x h => by simp at h) (fun k t h => by simp at h) (fun k t h => by simp at h)
        go_wp2_with (first
          | (go_at_call 7; refine cN'.mono ?_; rintro e W1 ⟨rfl, hB1⟩; have hA1 : Below w.heap.size w (boxE W1 [] [] 0 (.slice none 0 0) (.slice none 0 0)) := hB1.alloc hB1.size _)
          | (go_at_call 8; refine (cR' _ hA1).mono ?_; rintro e W2 ⟨rfl, hB2⟩; have hb2 : Below w.heap.size w W2 := hA1.trans (hB2.mono hA1.size); obtain ⟨z0, z1, z2, z3, z4, z5, z6, z7, z8, z9, z10, z11, z12, z13, z14⟩ := one_in hB2; have hlt2 : W1.heap.size < W2.heap.size := Nat.lt_of_lt_of_le (by simp) hB2.size; have hA2 : Below w.heap.size w (boxE W2 [] [] 0 (.slice none 0 0) (.slice none 0 0)) := hb2.alloc hb2.size _)
          | (go_at_call 9; refine (cS _).mono ?_; rintro e W3 ⟨rfl, hB3⟩; have hb3 : Below w.heap.size w W3 := hA2.trans (hB3.mono hA2.size))
          | (go_at_call 6; refine (cA _ hb3).mono ?_; rintro e W4 ⟨rfl, hB4⟩))
        go_ret
        exact ⟨rfl, hb3.trans (hB4.mono hb3.size)⟩
      | ok R =>
        obtain ⟨hg, hl, hnm, hargs⟩ := NF.out R hq
        rw [hq] at cN cR
        have HG : Aside (GoodV R ∧ R.length ≤ 128 ∧ name.length ≤ 4096 ∧ argsL ps = 0) := ⟨hg, hl, hnm, hargs⟩
        clear hq hg hl hnm hargs
        have cN' : Calls Tryz.prog 7 #[.string ⟨name.toArray⟩, .slice ao n1 c, .slice bo n2 d] w fun e w' => ∃ (a1 a' : Option Addr) (n k1 k' : Nat), e = .returned (.tuple #[mkEnv name (.slice a' n1 k') (.slice a1 n k1), .int .i64 0]) ∧ Aside (n = R.length ∧ RdV w' a1 R ∧ RdT w' a' ps) ∧ Below w.heap.size w w' := cN.mono fun e w' ⟨hP, hB⟩ => by
          obtain ⟨s, a', k', he, hro, hr⟩ := hP
          obtain ⟨a1, k1, rfl, hv⟩ := rdV_of_row rfl hro
          rw [← N1.out.1] at he
          exact ⟨a1, a', _, k1, k', he, ⟨rfl, hv, hr⟩, hB⟩
        have cR' : ∀ W, Below w.heap.size w W → Calls Tryz.prog 8 #[.string ⟨name.toArray⟩, .slice ao n1 c, .slice bo n2 d] W fun e w' => ∃ (a1 : Option Addr) (n k1 : Nat), e = .returned (.tuple #[mkEnv name (.slice ao n1 c) (.slice a1 n k1), .int .i64 0]) ∧ Aside (n = R.length ∧ RdV w' a1 R) ∧ Below W.heap.size W w' := fun W hB => (cR W hB).mono fun e w' ⟨hP, hBB⟩ => by
          obtain ⟨s, he, hro⟩ := hP
          obtain ⟨a1, k1, rfl, hv⟩ := rdV_of_row rfl hro
          exact ⟨a1, _, k1, he, ⟨rfl, hv⟩, hBB⟩
        clear cN cR
        go_wp2_with (first
          | (go_at_call 7; refine cN'.mono ?_; rintro e W1 ⟨a1, a3, m1, k1, k3, rfl, HA1, hB1⟩; have hA1 : Below w.heap.size w (boxE W1 name [47] 1 (.slice a1 m1 k1) (.slice a3 n1 k3)) := hB1.alloc hB1.size _)
          | (go_at_call 8; refine (cR' _ hA1).mono ?_; rintro e W2 ⟨a2, m2, k2, rfl, HA2, hB2⟩; obtain rfl : m1 = m2 := HA1.out.1.trans HA2.out.1.symm; have hb2 : Below w.heap.size w W2 := hA1.trans (hB2.mono hA1.size); have hA2 : Below w.heap.size w (boxE W2 name [47] 1 (.slice a2 m1 k2) (.slice ao n1 c)) := hb2.alloc hb2.size _; have hq1 : Below W1.heap.size W1 (boxE W1 name [47] 1 (.slice a1 m1 k1) (.slice a3 n1 k3)) := (Below.refl _ _).alloc (Nat.le_refl _) _; have hq2 : Below W2.heap.size W2 (boxE W2 name [47] 1 (.slice a2 m1 k2) (.slice ao n1 c)) := (Below.refl _ _).alloc (Nat.le_refl _) _; have hA12 : Below (boxE W1 name [47] 1 (.slice a1 m1 k1) (.slice a3 n1 k3)).heap.size (boxE W1 name [47] 1 (.slice a1 m1 k1) (.slice a3 n1 k3)) (boxE W2 name [47] 1 (.slice a2 m1 k2) (.slice ao n1 c)) := hB2.alloc hB2.size _; obtain ⟨z0, z1, z2, z3, z4, z5, z6, z7, z8, z9, z10, z11, z12, z13, z14⟩ := one_in hB2; have hlt2 : W1.heap.size < W2.heap.size := Nat.lt_of_lt_of_le (by simp) hB2.size; have cS := same_calls name [47] 1 R ps (by have := HG.out.2.1; unfold maxLen; omega) (by have := N1.out.1; unfold maxLen; omega) a1 a2 a3 ao m1 n1 k1 k2 k3 c HA1.out.1 N1.out.1 (boxE W2 name [47] 1 (.slice a2 m1 k2) (.slice ao n1 c)) (((HA1.out.2.1.below hq1).below hB2).below hq2) (HA2.out.2.below hq2) (((HA1.out.2.2.below hq1).below hB2).below hq2) (N1.out.2.2.below hA2))
          | (go_at_call 9; refine cS.mono ?_; rintro e W3 ⟨rfl, hB3⟩; have hb3 : Below w.heap.size w W3 := hA2.trans (hB3.mono hA2.size); obtain ⟨z0, z1, z2, z3, z4, z5, z6, z7, z8, z9, z10, z11, z12, z13, z14⟩ := one_in (hA12.trans (hB3.mono hA12.size)); have cV := valid_calls name R ps HG.out.2.2.1 HG.out.1 HG.out.2.1 (by have := N1.out.1; unfold maxLen; omega) HG.out.2.2.2 a1 a3 m1 n1 k1 k3 HA1.out.1 N1.out.1 W3 ((((HA1.out.2.1.below hq1).below hB2).below hq2).below hB3) ((((HA1.out.2.2.below hq1).below hB2).below hq2).below hB3))
          | (go_at_call 10; refine cV.mono ?_; rintro e W4 ⟨rfl, hB4⟩; have hb4 : Below w.heap.size w W4 := hb3.trans (hB4.mono hb3.size))
          | (go_at_call 6; refine (cA _ hb4).mono ?_; rintro e W5 ⟨rfl, hB5⟩))
        go_ret
        exact ⟨rfl, hb4.trans (hB5.mono hb4.size)⟩
theorem law_big (name : List UInt8) (ps ls : List (List UInt8)) (ao bo : Option Addr) (c d n1 n2 : Nat) (w : World) (N1 : Aside (n1 = ps.length ∧ n1 ≤ maxLen ∧ RdT w ao ps)) (N2 : Aside (n2 = ls.length ∧ n2 ≤ maxLen ∧ RdT w bo ls)) (HLB : Aside (∀ t ∈ ls, t.length ≤ maxLen))
    (cA : ∀ W : World, Below w.heap.size w W → Calls Tryz.prog 6 #[] W fun e w' => e = .returned (.bool true) ∧ Below W.heap.size W w')
    (cB : Calls Tryz.prog 4 #[.slice ao n1 c] w fun e w' => SmallP n1 514 e ∧ w = w') (cF : Calls Tryz.prog 5 #[.slice bo n2 d] w fun e w' => SmallP n2 138 e ∧ w = w') (e1 : (60 : Int) < (name.length : Int)) (e2 : decide ((name.length : Int) ≤ 4096) = false) :
    Calls Tryz.prog 3 #[.string ⟨name.toArray⟩, .slice ao n1 c, .slice bo n2 d] w fun e w' => e = .returned (.bool true) ∧ Below w.heap.size w w' := by
  go_enter Tryz.func3, Tryz.ntmps3
  go_wp2_with fail
  refine cB.mono ?_
  rintro e w' ⟨⟨bb, rfl, hbt⟩, rfl⟩
  cases bb with
  | false =>
    go_wp2_with (go_at_call 6; refine (cA _ (Below.refl _ _)).mono ?_; rintro e w' ⟨rfl, hB⟩)
    go_ret
    exact ⟨rfl, hB⟩
  | true =>
    have hb5 : n1 ≤ 514 := hbt rfl
    clear hbt
    go_wp2_with fail
    refine cF.mono ?_
    rintro e w' ⟨⟨bf, rfl, hft⟩, rfl⟩
    cases bf with
    | false =>
      go_wp2_with (go_at_call 6; refine (cA _ (Below.refl _ _)).mono ?_; rintro e w' ⟨rfl, hB⟩)
      go_ret
      exact ⟨rfl, hB⟩
    | true =>
      have hf5 : n2 ≤ 138 := hft rfl
      clear hft cB cF
      have cN := new_calls name ps ls (by have := N1.out.1; omega) (by have := N2.out.1; omega) HLB.out ao bo c d w N1.out.2.2 N2.out.2.2
      have cR := fun (W : World) (hB : Below w.heap.size w W) => refnew_calls name ps ls (by have := N1.out.1; have := N1.out.2.1; omega) (by have := N2.out.1; omega) HLB.out ao bo c d W (N1.out.2.2.below hB) (N2.out.2.2.below hB)
      rw [← N1.out.1, ← N2.out.1] at cN cR
      have NF : Aside (∀ R, newF name ps ls = .ok R → GoodV R ∧ R.length ≤ 128 ∧ name.length ≤ 4096 ∧ argsL ps = 0) := fun R h => newF_ok h
      have NE : Aside (∀ x, newF name ps ls = .error x → x = 3 ∨ x = 4) := fun x h => newF_err h
      cases hq : newF name ps ls with
      | error x =>
        rw [hq] at cN cR
        have cN' : Calls Tryz.prog 7 #[.string ⟨name.toArray⟩, .slice ao n1 c, .slice bo n2 d] w fun e w' => e = .returned (.tuple #[zEnv, .int .i64 x]) ∧ Below w.heap.size w w' := cN
        have cR' : ∀ W, Below w.heap.size w W → Calls Tryz.prog 8 #[.string ⟨name.toArray⟩, .slice ao n1 c, .slice bo n2 d] W fun e w' => e = .returned (.tuple #[zEnv, .int .i64 x]) ∧ Below W.heap.size W w' := fun W hB => cR W hB
        have hx0 : (x != 0) = true := by rcases NE.out x hq with rfl | rfl <;> rfl
        have hxx : (x == x) = true := by simp
        clear cN cR hq
        have cS := fun (W : World) => same_calls [] [] 0 [] [] (by simp) (by simp) none none none none 0 0 0 0 0 0 rfl rfl W (fun k x h => by simp at h) (fun k x h => by simp at h) (fun k t h => by simp at h) (fun k t h => by simp at h)
        go_wp2_with (first
          | (go_at_call 7; refine cN'.mono ?_; rintro e W1 ⟨rfl, hB1⟩; have hA1 : Below w.heap.size w (boxE W1 [] [] 0 (.slice none 0 0) (.slice none 0 0)) := hB1.alloc hB1.size _)
          | (go_at_call 8; refine (cR' _ hA1).mono ?_; rintro e W2 ⟨rfl, hB2⟩; have hb2 : Below w.heap.size w W2 := hA1.trans (hB2.mono hA1.size); obtain ⟨z0, z1, z2, z3, z4, z5, z6, z7, z8, z9, z10, z11, z12, z13, z14⟩ := one_in hB2; have hlt2 : W1.heap.size < W2.heap.size := Nat.lt_of_lt_of_le (by simp) hB2.size; have hA2 : Below w.heap.size w (boxE W2 [] [] 0 (.slice none 0 0) (.slice none 0 0)) := hb2.alloc hb2.size _)
          | (go_at_call 9; refine (cS _).mono ?_; rintro e W3 ⟨rfl, hB3⟩; have hb3 : Below w.heap.size w W3 := hA2.trans (hB3.mono hA2.size))
          | (go_at_call 6; refine (cA _ hb3).mono ?_; rintro e W4 ⟨rfl, hB4⟩))
        go_ret
        exact ⟨rfl, hb3.trans (hB4.mono hb3.size)⟩
      | ok R =>
        obtain ⟨hg, hl, hnm, hargs⟩ := NF.out R hq
        rw [hq] at cN cR
        have HG : Aside (GoodV R ∧ R.length ≤ 128 ∧ name.length ≤ 4096 ∧ argsL ps = 0) := ⟨hg, hl, hnm, hargs⟩
        clear hq hg hl hnm hargs
        have cN' : Calls Tryz.prog 7 #[.string ⟨name.toArray⟩, .slice ao n1 c, .slice bo n2 d] w fun e w' => ∃ (a1 a' : Option Addr) (n k1 k' : Nat), e = .returned (.tuple #[mkEnv name (.slice a' n1 k') (.slice a1 n k1), .int .i64 0]) ∧ Aside (n = R.length ∧ RdV w' a1 R ∧ RdT w' a' ps) ∧ Below w.heap.size w w' := cN.mono fun e w' ⟨hP, hB⟩ => by
          obtain ⟨s, a', k', he, hro, hr⟩ := hP
          obtain ⟨a1, k1, rfl, hv⟩ := rdV_of_row rfl hro
          rw [← N1.out.1] at he
          exact ⟨a1, a', _, k1, k', he, ⟨rfl, hv, hr⟩, hB⟩
        have cR' : ∀ W, Below w.heap.size w W → Calls Tryz.prog 8 #[.string ⟨name.toArray⟩, .slice ao n1 c, .slice bo n2 d] W fun e w' => ∃ (a1 : Option Addr) (n k1 : Nat), e = .returned (.tuple #[mkEnv name (.slice ao n1 c) (.slice a1 n k1), .int .i64 0]) ∧ Aside (n = R.length ∧ RdV w' a1 R) ∧ Below W.heap.size W w' := fun W hB => (cR W hB).mono fun e w' ⟨hP, hBB⟩ => by
          obtain ⟨s, he, hro⟩ := hP
          obtain ⟨a1, k1, rfl, hv⟩ := rdV_of_row rfl hro
          exact ⟨a1, _, k1, he, ⟨rfl, hv⟩, hBB⟩
        clear cN cR
        go_wp2_with (first
          | (go_at_call 7; refine cN'.mono ?_; rintro e W1 ⟨a1, a3, m1, k1, k3, rfl, HA1, hB1⟩; have hA1 : Below w.heap.size w (boxE W1 name [47] 1 (.slice a1 m1 k1) (.slice a3 n1 k3)) := hB1.alloc hB1.size _)
          | (go_at_call 8; refine (cR' _ hA1).mono ?_; rintro e W2 ⟨a2, m2, k2, rfl, HA2, hB2⟩; obtain rfl : m1 = m2 := HA1.out.1.trans HA2.out.1.symm; have hb2 : Below w.heap.size w W2 := hA1.trans (hB2.mono hA1.size); have hA2 : Below w.heap.size w (boxE W2 name [47] 1 (.slice a2 m1 k2) (.slice ao n1 c)) := hb2.alloc hb2.size _; have hq1 : Below W1.heap.size W1 (boxE W1 name [47] 1 (.slice a1 m1 k1) (.slice a3 n1 k3)) := (Below.refl _ _).alloc (Nat.le_refl _) _; have hq2 : Below W2.heap.size W2 (boxE W2 name [47] 1 (.slice a2 m1 k2) (.slice ao n1 c)) := (Below.refl _ _).alloc (Nat.le_refl _) _; have hA12 : Below (boxE W1 name [47] 1 (.slice a1 m1 k1) (.slice a3 n1 k3)).heap.size (boxE W1 name [47] 1 (.slice a1 m1 k1) (.slice a3 n1 k3)) (boxE W2 name [47] 1 (.slice a2 m1 k2) (.slice ao n1 c)) := hB2.alloc hB2.size _; obtain ⟨z0, z1, z2, z3, z4, z5, z6, z7, z8, z9, z10, z11, z12, z13, z14⟩ := one_in hB2; have hlt2 : W1.heap.size < W2.heap.size := Nat.lt_of_lt_of_le (by simp) hB2.size; have cS := same_calls name [47] 1 R ps (by have := HG.out.2.1; unfold maxLen; omega) (by have := N1.out.1; unfold maxLen; omega) a1 a2 a3 ao m1 n1 k1 k2 k3 c HA1.out.1 N1.out.1 (boxE W2 name [47] 1 (.slice a2 m1 k2) (.slice ao n1 c)) (((HA1.out.2.1.below hq1).below hB2).below hq2) (HA2.out.2.below hq2) (((HA1.out.2.2.below hq1).below hB2).below hq2) (N1.out.2.2.below hA2))
          | (go_at_call 9; refine cS.mono ?_; rintro e W3 ⟨rfl, hB3⟩; have hb3 : Below w.heap.size w W3 := hA2.trans (hB3.mono hA2.size); obtain ⟨z0, z1, z2, z3, z4, z5, z6, z7, z8, z9, z10, z11, z12, z13, z14⟩ := one_in (hA12.trans (hB3.mono hA12.size)); have cV := valid_calls name R ps HG.out.2.2.1 HG.out.1 HG.out.2.1 (by have := N1.out.1; unfold maxLen; omega) HG.out.2.2.2 a1 a3 m1 n1 k1 k3 HA1.out.1 N1.out.1 W3 ((((HA1.out.2.1.below hq1).below hB2).below hq2).below hB3) ((((HA1.out.2.2.below hq1).below hB2).below hq2).below hB3))
          | (go_at_call 10; refine cV.mono ?_; rintro e W4 ⟨rfl, hB4⟩; have hb4 : Below w.heap.size w W4 := hb3.trans (hB4.mono hb3.size))
          | (go_at_call 6; refine (cA _ hb4).mono ?_; rintro e W5 ⟨rfl, hB5⟩))
        go_ret
        exact ⟨rfl, hb4.trans (hB5.mono hb4.size)⟩
theorem law_calls (name : List UInt8) (ps ls : List (List UInt8)) (hps : ps.length ≤ maxLen) (hls : ls.length ≤ maxLen) (hlb : ∀ t ∈ ls, t.length ≤ maxLen) (ao bo : Option Addr) (c d : Nat) (w : World) (hw : Tryz.prog.globals.size ≤ w.heap.size) (h1 : RdT w ao ps) (h2 : RdT w bo ls) :
    Calls Tryz.prog 3 #[.string ⟨name.toArray⟩, .slice ao ps.length c, .slice bo ls.length d] w fun e w' => e = .returned (.bool true) ∧ Below w.heap.size w w' := by
  have cA := fun (W : World) (hB : Below w.heap.size w W) => awake_calls W (Nat.le_trans hw hB.size)
  have cB := brief_calls ps hps ao c w h1
  have cF := few_calls ls hls bo d w h2
  have N1 : Aside (ps.length = ps.length ∧ ps.length ≤ maxLen ∧ RdT w ao ps) := ⟨rfl, hps, h1⟩
  have N2 : Aside (ls.length = ls.length ∧ ls.length ≤ maxLen ∧ RdT w bo ls) := ⟨rfl, hls, h2⟩
  by_cases e1 : (60 : Int) < (name.length : Int)
  · by_cases e2 : (name.length : Int) ≤ 4096
    · exact law_long name ps ls ao bo c d _ _ w N1 N2 hlb cA cB cF e1 e2
    · exact law_big name ps ls ao bo c d _ _ w N1 N2 hlb cA cB cF e1 (decide_eq_false e2)
  · exact law_short name ps ls ao bo c d _ _ w N1 N2 hlb cA cB cF (decide_eq_false e1)
end Go.Proofs.YtdifffdfiimlpaaGreatDoor
