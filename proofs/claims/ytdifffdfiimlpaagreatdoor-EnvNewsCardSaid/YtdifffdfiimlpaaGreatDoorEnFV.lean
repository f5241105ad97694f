/- The reference: Valid, its parts. No statement is proved here. -/
import Derived.Test.YtdifffdfiimlpaaGreatDoorEnFU
set_option linter.all false
namespace Go.Proofs.YtdifffdfiimlpaaGreatDoor
open Go Go.RowKit Go.Mir Go.Maps Go.Sort
set_option maxHeartbeats 1000000
set_option maxRecDepth 100000
theorem valid15_calls (l : List NV) (hg : GoodV l) (hl : l.length ≤ 128) (ao : Option Addr) (n cap : Nat) (hn : Aside (n = l.length)) (w : World) (h1 : RdV w ao l) :
    Calls Tryz.prog 31 #[.slice ao n cap] w fun e w' => e = .returned (.int .i64 0) ∧ Below w.heap.size w w' := by
  have H1 : Aside (RdV w ao l) := h1
  have HG : Aside (GoodV l) := hg
  have hnb : n ≤ 128 := by rw [hn.out]; exact hl
  clear h1 hg hl
  have hnb' : ¬ (128 : Int) < (n : Int) := by omega
  go_enter Tryz.func31, Tryz.ntmps31
  go_wp2
  go_loopg [3] n (fun g s wx => ∃ k q : Nat, k + g = n ∧ s = .int .i64 k ∧ wx = w.drewN q)
  case atStart => exact ⟨0, 0, by omega, rfl, rfl⟩
  case round =>
    obtain ⟨k, q, hkg, rfl, rfl⟩ := hrel
    obtain ⟨wq, hwq⟩ : ∃ wq, wq = w.drewN q := ⟨_, rfl⟩
    rw [← hwq]
    have HQ : Aside (wq = w.drewN q) := hwq
    have hcq : ∀ a, wq.cell? a = w.cell? a := fun a => by rw [hwq]; rfl
    clear hwq
    cases gk with
    | zero =>
      have hkz : ¬ (k : Int) < (n : Int) := by omega
      clear hcq
      go_wp2
      go_ret
      exact ⟨rfl, by rw [HQ.out]; exact below_drew _ _⟩
    | succ g =>
      have hk0 : (0 : Int) ≤ (k : Int) := by omega
      have hkz : (k : Int) < (n : Int) := by omega
      have hk63 : (k : Int) + 1 ≤ 9223372036854775807 := by omega
      obtain ⟨x, hx⟩ : ∃ x, l[k]? = some x := ⟨_, List.getElem?_eq_getElem (by have := hn.out; omega)⟩
      obtain ⟨g1, rfl, hg1, hc1⟩ := H1.out k x hx
      obtain ⟨a0, a1, a2, a3, a4⟩ := encV_cell fun i u hu => (hcq _).trans (hc1 i u hu)
      obtain ⟨hnm, hv⟩ := HG.out.n x (List.mem_of_getElem? hx)
      have cn := fun W => rname_calls x.1 W
      rw [hnm] at cn
      have hv' : ¬ (4096 : Int) < (x.2.1.length : Int) := by omega
      clear hnm hv hc1
      by_cases hk1 : k = 0
      · subst hk1
        clear hcq
        go_wp2_with (go_at_call 60; refine (cn _).mono ?_; rintro e w' ⟨rfl, rfl⟩)
        go_quiet (fail)
        go_wp2
        go_roundg g
        case measure => omega
        case rel => exact ⟨1, _, by omega, by simp, by rw [HQ.out, World.drewN_drewN]⟩
      · obtain ⟨j, hj⟩ : ∃ j, k = j + 1 := ⟨k - 1, by omega⟩
        obtain ⟨y, hy⟩ : ∃ y, l[j]? = some y := ⟨_, List.getElem?_eq_getElem (by have := hn.out; omega)⟩
        obtain ⟨g2, hg2e, hg2, hc2⟩ := H1.out j y hy
        have hx' : l[j + 1]? = some x := by rw [← hj]; exact hx
        obtain rfl : g1 = g2 := by injection hg2e with h; injection h
        obtain ⟨b0, b1, b2, b3, b4⟩ := encV_cell fun i u hu => (hcq _).trans (hc2 i u hu)
        have hlt : y.1 < x.1 := by
          have h1 := List.pairwise_iff_getElem.1 HG.out.s j (j + 1) (List.getElem?_eq_some_iff.1 hy).1 (List.getElem?_eq_some_iff.1 hx').1 (by omega)
          rw [(List.getElem?_eq_some_iff.1 hy).2, (List.getElem?_eq_some_iff.1 hx').2] at h1
          exact h1
        have hbl : Op.bytesLess y.1 x.1 = true := by rw [bytesLess_eq]; exact decide_eq_true hlt
        have hj0 : (0 : Int) ≤ (j : Int) := by omega
        have hjz : (j : Int) < (n : Int) := by omega
        have hws : IntKind.i64.wrap ((k : Int) - 1) = (j : Int) := by rw [IntWalk.i64_left, IntWalk.wrap64_in _ (by omega)]; omega
        have hpos : (0 : Int) < (k : Int) := by omega
        have hposN : 0 < k := by omega
        clear hcq hc2 hlt hj hx' hk1 hy hx hk63
        go_wp2_with (go_at_call 60; refine (cn _).mono ?_; rintro e w' ⟨rfl, rfl⟩)
        go_quiet (fail)
        go_wp2
        go_roundg g
        case measure => omega
        case rel => exact ⟨k + 1, _, by omega, by simp, by rw [HQ.out, World.drewN_drewN]⟩
theorem vnil32 (w : World) : Calls Tryz.prog 32 #[.slice none 0 0] w fun e w' => e = .returned (.int .i64 0) ∧ w = w' := by
  go_enter Tryz.func32, Tryz.ntmps32
  go_wp2
  go_loopg [3] 0 (fun g s wx => g = 0 ∧ s = .int .i64 0 ∧ wx = w)
  case atStart => exact ⟨rfl, rfl, rfl⟩
  case round =>
    obtain ⟨rfl, rfl, rfl⟩ := hrel
    go_wp2
    go_ret
    exact ⟨rfl, rfl⟩
theorem vnil33 (w : World) : Calls Tryz.prog 33 #[.slice none 0 0] w fun e w' => e = .returned (.int .i64 0) ∧ w = w' := by
  go_enter Tryz.func33, Tryz.ntmps33
  go_wp2
  go_loopg [3] 0 (fun g s wx => g = 0 ∧ s = .int .i64 0 ∧ wx = w)
  case atStart => exact ⟨rfl, rfl, rfl⟩
  case round =>
    obtain ⟨rfl, rfl, rfl⟩ := hrel
    go_wp2
    go_ret
    exact ⟨rfl, rfl⟩
theorem vnil34 (w : World) : Calls Tryz.prog 34 #[.slice none 0 0] w fun e w' => e = .returned (.int .i64 0) ∧ w = w' := by
  go_enter Tryz.func34, Tryz.ntmps34
  go_wp2
  go_loopg [3] 0 (fun g s wx => g = 0 ∧ s = .int .i64 0 ∧ wx = w)
  case atStart => exact ⟨rfl, rfl, rfl⟩
  case round =>
    obtain ⟨rfl, rfl, rfl⟩ := hrel
    go_wp2
    go_ret
    exact ⟨rfl, rfl⟩
theorem path_calls (w : World) : Calls Tryz.prog 63 #[.string ⟨#[47]⟩] w fun e w' => e = .returned (.bool true) ∧ w = w' := by
  go_enter Tryz.func63, Tryz.ntmps63
  go_wp2
  go_ret
  exact ⟨rfl, rfl⟩
theorem numbers_calls (nm : List UInt8) (s p : Value) (w : World) : Calls Tryz.prog 35 #[envE nm [47] 1 s p] w fun e w' => e = .returned (.int .i64 0) ∧ Below w.heap.size w w' := by
  go_enter Tryz.func35, Tryz.ntmps35
  go_wp2_with (go_at_call 63; refine (path_calls _).mono ?_; rintro e w' ⟨rfl, rfl⟩)
  go_ret
  exact ⟨rfl, (Below.refl _ _).alloc (Nat.le_refl _) _⟩
end Go.Proofs.YtdifffdfiimlpaaGreatDoor
