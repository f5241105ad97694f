/- The walks of the laws CodecSums and CodecInts. -/
import Derived.Test.YtoljigllnhenoaaAwake
namespace Go.Proofs.Ytoljigllnhenoaa
open Go.RowKit
/-- it returns true, and nothing that was there has turned -/
def SaysTrue (w : World) (e : Ending) (w' : World) : Prop := e = .returned (.bool true) ∧ Below w.heap.size w w'
theorem says_awake {w w1 : World} (h : Below w.heap.size w w1) : Calls Try.prog 11 #[] w1 fun e w' => e = .returned (.bool true) ∧ Below w.heap.size w w' :=
  (awake_any w1).mono fun _ _ ⟨h1, h2⟩ => ⟨h1, h.trans (h2.mono h.size)⟩
theorem own_empty (w : World) : (w.alloc (.cells #[] 5)).ownsRow w.heap.size 5 1 (.slice (some ⟨w.heap.size, 0, none⟩) 0 0) 0 [] :=
  own_lit w [] 5 w.heap.size (Nat.le_refl _) (by simp)
theorem crc_set {l : List UInt8} {i : Nat} (hi : i < l.length) {d : UInt8} (hd : d ≠ l[i]) : crc (l.set i d) ≠ crc l := by
  have h1 : l.set i d = l.take i ++ d :: l.drop (i + 1) := List.set_eq_take_append_cons_drop.trans (if_pos hi)
  have h2 : l.take i ++ l[i] :: l.drop (i + 1) = l := by
    rw [← List.drop_eq_getElem_cons hi, List.take_append_drop]
  have h3 := crc_changed (l.take i) (l.drop (i + 1)) hd
  rw [h2] at h3
  rw [h1]
  exact h3
theorem xor_byte_ne {a b : Nat} (ha : a < 256) (hb : b < 256) (h0 : b ≠ 0) : UInt8.ofNat (a ^^^ b) ≠ UInt8.ofNat a := by
  intro h
  have h1 := congrArg UInt8.toNat h
  have hx : a ^^^ b < 256 := Nat.xor_lt_two_pow (n := 8) ha hb
  rw [UInt8.toNat_ofNat', UInt8.toNat_ofNat', Nat.mod_eq_of_lt (by omega), Nat.mod_eq_of_lt (by omega)] at h1
  have : a ^^^ b = a ^^^ 0 := by rw [h1, Nat.xor_zero]
  rw [Nat.xor_comm, Nat.xor_comm a 0] at this
  exact h0 (xor_cancel this)
theorem bv_set (l : List UInt8) (i : Nat) (x : Nat) (hx : x < 256) : (bv l).set i (.int .u8 (x : Int)) = bv (l.set i (UInt8.ofNat x)) := by
  simp only [bv, List.map_set]
  rw [toNat_small hx]

set_option maxHeartbeats 1000000 in
theorem sums_any (A : Option Addr) (c : Nat) (l : List UInt8) (at_ by_ : Nat) (h1 : at_ < 256) (h2 : by_ < 256) (w : World) (h : Reads w w.heap.size 1 A l.length (bv l)) (hm : l.length ≤ 9223372036854775807) :
    Calls Try.prog 4 #[.slice A l.length c, .int .u8 at_, .int .u8 by_] w (SaysTrue w) := by
  obtain ⟨i0, hi0, hz0, hz1, hz2⟩ := info_parts byte_info
  by_cases hl : 300 < l.length
  · have hl' : decide ((300 : Int) < (l.length : Int)) = true := by simp; omega
    go_enter Try.func4, Try.ntmps4
    go_wp2_with fail
    refine (says_awake (Below.refl _ _)).mono ?_
    rintro e w' ⟨rfl, hb⟩
    go_wp2
    go_ret
    exact ⟨rfl, hb⟩
  · have hl' : decide ((300 : Int) < (l.length : Int)) = false := by simp; omega
    have hcl := crc_lt l
    obtain ⟨n, hn⟩ : ∃ n, n = crc l := ⟨_, rfl⟩
    have hs1 := sum_any A c l w h (by omega)
    have hs2 := refsum_any A c l w h (by omega)
    rw [← hn] at hs1 hs2 hcl
    have HN := Lib.hid hn
    have HS1 := Lib.hid hs1
    have HS2 := Lib.hid hs2
    clear hn hs1 hs2
    have hn0 : ¬ ((n : Int) < 0) := by omega
    have hn1 : ¬ (4294967295 < (n : Int)) := by omega
    by_cases hz : l.length = 0 ∨ by_ = 0
    · rcases Nat.eq_zero_or_pos l.length with hl0 | hl0
      · have hb0 : ((l.length : Int) == 0) = true := by rw [beq_iff_eq]; omega
        clear hl0 hz
        go_enter Try.func4, Try.ntmps4
        go_wp2_with fail
        refine HS1.out.mono ?_
        rintro e w' ⟨rfl, rfl⟩
        go_wp2_with fail
        refine HS2.out.mono ?_
        rintro e w' ⟨rfl, rfl⟩
        go_wp2_with fail
        refine (says_awake (Below.refl _ _)).mono ?_
        rintro e w' ⟨rfl, hb⟩
        go_wp2
        go_ret
        exact ⟨rfl, hb⟩
      · have hb0 : ((l.length : Int) == 0) = false := by rw [beq_eq_false_iff_ne]; omega
        have hb1 : ((by_ : Int) == 0) = true := by rw [beq_iff_eq]; omega
        clear hz
        go_enter Try.func4, Try.ntmps4
        go_wp2_with fail
        refine HS1.out.mono ?_
        rintro e w' ⟨rfl, rfl⟩
        go_wp2_with fail
        refine HS2.out.mono ?_
        rintro e w' ⟨rfl, rfl⟩
        go_wp2_with fail
        refine (says_awake (Below.refl _ _)).mono ?_
        rintro e w' ⟨rfl, hb⟩
        go_wp2
        go_ret
        exact ⟨rfl, hb⟩
    · have hb0 : ((l.length : Int) == 0) = false := by rw [beq_eq_false_iff_ne]; omega
      have hb1 : ((by_ : Int) == 0) = false := by rw [beq_eq_false_iff_ne]; omega
      have hlp : 0 < l.length := by omega
      have hil : at_ % l.length < l.length := Nat.mod_lt at_ hlp
      obtain ⟨y, hy⟩ : ∃ y, y = l[at_ % l.length].toNat := ⟨_, rfl⟩
      have hyl : y < 256 := by rw [hy]; exact byte_lt _
      have hyc : (bv l)[at_ % l.length]? = some (.int .u8 (y : Int)) := by rw [hy]; simp [bv, hil]
      have hne := crc_set hil (d := UInt8.ofNat (y ^^^ by_)) (by
        have := xor_byte_ne hyl h2 (by omega)
        rw [hy] at this ⊢
        rwa [UInt8.ofNat_toNat] at this)
      rw [← HN.out] at hne
      have HNE := Lib.hid hne
      have HYC := Lib.hid hyc
      have hx := u8_xor_nat y by_ hyl h2
      have hxl : y ^^^ by_ < 256 := Nat.xor_lt_two_pow (n := 8) hyl h2
      clear hy hyc hne
      go_enter Try.func4, Try.ntmps4
      go_wp2_with fail
      refine HS1.out.mono ?_
      rintro e w' ⟨rfl, rfl⟩
      go_wp2_with fail
      refine HS2.out.mono ?_
      rintro e w' ⟨rfl, rfl⟩
      have hr' := h.alloc (Nat.le_refl _) (.cells #[] 5)
      go_wp2_with (at_builtin; refine wpList_append_any _ rfl (.tmp 35) (.tmp 36) 22 rfl w.heap.size 5 i0 (.int .u8 0) 1 1 Try.underlying22 hi0 hz0 hz1 hz2 rfl (by decide) _ _ _ rfl (own_empty w) w.heap.size A _ c _ rfl hr' (bv_one _) (by unfold maxLen; omega) (by omega) (by simp) ?_; (intro v2 w2 hown2 hg2 hat2; simp only [Nat.zero_add, List.nil_append] at hown2; have hbel : Below w.heap.size w w2 := ((Below.refl _ w).alloc (Nat.le_refl _) _).grown hg2 (by simp) (fun k hk => ((own_empty w).lt k hk).1); clear hg2 hat2; obtain ⟨g, cap, rfl, hgb, hgl⟩ := hown2.form hlp; have hcell := hown2.cellAt (at_ % l.length) (by rw [Nat.mul_one]; exact Nat.mod_lt at_ hlp); rw [HYC.out] at hcell; have hfz := hown2.frozenAt (at_ % l.length); have hi0' : (0 : Int) ≤ (at_ : Int) % (l.length : Int) := Int.emod_nonneg _ (by omega); have hi1 : (at_ : Int) % (l.length : Int) < (l.length : Int) := Int.emod_lt_of_pos _ (by omega)))
      have hst := (hown2.stored (at_ % l.length) (.int .u8 ((y ^^^ by_ : Nat) : Int))).1
      rw [bv_set _ _ _ hxl] at hst
      have hsl : (l.set (at_ % l.length) (UInt8.ofNat (y ^^^ by_))).length = l.length := List.length_set
      have hrd := Reads.of_own hst
      have hs3 := sum_any (some ⟨g, 0, none⟩) cap (l.set (at_ % l.length) (UInt8.ofNat (y ^^^ by_))) _ (by rw [hsl]; exact hrd) (by rw [hsl]; omega)
      rw [hsl] at hs3
      obtain ⟨m, hm'⟩ : ∃ m, m = crc (l.set (at_ % l.length) (UInt8.ofNat (y ^^^ by_))) := ⟨_, rfl⟩
      have hne := HNE.out
      rw [← hm'] at hs3 hne
      have hne' : ((m : Int) != (n : Int)) = true := by rw [bne_iff_ne]; omega
      refine hs3.mono ?_
      rintro e w3 ⟨rfl, rfl⟩
      clear hs3 hrd hst hsl hm' HNE
      go_wp2_with fail
      refine (says_awake (hbel.setCell (p := ⟨g, at_ % l.length, none⟩) hgb _)).mono ?_
      rintro e w' ⟨rfl, hb⟩
      go_wp2
      go_ret
      exact ⟨rfl, hb⟩
end Go.Proofs.Ytoljigllnhenoaa
