/- length, rest and text of the decoder. -/
import Derived.Test.YtoljigllnhenoaaTake
namespace Go.Proofs.Ytoljigllnhenoaa
open Go.RowKit
def takeLen (l : List UInt8) : Except Int (Nat × Nat) :=
  match takeZ 0 0 l with
  | .ok (z, k) => if z % 2 = 1 then .error 6 else .ok (z / 2, k)
  | .error e => .error e
theorem takeZ_le (l : List UInt8) : ∀ {i z z' k : Nat}, takeZ i z l = .ok (z', k) → i < k ∧ k ≤ i + l.length := by
  induction l with
  | nil => intro i z z' k h; cases h
  | cons c l ih =>
    intro i z z' k h
    rw [takeZ] at h
    split at h
    · cases h
    · split at h
      · have := ih h; simp only [List.length_cons]; omega
      · split at h
        · cases h
        · simp only [Except.ok.injEq, Prod.mk.injEq] at h
          simp only [List.length_cons]; omega
theorem takeZ_lt (l : List UInt8) : ∀ {i z z' k : Nat}, i ≤ 9 → z < 2 ^ (7 * i) → takeZ i z l = .ok (z', k) → z' < 18446744073709551616 := by
  induction l with
  | nil => intro i z z' k _ _ h; cases h
  | cons c l ih =>
    intro i z z' k hi hz h
    rw [takeZ] at h
    split at h
    · cases h
    · rename_i h9
      split at h
      · rename_i hc
        by_cases hi9 : i = 9
        · exact absurd ⟨hi9, fun e => by rw [e] at hc; exact absurd hc (by decide)⟩ h9
        · exact ih (by omega) (shifted_lt hz (by omega)) h
      · split at h
        · cases h
        · rename_i hc _
          simp only [Except.ok.injEq, Prod.mk.injEq] at h
          obtain ⟨f1, f2, f3⟩ := fits9 (x := c.toNat % 128) hi hz (by omega) (fun e => by
            have : c = 1 := Decidable.byContradiction fun hne => h9 ⟨e, hne⟩
            rw [this]; decide)
          omega
theorem takeLen_le {l : List UInt8} {n k : Nat} (h : takeLen l = .ok (n, k)) : 0 < k ∧ k ≤ l.length ∧ n < 9223372036854775808 := by
  unfold takeLen at h
  split at h
  · rename_i z k' hz
    have h1 := takeZ_le l hz
    have h2 := takeZ_lt l (by omega) (by simp) hz
    split at h
    · cases h
    · simp only [Except.ok.injEq, Prod.mk.injEq] at h
      omega
  · cases h

theorem length_ok (g : Nat) (A : Option Addr) (c : Nat) (l : List UInt8) (at_ n k : Nat) (w : World) (h : Dec w g A c l at_) (hat : at_ ≤ l.length) (hl : l.length ≤ 1000000000) (hz : takeLen (l.drop at_) = .ok (n, k)) :
    Calls Try.prog 43 #[.pointer (some ⟨g, 0, none⟩)] w fun e w' => e = .returned (.int .i64 n) ∧ Dec w' g A c l (at_ + k) ∧ w.grownBy w' (some g) := by
  obtain ⟨z, hz1, hz2⟩ : ∃ z, takeZ 0 0 (l.drop at_) = .ok (z, k) ∧ unzig z = (n : Int) := by
    unfold takeLen at hz
    split at hz
    · rename_i z k' hz'
      split at hz
      · cases hz
      · simp only [Except.ok.injEq, Prod.mk.injEq] at hz
        refine ⟨z, by rw [hz', hz.2], ?_⟩
        unfold unzig
        rw [if_neg (by omega), hz.1]
    · cases hz
  have hc := number_ok g A c l at_ z k w h hat hl hz1
  rw [hz2] at hc
  have HC := Lib.hid hc
  have hn : ¬ ((n : Int) < 0) := by omega
  clear hc hz hz1 hz2
  go_enter Try.func43, Try.ntmps43
  go_wp2_with fail
  refine HC.out.mono ?_
  rintro e w' ⟨rfl, hd, hg⟩
  go_wp2
  go_ret
  exact ⟨rfl, hd, hg⟩

theorem length_err (g : Nat) (A : Option Addr) (c : Nat) (l : List UInt8) (at_ : Nat) (er : Int) (w : World) (h : Dec w g A c l at_) (hat : at_ ≤ l.length) (hl : l.length ≤ 1000000000) (hz : takeLen (l.drop at_) = .error er) :
    Calls Try.prog 43 #[.pointer (some ⟨g, 0, none⟩)] w fun e w' => e = .panicked [{ v := .iface 71 (.agg #[.int .i64 er]), recovered := false }] ∧ w.grownBy w' (some g) := by
  unfold takeLen at hz
  split at hz
  · rename_i z k hz'
    split at hz
    · rename_i hodd
      simp only [Except.error.injEq] at hz
      subst hz
      have hc := number_ok g A c l at_ z k w h hat hl hz'
      have HC := Lib.hid hc
      have hn : unzig z < 0 := by unfold unzig; rw [if_pos hodd]; omega
      clear hc hz'
      generalize unzig z = u at *
      go_enter Try.func43, Try.ntmps43
      go_wp2_with fail
      refine HC.out.mono ?_
      rintro e w' ⟨rfl, hd, hg⟩
      go_wp2
      exact ⟨rfl, rfl, hg⟩
    · cases hz
  · rename_i e hz'
    simp only [Except.error.injEq] at hz
    subst hz
    have hc := number_err g A c l at_ e w h hat hl hz'
    have HC := Lib.hid hc
    clear hc hz'
    go_enter Try.func43, Try.ntmps43
    go_wp2_with fail
    refine HC.out.mono ?_
    rintro e w' ⟨rfl, hg⟩
    go_wp2
    exact ⟨rfl, rfl, hg⟩

theorem rest_any (g : Nat) (A : Option Addr) (c : Nat) (l : List UInt8) (at_ : Nat) (w : World) (h : Dec w g A c l at_) (hat : at_ ≤ l.length) (hl : l.length ≤ 1000000000) :
    Calls Try.prog 44 #[.pointer (some ⟨g, 0, none⟩)] w fun e w' => e = .returned (.int .i64 ((l.length : Int) - at_)) ∧ ∃ n, w' = w.drewN n := by
  have c0 : w.cell? ⟨g, 0, none⟩ = some (.slice A l.length c) := h.1.cell 0
  have c1 : w.cell? ⟨g, 0 + 1, none⟩ = some (.int .i64 (at_ : Int)) := h.1.cell 1
  go_enter Try.func44, Try.ntmps44
  go_wp2
  go_quiet (fail)
  go_wp2
  go_ret
  exact ⟨rfl, _, rfl⟩

theorem reads_sub {w : World} {B c p n : Nat} {A : Option Addr} {l : List UInt8} (h : Reads w B 1 A l.length (bv l)) (hc : l.length ≤ c) (hp : p + n ≤ l.length) :
    Reads w B 1 (if c = p then A else A.map (·.add p)) ((l.drop p).take n).length (bv ((l.drop p).take n)) := by
  refine ⟨by rw [bv_length]; omega, fun hn => ?_⟩
  simp only [List.length_take, List.length_drop] at hn
  obtain ⟨ad, rfl, hb, hcell⟩ := h.2 (by omega)
  rw [if_neg (by omega)]
  refine ⟨ad.add p, rfl, by rw [block_of_add]; exact hb, fun j u hu => ?_⟩
  rw [add_of_add]
  refine hcell _ u ?_
  simp only [bv, List.map_take, List.map_drop, List.getElem?_take, List.getElem?_drop] at hu ⊢
  split at hu
  · exact hu
  · cases hu
theorem sub_length {l : List UInt8} {p n : Nat} (hp : p + n ≤ l.length) : ((l.drop p).take n).length = n := by
  rw [List.length_take, List.length_drop]; omega
set_option maxHeartbeats 1000000 in
theorem text_ok (g : Nat) (A : Option Addr) (c : Nat) (l : List UInt8) (at_ n k : Nat) (w : World) (h : Dec w g A c l at_) (hat : at_ ≤ l.length) (hl : l.length ≤ 1000000000) (hz : takeLen (l.drop at_) = .ok (n, k)) (hn : n ≤ l.length - (at_ + k)) :
    Calls Try.prog 37 #[.pointer (some ⟨g, 0, none⟩)] w fun e w' => e = .returned (.string ⟨((l.drop (at_ + k)).take n).toArray⟩) ∧ Dec w' g A c l (at_ + k + n) ∧ w.grownBy w' (some g) := by
  have hle := takeLen_le hz
  have hlen := length_ok g A c l at_ n k w h hat hl hz
  simp only [List.length_drop] at hle
  obtain ⟨p, hp⟩ : ∃ p, p = at_ + k := ⟨_, rfl⟩
  rw [← hp] at hlen hn ⊢
  have hpl : p ≤ l.length := by omega
  have hnl : p + n ≤ l.length := by omega
  have HL := Lib.hid hlen
  obtain ⟨t, ht⟩ : ∃ t, t = (l.drop p).take n := ⟨_, rfl⟩
  rw [← ht]
  have HT := Lib.hid ht
  clear hlen hz hp hle ht
  go_enter Try.func37, Try.ntmps37
  go_wp2_with fail
  refine HL.out.mono ?_
  rintro e w1 ⟨rfl, hd, hg⟩
  go_wp2_with fail
  refine (rest_any g A c l p w1 hd (by omega) hl).mono ?_
  rintro e w2 ⟨rfl, m, rfl⟩
  have c0 : w1.cell? ⟨g, 0, none⟩ = some (.slice A l.length c) := hd.1.cell 0
  have c1 : w1.cell? ⟨g, 0 + 1, none⟩ = some (.int .i64 (p : Int)) := hd.1.cell 1
  have f1 : w1.frozen? ⟨g, 0 + 1, none⟩ = false := hd.1.frozen 1
  have hcl := hd.2.2
  have h0 : (0 : Int) ≤ (p : Int) := by omega
  have h1 : (p : Int) ≤ (p : Int) + (n : Int) := by omega
  have h2 : (p : Int) + (n : Int) ≤ (c : Int) := by omega
  have hb : decide ((l.length : Int) - (p : Int) < (n : Int)) = false := by simp; omega
  have hrd := reads_sub hd.2.1 hcl hnl
  rw [sub_length hnl] at hrd
  have hst := fun k => bytes_string (l := (l.drop p).take n) (by rw [sub_length hnl]; exact hrd) (c - p) (w1.drewN k) (fun _ _ => rfl)
  rw [sub_length hnl, ← HT.out] at hst
  by_cases hcp : c = p
  · obtain rfl : n = 0 := by omega
    subst hcp
    simp only [if_true, Nat.sub_self] at hst
    clear hrd
    go_wp2
    go_quiet (fail)
    go_wp2
    go_ret
    exact ⟨rfl, dec_set (q := c + 0) (dec_drewN hd _), only_setCell (only_drewN hg _) (.inl rfl) _⟩
  · rw [if_neg hcp] at hrd hst
    have e1 : IntKind.i64.wrap ((p : Int) + (n : Int)) = (p : Int) + (n : Int) := IntWalk.i64_in _ (by omega)
    have e2 : ((p : Int) + (n : Int)).toNat = p + n := by omega
    clear hrd
    go_wp2
    go_quiet (fail)
    go_wp2
    go_ret
    exact ⟨rfl, dec_set (q := p + n) (dec_drewN hd _), only_setCell (only_drewN hg _) (.inl rfl) _⟩

def takeText (l : List UInt8) : Except Int (List UInt8 × Nat) :=
  match takeLen l with
  | .ok (n, k) => if l.length - k < n then .error 28 else .ok ((l.drop k).take n, k + n)
  | .error e => .error e
theorem takeText_le {l t : List UInt8} {k : Nat} (h : takeText l = .ok (t, k)) : 0 < k ∧ k ≤ l.length ∧ t.length ≤ l.length := by
  unfold takeText at h
  split at h
  · rename_i n k' hz
    have := takeLen_le hz
    split at h
    · cases h
    · simp only [Except.ok.injEq, Prod.mk.injEq] at h
      refine ⟨by omega, by omega, ?_⟩
      rw [← h.1, List.length_take, List.length_drop]; omega
  · cases h

theorem text_yes (g : Nat) (A : Option Addr) (c : Nat) (l : List UInt8) (at_ : Nat) (t : List UInt8) (k : Nat) (w : World) (h : Dec w g A c l at_) (hat : at_ ≤ l.length) (hl : l.length ≤ 1000000000) (hz : takeText (l.drop at_) = .ok (t, k)) :
    Calls Try.prog 37 #[.pointer (some ⟨g, 0, none⟩)] w fun e w' => e = .returned (.string ⟨t.toArray⟩) ∧ Dec w' g A c l (at_ + k) ∧ w.grownBy w' (some g) := by
  unfold takeText at hz
  split at hz
  · rename_i n k' hz'
    have hle := takeLen_le hz'
    split at hz
    · cases hz
    · rename_i hn
      simp only [Except.ok.injEq, Prod.mk.injEq] at hz
      simp only [List.length_drop] at hn hle
      have := text_ok g A c l at_ n k' w h hat hl hz' (by omega)
      rw [← hz.1, ← hz.2, List.drop_drop, ← Nat.add_assoc]
      exact this
  · cases hz

set_option maxHeartbeats 1000000 in
theorem text_no (g : Nat) (A : Option Addr) (c : Nat) (l : List UInt8) (at_ : Nat) (er : Int) (w : World) (h : Dec w g A c l at_) (hat : at_ ≤ l.length) (hl : l.length ≤ 1000000000) (hz : takeText (l.drop at_) = .error er) :
    Calls Try.prog 37 #[.pointer (some ⟨g, 0, none⟩)] w fun e w' => e = .panicked [{ v := .iface 71 (.agg #[.int .i64 er]), recovered := false }] ∧ w.grownBy w' (some g) := by
  unfold takeText at hz
  split at hz
  · rename_i n k hz'
    have hle := takeLen_le hz'
    split at hz
    · rename_i hn
      simp only [Except.error.injEq] at hz
      subst hz
      simp only [List.length_drop] at hn hle
      have hlen := length_ok g A c l at_ n k w h hat hl hz'
      obtain ⟨p, hp⟩ : ∃ p, p = at_ + k := ⟨_, rfl⟩
      rw [← hp] at hlen
      have hpl : p ≤ l.length := by omega
      have hnl : l.length - p < n := by omega
      have HL := Lib.hid hlen
      clear hlen hz' hp hle hn
      go_enter Try.func37, Try.ntmps37
      go_wp2_with fail
      refine HL.out.mono ?_
      rintro e w1 ⟨rfl, hd, hg⟩
      go_wp2_with fail
      refine (rest_any g A c l p w1 hd (by omega) hl).mono ?_
      rintro e w2 ⟨rfl, m, rfl⟩
      have hb : decide ((l.length : Int) - (p : Int) < (n : Int)) = true := by simp; omega
      go_wp2
      exact ⟨rfl, rfl, only_drewN hg _⟩
    · cases hz
  · rename_i e hz'
    simp only [Except.error.injEq] at hz
    subst hz
    have hc := length_err g A c l at_ e w h hat hl hz'
    have HC := Lib.hid hc
    clear hc hz'
    go_enter Try.func37, Try.ntmps37
    go_wp2_with fail
    refine HC.out.mono ?_
    rintro e w' ⟨rfl, hg⟩
    go_wp2
    exact ⟨rfl, rfl, hg⟩
end Go.Proofs.Ytoljigllnhenoaa
