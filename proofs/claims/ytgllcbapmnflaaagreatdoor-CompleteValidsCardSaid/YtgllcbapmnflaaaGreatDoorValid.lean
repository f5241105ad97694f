/- What Valid and the reference Valid compute, and the law CompleteValids, walked. No statement is proved here. -/
import Derived.Test.YtgllcbapmnflaaaGreatDoorPlainB
import Derived.Laws.Cover1
import Derived.Deep.RegionWith
namespace Go.Proofs.YtgllcbapmnflaaaGreatDoor
open Go.RowKit Go.EvL
structure Sp where
  cmd : List UInt8
  A1 : Option Addr
  c1 : Nat
  words : List (List UInt8)
  f : Bool
  g : Bool
  A2 : Option Addr
  c2 : Nat
  suf : List (List UInt8)
/-- a slice of specifications that can be read -/
def SReads (w : World) (B : Nat) (A : Option Addr) (d : List Sp) : Prop :=
  0 < d.length → ∃ b off, A = some ⟨b, off, none⟩ ∧ b < B ∧ ∀ j s, d[j]? = some s →
    w.cell? ⟨b, off + j * 5, none⟩ = some (.string ⟨s.cmd.toArray⟩) ∧ w.cell? ⟨b, off + j * 5 + 1, none⟩ = some (.slice s.A1 s.words.length s.c1) ∧ w.cell? ⟨b, off + j * 5 + 2, none⟩ = some (.bool s.f) ∧
    w.cell? ⟨b, off + j * 5 + 3, none⟩ = some (.bool s.g) ∧ w.cell? ⟨b, off + j * 5 + 4, none⟩ = some (.slice s.A2 s.suf.length s.c2) ∧
    Reads w B s.A1 s.words ∧ Reads w B s.A2 s.suf ∧ s.words.length ≤ 9223372036854775807 ∧ s.suf.length ≤ 9223372036854775807 ∧ s.cmd.length ≤ 9223372036854775807
theorem Reads.more {w : World} {B B' : Nat} {A : Option Addr} {d : List (List UInt8)} (h : Reads w B A d) (hB : B ≤ B') : Reads w B' A d := fun hn => by
  obtain ⟨ad, e, hlt, hc⟩ := h hn
  exact ⟨ad, e, by omega, hc⟩
def leC (x y : List UInt8) : Bool := Op.bytesLess x y || x == y
theorem leC_ge : ∀ (x y : List UInt8), leC x y = !(Op.bytesLess y x) := by
  intro x
  induction x with
  | nil => intro y; cases y <;> rfl
  | cons a x ih =>
    intro y
    cases y with
    | nil => rfl
    | cons b y =>
      have h := ih y
      unfold leC at h ⊢
      simp only [Op.bytesLess]
      by_cases hab : a = b
      · subst hab
        have h1 : ¬ a < a := by simp
        simp only [decide_eq_false h1, Bool.false_or, beq_self_eq_true, Bool.true_and]
        have h2 : (a :: x == a :: y) = (x == y) := by simp
        rw [h2]
        exact h
      · have h1 : (a == b) = false := by simpa using hab
        have h2 : (b == a) = false := by simpa using fun e : b = a => hab e.symm
        have h3 : (a :: x == b :: y) = false := by simp [hab]
        simp only [h1, h2, h3, Bool.false_and, Bool.or_false]
        by_cases hlt : a < b
        · have : ¬ b < a := fun hh => by have h4 := UInt8.lt_iff_toNat_lt.1 hlt; have h5 := UInt8.lt_iff_toNat_lt.1 hh; omega
          simp [hlt, this]
        · have : b < a := by
            have h4 : ¬ a.toNat < b.toNat := fun hh => hlt (UInt8.lt_iff_toNat_lt.2 hh)
            have h5 : a.toNat ≠ b.toNat := fun hh => hab (UInt8.toNat_inj.1 hh)
            exact UInt8.lt_iff_toNat_lt.2 (by omega)
          simp [hlt, this]
def prevLe (s : Sp) : Option Sp → Bool
  | some p => leC s.cmd p.cmd
  | none => false
def codeAt (s : Sp) (p : Option Sp) : Int :=
  if plainS s.cmd = false then 10 else if 512 < s.words.length ∨ 512 < s.suf.length then 4 else if (longS s.words || longS s.suf) = true then 3 else if (emptyS s.words || prevLe s p) = true then 1 else 0
def firstC : Option Sp → List Sp → Int
  | _, [] => 0
  | p, s :: r => if codeAt s p = 0 then firstC (some s) r else codeAt s p
def validS (d : List Sp) : Int := if 128 < d.length then 4 else firstC none d
def prevAt (d : List Sp) (j : Nat) : Option Sp := if j = 0 then none else d[j - 1]?
def VInv (d : List Sp) (j : Nat) : Prop := firstC (prevAt d j) (d.drop j) = firstC none d
theorem VInv.zero (d : List Sp) : VInv d 0 := rfl
theorem VInv.stop {d : List Sp} {j : Nat} {s : Sp} {c : Int} (h : VInv d j) (hs : d[j]? = some s) (h128 : ¬ 128 < d.length) (hc : codeAt s (prevAt d j) = c) (hne : c ≠ 0) : c = validS d := by
  unfold VInv at h
  have hj := (List.getElem?_eq_some_iff.1 hs).1
  have hsj := (List.getElem?_eq_some_iff.1 hs).2
  rw [List.drop_eq_getElem_cons hj, hsj, firstC, hc, if_neg hne] at h
  unfold validS
  rw [if_neg h128]
  exact h
theorem VInv.next {d : List Sp} {j : Nat} {s : Sp} (h : VInv d j) (hs : d[j]? = some s) (hc : codeAt s (prevAt d j) = 0) : VInv d (j + 1) := by
  unfold VInv at h ⊢
  have hj := (List.getElem?_eq_some_iff.1 hs).1
  have hsj := (List.getElem?_eq_some_iff.1 hs).2
  rw [List.drop_eq_getElem_cons hj, hsj, firstC, if_pos hc] at h
  have : prevAt d (j + 1) = some s := by unfold prevAt; simp [hs]
  rw [this]
  exact h
theorem VInv.end_ {d : List Sp} (h : VInv d d.length) (h128 : ¬ 128 < d.length) : 0 = validS d := by
  unfold VInv at h
  rw [List.drop_length] at h
  unfold validS
  rw [if_neg h128, ← h]
  rfl
theorem prev_zero (d : List Sp) : prevAt d 0 = none := rfl
theorem prev_succ {d : List Sp} {k : Nat} {sp : Sp} (h : d[k]? = some sp) : prevAt d (k + 1) = some sp := by unfold prevAt; simp [h]
theorem code10 {s : Sp} {p : Option Sp} (h : plainS s.cmd = false) : codeAt s p = 10 := by unfold codeAt; rw [if_pos h]
theorem code4 {s : Sp} {p : Option Sp} (h : plainS s.cmd = true) (h2 : 512 < s.words.length ∨ 512 < s.suf.length) : codeAt s p = 4 := by unfold codeAt; rw [if_neg (by rw [h]; simp), if_pos h2]
theorem code3 {s : Sp} {p : Option Sp} (h : plainS s.cmd = true) (h2 : ¬ 512 < s.words.length) (h3 : ¬ 512 < s.suf.length) (h4 : (longS s.words || longS s.suf) = true) : codeAt s p = 3 := by
  unfold codeAt; rw [if_neg (by rw [h]; simp), if_neg (by omega), if_pos h4]
theorem code1 {s : Sp} {p : Option Sp} (h : plainS s.cmd = true) (h2 : ¬ 512 < s.words.length) (h3 : ¬ 512 < s.suf.length) (h4 : longS s.words = false) (h5 : longS s.suf = false) (h6 : (emptyS s.words || prevLe s p) = true) : codeAt s p = 1 := by
  unfold codeAt; rw [if_neg (by rw [h]; simp), if_neg (by omega), if_neg (by rw [h4, h5]; simp), if_pos h6]
theorem code0 {s : Sp} {p : Option Sp} (h : plainS s.cmd = true) (h2 : ¬ 512 < s.words.length) (h3 : ¬ 512 < s.suf.length) (h4 : longS s.words = false) (h5 : longS s.suf = false) (h6 : (emptyS s.words || prevLe s p) = false) : codeAt s p = 0 := by
  unfold codeAt; rw [if_neg (by rw [h]; simp), if_neg (by omega), if_neg (by rw [h4, h5]; simp), if_neg (by rw [h6]; simp)]
def VRel (w : World) (d : List Sp) (i : Value) (wr : World) : Prop := ∃ j : Nat, j ≤ d.length ∧ i = .int .i64 (j : Int) ∧ VInv d j ∧ Below w.heap.size w wr
theorem ret_int {a b : Int} (h : a = b) : Ending.returned (.int .i64 a) = Ending.returned (.int .i64 b) := by rw [h]
set_option maxRecDepth 100000 in
set_option maxHeartbeats 4000000 in
theorem valid_any (A : Option Addr) (c : Nat) (d : List Sp) (w : World) (hw : 6 ≤ w.heap.size) (h : SReads w w.heap.size A d) (hl : d.length ≤ 9223372036854775807) :
    Calls Tryz.prog 10 #[.slice A d.length c] w fun e w' => e = .returned (.int .i64 (validS d)) ∧ Below w.heap.size w w' := by
  by_cases h128 : 128 < d.length
  · have hd0 : decide ((128 : Int) < (d.length : Int)) = true := by simp; omega
    have hv : 4 = validS d := by unfold validS; rw [if_pos h128]
    go_enter Tryz.func10, Tryz.ntmps10
    go_wp2
    go_ret
    exact ⟨ret_int hv, Below.refl _ _⟩
  · have hd0 : decide ((128 : Int) < (d.length : Int)) = false := by simp; omega
    go_enter Tryz.func10, Tryz.ntmps10
    go_wp2
    go_loopw [11] (fun i wr => VRel w d i wr) (fun i _ => d.length - (intOf i).toNat)
    case atStart => exact ⟨0, by omega, rfl, VInv.zero d, Below.refl _ _⟩
    case round =>
      obtain ⟨j, hj, rfl, hinv, hb⟩ := hrel
      have HV := Lib.hid hinv
      clear hinv
      by_cases hlt : j < d.length
      · obtain ⟨b, off, rfl, hbb, hcell⟩ := h (by omega)
        obtain ⟨s, hs⟩ : ∃ s, d[j]? = some s := ⟨d[j], by simp [hlt]⟩
        obtain ⟨k0, k1, k2, k3, k4, r1, r2, l1, l2, l3⟩ := hcell j s hs
        have q0 : wr.cell? ⟨b, off + j * 5, none⟩ = some (.string ⟨s.cmd.toArray⟩) := by rw [hb.cell (p := ⟨b, off + j * 5, none⟩) hbb]; exact k0
        have q1 : wr.cell? ⟨b, off + j * 5 + 1, none⟩ = some (.slice s.A1 s.words.length s.c1) := by rw [hb.cell (p := ⟨b, off + j * 5 + 1, none⟩) hbb]; exact k1
        have q2 : wr.cell? ⟨b, off + j * 5 + 2, none⟩ = some (.bool s.f) := by rw [hb.cell (p := ⟨b, off + j * 5 + 2, none⟩) hbb]; exact k2
        have q3 : wr.cell? ⟨b, off + j * 5 + 3, none⟩ = some (.bool s.g) := by rw [hb.cell (p := ⟨b, off + j * 5 + 3, none⟩) hbb]; exact k3
        have q4 : wr.cell? ⟨b, off + j * 5 + 4, none⟩ = some (.slice s.A2 s.suf.length s.c2) := by rw [hb.cell (p := ⟨b, off + j * 5 + 4, none⟩) hbb]; exact k4
        clear k0 k1 k2 k3 k4
        have hp0 : (0 : Int) ≤ (j : Int) := by omega
        have hp1 : (j : Int) < (d.length : Int) := by omega
        have hpl := fun (u : World) (hu : 6 ≤ u.heap.size) => plain_any s.cmd u hu l3
        have HPL := Lib.hid hpl
        clear hpl
        have hsz := hb.size
        obtain ⟨wa, hwa⟩ : ∃ wa, wa = wr.alloc (Obj.cells #[Value.string ⟨s.cmd.toArray⟩, Value.slice s.A1 s.words.length s.c1, Value.bool s.f, Value.bool s.g, Value.slice s.A2 s.suf.length s.c2] 50) := ⟨_, rfl⟩
        have hba : Below w.heap.size w wa := by rw [hwa]; exact hb.alloc hsz _
        have hsa : wr.heap.size < wa.heap.size := by rw [hwa]; show wr.heap.size < (wr.heap.push _).size; rw [Array.size_push]; omega
        have hca : ∀ k v, (#[Value.string ⟨s.cmd.toArray⟩, Value.slice s.A1 s.words.length s.c1, Value.bool s.f, Value.bool s.g, Value.slice s.A2 s.suf.length s.c2] : Array Value)[k]? = some v → wa.cell? ⟨wr.heap.size, k, none⟩ = some v := fun k v hk => by
          rw [hwa, Lib.cell_of_heap heap_push_eq]; exact hk
        have HW := Lib.hid (And.intro hwa (And.intro hba (And.intro hsa hca)))
        clear hwa hba hsa hca
        go_wp2_with fail
        rw [← HW.out.1]
        refine (HPL.out wa (by have := HW.out.2.1.size; omega)).mono ?_
        rintro e w2 ⟨rfl, hb2⟩
        obtain ⟨_, hba, hsa, hca⟩ := HW.out
        have hb02 : Below w.heap.size w w2 := hba.trans (hb2.mono hba.size)
        have p0 : w2.cell? ⟨wr.heap.size, 0, none⟩ = some (.string ⟨s.cmd.toArray⟩) := by rw [hb2.cell (p := ⟨wr.heap.size, 0, none⟩) hsa]; exact hca 0 _ rfl
        have p1 : w2.cell? ⟨wr.heap.size, 1, none⟩ = some (.slice s.A1 s.words.length s.c1) := by rw [hb2.cell (p := ⟨wr.heap.size, 1, none⟩) hsa]; exact hca 1 _ rfl
        have p4 : w2.cell? ⟨wr.heap.size, 4, none⟩ = some (.slice s.A2 s.suf.length s.c2) := by rw [hb2.cell (p := ⟨wr.heap.size, 4, none⟩) hsa]; exact hca 4 _ rfl
        have r1' := (r1.below hb02).more hb02.size
        have r2' := (r2.below hb02).more hb02.size
        clear hba hsa hca HW hb2 r1 r2 q0 q1 q2 q3 q4
        have HF1 := Lib.hid (containsF_any s.A1 s.c1 s.words w2 r1' l1)
        have HF2 := Lib.hid (containsF_any s.A2 s.c2 s.suf w2 r2' l2)
        have HC1 := Lib.hid (fun k => (contains_any s.A1 s.c1 s.words (w2.drewN k) r1' l1).mono fun e w' h => And.intro h.1 h.2.symm)
        cases hpl : plainS s.cmd with
        | false =>
          go_wp2
          go_ret
          exact ⟨ret_int (HV.out.stop hs h128 (code10 hpl) (by decide)), hb02⟩
        | true =>
          by_cases h1 : 512 < s.words.length
          · have hd1 : decide ((512 : Int) < (s.words.length : Int)) = true := by simp; omega
            go_wp2
            go_ret
            exact ⟨ret_int (HV.out.stop hs h128 (code4 hpl (.inl h1)) (by decide)), hb02⟩
          · have hd1 : decide ((512 : Int) < (s.words.length : Int)) = false := by simp; omega
            by_cases h2 : 512 < s.suf.length
            · have hd2 : decide ((512 : Int) < (s.suf.length : Int)) = true := by simp; omega
              go_wp2
              go_ret
              exact ⟨ret_int (HV.out.stop hs h128 (code4 hpl (.inr h2)) (by decide)), hb02⟩
            · have hd2 : decide ((512 : Int) < (s.suf.length : Int)) = false := by simp; omega
              go_wp2_with fail
              refine HF1.out.mono ?_
              rintro e w3 ⟨rfl, rfl⟩
              cases hg1 : longS s.words with
              | true =>
                go_wp2
                go_ret
                exact ⟨ret_int (HV.out.stop hs h128 (code3 hpl h1 h2 (by rw [hg1]; rfl)) (by decide)), hb02⟩
              | false =>
                go_wp2_with fail
                refine HF2.out.mono ?_
                rintro e w3 ⟨rfl, rfl⟩
                cases hg2 : longS s.suf with
                | true =>
                  go_wp2
                  go_ret
                  exact ⟨ret_int (HV.out.stop hs h128 (code3 hpl h1 h2 (by rw [hg1, hg2]; rfl)) (by decide)), hb02⟩
                | false =>
                  cases he : emptyS s.words with
                  | true =>
                    rw [he] at HC1
                    go_wp2
                    go_quiet ((go_at_call 18; exact Calls.quiet_of_same (HC1.out _)))
                    go_wp2
                    go_ret
                    exact ⟨ret_int (HV.out.stop hs h128 (code1 hpl h1 h2 hg1 hg2 (by rw [he]; rfl)) (by decide)), below_drewN hb02 _⟩
                  | false =>
                    rw [he] at HC1
                    rcases j with _ | k
                    · go_wp2
                      go_quiet ((go_at_call 18; exact Calls.quiet_of_same (HC1.out _)))
                      go_wp2
                      exact ⟨⟨1, by omega, rfl, HV.out.next hs (code0 hpl h1 h2 hg1 hg2 (by rw [he]; rfl)), below_drewN hb02 _⟩, by simp [intOf]; omega⟩
                    · obtain ⟨sp, hsp⟩ : ∃ sp, d[k]? = some sp := ⟨d[k], by simp⟩
                      have hk0 := (hcell k sp hsp).1
                      have q0 : w2.cell? ⟨b, off + k * 5, none⟩ = some (.string ⟨sp.cmd.toArray⟩) := by rw [hb02.cell (p := ⟨b, off + k * 5, none⟩) hbb]; exact hk0
                      clear hk0
                      have hd3 : decide ((0 : Int) < (k : Int) + 1) = true := decide_eq_true (by omega)
                      have hx3 : IntKind.i64.wrap (k : Int) = (k : Int) := by rw [IntKind.wrap_i64]; omega
                      have hp2 : (0 : Int) ≤ (k : Int) := by omega
                      have hp3 : (k : Int) < (d.length : Int) := by omega
                      have HPS := Lib.hid (prev_succ hsp)
                      cases hle : leC s.cmd sp.cmd with
                      | true =>
                        have hle' : (Op.bytesLess s.cmd sp.cmd || s.cmd == sp.cmd) = true := hle
                        go_wp2
                        go_quiet ((go_at_call 18; exact Calls.quiet_of_same (HC1.out _)))
                        go_wp2
                        all_goals go_ret
                        all_goals exact ⟨ret_int (HV.out.stop hs h128 (code1 hpl h1 h2 hg1 hg2 (by rw [he, HPS.out]; exact hle)) (by decide)), below_drewN hb02 _⟩
                      | false =>
                        have hle' : (Op.bytesLess s.cmd sp.cmd || s.cmd == sp.cmd) = false := hle
                        go_wp2
                        go_quiet ((go_at_call 18; exact Calls.quiet_of_same (HC1.out _)))
                        go_wp2
                        all_goals exact ⟨⟨k + 2, by omega, by simp; omega, HV.out.next hs (code0 hpl h1 h2 hg1 hg2 (by rw [he, HPS.out]; exact hle)), below_drewN hb02 _⟩, by simp [intOf]; omega⟩
      · have hp1 : decide ((j : Int) < (d.length : Int)) = false := by simp; omega
        obtain rfl : j = d.length := by omega
        go_wp2
        go_ret
        exact ⟨ret_int (HV.out.end_ h128), hb⟩
end Go.Proofs.YtgllcbapmnflaaaGreatDoor

namespace Go.Proofs.YtgllcbapmnflaaaGreatDoor
open Go.RowKit Go.EvL
set_option maxRecDepth 100000 in
set_option maxHeartbeats 4000000 in
theorem refValid_any (A : Option Addr) (c : Nat) (d : List Sp) (w : World) (hw : 6 ≤ w.heap.size) (h : SReads w w.heap.size A d) (hl : d.length ≤ 9223372036854775807) :
    Calls Tryz.prog 11 #[.slice A d.length c] w fun e w' => e = .returned (.int .i64 (validS d)) ∧ Below w.heap.size w w' := by
  by_cases h128 : 128 < d.length
  · have hd0 : decide ((128 : Int) < (d.length : Int)) = true := by simp; omega
    have hv : 4 = validS d := by unfold validS; rw [if_pos h128]
    go_enter Tryz.func11, Tryz.ntmps11
    go_wp2
    go_ret
    exact ⟨ret_int hv, Below.refl _ _⟩
  · have hd0 : decide ((128 : Int) < (d.length : Int)) = false := by simp; omega
    go_enter Tryz.func11, Tryz.ntmps11
    go_wp2
    go_loopw [3] (fun i wr => VRel w d i wr) (fun i _ => d.length - (intOf i).toNat)
    case atStart => exact ⟨0, by omega, rfl, VInv.zero d, Below.refl _ _⟩
    case round =>
      obtain ⟨j, hj, rfl, hinv, hb⟩ := hrel
      have HV := Lib.hid hinv
      clear hinv
      by_cases hlt : j < d.length
      · obtain ⟨b, off, rfl, hbb, hcell⟩ := h (by omega)
        obtain ⟨s, hs⟩ : ∃ s, d[j]? = some s := ⟨d[j], by simp [hlt]⟩
        obtain ⟨k0, k1, k2, k3, k4, r1, r2, l1, l2, l3⟩ := hcell j s hs
        have q0 : wr.cell? ⟨b, off + j * 5, none⟩ = some (.string ⟨s.cmd.toArray⟩) := by rw [hb.cell (p := ⟨b, off + j * 5, none⟩) hbb]; exact k0
        have hp0 : (0 : Int) ≤ (j : Int) := by omega
        have hp1 : (j : Int) < (d.length : Int) := by omega
        have hsz := hb.size
        have HPL := Lib.hid (refPlain_any s.cmd wr (by omega) l3)
        have HK := Lib.hid (And.intro k0 (And.intro k1 k4))
        clear k0 k1 k2 k3 k4
        go_wp2_with fail
        refine HPL.out.mono ?_
        rintro e w2 ⟨rfl, hb2⟩
        obtain ⟨k0, k1, k4⟩ := HK.out
        have hb02 : Below w.heap.size w w2 := hb.trans (hb2.mono hb.size)
        have p0 : w2.cell? ⟨b, off + j * 5, none⟩ = some (.string ⟨s.cmd.toArray⟩) := by rw [hb02.cell (p := ⟨b, off + j * 5, none⟩) hbb]; exact k0
        have p1 : w2.cell? ⟨b, off + j * 5 + 1, none⟩ = some (.slice s.A1 s.words.length s.c1) := by rw [hb02.cell (p := ⟨b, off + j * 5 + 1, none⟩) hbb]; exact k1
        have p4 : w2.cell? ⟨b, off + j * 5 + 4, none⟩ = some (.slice s.A2 s.suf.length s.c2) := by rw [hb02.cell (p := ⟨b, off + j * 5 + 4, none⟩) hbb]; exact k4
        have r1' := (r1.below hb02).more hb02.size
        have r2' := (r2.below hb02).more hb02.size
        clear hb2 r1 r2 q0 k0 k1 k4 HK HPL
        have HF1 := Lib.hid (long_any s.A1 s.c1 s.words w2 r1' l1)
        have HF2 := Lib.hid (long_any s.A2 s.c2 s.suf w2 r2' l2)
        have HC1 := Lib.hid (fun k => (empty_any s.A1 s.c1 s.words (w2.drewN k) r1' l1).mono fun e w' h => And.intro h.1 h.2.symm)
        cases hpl : plainS s.cmd with
        | false =>
          go_wp2
          go_ret
          exact ⟨ret_int (HV.out.stop hs h128 (code10 hpl) (by decide)), hb02⟩
        | true =>
          by_cases h1 : 512 < s.words.length
          · have hd1 : decide ((512 : Int) < (s.words.length : Int)) = true := by simp; omega
            go_wp2
            go_ret
            exact ⟨ret_int (HV.out.stop hs h128 (code4 hpl (.inl h1)) (by decide)), hb02⟩
          · have hd1 : decide ((512 : Int) < (s.words.length : Int)) = false := by simp; omega
            by_cases h2 : 512 < s.suf.length
            · have hd2 : decide ((512 : Int) < (s.suf.length : Int)) = true := by simp; omega
              go_wp2
              go_ret
              exact ⟨ret_int (HV.out.stop hs h128 (code4 hpl (.inr h2)) (by decide)), hb02⟩
            · have hd2 : decide ((512 : Int) < (s.suf.length : Int)) = false := by simp; omega
              go_wp2_with fail
              refine HF1.out.mono ?_
              rintro e w3 ⟨rfl, rfl⟩
              cases hg1 : longS s.words with
              | true =>
                go_wp2
                go_ret
                exact ⟨ret_int (HV.out.stop hs h128 (code3 hpl h1 h2 (by rw [hg1]; rfl)) (by decide)), hb02⟩
              | false =>
                go_wp2_with fail
                refine HF2.out.mono ?_
                rintro e w3 ⟨rfl, rfl⟩
                cases hg2 : longS s.suf with
                | true =>
                  go_wp2
                  go_ret
                  exact ⟨ret_int (HV.out.stop hs h128 (code3 hpl h1 h2 (by rw [hg1, hg2]; rfl)) (by decide)), hb02⟩
                | false =>
                  cases he : emptyS s.words with
                  | true =>
                    rw [he] at HC1
                    go_wp2
                    go_quiet ((go_at_call 21; exact Calls.quiet_of_same (HC1.out _)))
                    go_wp2
                    go_ret
                    exact ⟨ret_int (HV.out.stop hs h128 (code1 hpl h1 h2 hg1 hg2 (by rw [he]; rfl)) (by decide)), below_drewN hb02 _⟩
                  | false =>
                    rw [he] at HC1
                    rcases j with _ | k
                    · go_wp2
                      go_quiet ((go_at_call 21; exact Calls.quiet_of_same (HC1.out _)))
                      go_wp2
                      exact ⟨⟨1, by omega, rfl, HV.out.next hs (code0 hpl h1 h2 hg1 hg2 (by rw [he]; rfl)), below_drewN hb02 _⟩, by simp [intOf]; omega⟩
                    · obtain ⟨sp, hsp⟩ : ∃ sp, d[k]? = some sp := ⟨d[k], by simp⟩
                      have hk0 := (hcell k sp hsp).1
                      have q0 : w2.cell? ⟨b, off + k * 5, none⟩ = some (.string ⟨sp.cmd.toArray⟩) := by rw [hb02.cell (p := ⟨b, off + k * 5, none⟩) hbb]; exact hk0
                      clear hk0
                      have hd3 : decide ((0 : Int) < (k : Int) + 1) = true := decide_eq_true (by omega)
                      have hx3 : IntKind.i64.wrap (k : Int) = (k : Int) := by rw [IntKind.wrap_i64]; omega
                      have hp2 : (0 : Int) ≤ (k : Int) := by omega
                      have hp3 : (k : Int) < (d.length : Int) := by omega
                      have hp4 : (0 : Int) ≤ (k : Int) + 1 := by omega
                      have hp5 : (k : Int) + 1 < (d.length : Int) := by omega
                      have HPS := Lib.hid (prev_succ hsp)
                      have hge := leC_ge s.cmd sp.cmd
                      cases hle : leC s.cmd sp.cmd with
                      | true =>
                        have hle' : Op.bytesLess sp.cmd s.cmd = false := by rw [hle] at hge; simpa using hge
                        clear hge
                        go_wp2
                        go_quiet ((go_at_call 21; exact Calls.quiet_of_same (HC1.out _)))
                        go_wp2
                        all_goals go_ret
                        all_goals exact ⟨ret_int (HV.out.stop hs h128 (code1 hpl h1 h2 hg1 hg2 (by rw [he, HPS.out]; exact hle)) (by decide)), below_drewN hb02 _⟩
                      | false =>
                        have hle' : Op.bytesLess sp.cmd s.cmd = true := by rw [hle] at hge; simpa using hge
                        clear hge
                        go_wp2
                        go_quiet ((go_at_call 21; exact Calls.quiet_of_same (HC1.out _)))
                        go_wp2
                        all_goals exact ⟨⟨k + 2, by omega, by simp; omega, HV.out.next hs (code0 hpl h1 h2 hg1 hg2 (by rw [he, HPS.out]; exact hle)), below_drewN hb02 _⟩, by simp [intOf]; omega⟩
      · have hp1 : decide ((j : Int) < (d.length : Int)) = false := by simp; omega
        obtain rfl : j = d.length := by omega
        go_wp2
        go_ret
        exact ⟨ret_int (HV.out.end_ h128), hb⟩
end Go.Proofs.YtgllcbapmnflaaaGreatDoor

namespace Go.Proofs.YtgllcbapmnflaaaGreatDoor
open Go.RowKit Go.EvL
def bytesG : List (List UInt8) → Int → Int
  | [], n => n
  | t :: r, n => if 20000 < wrap64 (wrap64 (n + (t.length : Int)) + 1) then 20001 else bytesG r (wrap64 (wrap64 (n + (t.length : Int)) + 1))
def bytesS (d : List (List UInt8)) : Int := if (20000 : Int) < (d.length : Int) then 20001 else bytesG d 0
def BRel (d : List (List UInt8)) (i n : Value) : Prop := ∃ (j : Nat) (z : Int), j ≤ d.length ∧ i = .int .i64 (j : Int) ∧ n = .int .i64 z ∧ bytesG (d.drop j) z = bytesG d 0
theorem bytesG_stop {d : List (List UInt8)} {j : Nat} {z : Int} (hj : j < d.length) (h : bytesG (d.drop j) z = bytesG d 0) (hb : 20000 < wrap64 (wrap64 (z + (d[j].length : Int)) + 1)) : 20001 = bytesG d 0 := by
  rw [List.drop_eq_getElem_cons hj, bytesG, if_pos hb] at h; exact h
theorem bytesG_next {d : List (List UInt8)} {j : Nat} {z : Int} (hj : j < d.length) (h : bytesG (d.drop j) z = bytesG d 0) (hb : ¬ 20000 < wrap64 (wrap64 (z + (d[j].length : Int)) + 1)) : bytesG (d.drop (j + 1)) (wrap64 (wrap64 (z + (d[j].length : Int)) + 1)) = bytesG d 0 := by
  rw [List.drop_eq_getElem_cons hj, bytesG, if_neg hb] at h; exact h
set_option maxRecDepth 100000 in
set_option maxHeartbeats 2000000 in
theorem bytes_val (A : Option Addr) (c : Nat) (d : List (List UInt8)) (w : World) (h : Reads w w.heap.size A d) (hl : d.length ≤ 9223372036854775807) :
    Calls Tryz.prog 5 #[.slice A d.length c] w fun e w' => e = .returned (.int .i64 (bytesS d)) ∧ w = w' := by
  by_cases hbig : (20000 : Int) < (d.length : Int)
  · have hd : decide ((20000 : Int) < (d.length : Int)) = true := decide_eq_true hbig
    have HV : Hid (20001 = bytesS d) := Lib.hid (by unfold bytesS; rw [if_pos hbig])
    go_enter Tryz.func5, Tryz.ntmps5
    go_wp2
    go_ret
    exact ⟨ret_int HV.out, rfl⟩
  · have hd : decide ((20000 : Int) < (d.length : Int)) = false := decide_eq_false hbig
    have HV : Hid (bytesS d = bytesG d 0) := Lib.hid (by unfold bytesS; rw [if_neg hbig])
    go_enter Tryz.func5, Tryz.ntmps5
    go_wp2
    go_loop [4, 3] (fun i n => BRel d i n) (fun i _ => d.length - (intOf i).toNat)
    case atStart => exact ⟨0, 0, by omega, rfl, rfl, rfl⟩
    case round =>
      obtain ⟨j, z, hj, rfl, rfl, hg⟩ := hrel
      have HG := Lib.hid hg
      clear hg
      by_cases hlt : j < d.length
      · obtain ⟨b, off, rfl, hb, hcell⟩ := reads_text h hlt
        have hq := hcell j hlt
        have hp0 : (0 : Int) ≤ (j : Int) := by omega
        have hp1 : (j : Int) < (d.length : Int) := by omega
        by_cases hm : 20000 < wrap64 (wrap64 (z + (d[j].length : Int)) + 1)
        · have hdm : decide (20000 < wrap64 (wrap64 (z + (d[j].length : Int)) + 1)) = true := decide_eq_true hm
          go_wp2
          all_goals go_ret
          all_goals exact ⟨ret_int (by rw [HV.out]; exact bytesG_stop hlt HG.out hm), rfl⟩
        · have hdm : decide (20000 < wrap64 (wrap64 (z + (d[j].length : Int)) + 1)) = false := decide_eq_false hm
          go_wp2
          all_goals exact ⟨⟨j + 1, _, by omega, by simp, rfl, bytesG_next hlt HG.out hm⟩, by simp [intOf]; omega⟩
      · have hp1 : decide ((j : Int) < (d.length : Int)) = false := by simp; omega
        obtain rfl : j = d.length := by omega
        rw [List.drop_length] at HG
        go_wp2
        go_ret
        exact ⟨ret_int (by rw [HV.out]; exact HG.out), rfl⟩
def FRelI (w : World) (d : List Sp) (i n : Value) (wr : World) : Prop := ∃ (j q : Nat) (z : Int), j ≤ d.length ∧ i = .int .i64 (j : Int) ∧ n = .int .i64 z ∧ wr = w.drewN q
set_option maxRecDepth 100000 in
set_option maxHeartbeats 4000000 in
theorem few_any (A : Option Addr) (c : Nat) (d : List Sp) (w : World) (h : SReads w w.heap.size A d) (hl : d.length ≤ 9223372036854775807) :
    Calls Tryz.prog 9 #[.slice A d.length c] w fun e w' => (∃ b : Bool, e = .returned (.bool b)) ∧ ∃ k, w' = w.drewN k := by
  by_cases hbig : (20000 : Int) < (d.length : Int)
  · have hd : decide ((20000 : Int) < (d.length : Int)) = true := decide_eq_true hbig
    go_enter Tryz.func9, Tryz.ntmps9
    go_wp2
    go_ret
    exact ⟨⟨_, rfl⟩, 0, rfl⟩
  · have hd : decide ((20000 : Int) < (d.length : Int)) = false := decide_eq_false hbig
    go_enter Tryz.func9, Tryz.ntmps9
    go_wp2
    go_loopw [4, 3] (fun i n wr => FRelI w d i n wr) (fun i _ _ => d.length - (intOf i).toNat)
    case atStart => exact ⟨0, 0, _, by omega, rfl, rfl, rfl⟩
    case round =>
      obtain ⟨j, q, z, hj, rfl, rfl, rfl⟩ := hrel
      by_cases hlt : j < d.length
      · obtain ⟨b, off, rfl, hbb, hcell⟩ := h (by omega)
        obtain ⟨s, hs⟩ : ∃ s, d[j]? = some s := ⟨d[j], by simp [hlt]⟩
        obtain ⟨k0, k1, k2, k3, k4, r1, r2, l1, l2, l3⟩ := hcell j s hs
        obtain ⟨w0, hw0⟩ : ∃ w0, w0 = w.drewN q := ⟨_, rfl⟩
        have q0 : w0.cell? ⟨b, off + j * 5, none⟩ = some (.string ⟨s.cmd.toArray⟩) := by rw [hw0]; exact k0
        have q1 : w0.cell? ⟨b, off + j * 5 + 1, none⟩ = some (.slice s.A1 s.words.length s.c1) := by rw [hw0]; exact k1
        have q4 : w0.cell? ⟨b, off + j * 5 + 4, none⟩ = some (.slice s.A2 s.suf.length s.c2) := by rw [hw0]; exact k4
        have hp0 : (0 : Int) ≤ (j : Int) := by omega
        have hp1 : (j : Int) < (d.length : Int) := by omega
        have HB1 := Lib.hid (fun k => (bytes_val s.A1 s.c1 s.words (w0.drewN k) (by rw [hw0]; exact r1) l1).mono fun e w' h => And.intro h.1 h.2.symm)
        have HB2 := Lib.hid (fun k => (bytes_val s.A2 s.c2 s.suf (w0.drewN k) (by rw [hw0]; exact r2) l2).mono fun e w' h => And.intro h.1 h.2.symm)
        rw [← hw0]
        have HW0 := Lib.hid hw0
        clear k0 k1 k2 k3 k4 r1 r2 hs hcell hw0
        go_wp2
        go_quiet (first
          | (go_at_call_of 5 (Value.slice s.A1 s.words.length s.c1); exact Calls.quiet_of_same (HB1.out _))
          | (go_at_call_of 5 (Value.slice s.A2 s.suf.length s.c2); exact Calls.quiet_of_same (HB2.out _)))
        go_wp2
        · go_ret
          exact ⟨⟨_, rfl⟩, _, by rw [HW0.out, World.drewN_drewN]⟩
        · exact ⟨⟨j + 1, _, _, by omega, by simp, rfl, by rw [HW0.out, World.drewN_drewN]⟩, by simp [intOf]; omega⟩
      · have hp1 : decide ((j : Int) < (d.length : Int)) = false := by simp; omega
        go_wp2
        go_ret
        exact ⟨⟨_, rfl⟩, _, rfl⟩
theorem SReads.below {w w' : World} {B : Nat} {A : Option Addr} {d : List Sp} (h : SReads w B A d) (hb : Below B w w') (hB : B ≤ w'.heap.size) : SReads w' w'.heap.size A d := fun hn => by
  obtain ⟨b, off, e, hlt, hc⟩ := h hn
  refine ⟨b, off, e, by omega, fun j s hs => ?_⟩
  obtain ⟨k0, k1, k2, k3, k4, r1, r2, l1, l2, l3⟩ := hc j s hs
  have hk : ∀ i, w'.cell? ⟨b, i, none⟩ = w.cell? ⟨b, i, none⟩ := fun i => hb.cell (p := ⟨b, i, none⟩) hlt
  exact ⟨by rw [hk]; exact k0, by rw [hk]; exact k1, by rw [hk]; exact k2, by rw [hk]; exact k3, by rw [hk]; exact k4, (r1.below hb).more hB, (r2.below hb).more hB, l1, l2, l3⟩
set_option maxRecDepth 100000 in
set_option maxHeartbeats 4000000 in
theorem valids_walk (A : Option Addr) (c : Nat) (d : List Sp) (w : World) (h : SReads w w.heap.size A d) (hl : d.length ≤ 9223372036854775807) (hw : LaidW w) :
    Calls Tryz.prog 4 #[.slice A d.length c] w fun e w' => e = .returned (.bool true) ∧ Below w.heap.size w w' := by
  have HB := Lib.hid (few_any A c d w h hl)
  have H6 := hw.1
  have HV := Lib.hid (fun k => valid_any A c d (w.drewN k) H6 h hl)
  have HR := Lib.hid (fun (u : World) (hu : Below w.heap.size w u) => refValid_any A c d u (Nat.le_trans H6 hu.size) (h.below hu hu.size) hl)
  have HA := Lib.hid (fun (u : World) (hu : Below w.heap.size w u) => awake_any u (hw.below hu))
  clear hw
  go_enter Tryz.func4, Tryz.ntmps4
  go_wp2_with fail
  refine HB.out.mono ?_
  rintro e w' ⟨⟨fb, rfl⟩, k, rfl⟩
  have hb1 : Below w.heap.size w (w.drewN k) := below_drewN (Below.refl _ w) k
  cases fb with
  | false =>
    go_wp2_with fail
    refine (HA.out _ hb1).mono ?_
    rintro e w' ⟨rfl, hb⟩
    go_wp2
    go_ret
    exact ⟨rfl, hb1.trans hb⟩
  | true =>
    go_wp2_with fail
    refine (HV.out k).mono ?_
    rintro e w2 ⟨rfl, hb2⟩
    have hb02 : Below w.heap.size w w2 := hb1.trans hb2
    clear hb2
    go_wp2_with fail
    refine (HR.out w2 hb02).mono ?_
    rintro e w3 ⟨rfl, hb3⟩
    have hb03 : Below w.heap.size w w3 := hb02.trans (hb3.mono hb02.size)
    clear hb3
    go_wp2_with fail
    refine (HA.out w3 hb03).mono ?_
    rintro e w4 ⟨rfl, hb4⟩
    go_wp2
    go_ret
    exact ⟨rfl, hb03.trans (hb4.mono hb03.size)⟩
end Go.Proofs.YtgllcbapmnflaaaGreatDoor
