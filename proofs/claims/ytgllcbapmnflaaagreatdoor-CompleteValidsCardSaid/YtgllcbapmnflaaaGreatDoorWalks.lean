/- What bytes, Common and the reference Common compute. No statement is proved here. -/
import Derived.Test.YtgllcbapmnflaaaGreatDoorRows
import Derived.Below
import Derived.Laws.OwnMore
import Derived.Deep.Draws
import Derived.Laws.Rows
import Derived.RegionTactic
import Derived.OwnWalk
import Derived.Lib.Hide
import Derived.BigQuiet
import Derived.WalkKit
namespace Go.Proofs.YtgllcbapmnflaaaGreatDoor
open Go.RowKit
theorem block_of_add (a : Addr) (n : Nat) : (a.add n).block = a.block := by unfold Addr.add; split <;> rfl
theorem add_of_add (a : Addr) (i j : Nat) : (a.add i).add j = a.add (i + j) := by
  unfold Addr.add
  by_cases hi : i = 0 <;> by_cases hj : j = 0 <;> simp [hi, hj, Nat.add_assoc]
/-- texts as cells -/
def sv (d : List (List UInt8)) : List Value := d.map fun t => .string ⟨t.toArray⟩
theorem sv_length (d : List (List UInt8)) : (sv d).length = d.length := List.length_map _
/-- a slice of texts that can be read -/
def Reads (w : World) (B : Nat) (A : Option Addr) (d : List (List UInt8)) : Prop :=
  0 < d.length → ∃ ad : Addr, A = some ad ∧ ad.block < B ∧ ∀ j t, d[j]? = some t → w.cell? (ad.add j) = some (.string ⟨t.toArray⟩)
theorem Reads.below {w w' : World} {B : Nat} {A : Option Addr} {d : List (List UInt8)} (h : Reads w B A d) (hb : Below B w w') : Reads w' B A d := fun hn => by
  obtain ⟨ad, e, hlt, hc⟩ := h hn
  exact ⟨ad, e, hlt, fun j t hj => (hb.cell (by rw [block_of_add]; exact hlt)).trans (hc j t hj)⟩
theorem reads_text {w : World} {B : Nat} {A : Option Addr} {d : List (List UInt8)} {k : Nat} (h : Reads w B A d) (hk : k < d.length) :
    ∃ b off, A = some ⟨b, off, none⟩ ∧ b < B ∧ ∀ j, (hj : j < d.length) → w.cell? ⟨b, off + j, none⟩ = some (.string ⟨d[j].toArray⟩) := by
  obtain ⟨⟨b, off, sp⟩, rfl, hb, hc⟩ := h (by omega)
  have hsp : sp = none := by
    have h0 := hc 0 (d[0]'(by omega)) (List.getElem?_eq_getElem (by omega))
    simpa [Addr.add] using World.cell?_spot h0
  subst hsp
  refine ⟨b, off, rfl, hb, fun j hj => ?_⟩
  have hadd : (⟨b, off, none⟩ : Addr).add j = ⟨b, off + j, none⟩ := by unfold Addr.add; split <;> simp_all
  rw [← hadd]
  exact hc j d[j] (List.getElem?_eq_getElem hj)
def BytesRel (d : List (List UInt8)) (i n : Value) : Prop := ∃ (j : Nat) (z : Int), j ≤ d.length ∧ i = .int .i64 (j : Int) ∧ n = .int .i64 z
set_option maxRecDepth 100000 in
set_option maxHeartbeats 2000000 in
theorem bytes_any (A : Option Addr) (c : Nat) (d : List (List UInt8)) (w : World) (h : Reads w w.heap.size A d) (hl : d.length ≤ 9223372036854775807) :
    Calls Tryz.prog 5 #[.slice A d.length c] w fun e w' => (∃ z : Int, e = .returned (.int .i64 z)) ∧ w = w' := by
  by_cases hbig : (20000 : Int) < (d.length : Int)
  · have hd : decide ((20000 : Int) < (d.length : Int)) = true := decide_eq_true hbig
    go_enter Tryz.func5, Tryz.ntmps5
    go_wp2
    go_ret
    exact ⟨⟨_, rfl⟩, rfl⟩
  · have hd : decide ((20000 : Int) < (d.length : Int)) = false := decide_eq_false hbig
    go_enter Tryz.func5, Tryz.ntmps5
    go_wp2
    go_loop [4, 3] (fun i n => BytesRel d i n) (fun i _ => d.length - (intOf i).toNat)
    case atStart => exact ⟨0, 0, by omega, rfl, rfl⟩
    case round =>
      obtain ⟨j, z, hj, rfl, rfl⟩ := hrel
      by_cases hlt : j < d.length
      · obtain ⟨b, off, rfl, hb, hcell⟩ := reads_text h hlt
        have hq := hcell j hlt
        have hp0 : (0 : Int) ≤ (j : Int) := by omega
        have hp1 : (j : Int) < (d.length : Int) := by omega
        go_wp2
        · go_ret
          exact ⟨⟨_, rfl⟩, rfl⟩
        · exact ⟨⟨j + 1, _, by omega, by simp, rfl⟩, by simp [intOf]; omega⟩
      · have hp1 : decide ((j : Int) < (d.length : Int)) = false := by simp; omega
        go_wp2
        go_ret
        exact ⟨⟨_, rfl⟩, rfl⟩
/-- how far two texts agree, at most n -/
def mat : Nat → List UInt8 → List UInt8 → Nat
  | n + 1, a :: t, b :: s => if a = b then mat n t s + 1 else 0
  | _, _, _ => 0
theorem mat_eq : ∀ (n : Nat) (t s : List UInt8) (k : Nat), k ≤ n → k ≤ t.length → k ≤ s.length → (∀ i, i < k → t[i]? = s[i]?) → ¬ (k < n ∧ k < t.length ∧ k < s.length ∧ t[k]? = s[k]?) → mat n t s = k := by
  intro n
  induction n with
  | zero => intro t s k h _ _ _ _; unfold mat; omega
  | succ n ih =>
    intro t s k h1 h2 h3 h4 h5
    cases t with
    | nil => have : k = 0 := by simpa using h2
             subst this; rfl
    | cons a t =>
      cases s with
      | nil => have : k = 0 := by simpa using h3
               subst this; rfl
      | cons b s =>
        unfold mat
        cases k with
        | zero =>
          rw [if_neg]
          intro e
          exact h5 ⟨by omega, by simp, by simp, by simp [e]⟩
        | succ k =>
          have h0 := h4 0 (by omega)
          simp at h0
          rw [if_pos h0, ih t s k (by omega) (by simpa using h2) (by simpa using h3) (fun i hi => by simpa using h4 (i + 1) (by omega)) (fun ⟨a1, a2, a3, a4⟩ => h5 ⟨by omega, by simpa using a2, by simpa using a3, by simpa using a4⟩)]
theorem mat_le : ∀ (n : Nat) (t s : List UInt8), mat n t s ≤ n ∧ mat n t s ≤ t.length ∧ mat n t s ≤ s.length ∧ t.take (mat n t s) = s.take (mat n t s) := by
  intro n
  induction n with
  | zero => intro t s; unfold mat; simp
  | succ n ih =>
    intro t s
    cases t with
    | nil => unfold mat; simp
    | cons a t =>
      cases s with
      | nil => unfold mat; simp
      | cons b s =>
        unfold mat
        split
        · rename_i e
          obtain ⟨h1, h2, h3, h4⟩ := ih t s
          refine ⟨by omega, by simp; omega, by simp; omega, ?_⟩
          rw [List.take_succ_cons, List.take_succ_cons, h4, e]
        · simp
/-- the length of the part that all texts share -/
def com (t : List UInt8) (n : Nat) (d : List (List UInt8)) : Nat := d.foldl (fun n s => mat n t s) n
end Go.Proofs.YtgllcbapmnflaaaGreatDoor

namespace Go.Proofs.YtgllcbapmnflaaaGreatDoor
open Go.RowKit
def InRel (w : World) (x s : List UInt8) (i : Value) (wr : World) : Prop := ∃ k q : Nat, k ≤ x.length ∧ k ≤ s.length ∧ (∀ i, i < k → x[i]? = s[i]?) ∧ i = .int .i64 (k : Int) ∧ wr = w.drewN q
def OutRel (w : World) (t : List UInt8) (r : List (List UInt8)) (i o : Value) (wr : World) : Prop := ∃ j q : Nat, j ≤ r.length ∧ i = .int .i64 (j : Int) ∧ o = .string ⟨(t.take (com t t.length (r.take j))).toArray⟩ ∧ wr = w.drewN q
theorem com_nil (t : List UInt8) (n : Nat) : com t n [] = n := rfl
theorem com_snoc (t : List UInt8) (n : Nat) (d : List (List UInt8)) (s : List UInt8) : com t n (d ++ [s]) = mat (com t n d) t s := by simp [com]
theorem com_le (t : List UInt8) (d : List (List UInt8)) : ∀ n, com t n d ≤ n := by
  induction d with
  | nil => intro n; exact Nat.le_refl _
  | cons s d ih => intro n; exact Nat.le_trans (ih _) (mat_le n t s).1
theorem com_next {t x s : List UInt8} {r : List (List UInt8)} {j k : Nat} (hj : j < r.length) (hx : x = t.take (com t t.length (r.take j))) (hs : s = r[j]) (h1 : k ≤ x.length) (h2 : k ≤ s.length) (h3 : ∀ i, i < k → x[i]? = s[i]?) (h4 : ¬ (k < x.length ∧ k < s.length ∧ x[k]? = s[k]?)) :
    t.take (com t t.length (r.take (j + 1))) = x.take k := by
  have hm := com_le t (r.take j) t.length
  have hxl : x.length = com t t.length (r.take j) := by rw [hx, List.length_take]; omega
  have hxi : ∀ i, i < com t t.length (r.take j) → x[i]? = t[i]? := fun i hi => by rw [hx, List.getElem?_take, if_pos hi]
  rw [List.take_succ_eq_append_getElem hj, com_snoc, ← hs, mat_eq _ t s k (by omega) (by omega) h2 (fun i hi => by rw [← hxi i (by omega)]; exact h3 i hi) (fun ⟨a1, a2, a3, a4⟩ => h4 ⟨by omega, a3, by rw [hxi k a1]; exact a4⟩)]
  rw [hx, List.take_take, Nat.min_eq_left (by omega)]
theorem ext_take (x : List UInt8) (k : Nat) : (⟨x.toArray⟩ : ByteArray).extract 0 k = ⟨(x.take k).toArray⟩ := by
  apply ByteArray.ext
  rw [ByteArray.data_extract]
  apply Array.ext'
  simp [List.extract_eq_take_drop]
theorem out_next {w w0 : World} {t x s : List UInt8} {r : List (List UInt8)} {j k q n : Nat} (hj : j < r.length) (H : x = t.take (com t t.length (r.take j)) ∧ s = r[j] ∧ w0 = w.drewN q) (h1 : k ≤ x.length) (h2 : k ≤ s.length) (h3 : ∀ i, i < k → x[i]? = s[i]?) (h4 : ¬ (k < x.length ∧ k < s.length ∧ x[k]? = s[k]?)) :
    OutRel w t r (.int .i64 ((j : Int) + 1)) (.string ((⟨x.toArray⟩ : ByteArray).extract 0 k)) (w0.drewN n) ∧ r.length - (intOf (Value.int .i64 ((j : Int) + 1))).toNat < r.length - (intOf (Value.int .i64 (j : Int))).toNat := by
  obtain ⟨hx, hs, rfl⟩ := H
  refine ⟨⟨j + 1, q + n, by omega, by simp, ?_, ?_⟩, by simp [intOf]; omega⟩
  · rw [com_next hj hx hs h1 h2 h3 h4, ext_take]
  · simp [World.drewN, Nat.add_assoc]
set_option maxRecDepth 100000 in
set_option maxHeartbeats 4000000 in
theorem common_any (A : Option Addr) (c : Nat) (t : List UInt8) (r : List (List UInt8)) (w : World) (h : Reads w w.heap.size A (t :: r)) (hc : r.length + 1 ≤ c) (hl : r.length + 1 ≤ 9223372036854775807) (hL : ∀ s ∈ t :: r, s.length ≤ 9223372036854775807) :
    Calls Tryz.prog 7 #[.slice A (r.length + 1) c] w fun e w' => e = .returned (.string ⟨(t.take (com t t.length r)).toArray⟩) ∧ ∃ k, w' = w.drewN k := by
  obtain ⟨b, off, rfl, hb, hcell⟩ := reads_text (k := 0) h (by simp)
  have h0 := hcell 0 (by simp)
  simp only [List.getElem_cons_zero, Nat.add_zero] at h0
  have hp : ((r.length : Int) + 1 == 0) = false := by simp; omega
  by_cases hc1 : c = 1
  · obtain rfl : r = [] := by cases r with | nil => rfl | cons a r => simp at hc; omega
    subst hc1
    have hcm : com t t.length [] = t.length := rfl
    go_enter Tryz.func7, Tryz.ntmps7
    go_wp2
    go_loopw [16, 3] (fun i o wr => i = .int .i64 0 ∧ o = .string ⟨t.toArray⟩ ∧ wr = w) (fun _ _ _ => 0)
    case atStart => exact ⟨rfl, rfl, rfl⟩
    case round =>
      obtain ⟨rfl, rfl, rfl⟩ := hrel
      go_wp2
      go_ret
      rw [hcm, List.take_length]
      exact ⟨rfl, 0, rfl⟩
  · go_enter Tryz.func7, Tryz.ntmps7
    go_wp2
    go_loopw [16, 3] (fun i o wr => OutRel w t r i o wr) (fun i _ _ => r.length - (intOf i).toNat)
    case atStart => exact ⟨0, 0, by omega, rfl, by simp [com_nil], rfl⟩
    case round =>
      obtain ⟨j, q, hj, rfl, rfl, rfl⟩ := hrel
      by_cases hlt : j < r.length
      · have hq : (w.drewN q).cell? ⟨b, off + 1 + j, none⟩ = some (.string ⟨r[j].toArray⟩) := by
          have := hcell (j + 1) (by simp; omega)
          simp only [List.getElem_cons_succ] at this
          rw [show off + 1 + j = off + (j + 1) by omega]
          exact this
        have hp0 : (0 : Int) ≤ (j : Int) := by omega
        have hp1 : (j : Int) < (r.length : Int) := by omega
        obtain ⟨x, hx⟩ : ∃ x, x = t.take (com t t.length (r.take j)) := ⟨_, rfl⟩
        obtain ⟨s, hs⟩ : ∃ s, s = r[j] := ⟨_, rfl⟩
        obtain ⟨w0, hw0⟩ : ∃ w0, w0 = w.drewN q := ⟨_, rfl⟩
        rw [← hx]
        have hsl : s.length ≤ 9223372036854775807 := by rw [hs]; exact hL _ (by simp)
        rw [← hs, ← hw0] at hq
        rw [← hw0]
        have HX := Lib.hid (And.intro hx (And.intro hs hw0))
        clear hx hs hw0
        go_wp2
        go_loopw [6] (fun i wr => InRel w0 x s i wr) (fun i _ => x.length - (intOf i).toNat)
        case atStart => exact ⟨0, 0, by omega, by omega, by omega, rfl, rfl⟩
        case round =>
          obtain ⟨k, q2, hk1, hk2, hk3, rfl, rfl⟩ := hrel
          have HK := Lib.hid hk3
          clear hk3
          by_cases hlx : k < x.length
          · by_cases hls : k < s.length
            · have hd1 : decide ((k : Int) < (x.length : Int)) = true := by simp; omega
              have hd2 : decide ((k : Int) < (s.length : Int)) = true := by simp; omega
              have hz : (0 : Int) ≤ (k : Int) := by omega
              have hk63 : (k : Int) + 1 ≤ 9223372036854775807 := by omega
              by_cases he : x[k] = s[k]
              · have hd3 : (((⟨x.toArray⟩ : ByteArray)[k].toNat : Int) == ((⟨s.toArray⟩ : ByteArray)[k].toNat : Int)) = true := by
                  rw [show (⟨x.toArray⟩ : ByteArray)[k] = x[k] from rfl, show (⟨s.toArray⟩ : ByteArray)[k] = s[k] from rfl, he]; simp
                go_wp2
                go_quiet (fail)
                go_wp2
                go_roundw
                case rel => exact ⟨k + 1, _, by omega, by omega, fun i hi => by
                    by_cases hik : i = k
                    · rw [hik, List.getElem?_eq_getElem hlx, List.getElem?_eq_getElem hls, he]
                    · exact HK.out i (by omega), by simp, rfl⟩
                case measure => simp [intOf]; omega
              · have hd3 : (((⟨x.toArray⟩ : ByteArray)[k].toNat : Int) == ((⟨s.toArray⟩ : ByteArray)[k].toNat : Int)) = false := by
                  rw [show (⟨x.toArray⟩ : ByteArray)[k] = x[k] from rfl, show (⟨s.toArray⟩ : ByteArray)[k] = s[k] from rfl]
                  have : x[k].toNat ≠ s[k].toNat := fun e => he (UInt8.toNat_inj.1 e)
                  simp; omega
                go_wp2
                go_quiet (fail)
                go_wp2
                exact out_next hlt HX.out hk1 hk2 HK.out fun ⟨_, _, a3⟩ => he (by rw [List.getElem?_eq_getElem hlx, List.getElem?_eq_getElem hls] at a3; injection a3)
            · have hd1 : decide ((k : Int) < (x.length : Int)) = true := by simp; omega
              have hd2 : decide ((k : Int) < (s.length : Int)) = false := by simp; omega
              have hz : (0 : Int) ≤ (k : Int) := by omega
              have hz2 : (k : Int) ≤ (x.length : Int) := by omega
              go_wp2
              go_quiet (fail)
              go_wp2
              exact out_next hlt HX.out hk1 hk2 HK.out fun hh => hls hh.2.1
          · have hd1 : decide ((k : Int) < (x.length : Int)) = false := by simp; omega
            have hz : (0 : Int) ≤ (k : Int) := by omega
            have hz2 : (k : Int) ≤ (x.length : Int) := by omega
            go_wp2
            go_quiet (fail)
            go_wp2
            exact out_next hlt HX.out hk1 hk2 HK.out fun hh => hlx hh.1
      · have hp1 : decide ((j : Int) < (r.length : Int)) = false := by simp; omega
        obtain rfl : j = r.length := by omega
        go_wp2
        go_ret
        rw [List.take_length]
        exact ⟨rfl, _, rfl⟩
end Go.Proofs.YtgllcbapmnflaaaGreatDoor

namespace Go.Proofs.YtgllcbapmnflaaaGreatDoor
open Go.RowKit
def RefRel (w : World) (t : List UInt8) (r : List (List UInt8)) (i n : Value) (wr : World) : Prop := ∃ j q : Nat, j ≤ r.length ∧ i = .int .i64 ((j : Int) + 1) ∧ n = .int .i64 ((com t t.length (r.take j) : Nat) : Int) ∧ wr = w.drewN q
def RefIn (w : World) (m : Nat) (t s : List UInt8) (i : Value) (wr : World) : Prop := ∃ k q : Nat, k ≤ m ∧ k ≤ s.length ∧ (∀ i, i < k → t[i]? = s[i]?) ∧ i = .int .i64 (k : Int) ∧ wr = w.drewN q
theorem ref_next {w w0 : World} {t s : List UInt8} {r : List (List UInt8)} {j k q n m : Nat} (hj : j < r.length) (H : m = com t t.length (r.take j) ∧ s = r[j] ∧ w0 = w.drewN q) (h1 : k ≤ m) (h2 : k ≤ s.length) (h3 : ∀ i, i < k → t[i]? = s[i]?) (h4 : ¬ (k < m ∧ k < s.length ∧ t[k]? = s[k]?)) :
    RefRel w t r (.int .i64 ((j : Int) + 1 + 1)) (.int .i64 (k : Int)) (w0.drewN n) ∧ r.length + 2 - (intOf (Value.int .i64 ((j : Int) + 1 + 1))).toNat < r.length + 2 - (intOf (Value.int .i64 ((j : Int) + 1))).toNat := by
  obtain ⟨rfl, hs, rfl⟩ := H
  have hm := com_le t (r.take j) t.length
  refine ⟨⟨j + 1, q + n, by omega, by simp, ?_, ?_⟩, by simp [intOf]; omega⟩
  · rw [List.take_succ_eq_append_getElem hj, com_snoc, ← hs, mat_eq _ t s k h1 (by omega) h2 h3 (fun ⟨a1, _, a3, a4⟩ => h4 ⟨a1, a3, a4⟩)]
  · simp [World.drewN, Nat.add_assoc]
set_option maxRecDepth 100000 in
set_option maxHeartbeats 4000000 in
theorem refCommon_any (A : Option Addr) (c : Nat) (t : List UInt8) (r : List (List UInt8)) (w : World) (h : Reads w w.heap.size A (t :: r)) (hl : r.length + 1 ≤ 9223372036854775807) (hL : ∀ s ∈ t :: r, s.length ≤ 9223372036854775807) :
    Calls Tryz.prog 8 #[.slice A (r.length + 1) c] w fun e w' => e = .returned (.string ⟨(t.take (com t t.length r)).toArray⟩) ∧ ∃ k, w' = w.drewN k := by
  obtain ⟨b, off, rfl, hb, hcell⟩ := reads_text (k := 0) h (by simp)
  have h0 := hcell 0 (by simp)
  simp only [List.getElem_cons_zero, Nat.add_zero] at h0
  have hp : ((r.length : Int) + 1 == 0) = false := by simp; omega
  have htl : t.length ≤ 9223372036854775807 := hL t (by simp)
  go_enter Tryz.func8, Tryz.ntmps8
  go_wp2
  go_loopw [4, 3] (fun i n wr => RefRel w t r i n wr) (fun i _ _ => r.length + 2 - (intOf i).toNat)
  case atStart => exact ⟨0, 0, by omega, rfl, by simp [com_nil], rfl⟩
  case round =>
    obtain ⟨j, q, hj, rfl, rfl, rfl⟩ := hrel
    by_cases hlt : j < r.length
    · have hq : (w.drewN q).cell? ⟨b, off + (j + 1), none⟩ = some (.string ⟨r[j].toArray⟩) := by
        have := hcell (j + 1) (by simp; omega)
        simp only [List.getElem_cons_succ] at this
        exact this
      have h0q : (w.drewN q).cell? ⟨b, off, none⟩ = some (.string ⟨t.toArray⟩) := h0
      have hp0 : (0 : Int) ≤ (j : Int) + 1 := by omega
      have hp1 : (j : Int) < (r.length : Int) := by omega
      have hp2 : (j : Int) + 1 < (r.length : Int) + 1 := by omega
      have hmt := com_le t (r.take j) t.length
      obtain ⟨m, hm⟩ : ∃ m, m = com t t.length (r.take j) := ⟨_, rfl⟩
      obtain ⟨s, hs⟩ : ∃ s, s = r[j] := ⟨_, rfl⟩
      obtain ⟨w0, hw0⟩ : ∃ w0, w0 = w.drewN q := ⟨_, rfl⟩
      rw [← hm] at hmt
      rw [← hm]
      have hsl : s.length ≤ 9223372036854775807 := by rw [hs]; exact hL _ (by simp)
      rw [← hs, ← hw0] at hq
      rw [← hw0] at h0q
      rw [← hw0]
      have HX := Lib.hid (And.intro hm (And.intro hs hw0))
      clear hm hs hw0
      go_wp2
      go_loopw [5] (fun i wr => RefIn w0 m t s i wr) (fun i _ => m - (intOf i).toNat)
      case atStart => exact ⟨0, 0, by omega, by omega, by omega, rfl, rfl⟩
      case round =>
        obtain ⟨k, q2, hk1, hk2, hk3, rfl, rfl⟩ := hrel
        have HK := Lib.hid hk3
        clear hk3
        have hq' : (w0.drewN q2).cell? ⟨b, off + (j + 1), none⟩ = some (.string ⟨s.toArray⟩) := hq
        have h0q' : (w0.drewN q2).cell? ⟨b, off, none⟩ = some (.string ⟨t.toArray⟩) := h0q
        have hz : (0 : Int) ≤ (k : Int) := by omega
        by_cases hlx : k < m
        · by_cases hls : k < s.length
          · have hd1 : decide ((k : Int) < (m : Int)) = true := by simp; omega
            have hd2 : decide ((k : Int) < (s.length : Int)) = true := by simp; omega
            have hd4 : (k : Int) < (t.length : Int) := by omega
            have hd5 : (k : Int) < (s.length : Int) := by omega
            have hk63 : (k : Int) + 1 ≤ 9223372036854775807 := by omega
            have hlt2 : k < t.length := by omega
            by_cases he : s[k] = t[k]
            · have hd3 : (((⟨s.toArray⟩ : ByteArray)[k].toNat : Int) == ((⟨t.toArray⟩ : ByteArray)[k].toNat : Int)) = true := by
                rw [show (⟨s.toArray⟩ : ByteArray)[k] = s[k] from rfl, show (⟨t.toArray⟩ : ByteArray)[k] = t[k] from rfl, he]; simp
              go_wp2
              go_quiet (fail)
              go_wp2
              go_roundw
              case rel => exact ⟨k + 1, _, by omega, by omega, fun i hi => by
                  by_cases hik : i = k
                  · rw [hik, List.getElem?_eq_getElem hls, List.getElem?_eq_getElem hlt2, he]
                  · exact HK.out i (by omega), by simp, rfl⟩
              case measure => simp [intOf]; omega
            · have hd3 : (((⟨s.toArray⟩ : ByteArray)[k].toNat : Int) == ((⟨t.toArray⟩ : ByteArray)[k].toNat : Int)) = false := by
                rw [show (⟨s.toArray⟩ : ByteArray)[k] = s[k] from rfl, show (⟨t.toArray⟩ : ByteArray)[k] = t[k] from rfl]
                have : s[k].toNat ≠ t[k].toNat := fun e => he (UInt8.toNat_inj.1 e)
                simp; omega
              go_wp2
              go_quiet (fail)
              go_wp2
              exact ref_next hlt HX.out hk1 hk2 HK.out fun ⟨_, _, a3⟩ => he (by rw [List.getElem?_eq_getElem hlt2, List.getElem?_eq_getElem hls] at a3; injection a3 with a3; exact a3.symm)
          · have hd1 : decide ((k : Int) < (m : Int)) = true := by simp; omega
            have hd2 : decide ((k : Int) < (s.length : Int)) = false := by simp; omega
            go_wp2
            go_quiet (fail)
            go_wp2
            exact ref_next hlt HX.out hk1 hk2 HK.out fun hh => hls hh.2.1
        · have hd1 : decide ((k : Int) < (m : Int)) = false := by simp; omega
          go_wp2
          go_quiet (fail)
          go_wp2
          exact ref_next hlt HX.out hk1 hk2 HK.out fun hh => hlx hh.1
    · obtain rfl : j = r.length := by omega
      have hp1 : decide ((r.length : Int) + 1 < (r.length : Int) + 1) = false := by simp
      have h0q : (w.drewN q).cell? ⟨b, off, none⟩ = some (.string ⟨t.toArray⟩) := h0
      have hmt := com_le t r t.length
      have hz0 : (0 : Int) ≤ (com t t.length r : Int) := by omega
      have hz1 : (com t t.length r : Int) ≤ (t.length : Int) := by omega
      rw [List.take_length]
      go_wp2
      go_ret
      rw [ext_take]
      exact ⟨rfl, _, rfl⟩
end Go.Proofs.YtgllcbapmnflaaaGreatDoor
