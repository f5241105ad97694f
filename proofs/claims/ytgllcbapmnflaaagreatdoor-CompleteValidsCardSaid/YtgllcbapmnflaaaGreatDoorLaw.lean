/- The law CompleteCommons, walked. No statement is proved here. -/
import Derived.Test.YtgllcbapmnflaaaGreatDoorWalks
import Derived.WalkSmall
import Derived.Test.YtgllcbapmnflaaaGreatDoorAwakeOk
namespace Go.Proofs.YtgllcbapmnflaaaGreatDoor
open Go.RowKit Go.EvL
/-- the world in which the law begins: the table of blanks lies as the program lays it -/
def LaidW (w : World) : Prop := 6 ≤ w.heap.size ∧ ∃ fz, w.heap[0]? = some (.cells asc.toArray 142 fz) ∧ fz.2 ≤ 256
theorem LaidW.below {w w' : World} (h : LaidW w) (hb : Below w.heap.size w w') : LaidW w' := by
  obtain ⟨h1, fz, h2, h3⟩ := h
  exact ⟨Nat.le_trans h1 hb.size, fz, by rw [hb.block 0 (by omega)]; exact h2, h3⟩
set_option maxRecDepth 1000000 in
theorem awake_any (w : World) (h : LaidW w) : Calls Tryz.prog 6 #[] w fun e w' => e = .returned (.bool true) ∧ Below w.heap.size w w' := by
  obtain ⟨h1, fz, h2, h3⟩ := h
  have hg : Tryz.prog.globals.size = 6 := by kernel_rfl
  refine closed_calls (env_of 135 (by kernel_rfl) (by kernel_rfl) (fun v w => by kernel_rfl)) (tys_of (by kernel_rfl)) (by kernel_rfl) (by rw [hg]; decide) laids (fun x hx => ?_) awake_ok w (by rw [hg]; exact h1) fun x hx => ?_
  · simp only [laids, List.mem_singleton] at hx
    subst hx
    exact ⟨by rw [hg]; decide, by kernel_rfl⟩
  · simp only [laids, List.mem_singleton] at hx
    subst hx
    exact ⟨fz, h2, by have : asc.length = 256 := by kernel_rfl
                      show fz.2 ≤ asc.length
                      omega⟩
def comS : List (List UInt8) → List UInt8
  | [] => []
  | t :: r => t.take (com t t.length r)
theorem com_pre (t : List UInt8) (r : List (List UInt8)) : ∀ n, n ≤ t.length → ∀ s ∈ r, com t n r ≤ s.length ∧ t.take (com t n r) = s.take (com t n r) := by
  induction r with
  | nil => intro n _ s hs; cases hs
  | cons x r ih =>
    intro n hn s hs
    obtain ⟨hm1, hm2, hm3, hm4⟩ := mat_le n t x
    have hle : com t n (x :: r) ≤ mat n t x := com_le t r _
    rcases List.mem_cons.1 hs with rfl | hs
    · refine ⟨by omega, ?_⟩
      have e1 : t.take (com t n (s :: r)) = (t.take (mat n t s)).take (com t n (s :: r)) := by rw [List.take_take, Nat.min_eq_left hle]
      have e2 : s.take (com t n (s :: r)) = (s.take (mat n t s)).take (com t n (s :: r)) := by rw [List.take_take, Nat.min_eq_left hle]
      rw [e1, e2, hm4]
    · exact ih _ (by omega) s hs
theorem comS_pre {d : List (List UInt8)} {s : List UInt8} (hs : s ∈ d) : (comS d).length ≤ s.length ∧ s.take (comS d).length = comS d := by
  cases d with
  | nil => cases hs
  | cons t r =>
    have hle := com_le t r t.length
    have hlen : (comS (t :: r)).length = com t t.length r := by simp only [comS, List.length_take]; omega
    rw [hlen]
    rcases List.mem_cons.1 hs with rfl | hs
    · exact ⟨hle, rfl⟩
    · obtain ⟨h1, h2⟩ := com_pre t r t.length (Nat.le_refl _) s hs
      exact ⟨h1, h2.symm⟩
set_option maxRecDepth 100000 in
theorem common_all (A : Option Addr) (c : Nat) (d : List (List UInt8)) (w : World) (h : Reads w w.heap.size A d) (hc : d.length ≤ c) (hl : d.length ≤ 9223372036854775807) (hL : ∀ s ∈ d, s.length ≤ 9223372036854775807) :
    Calls Tryz.prog 7 #[.slice A d.length c] w fun e w' => e = .returned (.string ⟨(comS d).toArray⟩) ∧ ∃ k, w' = w.drewN k := by
  cases d with
  | nil =>
    go_enter Tryz.func7, Tryz.ntmps7
    go_wp2
    go_ret
    exact ⟨rfl, 0, rfl⟩
  | cons t r => exact common_any A c t r w h hc hl hL
set_option maxRecDepth 100000 in
theorem refCommon_all (A : Option Addr) (c : Nat) (d : List (List UInt8)) (w : World) (h : Reads w w.heap.size A d) (hl : d.length ≤ 9223372036854775807) (hL : ∀ s ∈ d, s.length ≤ 9223372036854775807) :
    Calls Tryz.prog 8 #[.slice A d.length c] w fun e w' => e = .returned (.string ⟨(comS d).toArray⟩) ∧ ∃ k, w' = w.drewN k := by
  cases d with
  | nil =>
    go_enter Tryz.func8, Tryz.ntmps8
    go_wp2
    go_ret
    exact ⟨rfl, 0, rfl⟩
  | cons t r => exact refCommon_any A c t r w h hl hL
def LawRel (d : List (List UInt8)) (i : Value) : Prop := ∃ j : Nat, j ≤ d.length ∧ i = .int .i64 (j : Int)
set_option maxRecDepth 100000 in
set_option maxHeartbeats 4000000 in
theorem commons_walk (A : Option Addr) (c : Nat) (d : List (List UInt8)) (w : World) (h : Reads w w.heap.size A d) (hc : d.length ≤ c) (hl : d.length ≤ 9223372036854775807) (hL : ∀ s ∈ d, s.length ≤ 9223372036854775807) (hw : LaidW w) :
    Calls Tryz.prog 3 #[.slice A d.length c] w fun e w' => e = .returned (.bool true) ∧ Below w.heap.size w w' := by
  have HB := Lib.hid (bytes_any A c d w h hl)
  have HC := Lib.hid (common_all A c d w h hc hl hL)
  have HR := Lib.hid (fun k => refCommon_all A c d (w.drewN k) h hl hL)
  have HA := Lib.hid (fun k => awake_any (w.drewN k) hw)
  have HP := Lib.hid (fun s (hs : s ∈ d) => comS_pre hs)
  clear hw
  obtain ⟨x, hx⟩ : ∃ x, x = comS d := ⟨_, rfl⟩
  rw [← hx] at HC HR HP
  clear hx
  go_enter Tryz.func3, Tryz.ntmps3
  go_wp2_with fail
  refine HB.out.mono ?_
  rintro e w' ⟨⟨z, rfl⟩, rfl⟩
  by_cases hz : 20000 < z
  · have hd : decide (20000 < z) = true := decide_eq_true hz
    go_wp2_with fail
    refine (HA.out 0).mono ?_
    rintro e w' ⟨rfl, hb⟩
    go_wp2
    go_ret
    exact ⟨rfl, hb⟩
  · have hd : decide (20000 < z) = false := decide_eq_false hz
    go_wp2_with fail
    refine HC.out.mono ?_
    rintro e w' ⟨rfl, k, rfl⟩
    go_wp2
    go_loop [4] (fun i => LawRel d i) (fun i => d.length - (intOf i).toNat)
    case atStart => exact ⟨0, by omega, rfl⟩
    case round =>
      obtain ⟨j, hj, rfl⟩ := hrel
      by_cases hlt : j < d.length
      · obtain ⟨b, off, rfl, hb, hcell⟩ := reads_text h hlt
        have hq : (w.drewN k).cell? ⟨b, off + j, none⟩ = some (.string ⟨d[j].toArray⟩) := hcell j hlt
        have hp0 : (0 : Int) ≤ (j : Int) := by omega
        have hp1 : (j : Int) < (d.length : Int) := by omega
        obtain ⟨hs1, hs2⟩ := HP.out d[j] (List.getElem_mem hlt)
        obtain ⟨s, hs⟩ : ∃ s, s = d[j] := ⟨_, rfl⟩
        rw [← hs] at hs1 hs2 hq
        have HS := Lib.hid hs2
        clear hs hs2 hcell
        have hd1 : decide ((s.length : Int) < (x.length : Int)) = false := by simp; omega
        have hz1 : (x.length : Int) ≤ (s.length : Int) := by omega
        have hne : ((⟨s.toArray⟩ : ByteArray).extract 0 x.length) = ⟨x.toArray⟩ := by rw [ext_take, HS.out]
        go_wp2
        exact ⟨⟨j + 1, by omega, by simp⟩, by simp [intOf]; omega⟩
      · have hp1 : decide ((j : Int) < (d.length : Int)) = false := by simp; omega
        go_wp2_with fail
        refine (HR.out k).mono ?_
        rintro e w' ⟨rfl, k2, rfl⟩
        go_wp2_with fail
        refine (HA.out (k + k2)).mono ?_
        rintro e w' ⟨rfl, hb⟩
        go_wp2
        go_ret
        exact ⟨rfl, (below_drewN (Below.refl _ w) (k + k2)).trans hb⟩
end Go.Proofs.YtgllcbapmnflaaaGreatDoor
