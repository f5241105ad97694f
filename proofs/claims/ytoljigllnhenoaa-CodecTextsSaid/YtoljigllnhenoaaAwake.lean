/- awake of the law's package: the chapter's examples. -/
import Derived.Test.YtoljigllnhenoaaSeal
import Derived.Lib.SmallJoins
namespace Go.Proofs.Ytoljigllnhenoaa
open Go.RowKit
theorem reads_new (W : World) (l : List UInt8) (hl : l.length ≤ 1000) : Reads (W.alloc (.cells (bv l).toArray 5)) (W.alloc (.cells (bv l).toArray 5)).heap.size 1 (some ⟨W.heap.size, 0, none⟩) l.length (bv l) := by
  have h := own_lit W (bv l) 5 0 (Nat.zero_le _) (by rw [bv_length]; exact hl)
  rw [bv_length] at h
  exact Reads.of_own h
theorem below_new {W w' : World} {o : Obj} (h : Below (W.alloc o).heap.size (W.alloc o) w') : Below W.heap.size W w' :=
  ((Below.refl _ W).alloc (Nat.le_refl _) o).trans (h.mono (by simp))
theorem ex1 (W : World) : Calls Try.prog 13 #[.slice (some ⟨W.heap.size, 0, none⟩) 3 3] (W.alloc (.cells #[.int .u8 128, .int .u8 1, .int .u8 9] 5)) fun e w' => e = .returned (.tuple #[.int .i64 64, .int .i64 2, .int .i64 0]) ∧ Below W.heap.size W w' :=
  (takeInt_ok (some ⟨W.heap.size, 0, none⟩) 3 [128, 1, 9] 128 2 _ (reads_new W [128, 1, 9] (by decide)) (by decide) (by decide) rfl).mono fun _ _ ⟨h1, h2⟩ => ⟨h1, below_new h2⟩
theorem ex2 (W : World) : Calls Try.prog 13 #[.slice (some ⟨W.heap.size, 0, none⟩) 2 2] (W.alloc (.cells #[.int .u8 128, .int .u8 0] 5)) fun e w' => e = .returned (.tuple #[.int .i64 0, .int .i64 0, .int .i64 6]) ∧ Below W.heap.size W w' :=
  (takeInt_err (some ⟨W.heap.size, 0, none⟩) 2 [128, 0] 6 _ (reads_new W [128, 0] (by decide)) (by decide) (by decide) rfl).mono fun _ _ ⟨h1, h2⟩ => ⟨h1, below_new h2⟩
theorem ex3 (W : World) : Calls Try.prog 19 #[.slice (some ⟨W.heap.size, 0, none⟩) 3 3] (W.alloc (.cells #[.int .u8 4, .int .u8 97, .int .u8 98] 5)) fun e w' => e = .returned (.tuple #[.string ⟨#[97, 98]⟩, .int .i64 3, .int .i64 0]) ∧ Below W.heap.size W w' :=
  (takeText_yes (some ⟨W.heap.size, 0, none⟩) 3 [4, 97, 98] [97, 98] 3 _ (reads_new W [4, 97, 98] (by decide)) (by decide) (by decide) rfl).mono fun _ _ ⟨h1, h2⟩ => ⟨h1, below_new h2⟩
theorem ex4 (W : World) : Calls Try.prog 12 #[.int .i64 (-64)] W (GivesBytes W [127]) := by
  have h := putint (-64) W (by decide) (by decide)
  rw [show encN (zig (-64)) = [127] from by rw [show zig (-64) = 127 from rfl, encN_small (by decide)]; rfl] at h
  exact h
theorem ex6 (W : World) : Calls Try.prog 29 #[.int .i64 7, .slice none 0 0] W fun e w' => ∃ A c, e = .returned (.slice A 6 c) ∧ Below W.heap.size W w' :=
  (seal_any 7 (by decide) none 0 [] W Reads.none_ (by decide)).mono fun e w' ⟨v, h1, h2, h3⟩ => by
    obtain ⟨A, c, rfl, _, _⟩ := own_slice h2
    refine ⟨A, c, ?_, h3⟩
    rw [h1]
    have : (sealed 7 []).length = 6 := by
      unfold sealed
      rw [List.length_append, sealHead_length, show zig ([] : List UInt8).length = 0 from rfl, encN_small (by decide)]
      rfl
    rw [this]
theorem ex4b (W : World) (A : Option Addr) (c : Nat) (h : Reads W W.heap.size 1 A 1 (bv [127])) : Calls Try.prog 14 #[.slice A 1 c, .slice (some ⟨W.heap.size, 0, none⟩) 1 1] (W.alloc (.cells #[.int .u8 127] 5)) fun e w' => e = .returned (.bool true) ∧ (W.alloc (.cells #[.int .u8 127] 5)) = w' :=
  (sameBytes A (some ⟨W.heap.size, 0, none⟩) c 1 [127] [127] _ ((h.alloc (Nat.le_refl _) _).more (by simp)) (reads_new W [127] (by decide))).mono fun _ _ ⟨h1, h2⟩ => ⟨h1, h2⟩
theorem reads_mark (W : World) (l : List UInt8) (f : Nat × Nat) : Reads (W.alloc (.cells (bv l).toArray 5 f)) (W.alloc (.cells (bv l).toArray 5 f)).heap.size 1 (some ⟨W.heap.size, 0, none⟩) l.length (bv l) := by
  refine ⟨by rw [bv_length]; omega, fun _ => ⟨_, rfl, by simp, fun j u hu => ?_⟩⟩
  have hadd : (⟨W.heap.size, 0, none⟩ : Addr).add j = ⟨W.heap.size, j, none⟩ := by unfold Addr.add; split <;> simp_all
  rw [hadd, World.cell?_alloc_mark, List.getElem?_toArray, hu]
theorem ex5 (W : World) : Calls Try.prog 16 #[.slice (some ⟨W.heap.size, 0, none⟩) 9 9] (W.alloc (.cells #[.int .u8 49, .int .u8 50, .int .u8 51, .int .u8 52, .int .u8 53, .int .u8 54, .int .u8 55, .int .u8 56, .int .u8 57] 5 (9, 10))) fun e w' => e = .returned (.int .i64 3808858755) ∧ (W.alloc (.cells #[.int .u8 49, .int .u8 50, .int .u8 51, .int .u8 52, .int .u8 53, .int .u8 54, .int .u8 55, .int .u8 56, .int .u8 57] 5 (9, 10))) = w' := by
  have h := sum_any (some ⟨W.heap.size, 0, none⟩) 9 [49, 50, 51, 52, 53, 54, 55, 56, 57] _ (reads_mark W [49, 50, 51, 52, 53, 54, 55, 56, 57] (9, 10)) (by decide)
  rw [show crc [49, 50, 51, 52, 53, 54, 55, 56, 57] = 3808858755 from by decide +kernel] at h
  exact h
theorem awake_any (w : World) : Calls Try.prog 11 #[] w fun e w' => e = .returned (.bool true) ∧ Below w.heap.size w w' := by
  go_enter Try.func11, Try.ntmps11
  go_wp2_with fail
  refine (ex1 _).mono ?_
  rintro e w1 ⟨rfl, hb1⟩
  go_wp2_with fail
  refine (ex2 _).mono ?_
  rintro e w2 ⟨rfl, hb2⟩
  go_wp2_with fail
  refine (ex3 _).mono ?_
  rintro e w3 ⟨rfl, hb3⟩
  go_wp2_with fail
  refine (ex4 _).mono ?_
  rintro e w4 ⟨v4, rfl, hown4, hb4⟩
  obtain ⟨A4, c4, rfl, hc4, hr4⟩ := own_slice hown4
  go_wp2_with fail
  refine (ex4b _ _ _ hr4).mono ?_
  rintro e w5 ⟨rfl, rfl⟩
  have kc := fun (C : Array Value) (n c : Nat) => Joins.run_convert_bytes_const_at (P := Try.prog) (w4.alloc (.cells #[.int .u8 127] 5)) 22 5 C n c (w4.heap.size + 1) (by simp) Try.underlying22 Try.underlying5
  go_wp2_with fail
  have h5 := ex5 (w4.alloc (.cells #[.int .u8 127] 5))
  simp only [World.size_alloc] at h5
  refine h5.mono ?_
  clear h5
  rintro e w5 ⟨rfl, rfl⟩
  go_wp2_with fail
  refine (ex6 _).mono ?_
  rintro e w6 ⟨A6, c6, rfl, hb6⟩
  go_wp2_with fail
  go_ret
  refine ⟨rfl, ?_⟩
  have h2 : Below w.heap.size w w2 := hb1.trans (hb2.mono hb1.size)
  have h3 : Below w.heap.size w w3 := h2.trans (hb3.mono h2.size)
  have h4 : Below w.heap.size w w4 := h3.trans (hb4.mono h3.size)
  have h5 := (h4.alloc h4.size (.cells #[.int .u8 127] 5)).alloc (by simp; have := h4.size; omega) (.cells #[.int .u8 49, .int .u8 50, .int .u8 51, .int .u8 52, .int .u8 53, .int .u8 54, .int .u8 55, .int .u8 56, .int .u8 57] 5 (9, 10))
  exact h5.trans (hb6.mono h5.size)
end Go.Proofs.Ytoljigllnhenoaa
