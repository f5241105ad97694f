/- The decoder's number, in plain Lean and as it is walked. -/
import Derived.Test.YtoljigllnhenoaaSum
import Derived.Deep.QuietTactic
import Derived.BigQuiet
namespace Go.Proofs.Ytoljigllnhenoaa
open Go.RowKit
def Blk (w : World) (g : Nat) (t : TypeId) (cs : Array Value) : Prop := w.heap[g]? = some (.cells cs t (0, 0))

section
variable {w w' : World} {g : Nat} {t : TypeId} {cs : Array Value}
theorem Blk.lt (h : Blk w g t cs) : g < w.heap.size := by
  rcases Nat.lt_or_ge g w.heap.size with hlt | hge
  · exact hlt
  · unfold Blk at h; rw [Array.getElem?_eq_none hge] at h; cases h
theorem Blk.cell (h : Blk w g t cs) (i : Nat) : w.cell? ⟨g, i, none⟩ = cs[i]? := cell_of_row w g i cs t (0, 0) h
theorem Blk.frozen (h : Blk w g t cs) (i : Nat) : w.frozen? ⟨g, i, none⟩ = false := by
  unfold Blk at h
  simp [World.frozen?, h]
theorem Blk.new (w : World) (t : TypeId) (cs : Array Value) : Blk (w.alloc (.cells cs t)) w.heap.size t cs := heap_alloc_new w _
theorem Blk.drew (h : Blk w g t cs) : Blk w.drew g t cs := h
theorem Blk.drewN (h : Blk w g t cs) (n : Nat) : Blk (w.drewN n) g t cs := h
theorem Blk.alloc (h : Blk w g t cs) (o : Obj) : Blk (w.alloc o) g t cs := (Below.heap_alloc w o g h.lt).trans h
theorem Blk.set_ (h : Blk w g t cs) (i : Nat) (u : Value) : Blk (w.setCell ⟨g, i, none⟩ u) g t (cs.setIfInBounds i u) := by
  unfold Blk at h ⊢
  simp [World.setCell, Array.getElem?_modify, h]
theorem Blk.far (h : Blk w g t cs) {p : Addr} (hp : g ≠ p.block) (u : Value) : Blk (w.setCell p u) g t cs := (Below.heap_setCell w p u g hp).trans h
theorem Blk.below {B : Nat} (h : Blk w g t cs) (hb : Below B w w') (hg : g < B) : Blk w' g t cs := (hb.block g hg).trans h
theorem Blk.grown {row : Option Nat} (h : Blk w g t cs) (hb : w.grownBy w' row) (hg : some g ≠ row) : Blk w' g t cs := (hb.block g h.lt hg).trans h
end
theorem only_drewN {a w : World} {row : Option Nat} (h : a.grownBy w row) (n : Nat) : a.grownBy (w.drewN n) row := ⟨h.os, h.tape, h.output, h.size, h.block⟩
theorem only_drew {a w : World} {row : Option Nat} (h : a.grownBy w row) : a.grownBy w.drew row := ⟨h.os, h.tape, h.output, h.size, h.block⟩
theorem only_alloc {a w : World} {row : Option Nat} (h : a.grownBy w row) (o : Obj) : a.grownBy (w.alloc o) row :=
  ⟨h.os, h.tape, h.output, Nat.le_trans h.size (by simp), fun i hi hne => (Below.heap_alloc w o i (Nat.lt_of_lt_of_le hi h.size)).trans (h.block i hi hne)⟩
theorem only_setCell {a w : World} {g : Nat} (h : a.grownBy w (some g)) {p : Addr} (hp : p.block = g ∨ a.heap.size ≤ p.block) (u : Value) : a.grownBy (w.setCell p u) (some g) :=
  ⟨h.os, h.tape, h.output, by simpa [World.setCell] using h.size, fun i hi hne => (Below.heap_setCell w p u i (by
    rintro rfl
    rcases hp with hp | hp
    · exact hne (by rw [hp])
    · omega)).trans (h.block i hi hne)⟩

/-- decoding: the error, or the number and how many bytes it takes -/
def takeZ : Nat → Nat → List UInt8 → Except Int (Nat × Nat)
  | _, _, [] => .error 28
  | i, z, c :: l =>
    if i = 9 ∧ c ≠ 1 then .error 6
    else if 128 ≤ c.toNat then takeZ (i + 1) (z + c.toNat % 128 * 2 ^ (7 * i)) l
    else if c = 0 ∧ 0 < i then .error 6
    else .ok (z + c.toNat % 128 * 2 ^ (7 * i), i + 1)
def unzig (z : Nat) : Int := if z % 2 = 1 then -((z / 2 : Nat) : Int) - 1 else ((z / 2 : Nat) : Int)

/-- a decoder over the bytes l, at an offset -/
def Dec (w : World) (g : Nat) (A : Option Addr) (c : Nat) (l : List UInt8) (at_ : Nat) : Prop :=
  Blk w g 63 #[.slice A l.length c, .int .i64 at_] ∧ Reads w g 1 A l.length (bv l) ∧ l.length ≤ c

def Fault (er : Int) : Ending := .panicked [{ v := .iface 71 (.agg #[.int .i64 er]), recovered := false }]

def NumPost (w : World) (g : Nat) (A : Option Addr) (c : Nat) (l : List UInt8) (at_ : Nat) (e : Ending) (w' : World) : Prop :=
  w.grownBy w' (some g) ∧
  match takeZ 0 0 (l.drop at_) with
  | .ok (z, k) => e = .returned (.int .i64 (unzig z)) ∧ Dec w' g A c l (at_ + k)
  | .error er => e = Fault er ∧ ∃ k, Dec w' g A c l k

def NumRel (w : World) (g : Nat) (A : Option Addr) (c : Nat) (l : List UInt8) (at_ : Nat) (z i : Value) (wr : World) : Prop :=
  ∃ (k m p : Nat), i = .int .i64 k ∧ z = .int .u64 m ∧ k ≤ 9 ∧ m < 2 ^ (7 * k) ∧ p ≤ l.length ∧ Hid (p = at_ + k) ∧ Hid (takeZ 0 0 (l.drop at_) = takeZ k m (l.drop p)) ∧ Dec wr g A c l p ∧ w.grownBy wr (some g)

theorem num_error {w w' : World} {g : Nat} {A : Option Addr} {c : Nat} {l : List UInt8} {at_ k m p q : Nat} {er : Int} (HT : Hid (takeZ 0 0 (l.drop at_) = takeZ k m (l.drop p))) (h : takeZ k m (l.drop p) = .error er)
    (hd : Dec w' g A c l q) (hg : w.grownBy w' (some g)) : NumPost w g A c l at_ (Fault er) w' := by
  refine ⟨hg, ?_⟩
  rw [HT.out, h]
  exact ⟨rfl, q, hd⟩
theorem dec_drewN {w : World} {g : Nat} {A : Option Addr} {c : Nat} {l : List UInt8} {p : Nat} (h : Dec w g A c l p) (n : Nat) : Dec (w.drewN n) g A c l p := ⟨h.1.drewN n, h.2.1.drewN n, h.2.2⟩
theorem dec_set {w : World} {g : Nat} {A : Option Addr} {c : Nat} {l : List UInt8} {p q : Nat} (h : Dec w g A c l p) : Dec (w.setCell ⟨g, 1, none⟩ (.int .i64 q)) g A c l q :=
  ⟨by have := h.1.set_ 1 (.int .i64 q); simpa using this, h.2.1.setCell (Nat.le_refl _) _, h.2.2⟩

theorem and127 (a : Nat) (h : a < 256) : bits BinOp.and .u8 (a : Int) 127 = (a : Int) % 128 := by
  have h1 := u8_and_nat a 127 h (by omega)
  rw [show a &&& 127 = a % 128 from Nat.and_two_pow_sub_one_eq_mod a 7] at h1
  rw [show ((127 : Int)) = ((127 : Nat) : Int) from rfl, h1]; omega
theorem pow_le_63 {k : Nat} (h : k ≤ 8) : 128 * 2 ^ (7 * k) ≤ 9223372036854775808 := by
  have : 2 ^ (7 * k) ≤ 2 ^ 56 := Nat.pow_le_pow_right (by omega) (by omega)
  omega
theorem or_shift {m x k : Nat} (hm : m < 2 ^ (7 * k)) (hx : x * 2 ^ (7 * k) < 18446744073709551616) (hm2 : m < 18446744073709551616) :
    bits BinOp.or IntKind.u64 (m : Int) (IntKind.u64.wrap ((x : Int) * 2 ^ (7 * k))) = ((m + x * 2 ^ (7 * k) : Nat) : Int) := by
  have e : IntKind.u64.wrap ((x : Int) * 2 ^ (7 * k)) = ((x * 2 ^ (7 * k) : Nat) : Int) := by
    rw [show (x : Int) * 2 ^ (7 * k) = ((x * 2 ^ (7 * k) : Nat) : Int) from by rw [Int.natCast_mul, Int.natCast_pow]; rfl]
    generalize x * 2 ^ (7 * k) = y at *
    simp [IntKind.wrap, IntKind.signed, IntKind.bits]
    omega
  rw [e, u64_or_nat _ _ hm2 hx]
  have h2 := Nat.shiftLeft_add_eq_or_of_lt hm x
  rw [Nat.shiftLeft_eq] at h2
  rw [Nat.or_comm, ← h2, Nat.add_comm]
theorem drop_at {l : List UInt8} {p : Nat} (h : p < l.length) : l.drop p = l[p] :: l.drop (p + 1) := List.drop_eq_getElem_cons h
theorem shifted_lt {m x k : Nat} (hm : m < 2 ^ (7 * k)) (hx : x < 128) : m + x * 2 ^ (7 * k) < 2 ^ (7 * (k + 1)) := by
  rw [show 7 * (k + 1) = 7 * k + 7 from by omega, Nat.pow_add]
  have : x * 2 ^ (7 * k) ≤ 127 * 2 ^ (7 * k) := Nat.mul_le_mul_right _ (by omega)
  omega

theorem num_more {w w' : World} {g : Nat} {A : Option Addr} {c : Nat} {l : List UInt8} {at_ k m p : Nat} (hk : k < 9) (hm : m < 2 ^ (7 * k)) (hlt : p < l.length) (HP : Hid (p = at_ + k)) (HT : Hid (takeZ 0 0 (l.drop at_) = takeZ k m (l.drop p)))
    (hc : 128 ≤ l[p].toNat) (hd : Dec w' g A c l (p + 1)) (hg : w.grownBy w' (some g)) :
    NumRel w g A c l at_ (Value.int IntKind.u64 (bits BinOp.or IntKind.u64 (m : Int) (IntKind.u64.wrap ((l[p].toNat : Int) % 128 * 2 ^ (7 * k))))) (Value.int IntKind.i64 ((k : Int) + 1)) w' := by
  have hb := byte_lt l[p]
  have hp8 := pow_le_63 (k := k) (by omega)
  have hx : l[p].toNat % 128 * 2 ^ (7 * k) < 18446744073709551616 := by
    have : l[p].toNat % 128 * 2 ^ (7 * k) ≤ 127 * 2 ^ (7 * k) := Nat.mul_le_mul_right _ (by omega)
    omega
  have e := or_shift hm hx (by omega)
  rw [Int.natCast_emod] at e
  refine ⟨k + 1, m + l[p].toNat % 128 * 2 ^ (7 * k), p + 1, rfl, congrArg (Value.int .u64) e, by omega, shifted_lt hm (by omega), by omega, ?_, ?_, hd, hg⟩
  · have := HP.out; show p + 1 = at_ + (k + 1); omega
  · show _ = _
    rw [HT.out, drop_at hlt, takeZ, if_neg (by omega), if_pos hc]

theorem ofInt_i64 (a : Nat) (ha : a < 9223372036854775808) : (BitVec.ofInt 64 (a : Int)).toNat = a := by
  rw [BitVec.ofInt_natCast, BitVec.toNat_ofNat]; exact Nat.mod_eq_of_lt (by omega)
theorem i64_xor_nat (a b : Nat) (ha : a < 9223372036854775808) (hb : b < 9223372036854775808) : bits .xor .i64 (a : Int) (b : Int) = ((a ^^^ b : Nat) : Int) := by
  have hx : a ^^^ b < 2 ^ 63 := Nat.xor_lt_two_pow (by omega) (by omega)
  show IntKind.i64.wrap ((BitVec.ofInt 64 (a : Int) ^^^ BitVec.ofInt 64 (b : Int)).toNat : Int) = _
  rw [BitVec.toNat_xor, ofInt_i64 a ha, ofInt_i64 b hb, IntKind.wrap_i64]
  omega
theorem i64_xor_ones (a : Nat) (ha : a < 9223372036854775808) : bits .xor .i64 (a : Int) (-1) = -(a : Int) - 1 := by
  show IntKind.i64.wrap ((BitVec.ofInt 64 (a : Int) ^^^ BitVec.ofInt 64 (-1)).toNat : Int) = _
  rw [show BitVec.ofInt 64 (-1) = BitVec.allOnes 64 from rfl, BitVec.xor_allOnes, BitVec.toNat_not, ofInt_i64 a ha, IntKind.wrap_i64]
  omega
theorem unzig_bits (z : Nat) (h : z < 18446744073709551616) :
    bits BinOp.xor IntKind.i64 (wrap64 ((z : Int) / 2)) (wrap64 (-wrap64 (bits BinOp.and IntKind.u64 (z : Int) 1))) = unzig z := by
  have e1 : wrap64 ((z : Int) / 2) = ((z / 2 : Nat) : Int) := by rw [IntWalk.wrap64_in _ ⟨by omega, by omega⟩]; omega
  have h1 := u64_and_nat z 1 h (by omega)
  rw [Nat.and_one_is_mod] at h1
  rw [e1, show ((1 : Int)) = ((1 : Nat) : Int) from rfl, h1]
  unfold unzig
  by_cases hp : z % 2 = 1
  · rw [if_pos hp, hp, show wrap64 (-wrap64 ((1 : Nat) : Int)) = -1 from by unfold wrap64; rfl, i64_xor_ones _ (by omega)]
  · rw [if_neg hp, show z % 2 = 0 from by omega, show wrap64 (-wrap64 ((0 : Nat) : Int)) = ((0 : Nat) : Int) from by unfold wrap64; rfl, i64_xor_nat _ _ (by omega) (by omega), Nat.xor_zero]

theorem fits9 {m x k : Nat} (hk : k ≤ 9) (hm : m < 2 ^ (7 * k)) (hx : x < 128) (h9 : k = 9 → x ≤ 1) : x * 2 ^ (7 * k) < 18446744073709551616 ∧ m < 18446744073709551616 ∧ m + x * 2 ^ (7 * k) < 18446744073709551616 := by
  by_cases h : k = 9
  · subst h
    have := h9 rfl
    simp only [Nat.reduceMul, Nat.reducePow] at *
    omega
  · have hp8 := pow_le_63 (k := k) (by omega)
    have : x * 2 ^ (7 * k) ≤ 127 * 2 ^ (7 * k) := Nat.mul_le_mul_right _ (by omega)
    omega

theorem num_done {w w' : World} {g : Nat} {A : Option Addr} {c : Nat} {l : List UInt8} {at_ k m p : Nat} {y : Nat} (hk : k ≤ 9) (hm : m < 2 ^ (7 * k)) (hlt : p < l.length) (HP : Hid (p = at_ + k)) (HT : Hid (takeZ 0 0 (l.drop at_) = takeZ k m (l.drop p)))
    (hy : y = l[p].toNat) (hc : ¬ 128 ≤ l[p].toNat) (h9 : k = 9 → l[p].toNat = 1) (h0 : ¬ (l[p].toNat = 0 ∧ 0 < k)) (hd : Dec w' g A c l (p + 1)) (hg : w.grownBy w' (some g)) :
    NumPost w g A c l at_ (.returned (.int .i64 (bits BinOp.xor IntKind.i64 (wrap64 (bits BinOp.or IntKind.u64 (m : Int) (IntKind.u64.wrap ((y : Int) % 128 * 2 ^ (7 * k))) / 2))
      (wrap64 (-wrap64 (bits BinOp.and IntKind.u64 (bits BinOp.or IntKind.u64 (m : Int) (IntKind.u64.wrap ((y : Int) % 128 * 2 ^ (7 * k)))) 1)))))) w' := by
  subst hy
  obtain ⟨f1, f2, f3⟩ := fits9 (x := l[p].toNat % 128) hk hm (by omega) (fun h => by rw [h9 h]; omega)
  have e := or_shift hm f1 f2
  rw [Int.natCast_emod] at e
  refine ⟨hg, ?_⟩
  rw [show ((128 : Nat) : Int) = (128 : Int) from rfl] at e
  rw [e, unzig_bits _ f3, HT.out, drop_at hlt, takeZ, if_neg (by rintro ⟨h1, h2⟩; exact h2 (UInt8.toNat_inj.1 (h9 h1))), if_neg hc, if_neg (by rintro ⟨h1, h2⟩; exact h0 ⟨by rw [h1]; rfl, h2⟩)]
  refine ⟨rfl, ?_⟩
  rw [show at_ + (k + 1) = p + 1 from by have := HP.out; omega]
  exact hd

set_option maxRecDepth 100000 in
set_option maxHeartbeats 2000000 in
theorem number_any (g : Nat) (A : Option Addr) (c : Nat) (l : List UInt8) (at_ : Nat) (w : World) (h : Dec w g A c l at_) (hat : at_ ≤ l.length) (hl : l.length ≤ 1000000000) :
    Calls Try.prog 35 #[.pointer (some ⟨g, 0, none⟩)] w (NumPost w g A c l at_) := by
  go_enter Try.func35, Try.ntmps35
  go_wp2
  go_loopw [3, 4] (fun z i wr => NumRel w g A c l at_ z i wr) (fun _ i _ => 10 - (intOf i).toNat)
  case atStart => exact ⟨0, 0, at_, rfl, rfl, by omega, by simp, hat, rfl, rfl, h, ⟨rfl, rfl, rfl, Nat.le_refl _, fun _ _ _ => rfl⟩⟩
  case round =>
    obtain ⟨k, m, p, rfl, rfl, hk, hm, hle, HP, HT, hdec, hgr⟩ := hrel
    have c0 : wr.cell? ⟨g, 0, none⟩ = some (.slice A l.length c) := hdec.1.cell 0
    have c1 : wr.cell? ⟨g, 0 + 1, none⟩ = some (.int .i64 (p : Int)) := hdec.1.cell 1
    have f1 : wr.frozen? ⟨g, 0 + 1, none⟩ = false := hdec.1.frozen 1
    by_cases hlt : p < l.length
    · have he : ((p : Int) == (l.length : Int)) = false := by rw [beq_eq_false_iff_ne]; omega
      obtain ⟨b, off, rfl, hb, hcell⟩ := reads_byte hdec.2.1 hlt
      have hp0 : (0 : Int) ≤ (p : Int) := by omega
      have hp1 : (p : Int) < (l.length : Int) := by omega
      have hcx := byte_lt l[p]
      by_cases hk9 : k = 9
      · have hkb : ((k : Int) == 9) = true := by rw [beq_iff_eq]; omega
        have HK := Lib.hid hk9
        clear hk9
        have hand := and127 l[p].toNat hcx
        by_cases hc1 : l[p].toNat = 1
        · have hcb : ((l[p].toNat : Int) != 1) = false := by rw [hc1]; rfl
          have hz2 : ((l[p].toNat : Int) == 0) = false := by rw [beq_eq_false_iff_ne]; omega
          have hc : ¬ 128 ≤ l[p].toNat := by omega
          have HC1 := Lib.hid hc1
          clear hc1
          go_wp2
          go_quiet (fail)
          go_wp2
          go_quiet (fail)
          go_wp2
          go_ret
          exact num_done hk hm hlt HP HT rfl hc (fun _ => HC1.out) (fun h => by have := HC1.out; omega) (dec_set (q := p + 1) (dec_drewN hdec _)) (only_setCell (only_drewN hgr _) (.inl rfl) _)
        · have hcb : ((l[p].toNat : Int) != 1) = true := by rw [bne_iff_ne]; omega
          go_wp2
          go_quiet (fail)
          go_wp2
          go_quiet (fail)
          go_wp2
          exact ⟨rfl, num_error HT (by rw [drop_at hlt, takeZ, if_pos ⟨HK.out, fun h => hc1 (by rw [h]; rfl)⟩]) (dec_set (q := p + 1) (dec_drewN hdec _)) (only_setCell (only_drewN hgr _) (.inl rfl) _)⟩
      · have hkb : ((k : Int) == 9) = false := by rw [beq_eq_false_iff_ne]; omega
        have hand := and127 l[p].toNat hcx
        by_cases hc : 128 ≤ l[p].toNat
        · go_wp2
          go_quiet (fail)
          go_wp2
          go_quiet (fail)
          go_wp2
          go_roundw
          case rel => exact num_more (by omega) hm hlt HP HT hc (dec_set (q := p + 1) (dec_drewN hdec _)) (only_setCell (only_drewN hgr _) (.inl rfl) _)
          case measure => simp [intOf]; omega
        · by_cases hz : l[p].toNat = 0 ∧ 0 < k
          · have hz1 : ((l[p].toNat : Int) == 0) = true := by rw [beq_iff_eq]; omega
            have hz2 : 0 < k := hz.2
            have HZ := Lib.hid hz
            clear hz
            go_wp2
            go_quiet (fail)
            go_wp2
            go_quiet (fail)
            go_wp2
            exact ⟨rfl, num_error HT (by rw [drop_at hlt, takeZ, if_neg (by omega), if_neg hc, if_pos ⟨UInt8.toNat_inj.1 HZ.out.1, HZ.out.2⟩]) (dec_set (q := p + 1) (dec_drewN hdec _)) (only_setCell (only_drewN hgr _) (.inl rfl) _)⟩
          · have HZ := Lib.hid hz
            clear hz
            by_cases hz1 : l[p].toNat = 0
            · have hk0 : k = 0 := by have := HZ.out; omega
              have hz2 : ((l[p].toNat : Int) == 0) = true := by rw [beq_iff_eq]; omega
              have hz3 : ¬ 0 < k := by omega
              clear hz1 hk0
              go_wp2
              go_quiet (fail)
              go_wp2
              go_quiet (fail)
              go_wp2
              go_ret
              exact num_done hk hm hlt HP HT rfl hc (fun h => absurd h hk9) HZ.out (dec_set (q := p + 1) (dec_drewN hdec _)) (only_setCell (only_drewN hgr _) (.inl rfl) _)
            · have hz2 : ((l[p].toNat : Int) == 0) = false := by rw [beq_eq_false_iff_ne]; omega
              go_wp2
              go_quiet (fail)
              go_wp2
              go_quiet (fail)
              go_wp2
              go_ret
              exact num_done hk hm hlt HP HT rfl hc (fun h => absurd h hk9) HZ.out (dec_set (q := p + 1) (dec_drewN hdec _)) (only_setCell (only_drewN hgr _) (.inl rfl) _)
    · have he : ((p : Int) == (l.length : Int)) = true := by rw [beq_iff_eq]; omega
      go_wp2
      go_quiet (fail)
      go_wp2
      exact ⟨rfl, num_error HT (by rw [List.drop_of_length_le (by omega)]; rfl) (dec_drewN hdec _) (only_drewN hgr _)⟩
end Go.Proofs.Ytoljigllnhenoaa
