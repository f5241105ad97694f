/- The decoder's frame (printed by gen_frame.py). -/
import Derived.Test.YtoljigllnhenoaaAwake
import Derived.StillTailTactics
namespace Go.Proofs.Ytoljigllnhenoaa
open Go.RowKit
/-- bytes as a number, the highest first -/
def beN (l : List UInt8) : Nat := l.foldl (fun s c => s * 256 + c.toNat) 0
def takeFrame (l : List UInt8) : Except Int (Nat × List UInt8 × Nat) :=
  match l with
  | [] => .error 28
  | k :: t =>
    match takeLen t with
    | .error e => .error e
    | .ok (n, j) =>
      if l.length < 1 + j + n + 4 then .error 28
      else if beN ((l.drop (1 + j + n)).take 4) ≠ crc (l.take (1 + j + n)) then .error 29
      else .ok (k.toNat, (l.drop (1 + j)).take n, 1 + j + n + 4)
theorem quiet_left {P : Program} {f : FuncId} {args : Array Value} {w : World} {n : Nat} {v : Value}
    (h : Calls P f args (w.drewN n) fun e w' => e = .returned v ∧ w.drewN n = w') : Calls P f args (w.drewN n) fun e w'' => e = .returned v ∧ ∃ m, w'' = w.drewN m :=
  h.mono fun _ _ ⟨he, hm⟩ => ⟨he, n, hm.symm⟩
theorem quiet_add_left {P : Program} {f : FuncId} {args : Array Value} {w : World} {a n : Nat} {v : Value}
    (h : Calls P f args (w.drewN (a + n)) fun e w' => e = .returned v ∧ w.drewN (a + n) = w') :
    Calls P f args (w.drewN (a + n)) fun e w'' => e = .returned v ∧ ∃ m, w'' = w.drewN (a + m) :=
  h.mono fun _ _ ⟨he, hm⟩ => ⟨he, n, hm.symm⟩

theorem frame_none (g : Nat) (A : Option Addr) (c : Nat) (w : World) (h : Dec w g A c [] 0) :
    Calls Try.prog 42 #[.pointer (some ⟨g, 0, none⟩)] w fun e w' => e = .panicked [{ v := .iface 71 (.agg #[.int .i64 28]), recovered := false }] ∧ w.grownBy w' (some g) := by
  go_enter Try.func42, Try.ntmps42
  go_wp2_with fail
  refine (rest_any g A c [] 0 w h (by simp) (by simp)).mono ?_
  rintro e w2 ⟨rfl, m, rfl⟩
  go_wp2
  exact ⟨rfl, rfl, only_drewN ⟨rfl, rfl, rfl, Nat.le_refl _, fun _ _ _ => rfl⟩ _⟩

set_option maxRecDepth 100000 in
set_option maxHeartbeats 2000000 in
theorem frame_err (g : Nat) (A : Option Addr) (c : Nat) (l : List UInt8) (er : Int) (w : World) (h : Dec w g A c l 0) (h0 : 0 < l.length) (hl : l.length ≤ 1000000000) (hz : takeLen (l.drop 1) = .error er) :
    Calls Try.prog 42 #[.pointer (some ⟨g, 0, none⟩)] w fun e w' => e = .panicked [{ v := .iface 71 (.agg #[.int .i64 er]), recovered := false }] ∧ w.grownBy w' (some g) := by
  have hlen := fun w1 A (h1 : Dec w1 g A c l 1) => length_err g A c l 1 er w1 h1 (by omega) hl hz
  have HL := Lib.hid hlen
  clear hlen hz
  have hg0 : w.grownBy w (some g) := ⟨rfl, rfl, rfl, Nat.le_refl _, fun _ _ _ => rfl⟩
  obtain ⟨b, off, rfl, hb, hcell⟩ := reads_byte h.2.1 h0
  rw [Nat.add_zero] at hcell
  have c0 : w.cell? ⟨g, 0, none⟩ = some (.slice (some ⟨b, off, none⟩) l.length c) := h.1.cell 0
  have c1 : w.cell? ⟨g, 0 + 1, none⟩ = some (.int .i64 0) := h.1.cell 1
  have f1 : w.frozen? ⟨g, 0 + 1, none⟩ = false := h.1.frozen 1
  have hr0 : ((l.length : Int) - ((0 : Nat) : Int) == 0) = false := by rw [beq_eq_false_iff_ne]; omega
  have hr1 : ((l.length : Int) == 0) = false := by rw [beq_eq_false_iff_ne]; omega
  have hp1 : (0 : Int) < (l.length : Int) := by omega
  go_enter Try.func42, Try.ntmps42
  go_wp2_with fail
  refine (rest_any g _ c l 0 w h (by simp) hl).mono ?_
  rintro e w2 ⟨rfl, m, rfl⟩
  go_wp2
  go_quiet (fail)
  go_wp2_with fail
  have hd1 : Dec ((w.drewN (m + nq)).setCell ⟨g, 1, none⟩ (.int .i64 1)) g (some ⟨b, off, none⟩) c l 1 := dec_set (q := 1) (dec_drewN h _)
  have hg1 : w.grownBy ((w.drewN (m + nq)).setCell ⟨g, 1, none⟩ (.int .i64 1)) (some g) := only_setCell (only_drewN hg0 _) (.inl rfl) _
  refine (HL.out _ _ hd1).mono ?_
  rintro e w3 ⟨rfl, hg⟩
  go_wp2
  exact ⟨rfl, rfl, hg1.trans hg⟩

set_option maxRecDepth 100000 in
set_option maxHeartbeats 2000000 in
theorem frame_short (g : Nat) (A : Option Addr) (c : Nat) (l : List UInt8) (n j : Nat) (w : World) (h : Dec w g A c l 0) (h0 : 0 < l.length) (hl : l.length ≤ 1000000000) (hz : takeLen (l.drop 1) = .ok (n, j)) (hn : l.length < 1 + j + n + 4) :
    Calls Try.prog 42 #[.pointer (some ⟨g, 0, none⟩)] w fun e w' => e = .panicked [{ v := .iface 71 (.agg #[.int .i64 28]), recovered := false }] ∧ w.grownBy w' (some g) := by
  have hlen := fun w1 A (h1 : Dec w1 g A c l 1) => length_ok g A c l 1 n j w1 h1 (by omega) hl hz
  have hle := takeLen_le hz
  simp only [List.length_drop] at hle
  obtain ⟨p, hp⟩ : ∃ p, p = 1 + j := ⟨_, rfl⟩
  rw [← hp] at hlen hn
  have hpl : p ≤ l.length := by omega
  have HL := Lib.hid hlen
  have hb4 : decide ((l.length : Int) - (p : Int) - 4 < (n : Int)) = true := by simp; omega
  clear hlen hz hle hp
  have hg0 : w.grownBy w (some g) := ⟨rfl, rfl, rfl, Nat.le_refl _, fun _ _ _ => rfl⟩
  obtain ⟨b, off, rfl, hb, hcell⟩ := reads_byte h.2.1 h0
  rw [Nat.add_zero] at hcell
  have c0 : w.cell? ⟨g, 0, none⟩ = some (.slice (some ⟨b, off, none⟩) l.length c) := h.1.cell 0
  have c1 : w.cell? ⟨g, 0 + 1, none⟩ = some (.int .i64 0) := h.1.cell 1
  have f1 : w.frozen? ⟨g, 0 + 1, none⟩ = false := h.1.frozen 1
  have hr0 : ((l.length : Int) - ((0 : Nat) : Int) == 0) = false := by rw [beq_eq_false_iff_ne]; omega
  have hr1 : ((l.length : Int) == 0) = false := by rw [beq_eq_false_iff_ne]; omega
  have hp1 : (0 : Int) < (l.length : Int) := by omega
  go_enter Try.func42, Try.ntmps42
  go_wp2_with fail
  refine (rest_any g _ c l 0 w h (by simp) hl).mono ?_
  rintro e w2 ⟨rfl, m, rfl⟩
  go_wp2
  go_quiet (fail)
  go_wp2_with fail
  have hd1 : Dec ((w.drewN (m + nq)).setCell ⟨g, 1, none⟩ (.int .i64 1)) g (some ⟨b, off, none⟩) c l 1 := dec_set (q := 1) (dec_drewN h _)
  have hg1 : w.grownBy ((w.drewN (m + nq)).setCell ⟨g, 1, none⟩ (.int .i64 1)) (some g) := only_setCell (only_drewN hg0 _) (.inl rfl) _
  refine (HL.out _ _ hd1).mono ?_
  rintro e w3 ⟨rfl, hd3, hg3⟩
  go_wp2_with fail
  refine (rest_any g _ c l p w3 hd3 hpl hl).mono ?_
  rintro e w4 ⟨rfl, m4, rfl⟩
  go_wp2
  exact ⟨rfl, rfl, only_drewN (hg1.trans hg3) _⟩

theorem addr_add (b off p : Nat) : (⟨b, off, none⟩ : Addr).add p = ⟨b, off + p, none⟩ := by unfold Addr.add; split <;> simp_all
theorem dec_below {w w' : World} {g : Nat} {A : Option Addr} {c : Nat} {l : List UInt8} {p : Nat} (h : Dec w g A c l p) (hb : Below w.heap.size w w') : Dec w' g A c l p :=
  ⟨h.1.below hb h.1.lt, h.2.1.below (hb.mono (Nat.le_of_lt h.1.lt)), h.2.2⟩
theorem reads_take {w : World} {B : Nat} {A : Option Addr} {l : List UInt8} {j : Nat} (h : Reads w B 1 A l.length (bv l)) (hj : j ≤ l.length) : Reads w B 1 A (l.take j).length (bv (l.take j)) := by
  refine ⟨by rw [bv_length]; omega, fun hn => ?_⟩
  have hl : (l.take j).length = j := by rw [List.length_take]; omega
  obtain ⟨ad, rfl, hb, hc⟩ := h.2 (by omega)
  refine ⟨ad, rfl, hb, fun i u hu => hc i u ?_⟩
  simp only [bv, List.map_take, List.getElem?_take] at hu ⊢
  split at hu
  · exact hu
  · cases hu
def BeRel (T : List UInt8) (s i : Value) : Prop := ∃ k : Nat, k ≤ 4 ∧ i = .int .i64 k ∧ s = .int .i64 (beN (T.take k))
theorem beN_snoc (l : List UInt8) (c : UInt8) : beN (l ++ [c]) = beN l * 256 + c.toNat := by unfold beN; rw [List.foldl_append]; rfl
theorem beN_step {T : List UInt8} {k : Nat} (h : k < T.length) : beN (T.take (k + 1)) = beN (T.take k) * 256 + T[k].toNat := by rw [take_snoc' h, beN_snoc]
theorem beN_fold (l : List UInt8) : ∀ s, l.foldl (fun s (c : UInt8) => s * 256 + c.toNat) s < (s + 1) * 256 ^ l.length := by
  induction l with
  | nil => intro s; simp
  | cons c l ih =>
    intro s
    have h1 := ih (s * 256 + c.toNat)
    have h2 := byte_lt c
    rw [List.foldl_cons, List.length_cons, Nat.pow_succ]
    refine Nat.lt_of_lt_of_le h1 ?_
    rw [← Nat.mul_assoc, Nat.mul_right_comm]
    exact Nat.mul_le_mul_right _ (by omega)
theorem beN_lt (l : List UInt8) : beN l < 256 ^ l.length := by have := beN_fold l 0; simpa [beN] using this
theorem beN_lt3 {l : List UInt8} (h : l.length ≤ 3) : beN l < 16777216 :=
  Nat.lt_of_lt_of_le (beN_lt l) (by have := Nat.pow_le_pow_right (n := 256) (by omega) h; simpa using this)
theorem i64_or_nat (a b : Nat) (ha : a < 9223372036854775808) (hb : b < 9223372036854775808) : bits .or .i64 (a : Int) (b : Int) = ((a ||| b : Nat) : Int) := by
  have hx : a ||| b < 2 ^ 63 := Nat.or_lt_two_pow (by omega) (by omega)
  show IntKind.i64.wrap ((BitVec.ofInt 64 (a : Int) ||| BitVec.ofInt 64 (b : Int)).toNat : Int) = _
  rw [BitVec.toNat_or, ofInt_i64 a ha, ofInt_i64 b hb, IntKind.wrap_i64]
  omega
theorem or_byte (s c : Nat) (hs : s < 16777216) (hc : c < 256) : bits BinOp.or .i64 ((s : Int) * 256) (c : Int) = ((s * 256 + c : Nat) : Int) := by
  have h := i64_or_nat (s * 256) c (by omega) (by omega)
  have h2 := Nat.shiftLeft_add_eq_or_of_lt (i := 8) (b := c) (by omega) s
  rw [Nat.shiftLeft_eq] at h2
  rw [show (2 : Nat) ^ 8 = 256 from rfl] at h2
  rw [← h2] at h
  rw [← h, Int.natCast_mul]; rfl
theorem own_base {w : World} {B B' : Nat} {e : TypeId} {size n : Nat} {v : Value} {xs : List Value} (h : w.ownsRow B e size v n xs) (hb : B' ≤ B) : w.ownsRow B' e size v n xs := by
  refine ⟨h.1, ?_⟩
  rcases h.2 with h' | ⟨g, cap, cur, hv, hg, r⟩
  · exact .inl h'
  · exact .inr ⟨g, cap, cur, hv, Nat.le_trans hb hg, r⟩
theorem own_drewN {w : World} {B : Nat} {e : TypeId} {size n : Nat} {v : Value} {xs : List Value} (h : w.ownsRow B e size v n xs) (k : Nat) : (w.drewN k).ownsRow B e size v n xs := h
def FramePost (w : World) (g : Nat) (A : Option Addr) (c : Nat) (l : List UInt8) (p n k : Nat) (e : Ending) (w' : World) : Prop :=
  w.grownBy w' (some g) ∧
  if beN ((l.drop (p + n)).take 4) = crc (l.take (p + n)) then
    ∃ v, e = .returned (.tuple #[.int .i64 k, v]) ∧ Dec w' g A c l (p + n + 4) ∧ w'.ownsRow w.heap.size 5 1 v ((l.drop p).take n).length (bv ((l.drop p).take n))
  else e = .panicked [{ v := .iface 71 (.agg #[.int .i64 29]), recovered := false }]
set_option maxRecDepth 100000 in
set_option maxHeartbeats 4000000 in
theorem frame_main (g : Nat) (A : Option Addr) (c : Nat) (l : List UInt8) (n j : Nat) (w : World) (h : Dec w g A c l 0) (h0 : 0 < l.length) (hl : l.length ≤ 1000000000) (hz : takeLen (l.drop 1) = .ok (n, j)) (hn : ¬ l.length < 1 + j + n + 4) :
    Calls Try.prog 42 #[.pointer (some ⟨g, 0, none⟩)] w (FramePost w g A c l (1 + j) n (l[0].toNat)) := by
  have hlen := fun w1 A (h1 : Dec w1 g A c l 1) => length_ok g A c l 1 n j w1 h1 (by omega) hl hz
  have hle := takeLen_le hz
  simp only [List.length_drop] at hle
  obtain ⟨i0, hi0, hz0, hz1, hz2⟩ := info_parts byte_info
  obtain ⟨p, hp⟩ : ∃ p, p = 1 + j := ⟨_, rfl⟩
  rw [← hp] at hlen hn ⊢
  have hpl : p ≤ l.length := by omega
  have hnl : p + n ≤ l.length := by omega
  have HL := Lib.hid hlen
  have hb4 : decide ((l.length : Int) - (p : Int) - 4 < (n : Int)) = false := by simp; omega
  have hb0 : l[0].toNat < 256 := byte_lt _
  have hcl := h.2.2
  clear hlen hz hle hp
  have hg0 : w.grownBy w (some g) := ⟨rfl, rfl, rfl, Nat.le_refl _, fun _ _ _ => rfl⟩
  obtain ⟨b, off, rfl, hb, hcell⟩ := reads_byte h.2.1 h0
  rw [Nat.add_zero] at hcell
  have c0 : w.cell? ⟨g, 0, none⟩ = some (.slice (some ⟨b, off, none⟩) l.length c) := h.1.cell 0
  have c1 : w.cell? ⟨g, 0 + 1, none⟩ = some (.int .i64 0) := h.1.cell 1
  have f1 : w.frozen? ⟨g, 0 + 1, none⟩ = false := h.1.frozen 1
  have hr0 : ((l.length : Int) - ((0 : Nat) : Int) == 0) = false := by rw [beq_eq_false_iff_ne]; omega
  have hr1 : ((l.length : Int) == 0) = false := by rw [beq_eq_false_iff_ne]; omega
  have hp1 : (0 : Int) < (l.length : Int) := by omega
  go_enter Try.func42, Try.ntmps42
  go_wp2_with fail
  refine (rest_any g _ c l 0 w h (by simp) hl).mono ?_
  rintro e w2 ⟨rfl, m, rfl⟩
  go_wp2
  go_quiet (fail)
  go_wp2_with fail
  have hd1 : Dec ((w.drewN (m + nq)).setCell ⟨g, 1, none⟩ (.int .i64 1)) g (some ⟨b, off, none⟩) c l 1 := dec_set (q := 1) (dec_drewN h _)
  have hg1 : w.grownBy ((w.drewN (m + nq)).setCell ⟨g, 1, none⟩ (.int .i64 1)) (some g) := only_setCell (only_drewN hg0 _) (.inl rfl) _
  refine (HL.out _ _ hd1).mono ?_
  rintro e w3 ⟨rfl, hd3, hg3⟩
  go_wp2_with fail
  refine (rest_any g _ c l p w3 hd3 hpl hl).mono ?_
  rintro e w4 ⟨rfl, m4, rfl⟩
  have hg4 := only_drewN (hg1.trans hg3) m4
  have hd4 := dec_drewN hd3 m4
  clear hg1 hg3 hd1 hg0 h c0 c1 f1 hcell
  obtain ⟨W4, hW4⟩ : ∃ W4, W4 = w3.drewN m4 := ⟨_, rfl⟩
  simp only [← hW4] at hg4 hd4 ⊢
  clear hW4 hd3
  have c0 : W4.cell? ⟨g, 0, none⟩ = some (.slice (some ⟨b, off, none⟩) l.length c) := hd4.1.cell 0
  have c1 : W4.cell? ⟨g, 0 + 1, none⟩ = some (.int .i64 (p : Int)) := hd4.1.cell 1
  have f1 : W4.frozen? ⟨g, 0 + 1, none⟩ = false := hd4.1.frozen 1
  have hx0 : (0 : Int) ≤ (p : Int) := by omega
  have hx1 : (p : Int) ≤ (p : Int) + (n : Int) := by omega
  have hx2 : (p : Int) + (n : Int) ≤ (c : Int) := by omega
  have hcp : ¬ c = p := by omega
  have e1 : IntKind.i64.wrap ((p : Int) + (n : Int)) = (p : Int) + (n : Int) := IntWalk.i64_in _ (by omega)
  have e2 : ((p : Int) + (n : Int)).toNat = p + n := by omega
  go_wp2
  go_still_tail 15, (by kernel_rfl)
  change wpList _ _ _ _ _ W4.drew
  have hd5 : Dec W4.drew g (some ⟨b, off, none⟩) c l p := hd4
  have hg5 : w.grownBy W4.drew (some g) := only_drew hg4
  have hsub := reads_sub hd5.2.1 hcl hnl
  rw [if_neg hcp, Option.map_some, addr_add, sub_length hnl] at hsub
  clear c0 c1 f1 hd4 hg4 hx0 hx1 hx2 e1 e2
  generalize W4.drew = W5 at *
  clear W4
  have hgl := hd5.1.lt
  have hgw := hg5.size
  go_wp2_with (at_builtin; refine wpList_append_any _ rfl (.const (.slice none 0 0)) (.tmp 61) 22 rfl W5.heap.size 5 i0 (.int .u8 0) 1 1 Try.underlying22 hi0 hz0 hz1 hz2 rfl (by decide) _ _ _ rfl (World.ownsRow_nil W5 W5.heap.size 5 1) g _ n (c - p) _ rfl hsub (bv_one _) (by unfold maxLen; omega) (by omega) (Nat.le_refl _) ?_; intro v6 w6 hown6 hg6 _; have hb6 : Below W5.heap.size W5 w6 := (Below.refl _ _).grown hg6 (Nat.le_refl _) (fun k hk => absurd hk (by simp [Act.eval, Value.ownBlock])); clear hg6; have hd6 := dec_below hd5 hb6; have c0 : w6.cell? ⟨g, 0, none⟩ = some (.slice (some ⟨b, off, none⟩) l.length c) := hd6.1.cell 0; have c1 : w6.cell? ⟨g, 0 + 1, none⟩ = some (.int .i64 (p : Int)) := hd6.1.cell 1; have f1 : w6.frozen? ⟨g, 0 + 1, none⟩ = false := hd6.1.frozen 1)
  have hd7 : Dec (w6.setCell ⟨g, 1, none⟩ (.int .i64 ((p : Int) + (n : Int)))) g (some ⟨b, off, none⟩) c l (p + n) := dec_set (q := p + n) hd6
  have hg7 : w.grownBy (w6.setCell ⟨g, 1, none⟩ (.int .i64 ((p : Int) + (n : Int)))) (some g) := only_setCell (hg5.trans (only_of_below hb6 _)) (.inl rfl) _
  have hown7 := ownsRow_setCell_below hown6 (a := ⟨g, 1, none⟩) hgl (.int .i64 ((p : Int) + (n : Int)))
  simp only [Nat.zero_add, List.nil_append] at hown7
  clear c0 c1 f1 hd6 hown6 hb6 hsub hd5 hg5
  generalize w6.setCell ⟨g, 1, none⟩ (.int .i64 ((p : Int) + (n : Int))) = W7 at *
  have c0 : W7.cell? ⟨g, 0, none⟩ = some (.slice (some ⟨b, off, none⟩) l.length c) := hd7.1.cell 0
  have c1 : W7.cell? ⟨g, 0 + 1, none⟩ = some (.int .i64 ((p : Int) + (n : Int))) := hd7.1.cell 1
  have f1 : W7.frozen? ⟨g, 0 + 1, none⟩ = false := hd7.1.frozen 1
  have hx0 : (0 : Int) ≤ (p : Int) + (n : Int) := by omega
  have hx1 : (p : Int) + (n : Int) ≤ (p : Int) + (n : Int) + 4 := by omega
  have hx2 : (p : Int) + (n : Int) + 4 ≤ (c : Int) := by omega
  have hcq : ¬ c = p + n := by omega
  have e1 : IntKind.i64.wrap ((p : Int) + (n : Int) + 4) = (p : Int) + (n : Int) + 4 := IntWalk.i64_in _ (by omega)
  have e2 : ((p : Int) + (n : Int)).toNat = p + n := by omega
  have e3 : ((p : Int) + (n : Int) + 4).toNat = p + n + 4 := by omega
  have e4 : p + n + 4 - (p + n) = 4 := by omega
  go_quiet (fail)
  clear e1 e2 e3 e4
  have hT0 := reads_sub (p := p + n) (n := 4) hd7.2.1 hcl (by omega)
  rw [if_neg hcq, Option.map_some, addr_add, sub_length (by omega)] at hT0
  have hTl : ((l.drop (p + n)).take 4).length = 4 := sub_length (by omega)
  have hX0 := reads_take hd7.2.1 hnl
  have hXl : (l.take (p + n)).length = p + n := by rw [List.length_take]; omega
  obtain ⟨T, hT⟩ : ∃ T, T = (l.drop (p + n)).take 4 := ⟨_, rfl⟩
  obtain ⟨X, hX⟩ : ∃ X, X = l.take (p + n) := ⟨_, rfl⟩
  rw [← hT] at hT0 hTl
  rw [← hX] at hX0 hXl
  have hsum := fun k => sum_any (some ⟨b, off, none⟩) c X (W7.drewN k) ((hX0.drewN k).more (by have := hd7.1.lt; simp; omega)) (by omega)
  rw [hXl] at hsum
  have hcrc := crc_lt X
  have HSUM := Lib.hid hsum
  have HT := Lib.hid hT
  have HX := Lib.hid hX
  have HTL := Lib.hid hTl
  clear hsum hX0 hXl hT hX hTl
  go_wp2
  go_loop [8, 86] (fun s i => BeRel T s i) (fun _ i => 4 - (intOf i).toNat)
  case atStart => exact ⟨0, by omega, rfl, rfl⟩
  case round =>
    obtain ⟨k, hk, rfl, rfl⟩ := hrel
    have hbe := beN_lt (T.take k)
    have hkl : (T.take k).length ≤ 4 := by rw [List.length_take]; omega
    by_cases hk4 : k < 4
    · have hkT : k < T.length := by rw [HTL.out]; exact hk4
      obtain ⟨b', off', he, _, hcl'⟩ := reads_byte (by rw [HTL.out]; exact hT0) hkT
      injection he with he
      injection he with he1 he2
      subst he1 he2
      have hcy := byte_lt T[k]
      have hstep := beN_step hkT
      have hb3 : beN (T.take k) < 16777216 := beN_lt3 (by rw [List.length_take]; omega)
      have hor := or_byte (beN (T.take k)) T[k].toNat hb3 hcy
      have HST := Lib.hid hstep
      clear hstep hbe
      generalize beN (T.take k) = s at *
      go_wp2
      go_round
      case rel => exact ⟨k + 1, by omega, by go_num, by rw [HST.out]; go_num⟩
      case measure => simp [intOf]; omega
    · obtain rfl : k = 4 := by omega
      have hTT : T.take 4 = T := List.take_of_length_le (by rw [HTL.out]; omega)
      rw [hTT] at *
      clear hTT hbe hkl hk4
      have hc0 : ¬ c = 0 := by omega
      have e2 : ((p : Int) + (n : Int)).toNat = p + n := by omega
      by_cases heq : beN T = crc X
      · have hne : ((beN T : Int) != (crc X : Int)) = false := by rw [heq]; simp
        have HEQ := Lib.hid heq
        clear heq
        go_wp2
        go_quiet ((go_at_call 16; exact quiet_add_left (HSUM.out _)))
        clear e2
        go_wp2
        go_ret2
        refine ⟨only_setCell (only_drewN hg7 _) (.inl rfl) _, ?_⟩
        rw [← HT.out, ← HX.out, if_pos HEQ.out]
        refine ⟨v6, rfl, dec_set (q := p + n + 4) (dec_drewN hd7 _), ?_⟩
        rw [sub_length hnl]
        exact own_base (ownsRow_setCell_below (own_drewN hown7 _) (a := ⟨g, 1, none⟩) hgl _) hgw
      · have hne : ((beN T : Int) != (crc X : Int)) = true := by rw [bne_iff_ne]; omega
        go_wp2
        go_quiet ((go_at_call 16; exact quiet_add_left (HSUM.out _)))
        go_wp2
        refine ⟨rfl, only_drewN hg7 _, ?_⟩
        rw [← HT.out, ← HX.out, if_neg heq]
end Go.Proofs.Ytoljigllnhenoaa
