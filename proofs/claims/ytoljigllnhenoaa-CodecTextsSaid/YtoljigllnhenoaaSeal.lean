/- append onto bytes that the call made itself; PutText, four and Seal. -/
import Derived.Test.YtoljigllnhenoaaTakeText
import Derived.Lib.AppendStr
namespace Go.Proofs.Ytoljigllnhenoaa
open Go.RowKit

section
variable {P : Program} (w : World)

theorem run_append_of_nil (base : Nat) (t ty e : TypeId) (i : TypeInfo) (size : Nat) (ht : P.underlying t = some (.slice e)) (hi : P.info? e = some i)
    (v : Value) (n : Nat) (xs : List Value) (hown : w.ownsRow base e size v n xs) (c : Nat) : (Builtin.append_ #[t, t] ty #[v, .slice none 0 c]).run P w = .ok v w := by
  rcases hown.2 with ⟨rfl, rfl⟩ | ⟨g, cap, cur, rfl, _, _, hnc, _⟩
  · simp [Builtin.append_, run_underlying ht, sizeOf, typeInfo, hi, Builtin.lenOf, Builtin.firstCells]
  · simp [Builtin.append_, run_underlying ht, sizeOf, typeInfo, hi, Builtin.lenOf, Builtin.firstCells, hnc, storeCells]

theorem run_append_any (base : Nat) (t ty e : TypeId) (i : TypeInfo) (z : Value) (size bytes : Nat) (ht : P.underlying t = some (.slice e)) (hi : P.info? e = some i) (hz : i.zero = some z)
    (hsize : i.size = size) (hby : i.bytes = bytes) (hzs : z.cells.size = size) (hsz : 0 < size)
    (v : Value) (n : Nat) (xs : List Value) (hown : w.ownsRow base e size v n xs)
    (B : Nat) (A : Option Addr) (m c : Nat) (news : List Value) (hr : Reads w B size A m news) (h1 : ∀ u ∈ news, u.oneCell' = true)
    (h63 : n + m ≤ maxLen) (hbytes : (n + m) * bytes ≤ 140737488355328) (hbase : base ≤ w.heap.size) :
    ∃ v' w', (Builtin.append_ #[t, t] ty #[v, .slice A m c]).run P w = .ok v' w' ∧ w'.ownsRow base e size v' (n + m) (xs ++ news) ∧ w.grownBy w' v.ownBlock ∧
      (v'.ownBlock = v.ownBlock ∨ v'.ownBlock = some w.heap.size) := by
  rcases A with _ | ad
  · have hm : m = 0 := by
      rcases Nat.eq_zero_or_pos m with h0 | h0
      · exact h0
      · obtain ⟨ad, h, _⟩ := hr.2 h0
        cases h
    subst hm
    have hn : news = [] := List.eq_nil_of_length_eq_zero (by simpa using hr.1)
    subst hn
    exact ⟨v, w, run_append_of_nil w base t ty e i size ht hi v n xs hown c, by simpa using hown, World.grownBy.refl w _, .inl rfl⟩
  · have hcells : ∀ j u, news[j]? = some u → w.cell? (ad.add j) = some u := by
      intro j u hu
      rcases Nat.eq_zero_or_pos m with h0 | h0
      · subst h0
        have hn : news = [] := List.eq_nil_of_length_eq_zero (by simpa using hr.1)
        subst hn
        simp at hu
      · obtain ⟨ad', h, _, hc⟩ := hr.2 h0
        injection h with h
        subst h
        exact hc j u hu
    obtain ⟨v', w', hrun, h2, h3, _, h5⟩ := run_append_own_at (P := P) w base t ty e i z size bytes ht hi hz hsize hby hzs hsz v n xs hown ad m c news hr.1 hcells h1 h63 hbytes hbase
    exact ⟨v', w', hrun, h2, h3, h5⟩

theorem wp_append_any {o : Oper} {a : Act} {K : Act → World → Prop} {Q : Exit → Act → World → Prop} (s x : Operand) (t : TypeId)
    (ho : o.op = .call { callee := .builtin .append, args := #[s, x], argTypes := #[t, t] })
    (base : Nat) (e : TypeId) (i : TypeInfo) (z : Value) (size bytes : Nat) (ht : P.underlying t = some (.slice e)) (hi : P.info? e = some i) (hz : i.zero = some z)
    (hsize : i.size = size) (hby : i.bytes = bytes) (hzs : z.cells.size = size) (hsz : 0 < size)
    (v : Value) (n : Nat) (xs : List Value) (hs : a.eval s = v) (hown : w.ownsRow base e size v n xs)
    (B : Nat) (A : Option Addr) (m c : Nat) (news : List Value) (hx : a.eval x = .slice A m c) (hr : Reads w B size A m news) (h1 : ∀ u ∈ news, u.oneCell' = true)
    (h63 : n + m ≤ maxLen) (hbytes : (n + m) * bytes ≤ 140737488355328) (hbase : base ≤ w.heap.size)
    (h : ∀ v' w', w'.ownsRow base e size v' (n + m) (xs ++ news) → w.grownBy w' v.ownBlock → (v'.ownBlock = v.ownBlock ∨ v'.ownBlock = some w.heap.size) → K (a.put o.dst v') w') : o.wp P a w K Q := by
  obtain ⟨v', w', hrun, h2, h3, h4⟩ := run_append_any (P := P) w base t o.type e i z size bytes ht hi hz hsize hby hzs hsz v n xs hown B A m c news hr h1 h63 hbytes hbase
  unfold Oper.wp execOp
  simp only [ho, resolve, invoke, builtin, Sem.run_bind, Sem.run_pure, Result.andThen_ok, List.map_toArray, List.map_cons, List.map_nil, hs, hx, hrun]
  exact h v' w' h2 h3 h4

theorem wpList_append_any {ops : Array Oper} {rest : List Oper} {o : Oper} {a : Act} {Q : Exit → Act → World → Prop} (hgd : o.guard = none) (s x : Operand) (t : TypeId)
    (ho : o.op = .call { callee := .builtin .append, args := #[s, x], argTypes := #[t, t] })
    (base : Nat) (e : TypeId) (i : TypeInfo) (z : Value) (size bytes : Nat) (ht : P.underlying t = some (.slice e)) (hi : P.info? e = some i) (hz : i.zero = some z)
    (hsize : i.size = size) (hby : i.bytes = bytes) (hzs : z.cells.size = size) (hsz : 0 < size)
    (v : Value) (n : Nat) (xs : List Value) (hs : a.eval s = v) (hown : w.ownsRow base e size v n xs)
    (B : Nat) (A : Option Addr) (m c : Nat) (news : List Value) (hx : a.eval x = .slice A m c) (hr : Reads w B size A m news) (h1 : ∀ u ∈ news, u.oneCell' = true)
    (h63 : n + m ≤ maxLen) (hbytes : (n + m) * bytes ≤ 140737488355328) (hbase : base ≤ w.heap.size)
    (h : ∀ v' w', w'.ownsRow base e size v' (n + m) (xs ++ news) → w.grownBy w' v.ownBlock → (v'.ownBlock = v.ownBlock ∨ v'.ownBlock = some w.heap.size) → wpList P ops Q rest (a.put o.dst v') w') : wpList P ops Q (o :: rest) a w :=
  wpList_plain hgd fun _ hK => wp_append_any w s x t ho base e i z size bytes ht hi hz hsize hby hzs hsz v n xs hs hown B A m c news hx hr h1 h63 hbytes hbase fun v' w' h2 h3 h4 => hK _ _ (h v' w' h2 h3 h4)

theorem step_append_any {ops : Array Oper} {o : Oper} {a : Act} {K : Act → World → Prop} {Q : Exit → Act → World → Prop} {E : Prop} (hgd : o.guard = none) (s x : Operand) (t : TypeId)
    (ho : o.op = .call { callee := .builtin .append, args := #[s, x], argTypes := #[t, t] })
    (base : Nat) (e : TypeId) (i : TypeInfo) (z : Value) (size bytes : Nat) (ht : P.underlying t = some (.slice e)) (hi : P.info? e = some i) (hz : i.zero = some z)
    (hsize : i.size = size) (hby : i.bytes = bytes) (hzs : z.cells.size = size) (hsz : 0 < size)
    (v : Value) (n : Nat) (xs : List Value) (hs : a.eval s = v) (hown : w.ownsRow base e size v n xs)
    (B : Nat) (A : Option Addr) (m c : Nat) (news : List Value) (hx : a.eval x = .slice A m c) (hr : Reads w B size A m news) (h1 : ∀ u ∈ news, u.oneCell' = true)
    (h63 : n + m ≤ maxLen) (hbytes : (n + m) * bytes ≤ 140737488355328) (hbase : base ≤ w.heap.size)
    (h : ∀ v' w', w'.ownsRow base e size v' (n + m) (xs ++ news) → w.grownBy w' v.ownBlock → (v'.ownBlock = v.ownBlock ∨ v'.ownBlock = some w.heap.size) → K (a.put o.dst v') w') :
    if Region.wanted o (yielded ops a.tmps) = true then Oper.wp P o a w K Q else E := by
  have hw : Region.wanted o (yielded ops a.tmps) = true := by simp [Region.wanted, hgd]
  rw [if_pos hw]
  exact wp_append_any w s x t ho base e i z size bytes ht hi hz hsize hby hzs hsz v n xs hs hown B A m c news hx hr h1 h63 hbytes hbase h
end

theorem own_slice {w : World} {base : Nat} {e : TypeId} {v : Value} {n : Nat} {xs : List Value} (h : w.ownsRow base e 1 v n xs) : ∃ A c, v = .slice A n c ∧ n ≤ c ∧ Reads w w.heap.size 1 A n xs := by
  rcases h.2 with ⟨rfl, hn⟩ | ⟨g, cap, cur, rfl, _, _, hc, _⟩
  · subst hn
    refine ⟨none, 0, rfl, Nat.le_refl _, ?_⟩
    have : xs = [] := List.eq_nil_of_length_eq_zero (by simpa using h.1)
    subst this
    exact Reads.none_
  · exact ⟨_, cap, rfl, hc, Reads.of_own h⟩
theorem own_lit (w : World) (xs : List Value) (e : TypeId) (base : Nat) (hb : base ≤ w.heap.size) (hx : xs.length ≤ 1000) : (w.alloc (.cells xs.toArray e)).ownsRow base e 1 (.slice (some ⟨w.heap.size, 0, none⟩) xs.length xs.length) xs.length xs :=
  ⟨by omega, .inr ⟨w.heap.size, xs.length, xs.toArray, rfl, hb, heap_alloc_new w _, Nat.le_refl _, by unfold maxLen; omega, by simp, by simp⟩⟩
theorem strCells_eq (l : List UInt8) : Lib.strCells ⟨l.toArray⟩ = bv l := by simp [Lib.strCells, bv]

def encText (s : List UInt8) : List UInt8 := encN (zig s.length) ++ s

theorem ba_size (l : List UInt8) : (⟨l.toArray⟩ : ByteArray).size = l.length := by simp [ByteArray.size]
theorem enc_len (n : Nat) (h : n ≤ 1000000000) : (encN (zig n)).length ≤ 10 :=
  encN_length_le 9 (zig n) (by have := zig_lt n (by omega) (by omega); simp only [Nat.reduceAdd, Nat.reducePow]; omega)

theorem putText_any (s : List UInt8) (w : World) (hs : s.length ≤ 1000000000) : Calls Try.prog 24 #[.string ⟨s.toArray⟩] w (GivesBytes w (encText s)) := by
  obtain ⟨i0, hi0, hz0, hz1, hz2⟩ := info_parts byte_info
  have hel := enc_len s.length hs
  have hsz := ba_size s
  have HS := Lib.hid hsz
  clear hsz
  go_enter Try.func24, Try.ntmps24
  go_wp2_with fail
  refine (putint _ _ (by omega) (by omega)).mono ?_
  rintro e w1 ⟨v, rfl, hown, hb⟩
  go_wp2_with (at_builtin; refine Lib.wpList_append_own_string _ rfl (.tmp 5) (.tmp 6) 22 9 rfl w.heap.size 5 i0 Try.underlying22 Try.underlying9 hi0 hz0 hz1 hz2 v _ _ rfl hown ⟨s.toArray⟩ rfl (by rw [HS.out]; unfold maxLen; omega) (by rw [HS.out]; omega) hb.size ?_; intro v' w2 hown2 hg2 _)
  go_ret
  refine ⟨v', rfl, ?_, hb.grown hg2 hb.size (fun k hk => (hown.lt k hk).1)⟩
  rw [HS.out, strCells_eq] at hown2
  unfold encText
  rw [bv_append, List.length_append]
  exact hown2

theorem refPutText_any (s : List UInt8) (w : World) (hs : s.length ≤ 1000000000) : Calls Try.prog 28 #[.string ⟨s.toArray⟩] w (GivesBytes w (encText s)) := by
  obtain ⟨i0, hi0, hz0, hz1, hz2⟩ := info_parts byte_info
  have hel := enc_len s.length hs
  have hsz := ba_size s
  have HS := Lib.hid hsz
  clear hsz
  go_enter Try.func28, Try.ntmps28
  go_wp2_with fail
  refine (refput _ _ (by omega) (by omega)).mono ?_
  rintro e w1 ⟨v, rfl, hown, hb⟩
  go_wp2_with (at_builtin; refine Lib.wpList_append_own_string _ rfl (.tmp 5) (.tmp 6) 22 9 rfl w.heap.size 5 i0 Try.underlying22 Try.underlying9 hi0 hz0 hz1 hz2 v _ _ rfl hown ⟨s.toArray⟩ rfl (by rw [HS.out]; unfold maxLen; omega) (by rw [HS.out]; omega) hb.size ?_; intro v' w2 hown2 hg2 _)
  go_ret
  refine ⟨v', rfl, ?_, hb.grown hg2 hb.size (fun k hk => (hown.lt k hk).1)⟩
  rw [HS.out, strCells_eq] at hown2
  unfold encText
  rw [bv_append, List.length_append]
  exact hown2


/-- four bytes of a checksum, the highest first -/
def four (n : Nat) : List UInt8 := [UInt8.ofNat (n / 16777216), UInt8.ofNat (n / 65536), UInt8.ofNat (n / 256), UInt8.ofNat n]
theorem four_cells {n : Nat} (h : n < 4294967296) : bv (four n) = [.int .u8 ((n : Int) / 16777216), .int .u8 ((n : Int) / 65536 % 256), .int .u8 ((n : Int) / 256 % 256), .int .u8 ((n : Int) % 256)] := by
  simp only [four, bv, List.map_cons, List.map_nil, UInt8.toNat_ofNat']
  simp only [List.cons.injEq, Value.int.injEq, true_and, and_true]; omega
theorem four_any (n : Nat) (w : World) (hn : n < 4294967296) : Calls Try.prog 40 #[.int .i64 n] w (GivesBytes w (four n)) := by
  go_enter Try.func40, Try.ntmps40
  go_wp2
  go_ret
  refine ⟨_, rfl, ?_, (Below.refl _ _).alloc (Nat.le_refl _) _⟩
  rw [four_cells hn]
  exact own_lit w _ 5 w.heap.size (Nat.le_refl _) (by simp)
theorem only_of_below {a w : World} (h : Below a.heap.size a w) (row : Option Nat) : a.grownBy w row := ⟨h.os, h.tape, h.output, h.size, fun i hi _ => h.block i hi⟩
theorem own_below {w w' : World} {base : Nat} {e : TypeId} {size n : Nat} {v : Value} {xs : List Value} (h : w.ownsRow base e size v n xs) (hb : Below w.heap.size w w') : w'.ownsRow base e size v n xs :=
  h.kept (only_of_below hb none) (by cases hv : v.ownBlock <;> simp)

def sealHead (k : Nat) (l : List UInt8) : List UInt8 := UInt8.ofNat k :: encN (zig l.length) ++ l
def sealed (k : Nat) (l : List UInt8) : List UInt8 := sealHead k l ++ four (crc (sealHead k l))
theorem crc_lt (l : List UInt8) : crc l < 4294967296 := by unfold crc; omega

theorem sealHead_length (k : Nat) (l : List UInt8) : (sealHead k l).length = 1 + (encN (zig l.length)).length + l.length := by simp [sealHead]; omega
theorem sealHead_own {k : Nat} {l : List UInt8} {w3 : World} {B : Nat} {v3 : Value} (hk : k ≤ 255) (h : World.ownsRow w3 B 5 1 v3 ([Value.int IntKind.u8 (k : Int)].length + (encN (zig l.length)).length + l.length) ([Value.int IntKind.u8 (k : Int)] ++ bv (encN (zig l.length)) ++ bv l)) :
    w3.ownsRow B 5 1 v3 (sealHead k l).length (bv (sealHead k l)) := by
  rw [sealHead_length]
  have e : bv (sealHead k l) = [Value.int IntKind.u8 (k : Int)] ++ bv (encN (zig l.length)) ++ bv l := by
    unfold sealHead
    rw [bv_append]
    congr 1
    simp only [bv, List.map_cons]
    rw [toNat_small (by omega)]
    rfl
  rw [e]
  exact h

set_option maxHeartbeats 1000000 in
theorem seal_any (k : Nat) (hk : k ≤ 255) (A : Option Addr) (c : Nat) (l : List UInt8) (w : World) (h : Reads w w.heap.size 1 A l.length (bv l)) (hl : l.length ≤ 100000000) :
    Calls Try.prog 29 #[.int .i64 k, .slice A l.length c] w (GivesBytes w (sealed k l)) := by
  obtain ⟨i0, hi0, hz0, hz1, hz2⟩ := info_parts byte_info
  have hel := enc_len l.length (by omega)
  have hk0 : ¬ ((k : Int) < 0) := by omega
  have hk1 : ¬ (255 < (k : Int)) := by omega
  unfold sealed
  have hfl : (sealHead k l).length = 1 + (encN (zig l.length)).length + l.length := sealHead_length k l
  have hfe : ∀ w3 v3, World.ownsRow w3 w.heap.size 5 1 v3 ([Value.int IntKind.u8 (k : Int)].length + (encN (zig l.length)).length + l.length) ([Value.int IntKind.u8 (k : Int)] ++ bv (encN (zig l.length)) ++ bv l) → w3.ownsRow w.heap.size 5 1 v3 (sealHead k l).length (bv (sealHead k l)) := fun w3 v3 => sealHead_own hk
  have hfn : (sealHead k l).length ≤ 1000000000 := by omega
  have hcl := crc_lt (sealHead k l)
  obtain ⟨f, hf⟩ : ∃ f, f = sealHead k l := ⟨_, rfl⟩
  rw [← hf] at hfe hfn hcl ⊢
  have HFE := Lib.hid hfe
  clear hfe hf hfl
  go_enter Try.func29, Try.ntmps29
  go_wp2_with fail
  refine (putint _ _ (by omega) (by omega)).mono ?_
  rintro e w1 ⟨v1, rfl, hown1, hb1⟩
  obtain ⟨A1, c1, rfl, hc1, hr1⟩ := own_slice hown1
  have hown0 := own_below (own_lit w [.int .u8 (k : Int)] 5 w.heap.size (Nat.le_refl _) (by simp)) hb1
  have hbw1 : Below w.heap.size w w1 := ((Below.refl _ w).alloc (Nat.le_refl _) _).trans (hb1.mono (by simp))
  go_wp2_with (first
    | (at_builtin
       refine wpList_append_any _ rfl (.tmp 15) (.tmp 18) 22 rfl w.heap.size 5 i0 (.int .u8 0) 1 1 Try.underlying22 hi0 hz0 hz1 hz2 rfl (by decide) _ _ _ rfl hown0 w1.heap.size A1 _ c1 _ rfl hr1 (bv_one _) (by simp; unfold maxLen; omega) (by simp; omega) hbw1.size ?_
       intro v2 w2 hown2 hg2 hat2
       have hbw2 : Below w.heap.size w w2 := hbw1.grown hg2 hbw1.size (fun k hk => (hown0.lt k hk).1)
       have hr2 := h.below hbw2)
    | (at_builtin
       refine wpList_append_any _ rfl (.tmp 20) (.tmp 21) 22 rfl w.heap.size 5 i0 (.int .u8 0) 1 1 Try.underlying22 hi0 hz0 hz1 hz2 rfl (by decide) _ _ _ rfl hown2 w.heap.size A _ c _ rfl hr2 (bv_one _) (by simp; unfold maxLen; omega) (by simp; omega) hbw2.size ?_
       intro v3 w3 hown3 hg3 hat3
       have hbw3 : Below w.heap.size w w3 := hbw2.grown hg3 hbw2.size (fun k hk => (hown2.lt k hk).1)))
  have hh := HFE.out w3 v3 hown3
  clear hown3 hown2 hg2 hg3 hat2 hat3 hr2 hown1 hown0 hb1 hr1
  obtain ⟨A3, c3, rfl, hc3, hr3⟩ := own_slice hh
  refine (sum_any A3 c3 f w3 hr3 hfn).mono ?_
  rintro e w4 ⟨rfl, rfl⟩
  obtain ⟨n, hn⟩ : ∃ n, n = crc f := ⟨_, rfl⟩
  rw [← hn] at hcl
  simp only [← hn]
  have HN := Lib.hid hn
  clear hn
  have hr4 : Reads (w3.alloc (.cells #[.int .u8 ((n : Int) / 16777216), .int .u8 ((n : Int) / 65536 % 256), .int .u8 ((n : Int) / 256 % 256), .int .u8 ((n : Int) % 256)] 5)) (w3.heap.size + 1) 1 (some ⟨w3.heap.size, 0, none⟩) 4 (bv (four n)) := by
    rw [four_cells hcl]
    exact (Reads.of_own (own_lit w3 [.int .u8 ((n : Int) / 16777216), .int .u8 ((n : Int) / 65536 % 256), .int .u8 ((n : Int) / 256 % 256), .int .u8 ((n : Int) % 256)] 5 0 (Nat.zero_le _) (by simp))).more (by simp)
  go_wp2_with (at_builtin; refine wpList_append_any _ rfl (.tmp 25) (.tmp 37) 22 rfl w.heap.size 5 i0 (.int .u8 0) 1 1 Try.underlying22 hi0 hz0 hz1 hz2 rfl (by decide) _ _ _ rfl (hh.alloc _) _ _ _ 4 _ rfl hr4 (bv_one _) (by unfold maxLen; omega) (by omega) (Nat.le_trans hbw3.size (by simp)) ?_; intro v5 w5 hown5 hg5 hat5)
  go_ret
  refine ⟨v5, rfl, ?_, (hbw3.alloc hbw3.size _).grown hg5 (Nat.le_trans hbw3.size (by simp)) (fun k hk => (hh.lt k hk).1)⟩
  rw [← HN.out, bv_append, List.length_append]
  exact hown5

set_option maxHeartbeats 1000000 in
theorem refSeal_any (k : Nat) (hk : k ≤ 255) (A : Option Addr) (c : Nat) (l : List UInt8) (w : World) (h : Reads w w.heap.size 1 A l.length (bv l)) (hl : l.length ≤ 100000000) :
    Calls Try.prog 30 #[.int .i64 k, .slice A l.length c] w (GivesBytes w (sealed k l)) := by
  obtain ⟨i0, hi0, hz0, hz1, hz2⟩ := info_parts byte_info
  have hel := enc_len l.length (by omega)
  have hk0 : ¬ ((k : Int) < 0) := by omega
  have hk1 : ¬ (255 < (k : Int)) := by omega
  unfold sealed
  have hfl : (sealHead k l).length = 1 + (encN (zig l.length)).length + l.length := sealHead_length k l
  have hfe : ∀ w3 v3, World.ownsRow w3 w.heap.size 5 1 v3 ([Value.int IntKind.u8 (k : Int)].length + (encN (zig l.length)).length + l.length) ([Value.int IntKind.u8 (k : Int)] ++ bv (encN (zig l.length)) ++ bv l) → w3.ownsRow w.heap.size 5 1 v3 (sealHead k l).length (bv (sealHead k l)) := fun w3 v3 => sealHead_own hk
  have hfn : (sealHead k l).length ≤ 1000000000 := by omega
  have hcl := crc_lt (sealHead k l)
  obtain ⟨f, hf⟩ : ∃ f, f = sealHead k l := ⟨_, rfl⟩
  rw [← hf] at hfe hfn hcl ⊢
  have HFE := Lib.hid hfe
  clear hfe hf hfl
  go_enter Try.func30, Try.ntmps30
  go_wp2_with fail
  refine (refput _ _ (by omega) (by omega)).mono ?_
  rintro e w1 ⟨v1, rfl, hown1, hb1⟩
  obtain ⟨A1, c1, rfl, hc1, hr1⟩ := own_slice hown1
  have hown0 := own_below (own_lit w [.int .u8 (k : Int)] 5 w.heap.size (Nat.le_refl _) (by simp)) hb1
  have hbw1 : Below w.heap.size w w1 := ((Below.refl _ w).alloc (Nat.le_refl _) _).trans (hb1.mono (by simp))
  go_wp2_with (first
    | (at_builtin
       refine wpList_append_any _ rfl (.tmp 14) (.tmp 17) 22 rfl w.heap.size 5 i0 (.int .u8 0) 1 1 Try.underlying22 hi0 hz0 hz1 hz2 rfl (by decide) _ _ _ rfl hown0 w1.heap.size A1 _ c1 _ rfl hr1 (bv_one _) (by simp; unfold maxLen; omega) (by simp; omega) hbw1.size ?_
       intro v2 w2 hown2 hg2 hat2
       have hbw2 : Below w.heap.size w w2 := hbw1.grown hg2 hbw1.size (fun k hk => (hown0.lt k hk).1)
       have hr2 := h.below hbw2)
    | (at_builtin
       refine wpList_append_any _ rfl (.tmp 19) (.tmp 20) 22 rfl w.heap.size 5 i0 (.int .u8 0) 1 1 Try.underlying22 hi0 hz0 hz1 hz2 rfl (by decide) _ _ _ rfl hown2 w.heap.size A _ c _ rfl hr2 (bv_one _) (by simp; unfold maxLen; omega) (by simp; omega) hbw2.size ?_
       intro v3 w3 hown3 hg3 hat3
       have hbw3 : Below w.heap.size w w3 := hbw2.grown hg3 hbw2.size (fun k hk => (hown2.lt k hk).1)))
  have hh := HFE.out w3 v3 hown3
  clear hown3 hown2 hg2 hg3 hat2 hat3 hr2 hown1 hown0 hb1 hr1
  obtain ⟨A3, c3, rfl, hc3, hr3⟩ := own_slice hh
  refine (refsum_any A3 c3 f w3 hr3 hfn).mono ?_
  rintro e w4 ⟨rfl, rfl⟩
  obtain ⟨n, hn⟩ : ∃ n, n = crc f := ⟨_, rfl⟩
  rw [← hn] at hcl
  simp only [← hn]
  have HN := Lib.hid hn
  clear hn
  go_wp2_with fail
  refine (four_any n w3 hcl).mono ?_
  rintro e w4 ⟨v4, rfl, hown4, hb4⟩
  obtain ⟨A4, c4, rfl, hc4, hr4⟩ := own_slice hown4
  have hh4 := own_below hh hb4
  have hbw4 : Below w.heap.size w w4 := hbw3.trans (hb4.mono hbw3.size)
  have hl4 : (four n).length = 4 := rfl
  go_wp2_with (at_builtin; refine wpList_append_any _ rfl (.tmp 22) (.tmp 25) 22 rfl w.heap.size 5 i0 (.int .u8 0) 1 1 Try.underlying22 hi0 hz0 hz1 hz2 rfl (by decide) _ _ _ rfl hh4 _ _ _ c4 _ rfl hr4 (bv_one _) (by unfold maxLen; omega) (by omega) hbw4.size ?_; intro v5 w5 hown5 hg5 hat5)
  go_ret
  refine ⟨v5, rfl, ?_, hbw4.grown hg5 hbw4.size (fun k hk => (hh4.lt k hk).1)⟩
  rw [← HN.out, bv_append, List.length_append]
  exact hown5

theorem seal_out (k : Int) (hk : k < 0 ∨ 255 < k) (v : Value) (w : World) : Calls Try.prog 29 #[.int .i64 k, v] w fun e w' => e = .returned (.slice none 0 0) ∧ w = w' := by
  rcases hk with hk | hk
  · go_enter Try.func29, Try.ntmps29
    go_wp2
    go_ret
    exact ⟨rfl, rfl⟩
  · have h0 : ¬ k < 0 := by omega
    go_enter Try.func29, Try.ntmps29
    go_wp2
    go_ret
    exact ⟨rfl, rfl⟩
theorem refSeal_out (k : Int) (hk : k < 0 ∨ 255 < k) (v : Value) (w : World) : Calls Try.prog 30 #[.int .i64 k, v] w fun e w' => e = .returned (.slice none 0 0) ∧ w = w' := by
  rcases hk with hk | hk
  · go_enter Try.func30, Try.ntmps30
    go_wp2
    go_ret
    exact ⟨rfl, rfl⟩
  · have h0 : ¬ k < 0 := by omega
    go_enter Try.func30, Try.ntmps30
    go_wp2
    go_ret
    exact ⟨rfl, rfl⟩
end Go.Proofs.Ytoljigllnhenoaa
