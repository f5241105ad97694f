/- What functions of the program and of the reference compute, on values. No statement is proved here. -/
import Derived.Shelf.SlIter.Nil
import Derived.Shelf.SortM.Plain
import Derived.Shelf.SortM.SortNone
import Derived.Ground.GgzProg
import Derived.Ground.SlgmProg
import Derived.Test.YtflfflfodghgpaaGreatDoorProg
import Derived.Test.YtflfflfodghgpaaGreatDoorEvC
import Derived.Test.YtflfflfodghgpaaGreatDoorTxE
set_option linter.unusedSimpArgs false
set_option linter.unusedVariables false
/- The shelf's contracts on slices.Sorted(maps.Keys(m)) at this seat (turned from the laying that the kit's tool printed for another seat). -/
namespace Go.Proofs
open Go.Shelf
def Tryz.keys71_ren : Go.Shelf.Ren := ⟨fun | 7 => 153 | 10 => 215 | n => n, fun | 23 => 181 | 26 => 9 | 3 => 9 | 28 => 168 | 0 => 0 | 27 => 167 | 33 => 97 | 4 => 4 | n => n, fun | n => n⟩
theorem Tryz.keys71 : Go.Proofs.SlLaysZ.n7 Tryz.prog Tryz.keys71_ren := {
  mixed := by kernel_rfl
  f7 := ⟨Tryz.f153.name, by decide, Tryz.func153.trans (congrArg some (by kernel_rfl))⟩
  f10 := ⟨Tryz.f215.name, by decide, Tryz.func215.trans (congrArg some (by kernel_rfl))⟩
  t0 := Tryz.underlying0
  a0 := Tryz.isAgg0
  z0 := Tryz.sizeOf0
  v0 := Tryz.zeroValue0
  t4 := Tryz.underlying4
  a4 := Tryz.isAgg4
  z4 := Tryz.sizeOf4
  v4 := Tryz.zeroValue4
  t23 := Tryz.underlying181
  a23 := Tryz.isAgg181
  z23 := Tryz.sizeOf181
  v23 := Tryz.zeroValue181
  t26 := Tryz.underlying9
  a26 := Tryz.isAgg9
  z26 := Tryz.sizeOf9
  v26 := Tryz.zeroValue9
  t27 := Tryz.underlying167
  a27 := Tryz.isAgg167
  z27 := Tryz.sizeOf167
  v27 := Tryz.zeroValue167
  t28 := Tryz.underlying168
  a28 := Tryz.isAgg168
  z28 := Tryz.sizeOf168
  v28 := Tryz.zeroValue168
  t33 := Tryz.underlying97
  a33 := Tryz.isAgg97
  z33 := Tryz.sizeOf97
  v33 := Tryz.zeroValue97 }
def Tryz.sorted70_ren : Go.Shelf.Ren := ⟨fun | 6 => 135 | 8 => 192 | 9 => 193 | 11 => 251 | 13 => 155 | 12 => 252 | 23 => 224 | 24 => 225 | 14 => 284 | 15 => 285 | 16 => 286 | 17 => 287 | 18 => 288 | 19 => 289 | 20 => 290 | 21 => 291 | 22 => 292 | 25 => 318 | 26 => 270 | 27 => 271 | 28 => 319 | 29 => 320 | 30 => 156 | 31 => 338 | n => n, fun | 26 => 9 | 28 => 168 | 24 => 47 | 0 => 0 | 3 => 3 | 37 => 187 | 48 => 223 | 50 => 225 | 4 => 4 | 40 => 217 | 39 => 216 | 45 => 135 | 5 => 5 | 9 => 9 | 51 => 259 | 55 => 263 | 57 => 290 | 58 => 86 | 33 => 97 | n => n, fun | n => n⟩
theorem Tryz.sorted70 : Go.Proofs.SlLaysZ.n6 Tryz.prog Tryz.sorted70_ren := {
  mixed := by kernel_rfl
  f6 := ⟨Tryz.f135.name, by decide, Tryz.func135.trans (congrArg some (by kernel_rfl))⟩
  f8 := ⟨Tryz.f192.name, by decide, Tryz.func192.trans (congrArg some (by kernel_rfl))⟩
  f11 := ⟨Tryz.f251.name, by decide, Tryz.func251.trans (congrArg some (by kernel_rfl))⟩
  t0 := Tryz.underlying0
  a0 := Tryz.isAgg0
  z0 := Tryz.sizeOf0
  v0 := Tryz.zeroValue0
  t24 := Tryz.underlying47
  a24 := Tryz.isAgg47
  z24 := Tryz.sizeOf47
  v24 := Tryz.zeroValue47
  t26 := Tryz.underlying9
  a26 := Tryz.isAgg9
  z26 := Tryz.sizeOf9
  v26 := Tryz.zeroValue9
  t28 := Tryz.underlying168
  a28 := Tryz.isAgg168
  z28 := Tryz.sizeOf168
  v28 := Tryz.zeroValue168
  i26 := by kernel_rfl }
def Tryz.sort107_ren : Go.Shelf.Ren := ⟨fun | 6 => 193 | 8 => 155 | 9 => 252 | 19 => 224 | 20 => 225 | 21 => 284 | 22 => 285 | 23 => 286 | 24 => 287 | 25 => 288 | 26 => 289 | 27 => 290 | 28 => 291 | 29 => 292 | 36 => 318 | 31 => 270 | 32 => 271 | 37 => 319 | 38 => 320 | 39 => 156 | 41 => 338 | n => n, fun | 27 => 47 | 29 => 9 | 3 => 3 | 32 => 187 | 26 => 47 | 0 => 0 | 44 => 223 | 46 => 225 | 4 => 4 | 36 => 217 | 35 => 216 | 41 => 135 | 5 => 5 | 9 => 9 | 53 => 259 | 57 => 263 | 63 => 290 | 64 => 86 | n => n, fun | n => n⟩
theorem Tryz.sort107 : Go.Proofs.SlLaysM.n6 Tryz.prog Tryz.sort107_ren := {
  mixed := by kernel_rfl
  f6 := ⟨Tryz.f193.name, by decide, Tryz.func193.trans (congrArg some (by kernel_rfl))⟩
  f8 := Tryz.func155.trans (congrArg some (by kernel_rfl))
  f9 := ⟨Tryz.f252.name, by decide, Tryz.func252.trans (congrArg some (by kernel_rfl))⟩
  f19 := Tryz.func224.trans (congrArg some (by kernel_rfl))
  f20 := Tryz.func225.trans (congrArg some (by kernel_rfl))
  f21 := ⟨Tryz.f284.name, by decide, Tryz.func284.trans (congrArg some (by kernel_rfl))⟩
  f22 := ⟨Tryz.f285.name, by decide, Tryz.func285.trans (congrArg some (by kernel_rfl))⟩
  f23 := ⟨Tryz.f286.name, by decide, Tryz.func286.trans (congrArg some (by kernel_rfl))⟩
  f24 := ⟨Tryz.f287.name, by decide, Tryz.func287.trans (congrArg some (by kernel_rfl))⟩
  f25 := ⟨Tryz.f288.name, by decide, Tryz.func288.trans (congrArg some (by kernel_rfl))⟩
  f26 := ⟨Tryz.f289.name, by decide, Tryz.func289.trans (congrArg some (by kernel_rfl))⟩
  f27 := ⟨Tryz.f290.name, by decide, Tryz.func290.trans (congrArg some (by kernel_rfl))⟩
  f28 := ⟨Tryz.f291.name, by decide, Tryz.func291.trans (congrArg some (by kernel_rfl))⟩
  f29 := ⟨Tryz.f292.name, by decide, Tryz.func292.trans (congrArg some (by kernel_rfl))⟩
  f31 := Tryz.func270.trans (congrArg some (by kernel_rfl))
  f32 := Tryz.func271.trans (congrArg some (by kernel_rfl))
  f36 := ⟨Tryz.f318.name, by decide, Tryz.func318.trans (congrArg some (by kernel_rfl))⟩
  f37 := ⟨Tryz.f319.name, by decide, Tryz.func319.trans (congrArg some (by kernel_rfl))⟩
  f38 := ⟨Tryz.f320.name, by decide, Tryz.func320.trans (congrArg some (by kernel_rfl))⟩
  f39 := ⟨Tryz.f156.name, by decide, Tryz.func156.trans (congrArg some (by kernel_rfl))⟩
  f41 := ⟨Tryz.f338.name, by decide, Tryz.func338.trans (congrArg some (by kernel_rfl))⟩
  t0 := Tryz.underlying0
  a0 := Tryz.isAgg0
  z0 := Tryz.sizeOf0
  v0 := Tryz.zeroValue0
  t3 := Tryz.underlying3
  a3 := Tryz.isAgg3
  z3 := Tryz.sizeOf3
  v3 := Tryz.zeroValue3
  t4 := Tryz.underlying4
  a4 := Tryz.isAgg4
  z4 := Tryz.sizeOf4
  v4 := Tryz.zeroValue4
  t5 := Tryz.underlying5
  a5 := Tryz.isAgg5
  z5 := Tryz.sizeOf5
  v5 := Tryz.zeroValue5
  t9 := Tryz.underlying9
  a9 := Tryz.isAgg9
  z9 := Tryz.sizeOf9
  v9 := Tryz.zeroValue9
  t26 := Tryz.underlying47
  a26 := Tryz.isAgg47
  z26 := Tryz.sizeOf47
  v26 := Tryz.zeroValue47
  t27 := Tryz.underlying47
  a27 := Tryz.isAgg47
  z27 := Tryz.sizeOf47
  v27 := Tryz.zeroValue47
  t29 := Tryz.underlying9
  a29 := Tryz.isAgg9
  z29 := Tryz.sizeOf9
  v29 := Tryz.zeroValue9
  t32 := Tryz.underlying187
  a32 := Tryz.isAgg187
  z32 := Tryz.sizeOf187
  v32 := Tryz.zeroValue187
  t35 := Tryz.underlying216
  a35 := Tryz.isAgg216
  z35 := Tryz.sizeOf216
  v35 := Tryz.zeroValue216
  t36 := Tryz.underlying217
  a36 := Tryz.isAgg217
  z36 := Tryz.sizeOf217
  v36 := Tryz.zeroValue217
  t41 := Tryz.underlying135
  a41 := Tryz.isAgg135
  z41 := Tryz.sizeOf135
  v41 := Tryz.zeroValue135
  t44 := Tryz.underlying223
  a44 := Tryz.isAgg223
  z44 := Tryz.sizeOf223
  v44 := Tryz.zeroValue223
  t46 := Tryz.underlying225
  a46 := Tryz.isAgg225
  z46 := Tryz.sizeOf225
  v46 := Tryz.zeroValue225
  t53 := Tryz.underlying259
  a53 := Tryz.isAgg259
  z53 := Tryz.sizeOf259
  v53 := Tryz.zeroValue259
  t57 := Tryz.underlying263
  a57 := Tryz.isAgg263
  z57 := Tryz.sizeOf263
  v57 := Tryz.zeroValue263
  t63 := Tryz.underlying290
  a63 := Tryz.isAgg290
  z63 := Tryz.sizeOf290
  v63 := Tryz.zeroValue290
  t64 := Tryz.underlying86
  a64 := Tryz.isAgg86
  z64 := Tryz.sizeOf86
  v64 := Tryz.zeroValue86 }
end Go.Proofs

namespace Go.EvL
open Go
theorem bytesLt_iff : ∀ a b : List UInt8, bytesLt a b = decide (a < b)
  | [], [] => rfl
  | [], _ :: _ => rfl
  | _ :: _, [] => rfl
  | x :: a, y :: b => by
    show (Bool.rec (Bool.rec false (bytesLt a b) (Nat.beq x.toNat y.toNat)) true (Nat.ble (Nat.succ x.toNat) y.toNat) : Bool) = _
    rw [bytesLt_iff a b]
    have e : ((x :: a) < (y :: b)) ↔ (x.toNat < y.toNat ∨ x.toNat = y.toNat ∧ a < b) := by
      rw [List.cons_lt_cons_iff, UInt8.lt_iff_toNat_lt, ← UInt8.toNat_inj]
    cases h1 : Nat.ble (Nat.succ x.toNat) y.toNat with
    | true =>
      have h := Nat.le_of_ble_eq_true h1
      exact (decide_eq_true (e.2 (.inl h))).symm
    | false =>
      have h : ¬ x.toNat < y.toNat := fun h => by rw [Nat.ble_eq_true_of_le h] at h1; cases h1
      cases h2 : Nat.beq x.toNat y.toNat with
      | true =>
        have h3 := Nat.eq_of_beq_eq_true h2
        show decide (a < b) = decide _
        rw [decide_eq_decide, e]
        exact ⟨fun k => .inr ⟨h3, k⟩, fun k => k.elim (fun k => absurd k h) fun k => k.2⟩
      | false =>
        have h3 : x.toNat ≠ y.toNat := fun k => by rw [k, Nat.beq_refl] at h2; cases h2
        exact (decide_eq_false fun k => (e.1 k).elim h fun k => h3 k.1).symm
noncomputable def twoBytes (a b : List UInt8) : List (List UInt8) := Bool.rec [b, a] [a, b] (bytesLt a b)
theorem merge_two (a b : List UInt8) : [a, b].mergeSort (fun x y => decide (x ≤ y)) = if a ≤ b then [a, b] else [b, a] := by
  rw [List.mergeSort]
  simp [List.MergeSort.Internal.splitInTwo, List.merge]
theorem two_sort {a b : List UInt8} {ss : List (List UInt8)} (h : ss.Perm [a, b]) (hlt : (bytesLt a b || bytesLt b a) = true) : ss.mergeSort (fun x y => decide (x ≤ y)) = twoBytes a b ∧ ss.length = 2 := by
  refine ⟨?_, h.length_eq⟩
  have hs : ss = [a, b] ∨ ss = [b, a] := by
    match ss, h.length_eq, h with
    | [x, y], _, h =>
      have hx : x = a ∨ x = b := by simpa using h.subset (List.mem_cons_self ..)
      rcases hx with rfl | rfl
      · have := List.perm_singleton.1 (List.Perm.cons_inv h)
        rw [this]
        exact .inl rfl
      · have := List.perm_singleton.1 (List.Perm.cons_inv (h.trans (List.Perm.swap _ _ _)))
        rw [this]
        exact .inr rfl
  rw [bytesLt_iff, bytesLt_iff, Bool.or_eq_true, decide_eq_true_eq, decide_eq_true_eq] at hlt
  unfold twoBytes
  rw [bytesLt_iff]
  have key : ∀ {p q : List UInt8}, p < q → [p, q].mergeSort (fun x y => decide (x ≤ y)) = [p, q] ∧ [q, p].mergeSort (fun x y => decide (x ≤ y)) = [p, q] := fun {p q} k => by
    rw [merge_two, merge_two]
    have h1 : p ≤ q := List.le_of_lt k
    have h2 : ¬ q ≤ p := fun hh => hh k
    rw [if_pos h1, if_neg h2]
    exact ⟨rfl, rfl⟩
  rcases hlt with k | k
  · rw [decide_eq_true k]
    rcases hs with rfl | rfl
    · exact (key k).1
    · exact (key k).2
  · have : ¬ a < b := fun hh => List.lt_asymm hh k
    rw [decide_eq_false this]
    rcases hs with rfl | rfl
    · exact (key k).2
    · exact (key k).1
end Go.EvL

namespace Go.Proofs.YtflfflfodghgpaaGreatDoor
open Go Go.EvL Go.RowKit Go.Maps Go.Sort Go.Shelf
theorem sorts70 (m : Nat) : AnyZ.SortsIn Tryz.prog Tryz.sorted70_ren Fence.wide m :=
  ⟨fun blk off cap ss W hH hblk hsz => callsIn_wide.2 (AnyM.slices_Sort_string Tryz.sort107 blk off cap ss W hH hblk hsz),
   fun p cap W => callsIn_wide.2 (AnyM.slices_Sort_string_none Tryz.sort107 p cap W)⟩
def rdAny (_ : Value) : Option (DataW Unit × List MemPlace) := some (.nil, [])
set_option maxHeartbeats 1000000 in
theorem sorted_any (p b nn : Nat) (D0 : DataW Unit) (W : World) (hp : p < W.heap.size) (hc : W.cell? ⟨p, 0, none⟩ = some (.map (some b))) (hown : W.ownsMap Tryz.prog 9 rdAny b nn D0) (hmax : Maps.size D0 ≤ 2) :
    Calls Tryz.prog 135 #[.func (.func 215) #[] #[.pointer (some ⟨p, 0, none⟩)]] W fun e w' => ∃ (v : Value) (ss : List (List UInt8)), e = .returned v ∧ ss.Perm (strKeys D0) ∧
      w'.ownsRow W.heap.size 9 1 v ss.length ((ss.mergeSort (fun x y => decide (x ≤ y))).map encStr) ∧ (v = .slice none 0 0 ↔ ss = []) ∧ Below W.heap.size W w' := by
  have hseq : SeqGives Fence.wide 2 Tryz.prog 215 #[.pointer (some ⟨p, 0, none⟩)] encStr (fun ss => ss.Perm (strKeys D0)) (Maps.size D0) W :=
    AnyZ.keys_gives (ρ := Tryz.keys71_ren) { Tryz.keys71 with } Fence.wide _ trivial rfl (by omega) p b nn D0 _ hp hc hown
  exact (callsIn_wide (n := 5)).1 (AnyZ.sorted_in Tryz.sorted70 Fence.wide 5 trivial trivial trivial trivial rfl (by omega) (sorts70 _) (enters_of Tryz.func193 (by kernel_rfl) rfl) 215 #[.pointer (some ⟨p, 0, none⟩)]  trivial (enters_of Tryz.func215 (by kernel_rfl) rfl) _ _ (by unfold maxLen; omega) (by omega) _ hseq)
theorem sorted_is {g t it : Nat} (h : orc33.sorted g = some t) (hit : orc33.iter it = true) : g = 135 ∧ t = 9 ∧ it = 215 := by
  cases hb : Nat.beq g 135 with
  | false => exact absurd h (by show (Bool.rec none (some 9) (Nat.beq g 135) : Option Nat) ≠ _; rw [hb]; simp)
  | true =>
    have h' : (Bool.rec none (some 9) (Nat.beq g 135) : Option Nat) = some t := h
    rw [hb] at h'
    injection h' with h'
    exact ⟨Nat.eq_of_beq_eq_true hb, h'.symm, Nat.eq_of_beq_eq_true hit⟩
theorem key9 (k : ByteArray) (hk : k.size ≤ 1048576) : keyOf Tryz.prog 9 (.string k) = some (.string k.data.toList) := by
  have hu : Tryz.prog.underlying 9 = some .string := Tryz.underlying9
  simp only [keyOf, hu, mapKey]
  rw [if_pos (by unfold maxLen; omega)]
theorem con33 : OrcCon Tryz.prog orc33 where
  tab := fun g args v h => by cases h
  keys := fun g it t h mb W => by
    have hg : g = 153 ∧ it = 215 ∧ t = 181 := by
      cases hb : Nat.beq g 153 with
      | false => exact absurd h (by show (Bool.rec none (some (215, 181)) (Nat.beq g 153) : Option (Nat × Nat)) ≠ _; rw [hb]; simp)
      | true =>
        have h' : (Bool.rec none (some (215, 181)) (Nat.beq g 153) : Option (Nat × Nat)) = some (it, t) := h
        rw [hb] at h'
        injection h' with h'
        injection h' with h1 h2
        exact ⟨Nat.eq_of_beq_eq_true hb, h1.symm, h2.symm⟩
    obtain ⟨rfl, rfl, rfl⟩ := hg
    exact (callsIn_wide (n := 5)).1 (AnyZ.keys_in Tryz.keys71 Fence.wide 5 trivial rfl mb W)
  one := fun g t h => by
    have ht : t = 9 := by
      cases hb : Nat.beq g 135 with
      | false => exact absurd h (by show (Bool.rec none (some 9) (Nat.beq g 135) : Option Nat) ≠ _; rw [hb]; simp)
      | true =>
        have h' : (Bool.rec none (some 9) (Nat.beq g 135) : Option Nat) = some t := h
        rw [hb] at h'
        injection h' with h'
        exact h'.symm
    subst ht
    show Tryz.prog.cellsOf 9 = 1
    kernel_rfl
  none_ := fun g t h it hit p b clock W hc hb => by
    obtain ⟨rfl, rfl, rfl⟩ := sorted_is h hit
    have hp : p < W.heap.size := World.block_lt_of_cell? W ⟨p, 0, none⟩ hc
    have hown : W.ownsMap Tryz.prog 9 rdAny b 0 (.map []) := ⟨#[], clock, hb, ⟨by simp, ⟨by simp, by simp, by simp⟩, by simp⟩, by simp, rfl⟩
    refine (sorted_any p b 0 _ W hp hc hown (by simp [Maps.size])).mono ?_
    rintro e w' ⟨v, ss, rfl, hperm, _, hnil, hbw⟩
    have hss : ss = [] := by
      have := hperm.length_eq
      simpa [strKeys] using this
    exact ⟨congrArg Ending.returned (hnil.2 hss), hbw⟩
  some_ := fun g t h it hit p b clock W k v born hc hb hlt hk => by
    obtain ⟨rfl, rfl, rfl⟩ := sorted_is h hit
    have hp : p < W.heap.size := World.block_lt_of_cell? W ⟨p, 0, none⟩ hc
    have hrd : Go.WideElems.rd Tryz.prog 9 rdAny ⟨.string k, v, born⟩ = some (.string k.data.toList, .nil) := by
      unfold Go.WideElems.rd
      rw [key9 k hk]
      rfl
    have hown : W.ownsMap Tryz.prog 9 rdAny b 1 (.map [(.string k.data.toList, .nil)]) := by
      refine ⟨_, clock, hb, ⟨by simp [maxLen], ⟨by simpa using hlt, by simp, by simp⟩, ?_⟩, by simp, ?_⟩
      · intro x hx
        simp at hx
        subst hx
        exact ⟨_, hrd⟩
      · simp [Go.WideElems.rg, hrd, DataW.insert]
    refine (sorted_any p b 1 _ W hp hc hown (by simp [Maps.size])).mono ?_
    rintro e w' ⟨u, ss, rfl, hperm, hrow, hnil, hbw⟩
    have hss : ss = [k.data.toList] := by
      have := List.perm_singleton.1 (show ss.Perm [k.data.toList] from hperm)
      exact this
    subst hss
    have hsort : ([k.data.toList] : List (List UInt8)).mergeSort (fun x y => decide (x ≤ y)) = [k.data.toList] := by simp
    rw [hsort] at hrow
    rcases hrow.2 with ⟨_, h0⟩ | ⟨gb, cap, cur, rfl, hg1, hg2, hg3, hg4, hg5, hg6⟩
    · simp at h0
    · refine ⟨gb, cap, cur, rfl, hg1, hg2, hg3, by simpa using hg5, ?_, hbw⟩
      have : cur.toList.take 1 = [encStr k.data.toList] := by simpa using hg6
      rw [this]
  two_ := fun g t h it hit p b clock W k v born k2 v2 born2 hc hb h1 h2 hk hk2 hlt => by
    obtain ⟨rfl, rfl, rfl⟩ := sorted_is h hit
    have hp : p < W.heap.size := World.block_lt_of_cell? W ⟨p, 0, none⟩ hc
    have hrd : Go.WideElems.rd Tryz.prog 9 rdAny ⟨.string k, v, born⟩ = some (.string k.data.toList, .nil) := by
      unfold Go.WideElems.rd
      rw [key9 k hk]
      rfl
    have hrd2 : Go.WideElems.rd Tryz.prog 9 rdAny ⟨.string k2, v2, born2⟩ = some (.string k2.data.toList, .nil) := by
      unfold Go.WideElems.rd
      rw [key9 k2 hk2]
      rfl
    obtain ⟨D, hD⟩ : ∃ D : DataW Unit, D = .map (([⟨.string k, v, born⟩, ⟨.string k2, v2, born2⟩].map (Go.WideElems.rg Tryz.prog 9 rdAny)).foldr DataW.insert []) := ⟨_, rfl⟩
    have hD2 : D = .map (DataW.insert (.string k.data.toList, .nil) [(.string k2.data.toList, .nil)]) := by
      rw [hD]
      simp [Go.WideElems.rg, hrd, hrd2, DataW.insert]
    have hperm0 : (strKeys D).Perm [k.data.toList, k2.data.toList] ∧ Maps.size D = 2 := by
      rw [hD2]
      simp only [DataW.insert]
      split
      · exact ⟨List.Perm.refl _, rfl⟩
      · exact ⟨List.Perm.swap _ _ _, rfl⟩
    have hown : W.ownsMap Tryz.prog 9 rdAny b 2 D := by
      refine ⟨_, clock, hb, ⟨by simp [maxLen], ⟨by simp; omega, by simp; omega, by simp; rintro rfl; simp only [Bool.or_self] at hlt; rw [bytesLt_iff] at hlt; exact List.lt_irrefl _ (of_decide_eq_true hlt)⟩, ?_⟩, by simp, hD⟩
      intro x hx
      simp at hx
      rcases hx with rfl | rfl
      · exact ⟨_, hrd⟩
      · exact ⟨_, hrd2⟩
    refine (sorted_any p b 2 D W hp hc hown (by rw [hperm0.2]; exact Nat.le_refl _)).mono ?_
    rintro e w' ⟨u, ss, rfl, hperm, hrow, hnil, hbw⟩
    have hss := hperm.trans hperm0.1
    obtain ⟨hsort, hlen⟩ := two_sort hss hlt
    rw [hsort, hlen] at hrow
    rcases hrow.2 with ⟨_, h0⟩ | ⟨gb, cap, cur, rfl, hg1, hg2, hg3, hg4, hg5, hg6⟩
    · simp at h0
    · refine ⟨gb, cap, cur, rfl, hg1, hg2, hg3, by simpa using hg5, ?_, hbw⟩
      have h7 : cur.toList.take 2 = (twoBytes k.data.toList k2.data.toList).map encStr := by simpa using hg6
      rw [h7]
      unfold twoBytes twoSorted
      cases bytesLt k.data.toList k2.data.toList <;> rfl
  look := fun g off f h => by cases h
theorem orc33_ok : OrcOK Tryz.prog orc33 := orcOK con33
set_option maxRecDepth 1000000 in
theorem prog_env : Env Tryz.prog := env_of 316 (by kernel_rfl) (by kernel_rfl) (fun v w => by kernel_rfl)
set_option maxRecDepth 1000000 in
theorem prog_tys : Tys Tryz.prog := tys_of (by kernel_rfl)
theorem nmix : Tryz.prog.follows .mixedOrders = true := by kernel_rfl
theorem prog_parts : Parts Tryz.prog := fun call hC hM => by
  have hO := opsOK prog_env prog_tys
  have hOm := opMono Tryz.prog
  have hD := drawOK nmix hO hOm hC hM
  have hDm := drawMono (P := Tryz.prog) (call := call) hOm hM
  exact ⟨hD, hDm, deferOK prog_env hO hOm hC hM hD hDm, deferMono hOm hM hDm⟩
theorem awake_calls (w : World) (hw : Tryz.prog.globals.size ≤ w.heap.size) : Calls Tryz.prog 32 #[] w fun e w' => e = .returned (.bool true) ∧ Below w.heap.size w w' :=
  closed_calls prog_env prog_tys nmix orc33_ok (Nat.le_refl _) [] (fun x hx => by cases hx) awake33_ok w hw (fun x hx => by cases hx)
end Go.Proofs.YtflfflfodghgpaaGreatDoor
