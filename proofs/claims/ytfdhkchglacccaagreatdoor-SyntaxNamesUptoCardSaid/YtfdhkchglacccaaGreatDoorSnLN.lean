/- The examples hold in every world. No statement is proved here. -/
import Derived.Test.YtfdhkchglacccaaGreatDoorSnKN
import Derived.Test.YtfdhkchglacccaaGreatDoorSnFS
import Derived.Test.YtfdhkchglacccaaGreatDoorSnTwo
set_option linter.all false
namespace Go.Proofs.YtfdhkchglacccaaGreatDoor
open Go Go.EvL Go.RowKit Go.Maps Go.Sort Go.Shelf
def rdAny (_ : Value) : Option (DataW Unit × List MemPlace) := some (.nil, [])
theorem sorted_is {g t it : Nat} (h : orc33.sorted g = some t) (hit : orc33.iter it = true) : g = 31 ∧ t = 9 ∧ it = 72 := by
  cases hb : Nat.beq g 31 with
  | false => exact absurd h (by show (Bool.rec none (some 9) (Nat.beq g 31) : Option Nat) ≠ _; rw [hb]; simp)
  | true =>
    have h' : (Bool.rec none (some 9) (Nat.beq g 31) : Option Nat) = some t := h
    rw [hb] at h'
    injection h' with h'
    exact ⟨Nat.eq_of_beq_eq_true hb, h'.symm, Nat.eq_of_beq_eq_true hit⟩
theorem key9 (k : ByteArray) (hk : k.size ≤ 1048576) : keyOf Tryz.prog 9 (.string k) = some (.string k.data.toList) := by
  have hu : Tryz.prog.underlying 9 = some .string := Tryz.underlying9
  simp only [keyOf, hu, mapKey]
  rw [if_pos (by unfold maxLen; omega)]
theorem con33 : OrcCon Tryz.prog orc33 where
  tab := fun g args v h => by cases h
  keys := fun g it t h mb W => by
    have hg : g = 32 ∧ it = 72 ∧ t = 53 := by
      cases hb : Nat.beq g 32 with
      | false => exact absurd h (by show (Bool.rec none (some (72, 53)) (Nat.beq g 32) : Option (Nat × Nat)) ≠ _; rw [hb]; simp)
      | true =>
        have h' : (Bool.rec none (some (72, 53)) (Nat.beq g 32) : Option (Nat × Nat)) = some (it, t) := h
        rw [hb] at h'
        injection h' with h'
        injection h' with h1 h2
        exact ⟨Nat.eq_of_beq_eq_true hb, h1.symm, h2.symm⟩
    obtain ⟨rfl, rfl, rfl⟩ := hg
    exact (callsIn_wide (n := 5)).1 (AnyZ.keys_in Tryz.keys71 Fence.wide 5 trivial rfl mb W)
  one := fun g t h => by
    have ht : t = 9 := by
      cases hb : Nat.beq g 31 with
      | false => exact absurd h (by show (Bool.rec none (some 9) (Nat.beq g 31) : Option Nat) ≠ _; rw [hb]; simp)
      | true =>
        have h' : (Bool.rec none (some 9) (Nat.beq g 31) : Option Nat) = some t := h
        rw [hb] at h'
        injection h' with h'
        exact h'.symm
    subst ht
    show Tryz.prog.cellsOf 9 = 1
    kernel_rfl
  none_ := fun g t h it hit p b clock W hc hb => by
    obtain ⟨rfl, rfl, rfl⟩ := sorted_is h hit
    have hp : p < W.heap.size := World.block_lt_of_cell? W ⟨p, 0, none⟩ hc
    have hown : W.ownsMap Tryz.prog 9 rdAny b 0 (.map []) := ⟨#[], clock, hb, ⟨by simp, ⟨by simp, by simp, by simp⟩, by simp⟩, by simp, rfl⟩
    refine (sorted_any rdAny p b 0 _ W hp hc hown 2 (by omega) (by simp [Maps.size])).mono ?_
    rintro e w' ⟨v, ss, rfl, hperm, _, hnil, hbw⟩
    have hss : ss = [] := by
      have := hperm.length_eq
      simpa [strKeys] using this
    exact ⟨congrArg Ending.returned (hnil.2 hss), hbw⟩
  some_ := fun g t h it hit p b clock W k v born hc hb hlt hk => by
    obtain ⟨rfl, rfl, rfl⟩ := sorted_is h hit
    have hp : p < W.heap.size := World.block_lt_of_cell? W ⟨p, 0, none⟩ hc
    have hrd : Go.WideElems.rd Tryz.prog 9 rdAny ⟨.string k, v, born⟩ = some (.string k.data.toList, .nil) := by
      unfold Go.WideElems.rd
      rw [key9 k hk]
      rfl
    have hown : W.ownsMap Tryz.prog 9 rdAny b 1 (.map [(.string k.data.toList, .nil)]) := by
      refine ⟨_, clock, hb, ⟨by simp [maxLen], ⟨by simpa using hlt, by simp, by simp⟩, ?_⟩, by simp, ?_⟩
      · intro x hx
        simp at hx
        subst hx
        exact ⟨_, hrd⟩
      · simp [Go.WideElems.rg, hrd, DataW.insert]
    refine (sorted_any rdAny p b 1 _ W hp hc hown 2 (by omega) (by simp [Maps.size])).mono ?_
    rintro e w' ⟨u, ss, rfl, hperm, hrow, hnil, hbw⟩
    have hss : ss = [k.data.toList] := by
      have := List.perm_singleton.1 (show ss.Perm [k.data.toList] from hperm)
      exact this
    subst hss
    have hsort : ([k.data.toList] : List (List UInt8)).mergeSort (fun x y => decide (x ≤ y)) = [k.data.toList] := by simp
    rw [hsort] at hrow
    rcases hrow.2 with ⟨_, h0⟩ | ⟨gb, cap, cur, rfl, hg1, hg2, hg3, hg4, hg5, hg6⟩
    · simp at h0
    · refine ⟨gb, cap, cur, rfl, hg1, hg2, hg3, by simpa using hg5, ?_, hbw⟩
      have : cur.toList.take 1 = [encStr k.data.toList] := by simpa using hg6
      rw [this]
  two_ := fun g t h it hit p b clock W k v born k2 v2 born2 hc hb h1 h2 hk hk2 hlt => by
    obtain ⟨rfl, rfl, rfl⟩ := sorted_is h hit
    have hp : p < W.heap.size := World.block_lt_of_cell? W ⟨p, 0, none⟩ hc
    have hrd : Go.WideElems.rd Tryz.prog 9 rdAny ⟨.string k, v, born⟩ = some (.string k.data.toList, .nil) := by
      unfold Go.WideElems.rd
      rw [key9 k hk]
      rfl
    have hrd2 : Go.WideElems.rd Tryz.prog 9 rdAny ⟨.string k2, v2, born2⟩ = some (.string k2.data.toList, .nil) := by
      unfold Go.WideElems.rd
      rw [key9 k2 hk2]
      rfl
    obtain ⟨D, hD⟩ : ∃ D : DataW Unit, D = .map (([⟨.string k, v, born⟩, ⟨.string k2, v2, born2⟩].map (Go.WideElems.rg Tryz.prog 9 rdAny)).foldr DataW.insert []) := ⟨_, rfl⟩
    have hD2 : D = .map (DataW.insert (.string k.data.toList, .nil) [(.string k2.data.toList, .nil)]) := by
      rw [hD]
      simp [Go.WideElems.rg, hrd, hrd2, DataW.insert]
    have hperm0 : (strKeys D).Perm [k.data.toList, k2.data.toList] ∧ Maps.size D = 2 := by
      rw [hD2]
      simp only [DataW.insert]
      split
      · exact ⟨List.Perm.refl _, rfl⟩
      · exact ⟨List.Perm.swap _ _ _, rfl⟩
    have hown : W.ownsMap Tryz.prog 9 rdAny b 2 D := by
      refine ⟨_, clock, hb, ⟨by simp [maxLen], ⟨by simp; omega, by simp; omega, by simp; rintro rfl; simp only [Bool.or_self] at hlt; rw [bytesLt_iff] at hlt; exact List.lt_irrefl _ (of_decide_eq_true hlt)⟩, ?_⟩, by simp, hD⟩
      intro x hx
      simp at hx
      rcases hx with rfl | rfl
      · exact ⟨_, hrd⟩
      · exact ⟨_, hrd2⟩
    refine (sorted_any rdAny p b 2 D W hp hc hown 2 (by omega) (by rw [hperm0.2]; exact Nat.le_refl _)).mono ?_
    rintro e w' ⟨u, ss, rfl, hperm, hrow, hnil, hbw⟩
    have hss := hperm.trans hperm0.1
    obtain ⟨hsort, hlen⟩ := two_sort hss hlt
    rw [hsort, hlen] at hrow
    rcases hrow.2 with ⟨_, h0⟩ | ⟨gb, cap, cur, rfl, hg1, hg2, hg3, hg4, hg5, hg6⟩
    · simp at h0
    · refine ⟨gb, cap, cur, rfl, hg1, hg2, hg3, by simpa using hg5, ?_, hbw⟩
      have h7 : cur.toList.take 2 = (twoBytes k.data.toList k2.data.toList).map encStr := by simpa using hg6
      rw [h7]
      unfold twoBytes twoSorted
      cases bytesLt k.data.toList k2.data.toList <;> rfl
  look := fun g off f h => by cases h
theorem orc33_ok : OrcOK Tryz.prog orc33 := orcOK con33
set_option maxRecDepth 1000000 in
theorem prog_env : Env Tryz.prog := env_of 144 (by kernel_rfl) (by kernel_rfl) (fun v w => by kernel_rfl)
set_option maxRecDepth 1000000 in
theorem prog_tys : Tys Tryz.prog := tys_of (by kernel_rfl)
theorem nmix : Tryz.prog.follows .mixedOrders = true := by kernel_rfl
theorem prog_parts : Parts Tryz.prog := fun call hC hM => by
  have hO := opsOK prog_env prog_tys
  have hOm := opMono Tryz.prog
  have hD := drawOK nmix hO hOm hC hM
  have hDm := drawMono (P := Tryz.prog) (call := call) hOm hM
  exact ⟨hD, hDm, deferOK prog_env hO hOm hC hM hD hDm, deferMono hOm hM hDm⟩
theorem awake_calls (w : World) (hw : Tryz.prog.globals.size ≤ w.heap.size) : Calls Tryz.prog 5 #[] w fun e w' => e = .returned (.bool true) ∧ Below w.heap.size w w' :=
  closed_calls prog_env prog_tys nmix orc33_ok (Nat.le_refl _) [] (fun x hx => by cases hx) awake33_ok w hw (fun x hx => by cases hx)
end Go.Proofs.YtfdhkchglacccaaGreatDoor
