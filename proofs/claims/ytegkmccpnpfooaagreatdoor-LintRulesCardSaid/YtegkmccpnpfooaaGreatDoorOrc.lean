/- The contracts of maps.Keys, slices.Sorted and the lookup of a variable, as the evaluator asks for them. No statement is proved here. -/
import Derived.Test.YtegkmccpnpfooaaGreatDoorValue
import Derived.Test.YtegkmccpnpfooaaGreatDoorTab
namespace Go.Proofs.YtegkmccpnpfooaaGreatDoor
open Go Go.EvL Go.RowKit Go.Maps Go.Sort Go.Shelf
noncomputable def sameL (a : List UInt8) : List Nat → Bool := List.rec (motive := fun _ => List Nat → Bool) (fun l => l.isEmpty) (fun x _ ih l => match l with | [] => false | y :: l => Nat.beq x.toNat y && ih l) a
theorem sameL_map : ∀ (a : List UInt8) (l : List Nat), sameL a l = true → a = l.map fun x => UInt8.ofNat x := by
  intro a
  induction a with
  | nil => intro l h; cases l with | nil => rfl | cons y l => cases h
  | cons x a ih =>
    intro l h
    cases l with
    | nil => cases h
    | cons y l =>
      have h' : (Nat.beq x.toNat y && sameL a l) = true := h
      rw [Bool.and_eq_true] at h'
      have h1 := Nat.eq_of_beq_eq_true h'.1
      rw [List.map_cons, ← ih l h'.2, ← h1, UInt8.ofNat_toNat]
theorem sameL_eq (b : ByteArray) (l : List Nat) (h : sameL b.data.toList l = true) : b = ⟨(l.map fun x => UInt8.ofNat x).toArray⟩ := by
  have := sameL_map _ _ h
  cases b with
  | mk d => cases d with | mk d => simp at this; simp [this]
noncomputable def look26 (n e : ByteArray) : Option (ByteArray × Bool) := Bool.rec none (Bool.rec (Bool.rec none (some (⟨#[]⟩, false)) (sameL n.data.toList [73, 70, 83])) (some (⟨#[97]⟩, true)) (sameL n.data.toList [120])) (sameL e.data.toList [120, 61, 97])
noncomputable def orc51 : Orc := ⟨fun g => Bool.rec none (some (103, 48)) (Nat.beq g 58), fun g => Bool.rec none (some 9) (Nat.beq g 57), fun i => Nat.beq i 103, fun g => Bool.rec none (some (2, look26)) (Nat.beq g 26), fun g args => tabFind nextTab g args⟩
theorem sorts57 (m : Nat) : AnyZ.SortsIn Tryz.prog Tryz.sorted57_ren Fence.wide m :=
  ⟨fun blk off cap ss W hH hblk hsz => callsIn_wide.2 (AnyM.slices_Sort_string Tryz.sort102 blk off cap ss W hH hblk hsz),
   fun p cap W => callsIn_wide.2 (AnyM.slices_Sort_string_none Tryz.sort102 p cap W)⟩
def rdAny (_ : Value) : Option (DataW Unit × List MemPlace) := some (.nil, [])
set_option maxHeartbeats 1000000 in
theorem sorted_any (p b nn : Nat) (D0 : DataW Unit) (W : World) (hp : p < W.heap.size) (hc : W.cell? ⟨p, 0, none⟩ = some (.map (some b))) (hown : W.ownsMap Tryz.prog 9 rdAny b nn D0) (hmax : Maps.size D0 ≤ 1) :
    Calls Tryz.prog 57 #[.func (.func 103) #[] #[.pointer (some ⟨p, 0, none⟩)]] W fun e w' => ∃ (v : Value) (ss : List (List UInt8)), e = .returned v ∧ ss.Perm (strKeys D0) ∧
      w'.ownsRow W.heap.size 9 1 v ss.length ((ss.mergeSort (fun x y => decide (x ≤ y))).map encStr) ∧ (v = .slice none 0 0 ↔ ss = []) ∧ Below W.heap.size W w' := by
  have hseq : SeqGives Fence.wide 2 Tryz.prog 103 #[.pointer (some ⟨p, 0, none⟩)] encStr (fun ss => ss.Perm (strKeys D0)) (Maps.size D0) W :=
    AnyZ.keys_gives (ρ := Tryz.keys58_ren) { Tryz.keys58 with } Fence.wide _ trivial rfl (by omega) p b nn D0 _ hp hc hown
  exact (callsIn_wide (n := 5)).1 (AnyZ.sorted_in Tryz.sorted57 Fence.wide 5 trivial trivial trivial trivial rfl (by omega) (sorts57 _) (enters_of Tryz.func102 (by kernel_rfl) rfl) 103 #[.pointer (some ⟨p, 0, none⟩)] trivial (enters_of Tryz.func103 (by kernel_rfl) rfl) _ _ (by unfold maxLen; omega) (by omega) _ hseq)
theorem sorted_is {g t it : Nat} (h : orc51.sorted g = some t) (hit : orc51.iter it = true) : g = 57 ∧ t = 9 ∧ it = 103 := by
  cases hb : Nat.beq g 57 with
  | false => exact absurd h (by show (Bool.rec none (some 9) (Nat.beq g 57) : Option Nat) ≠ _; rw [hb]; simp)
  | true =>
    have h' : (Bool.rec none (some 9) (Nat.beq g 57) : Option Nat) = some t := h
    rw [hb] at h'
    injection h' with h'
    exact ⟨Nat.eq_of_beq_eq_true hb, h'.symm, Nat.eq_of_beq_eq_true hit⟩
theorem key9 (k : ByteArray) (hk : k.size ≤ 1048576) : keyOf Tryz.prog 9 (.string k) = some (.string k.data.toList) := by
  have hu : Tryz.prog.underlying 9 = some .string := Tryz.underlying9
  simp only [keyOf, hu, mapKey]
  rw [if_pos (by unfold maxLen; omega)]
theorem closedVal_plain {P : Program} {orc : Orc} {l : List Laid} {n g : Nat} {args : List Value} {v : Value} (h : closedVal P orc l n g args = some v) : args.all (plain 50) = true ∧ plain 50 v = true := by
  unfold closedVal at h
  obtain ⟨hp, h⟩ := boolSome h
  refine ⟨hp, ?_⟩
  unfold endVal at h
  split at h
  · obtain ⟨hc, h⟩ := boolSome h
    injection h with h
    subst h
    simp only [Bool.and_eq_true] at hc
    exact hc.1.1
  · cases h
theorem con51 : OrcCon Tryz.prog orc51 where
  tab := fun g args v h => by
    have hc := nextTab_ok _ (tabFind_in h)
    refine ⟨(closedVal_plain hc).1, (closedVal_plain hc).2, fun W hW => ?_⟩
    exact closed_val prog_env prog_tys nmix (noOrcOK Tryz.prog) (Nat.le_refl _) [] (fun x hx => by cases hx) hc W hW (fun x hx => by cases hx)
  keys := fun g it t h mb W => by
    have hg : g = 58 ∧ it = 103 ∧ t = 48 := by
      cases hb : Nat.beq g 58 with
      | false => exact absurd h (by show (Bool.rec none (some (103, 48)) (Nat.beq g 58) : Option (Nat × Nat)) ≠ _; rw [hb]; simp)
      | true =>
        have h' : (Bool.rec none (some (103, 48)) (Nat.beq g 58) : Option (Nat × Nat)) = some (it, t) := h
        rw [hb] at h'
        injection h' with h'
        injection h' with h1 h2
        exact ⟨Nat.eq_of_beq_eq_true hb, h1.symm, h2.symm⟩
    obtain ⟨rfl, rfl, rfl⟩ := hg
    exact (callsIn_wide (n := 5)).1 (AnyZ.keys_in Tryz.keys58 Fence.wide 5 trivial rfl mb W)
  one := fun g t h => by
    have ht : t = 9 := by
      cases hb : Nat.beq g 57 with
      | false => exact absurd h (by show (Bool.rec none (some 9) (Nat.beq g 57) : Option Nat) ≠ _; rw [hb]; simp)
      | true =>
        have h' : (Bool.rec none (some 9) (Nat.beq g 57) : Option Nat) = some t := h
        rw [hb] at h'
        injection h' with h'
        exact h'.symm
    subst ht
    show Tryz.prog.cellsOf 9 = 1
    kernel_rfl
  none_ := fun g t h it hit p b clock W hc hb => by
    obtain ⟨rfl, rfl, rfl⟩ := sorted_is h hit
    have hp : p < W.heap.size := World.block_lt_of_cell? W ⟨p, 0, none⟩ hc
    have hown : W.ownsMap Tryz.prog 9 rdAny b 0 (.map []) := ⟨#[], clock, hb, ⟨by simp, ⟨by simp, by simp, by simp⟩, by simp⟩, by simp, rfl⟩
    refine (sorted_any p b 0 _ W hp hc hown (by simp [Maps.size])).mono ?_
    rintro e w' ⟨v, ss, rfl, hperm, _, hnil, hbw⟩
    have hss : ss = [] := by
      have := hperm.length_eq
      simpa [strKeys] using this
    exact ⟨congrArg Ending.returned (hnil.2 hss), hbw⟩
  some_ := fun g t h it hit p b clock W k v born hc hb hlt hk => by
    obtain ⟨rfl, rfl, rfl⟩ := sorted_is h hit
    have hp : p < W.heap.size := World.block_lt_of_cell? W ⟨p, 0, none⟩ hc
    have hrd : Go.WideElems.rd Tryz.prog 9 rdAny ⟨.string k, v, born⟩ = some (.string k.data.toList, .nil) := by
      unfold Go.WideElems.rd
      rw [key9 k hk]
      rfl
    have hown : W.ownsMap Tryz.prog 9 rdAny b 1 (.map [(.string k.data.toList, .nil)]) := by
      refine ⟨_, clock, hb, ⟨by simp [maxLen], ⟨by simpa using hlt, by simp, by simp⟩, ?_⟩, by simp, ?_⟩
      · intro x hx
        simp at hx
        subst hx
        exact ⟨_, hrd⟩
      · simp [Go.WideElems.rg, hrd, DataW.insert]
    refine (sorted_any p b 1 _ W hp hc hown (by simp [Maps.size])).mono ?_
    rintro e w' ⟨u, ss, rfl, hperm, hrow, hnil, hbw⟩
    have hss : ss = [k.data.toList] := by
      have := List.perm_singleton.1 (show ss.Perm [k.data.toList] from hperm)
      exact this
    subst hss
    have hsort : ([k.data.toList] : List (List UInt8)).mergeSort (fun x y => decide (x ≤ y)) = [k.data.toList] := by simp
    rw [hsort] at hrow
    rcases hrow.2 with ⟨_, h0⟩ | ⟨gb, cap, cur, rfl, hg1, hg2, hg3, hg4, hg5, hg6⟩
    · simp at h0
    · refine ⟨gb, cap, cur, rfl, hg1, hg2, hg3, by simpa using hg5, ?_, hbw⟩
      have : cur.toList.take 1 = [encStr k.data.toList] := by simpa using hg6
      rw [this]
  look := fun g off f h n e v ok hf b o vb vo vc W hW h1 h2 => by
    cases hb : Nat.beq g 26 with
    | false => exact absurd h (by show (Bool.rec none (some (2, look26)) (Nat.beq g 26) : Option (Nat × (ByteArray → ByteArray → Option (ByteArray × Bool)))) ≠ _; rw [hb]; simp)
    | true =>
      have h' : (Bool.rec none (some (2, look26)) (Nat.beq g 26) : Option (Nat × (ByteArray → ByteArray → Option (ByteArray × Bool)))) = some (off, f) := h
      rw [hb] at h'
      injection h' with h'
      injection h' with hoff hff
      subst hoff
      subst hff
      have hg := Nat.eq_of_beq_eq_true hb
      subst hg
      obtain ⟨he, hv⟩ := boolSome (show (Bool.rec none (Bool.rec (Bool.rec none (some (⟨#[]⟩, false)) (sameL n.data.toList [73, 70, 83])) (some (⟨#[97]⟩, true)) (sameL n.data.toList [120])) (sameL e.data.toList [120, 61, 97]) : Option (ByteArray × Bool)) = some (v, ok) from hf)
      have ee := sameL_eq e [120, 61, 97] he
      clear he hf
      subst ee
      cases hx : sameL n.data.toList [120] with
      | true =>
        rw [hx] at hv
        have hv' : some ((⟨#[97]⟩ : ByteArray), true) = some (v, ok) := hv
        injection hv' with hv'
        injection hv' with hv1 hv2
        subst hv1
        subst hv2
        have en := sameL_eq n [120] hx
        subst en
        exact value_one b o vb vo vc W (by rw [nglob] at hW; exact hW) h1 h2
      | false =>
        rw [hx] at hv
        obtain ⟨hn, hv'⟩ := boolSome (show (Bool.rec none (some (⟨#[]⟩, false)) (sameL n.data.toList [73, 70, 83]) : Option (ByteArray × Bool)) = some (v, ok) from hv)
        injection hv' with hv'
        injection hv' with hv1 hv2
        subst hv1
        subst hv2
        have en := sameL_eq n [73, 70, 83] hn
        subst en
        exact value_miss b o vb vo vc W (by rw [nglob] at hW; exact hW) h1 h2
end Go.Proofs.YtegkmccpnpfooaaGreatDoor
