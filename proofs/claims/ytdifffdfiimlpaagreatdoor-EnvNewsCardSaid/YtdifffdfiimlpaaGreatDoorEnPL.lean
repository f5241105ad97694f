/- The plain law: a map is the list. No statement is proved here. -/
import Derived.Test.YtdifffdfiimlpaaGreatDoorEnF1
import Derived.Test.YtdifffdfiimlpaaGreatDoorEnPL0
set_option linter.all false
/-! the map of From is the reference's list -/
namespace Go.Proofs.YtdifffdfiimlpaaGreatDoor
open Go Go.Maps Go.Mir
theorem runF_eq : ∀ (ls : List (List UInt8)) (l : List NV), GoodT l → runF ls (.map (l.map ent)) = (match refF ls l with | .ok r => .ok (.map (r.map ent)) | .error e => .error e)
  | [], l, _ => rfl
  | t :: ls, l, h => by
    by_cases hc : (cutN t).2.2 = true ∧ nameB (cutN t).1 = true
    · by_cases h4 : 4096 < (cutN t).2.1.length
      · have h1 : stepF (.map (l.map ent)) t = .error 3 := by unfold stepF; rw [if_pos hc, if_pos h4]
        rw [runF, h1, refF, if_pos hc, if_pos h4]
      · have hp : (DataW.map (l.map ent)).put (.string (cutN t).1) (.lit (.string (cutN t).2.1)) = .map ((putR ((cutN t).1, (cutN t).2.1, true) false l).map ent) :=
          congrArg DataW.map (insert_put ((cutN t).1, (cutN t).2.1, true) l h.s)
        have h1 : stepF (.map (l.map ent)) t = .ok (.map ((putR ((cutN t).1, (cutN t).2.1, true) false l).map ent)) := by unfold stepF; rw [if_pos hc, if_neg h4, hp]
        rw [runF, h1, refF, if_pos hc, if_neg h4]
        exact runF_eq ls _ ⟨h.toGoodV.put ((cutN t).1, (cutN t).2.1, true) hc.2 (by simp only; omega), fun x hx => (putR_mem _ x _ l hx).elim (fun e => e ▸ rfl) (h.t x)⟩
    · have h1 : stepF (.map (l.map ent)) t = .ok (.map (l.map ent)) := by unfold stepF; rw [if_neg hc]
      rw [runF, h1, refF, if_neg hc]
      exact runF_eq ls l h
theorem keys_eq (l : List NV) : strKeys (.map (l.map ent) : DataW Unit) = l.map (·.1) := by
  simp only [strKeys, List.map_map]; rfl
theorem size_ent (l : List NV) : Maps.size (.map (l.map ent) : DataW Unit) = l.length := by
  simp [Maps.size]
theorem val_eq (l : List NV) (h : SortedV l) : ∀ x ∈ l, valF (.map (l.map ent)) x.1 = x.2.1 := by
  intro x hx
  have hf : (l.map ent).find? (fun p => p.1.sameKey (.string x.1)) = some (ent x) := by
    induction l with
    | nil => cases hx
    | cons y l ih =>
      obtain ⟨h1, h2⟩ := List.pairwise_cons.1 h
      rcases List.mem_cons.1 hx with rfl | hx
      · simp [ent, sameK]
      · have : y.1 ≠ x.1 := fun e => List.lt_irrefl _ (e ▸ h1 x hx)
        rw [List.map_cons, List.find?_cons_of_neg (by simpa [ent, sameK] using this)]
        exact ih h2 hx
  unfold valF DataW.atKey
  simp only [hf]
  rfl
theorem rows_eq {l : List NV} (h : GoodT l) {ss : List (List UInt8)} (hp : ss.Perm (strKeys (.map (l.map ent) : DataW Unit))) :
    rowsF (.map (l.map ent)) (ss.mergeSort fun x y => decide (x ≤ y)) = flatV l := by
  have hs : (ss.mergeSort fun x y => decide (x ≤ y)) = l.map (·.1) := by
    have e1 := mergeSort_of_perm hp
    rw [keys_eq] at e1
    have e2 : (l.map (·.1)).mergeSort leB = l.map (·.1) := List.mergeSort_of_pairwise (List.pairwise_map.2 (h.s.imp fun hxy => by simpa [leB] using List.le_of_lt hxy))
    exact e1.trans e2
  rw [hs]
  unfold rowsF flatV
  rw [List.flatMap_map]
  have : ∀ m : List NV, (∀ x ∈ m, x ∈ l) → m.flatMap (fun x => rowF (.map (l.map ent)) x.1) = m.flatMap encV := fun m hm => by
    induction m with
    | nil => rfl
    | cons x m ih =>
      have hx := hm x (List.mem_cons_self ..)
      rw [List.flatMap_cons, List.flatMap_cons, ih fun y hy => hm y (List.mem_cons_of_mem _ hy)]
      have : rowF (.map (l.map ent)) x.1 = encV x := by
        unfold rowF encV encStr
        rw [val_eq l h.s x hx, h.t x hx]
      rw [this]
  exact this l fun x hx => hx
end Go.Proofs.YtdifffdfiimlpaaGreatDoor
