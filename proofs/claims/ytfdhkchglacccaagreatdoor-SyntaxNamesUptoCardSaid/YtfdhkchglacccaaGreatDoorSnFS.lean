/- Sorted keys of a map. No statement is proved here. -/
import Derived.Test.YtfdhkchglacccaaGreatDoorSnLayX
import Derived.Sort.KeysCollected
import Derived.Maps.OwnSet
set_option linter.all false
namespace Go.Proofs.YtfdhkchglacccaaGreatDoor
open Go Go.RowKit Go.Maps Go.Sort Go.Shelf
theorem sorts70 (m : Nat) : AnyZ.SortsIn Tryz.prog Tryz.sorted70_ren Fence.wide m :=
  ⟨fun blk off cap ss W hH hblk hsz => callsIn_wide.2 (AnyM.slices_Sort_string Tryz.sort107 blk off cap ss W hH hblk hsz),
   fun p cap W => callsIn_wide.2 (AnyM.slices_Sort_string_none Tryz.sort107 p cap W)⟩
set_option maxHeartbeats 1000000 in
theorem sorted_any (R : Value → Option (DataW Unit × List MemPlace)) (p b nn : Nat) (D0 : DataW Unit) (W : World) (hp : p < W.heap.size) (hc : W.cell? ⟨p, 0, none⟩ = some (.map (some b))) (hown : W.ownsMap Tryz.prog 9 R b nn D0) (m : Nat) (hm : m < 10000000) (hmax : Maps.size D0 ≤ m) :
    Calls Tryz.prog 31 #[.func (.func 72) #[] #[.pointer (some ⟨p, 0, none⟩)]] W fun e w' => ∃ (v : Value) (ss : List (List UInt8)), e = .returned v ∧ ss.Perm (strKeys D0) ∧
      w'.ownsRow W.heap.size 9 1 v ss.length ((ss.mergeSort (fun x y => decide (x ≤ y))).map encStr) ∧ (v = .slice none 0 0 ↔ ss = []) ∧ Below W.heap.size W w' := by
  have hseq : SeqGives Fence.wide 2 Tryz.prog 72 #[.pointer (some ⟨p, 0, none⟩)] encStr (fun ss => ss.Perm (strKeys D0)) (Maps.size D0) W :=
    AnyZ.keys_gives (ρ := Tryz.keys71_ren) { Tryz.keys71 with } Fence.wide _ trivial rfl (by omega) p b nn D0 _ hp hc hown
  exact (callsIn_wide (n := 5)).1 (AnyZ.sorted_in Tryz.sorted70 Fence.wide 5 trivial trivial trivial trivial rfl (by omega) (sorts70 _) (enters_of Tryz.func71 (by kernel_rfl) rfl) 72 #[.pointer (some ⟨p, 0, none⟩)]  trivial (enters_of Tryz.func72 (by kernel_rfl) rfl) _ _ (by unfold maxLen; omega) (by omega) _ hseq)
end Go.Proofs.YtfdhkchglacccaaGreatDoor
