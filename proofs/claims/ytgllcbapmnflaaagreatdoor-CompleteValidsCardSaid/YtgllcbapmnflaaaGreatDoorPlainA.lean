/- Tables of small functions, reckoned by the kernel. No statement is proved here. -/
import Derived.Test.YtgllcbapmnflaaaGreatDoorLaw
import Derived.Laws.RangeAny
namespace Go.Proofs.YtgllcbapmnflaaaGreatDoor
open Go.RowKit Go.EvL
def letB (n : Nat) : Bool := (Nat.ble 65 n && Nat.ble n 90) || (Nat.ble 97 n && Nat.ble n 122)
def digB (n : Nat) : Bool := Nat.ble 48 n && Nat.ble n 57
def hasB (l : List Nat) (n : Nat) : Bool := l.any (Nat.beq n)
def setR : List Nat := [95, 45, 46, 47, 44, 58, 43, 37, 64, 94]
def setH : List Nat := [45, 46, 47, 44, 58, 43, 37, 64, 94]
def plainN (n : Nat) : Bool := letB n || digB n || hasB setR n
def sameO (x : Option Bool) (b : Bool) : Bool := match x with
  | some c => c == b
  | none => false
theorem sameO_eq {x : Option Bool} {b : Bool} (h : sameO x b = true) : x = some b := by
  unfold sameO at h
  split at h
  · rw [eq_of_beq h]
  · cases h
set_option maxRecDepth 1000000
theorem let_ok : (List.range 128).all (fun n => sameO (closedBool Tryz.prog [] 100 31 [.int .i32 (n : Nat)]) (letB n)) = true := by kernel_rfl
theorem dig_ok : (List.range 128).all (fun n => sameO (closedBool Tryz.prog [] 100 32 [.int .i32 (n : Nat)]) (digB n)) = true := by kernel_rfl
theorem con_ok : (List.range 128).all (fun n => sameO (closedBool Tryz.prog [] 100 33 [.string ⟨#[95, 45, 46, 47, 44, 58, 43, 37, 64, 94]⟩, .int .i32 (n : Nat)]) (hasB setR n)) = true := by kernel_rfl
theorem word_ok : (List.range 256).all (fun n => sameO (closedBool Tryz.prog [] 100 36 [.int .u8 (n : Nat)]) (letB n || digB n || Nat.beq n 95)) = true := by kernel_rfl
theorem has_ok : (List.range 256).all (fun n => sameO (closedBool Tryz.prog [] 100 37 [.string ⟨#[45, 46, 47, 44, 58, 43, 37, 64, 94]⟩, .int .u8 (n : Nat)]) (hasB setH n)) = true := by kernel_rfl
theorem prog_env : Env Tryz.prog := env_of 135 (by kernel_rfl) (by kernel_rfl) (fun v w => by kernel_rfl)
theorem prog_tys : Tys Tryz.prog := tys_of (by kernel_rfl)
theorem prog_glob : Tryz.prog.globals.size = 6 := by kernel_rfl
theorem closed_at {g : FuncId} {args : List Value} {b : Bool} (h : closedBool Tryz.prog [] 100 g args = some b) (w : World) (hw : 6 ≤ w.heap.size) : Calls Tryz.prog g args.toArray w fun e w' => e = .returned (.bool b) ∧ Below w.heap.size w w' :=
  closed_bool prog_env prog_tys (by kernel_rfl) (by rw [prog_glob]; decide) [] (fun x hx => by cases hx) h w (by rw [prog_glob]; exact hw) (fun x hx => by cases hx)
theorem table {m : Nat} {g : FuncId} {args : Nat → List Value} {f : Nat → Bool} (h : (List.range m).all (fun n => sameO (closedBool Tryz.prog [] 100 g (args n)) (f n)) = true) {n : Nat} (hn : n < m) (w : World) (hw : 6 ≤ w.heap.size) :
    Calls Tryz.prog g (args n).toArray w fun e w' => e = .returned (.bool (f n)) ∧ Below w.heap.size w w' := by
  rw [List.all_eq_true] at h
  exact closed_at (sameO_eq (h n (by simpa using hn))) w hw
end Go.Proofs.YtgllcbapmnflaaaGreatDoor
