/- What Plain and the reference Plain compute. No statement is proved here. -/
import Derived.Test.YtegkmccpnpfooaaGreatDoorValue
import Derived.Laws.OwnMore
import Derived.Deep.Draws
import Derived.Laws.Rows
import Derived.RegionTactic
import Derived.OwnWalk
import Derived.Lib.Hide
import Derived.BigQuiet
import Derived.WalkSmall
import Derived.Laws.RangeAny
namespace Go.Proofs.YtegkmccpnpfooaaGreatDoor
open Go.RowKit Go.EvL
def letB (n : Nat) : Bool := (Nat.ble 65 n && Nat.ble n 90) || (Nat.ble 97 n && Nat.ble n 122)
def digB (n : Nat) : Bool := Nat.ble 48 n && Nat.ble n 57
def hasB (l : List Nat) (n : Nat) : Bool := l.any (Nat.beq n)
def setR : List Nat := [95, 45, 46, 47, 44, 58, 43, 37, 64, 94]
def setH : List Nat := [45, 46, 47, 44, 58, 43, 37, 64, 94]
def plainN (n : Nat) : Bool := letB n || digB n || hasB setR n
def sameO (x : Option Bool) (b : Bool) : Bool := match x with
  | some c => c == b
  | none => false
theorem sameO_eq {x : Option Bool} {b : Bool} (h : sameO x b = true) : x = some b := by
  unfold sameO at h
  split at h
  · rw [eq_of_beq h]
  · cases h
set_option maxRecDepth 1000000
theorem let_ok : (List.range 128).all (fun n => sameO (closedBool Tryz.prog noOrc [] 100 28 [.int .i32 (n : Nat)]) (letB n)) = true := by kernel_rfl
theorem dig_ok : (List.range 128).all (fun n => sameO (closedBool Tryz.prog noOrc [] 100 29 [.int .i32 (n : Nat)]) (digB n)) = true := by kernel_rfl
theorem con_ok : (List.range 128).all (fun n => sameO (closedBool Tryz.prog noOrc [] 100 30 [.string ⟨#[95, 45, 46, 47, 44, 58, 43, 37, 64, 94]⟩, .int .i32 (n : Nat)]) (hasB setR n)) = true := by kernel_rfl
theorem word_ok : (List.range 256).all (fun n => sameO (closedBool Tryz.prog noOrc [] 100 12 [.int .u8 (n : Nat)]) (letB n || digB n || Nat.beq n 95)) = true := by kernel_rfl
theorem has_ok : (List.range 256).all (fun n => sameO (closedBool Tryz.prog noOrc [] 100 13 [.string ⟨#[45, 46, 47, 44, 58, 43, 37, 64, 94]⟩, .int .u8 (n : Nat)]) (hasB setH n)) = true := by kernel_rfl
theorem closed_at {g : FuncId} {args : List Value} {b : Bool} (h : closedBool Tryz.prog noOrc [] 100 g args = some b) (w : World) (hw : 3 ≤ w.heap.size) : Calls Tryz.prog g args.toArray w fun e w' => e = .returned (.bool b) ∧ Below w.heap.size w w' :=
  closed_bool prog_env prog_tys (by kernel_rfl) (noOrcOK _) (by rw [nglob]; decide) [] (fun x hx => by cases hx) h w (by rw [nglob]; exact hw) (fun x hx => by cases hx)
theorem table {m : Nat} {g : FuncId} {args : Nat → List Value} {f : Nat → Bool} (h : (List.range m).all (fun n => sameO (closedBool Tryz.prog noOrc [] 100 g (args n)) (f n)) = true) {n : Nat} (hn : n < m) (w : World) (hw : 3 ≤ w.heap.size) :
    Calls Tryz.prog g (args n).toArray w fun e w' => e = .returned (.bool (f n)) ∧ Below w.heap.size w w' := by
  rw [List.all_eq_true] at h
  exact closed_at (sameO_eq (h n (by simpa using hn))) w hw
def plainS (l : List UInt8) : Bool := !l.isEmpty && l.all fun b => plainN b.toNat
theorem plain_split : (List.range 256).all (fun n => (plainN n == ((letB n || digB n || Nat.beq n 95) || hasB setH n))) = true := by decide +kernel
theorem plain_word {n : Nat} (hn : n < 256) : plainN n = ((letB n || digB n || Nat.beq n 95) || hasB setH n) := by
  have := plain_split
  rw [List.all_eq_true] at this
  exact eq_of_beq (this n (by simpa using hn))
theorem plain_high {n : Nat} (h : 127 < n) (hn : n < 256) : plainN n = false := by
  have h1 : (List.range 256).all (fun n => Nat.ble n 127 || !plainN n) = true := by decide +kernel
  rw [List.all_eq_true] at h1
  have := h1 n (by simpa using hn)
  have h2 : Nat.ble n 127 = false := by cases hb : Nat.ble n 127 with | false => rfl | true => have := Nat.le_of_ble_eq_true hb; omega
  rw [h2] at this
  simpa using this
theorem plainS_false {l : List UInt8} {j : Nat} (hj : j < l.length) (h : plainN l[j].toNat = false) : plainS l = false := by
  unfold plainS
  have : (l.all fun b => plainN b.toNat) = false := by
    rw [← Bool.not_eq_true, List.all_eq_true]
    intro hh
    have := hh l[j] (List.getElem_mem hj)
    rw [h] at this
    cases this
  rw [this, Bool.and_false]
theorem take_next {l : List UInt8} {j : Nat} (hj : j < l.length) (h : ((l.take j).all fun b => plainN b.toNat) = true) (hp : plainN l[j].toNat = true) : ((l.take (j + 1)).all fun b => plainN b.toNat) = true := by
  rw [List.take_succ_eq_append_getElem hj, List.all_append, h]
  simp [hp]
def PRel (w : World) (l : List UInt8) (i : Value) (wr : World) : Prop := ∃ j : Nat, j ≤ l.length ∧ i = .int .i64 (j : Int) ∧ ((l.take j).all fun b => plainN b.toNat) = true ∧ Below w.heap.size w wr
theorem PRel.step {w w' : World} {l : List UInt8} {j : Nat} (hj : j < l.length) (h : ((l.take j).all fun b => plainN b.toNat) = true) (hp : plainN l[j].toNat = true) (hb : Below w.heap.size w w') : PRel w l (.int .i64 ((j : Int) + 1)) w' :=
  ⟨j + 1, by omega, by simp, take_next hj h hp, hb⟩
set_option maxRecDepth 100000 in
set_option maxHeartbeats 4000000 in
theorem refPlain_any (l : List UInt8) (w : World) (hw : 3 ≤ w.heap.size) (hl : l.length ≤ 9223372036854775807) :
    Calls Tryz.prog 8 #[.string ⟨l.toArray⟩] w fun e w' => e = .returned (.bool (plainS l)) ∧ Below w.heap.size w w' := by
  go_enter Tryz.func8, Tryz.ntmps8
  go_wp2
  go_loopw [3] (fun i wr => PRel w l i wr) (fun i _ => l.length - (intOf i).toNat)
  case atStart => exact ⟨0, by omega, rfl, by simp, Below.refl _ _⟩
  case round =>
    obtain ⟨j, hj, rfl, ha, hb⟩ := hrel
    have HA := Lib.hid ha
    clear ha
    have hs := hb.size
    by_cases hlt : j < l.length
    · have hp0 : (0 : Int) ≤ (j : Int) := by omega
      have hp1 : (j : Int) < (l.length : Int) := by omega
      have h256 : l[j].toNat < 256 := l[j].toNat_lt
      have HW := Lib.hid (fun (u : World) (hu : 3 ≤ u.heap.size) => table (g := 12) (args := fun n => [.int .u8 (n : Nat)]) word_ok h256 u hu)
      have HH := Lib.hid (fun (u : World) (hu : 3 ≤ u.heap.size) => table (g := 13) (args := fun n => [.string ⟨#[45, 46, 47, 44, 58, 43, 37, 64, 94]⟩, .int .u8 (n : Nat)]) has_ok h256 u hu)
      go_wp2_with fail
      refine (HW.out wr (by omega)).mono ?_
      rintro e w1 ⟨rfl, hb1⟩
      have hb01 : Below w.heap.size w w1 := hb.trans (hb1.mono hs)
      have hs1 := hb01.size
      have HP := Lib.hid (plain_word h256)
      cases hwb : (letB l[j].toNat || digB l[j].toNat || Nat.beq l[j].toNat 95) with
      | true =>
        have HP2 : Hid (plainN l[j].toNat = true) := Lib.hid (by rw [HP.out, hwb]; rfl)
        go_wp2
        go_roundw
        case rel => exact .step hlt HA.out HP2.out hb01
        case measure => simp [intOf]; omega
      | false =>
        go_wp2_with fail
        refine (HH.out w1 (by omega)).mono ?_
        rintro e w2 ⟨rfl, hb2⟩
        have hb02 : Below w.heap.size w w2 := hb01.trans (hb2.mono hs1)
        cases hhb : hasB setH l[j].toNat with
        | true =>
          have HP2 : Hid (plainN l[j].toNat = true) := Lib.hid (by rw [HP.out, hwb, hhb]; rfl)
          go_wp2
          go_roundw
          case rel => exact .step hlt HA.out HP2.out hb02
          case measure => simp [intOf]; omega
        | false =>
          have HP2 : Hid (plainN l[j].toNat = false) := Lib.hid (by rw [HP.out, hwb, hhb]; rfl)
          go_wp2
          go_ret
          exact ⟨congrArg (fun b => Ending.returned (.bool b)) (plainS_false hlt HP2.out).symm, hb02⟩
    · have hp1 : decide ((j : Int) < (l.length : Int)) = false := by simp; omega
      obtain rfl : j = l.length := by omega
      rw [List.take_length] at HA
      go_wp2
      go_ret
      exact ⟨congrArg (fun b => Ending.returned (.bool b)) (by unfold plainS; rw [HA.out, Bool.and_true]), hb⟩
theorem next_any {P : Program} {w : World} {r pos : Nat} {s : ByteArray} (h : w.heap[r]? = some (.stringIter s pos)) (hp : pos < s.size) (ty : TypeId) :
    (Instr.next (.pointer (some ⟨r, 0, none⟩)) true ty).run P w = .ok (.tuple #[.bool true, .int .i64 pos, .int .i32 (Utf8.decode s pos).1]) { w with heap := w.heap.setIfInBounds r (.stringIter s (pos + (Utf8.decode s pos).2)) } := by
  simp [Instr.next, getObj, setObj, Sem.run, h, hp, goInt, Result.andThen]
theorem next_over {P : Program} {w : World} {r pos : Nat} {s : ByteArray} (h : w.heap[r]? = some (.stringIter s pos)) (hp : ¬ pos < s.size) (ty : TypeId) :
    (Instr.next (.pointer (some ⟨r, 0, none⟩)) true ty).run P w = .ok (.tuple #[.bool false]) w := by
  simp [Instr.next, getObj, Sem.run, h, hp]
def iterAt (r : Nat) (w : World) : Nat := match w.heap[r]? with | some (.stringIter _ p) => p | _ => 0
def QRel (w : World) (l : List UInt8) (wr : World) : Prop := ∃ j : Nat, j ≤ l.length ∧ ((l.take j).all fun b => plainN b.toNat) = true ∧ Below w.heap.size w wr ∧ wr.heap[w.heap.size]? = some (.stringIter ⟨l.toArray⟩ j)
def nextW (w : World) (r : Nat) (s : ByteArray) (p : Nat) : World := { w with heap := w.heap.setIfInBounds r (.stringIter s p) }
theorem nextW_below {w wr : World} {s : ByteArray} {p q : Nat} (h : Below w.heap.size w wr) (hr : wr.heap[w.heap.size]? = some (.stringIter s q)) : Below w.heap.size w (nextW wr w.heap.size s p) ∧ (nextW wr w.heap.size s p).heap[w.heap.size]? = some (.stringIter s p) ∧ w.heap.size < (nextW wr w.heap.size s p).heap.size := by
  have hlt : w.heap.size < wr.heap.size := (Array.getElem?_eq_some_iff.1 hr).1
  have hsz : (nextW wr w.heap.size s p).heap.size = wr.heap.size := by unfold nextW; simp
  refine ⟨⟨h.os, h.tape, h.output, by rw [hsz]; exact h.size, fun k hk => ?_⟩, ?_, by rw [hsz]; exact hlt⟩
  · show (wr.heap.setIfInBounds w.heap.size _)[k]? = _
    rw [Array.getElem?_setIfInBounds, if_neg (by omega)]
    exact h.block k hk
  · show (wr.heap.setIfInBounds w.heap.size _)[w.heap.size]? = _
    rw [Array.getElem?_setIfInBounds, if_pos rfl, if_pos hlt]
theorem QRel.step {w w' : World} {l : List UInt8} {j : Nat} (hj : j < l.length) (h : ((l.take j).all fun b => plainN b.toNat) = true) (hp : plainN l[j].toNat = true) (hb : Below w.heap.size w w') (hi : w'.heap[w.heap.size]? = some (.stringIter ⟨l.toArray⟩ (j + 1))) : QRel w l w' :=
  ⟨j + 1, by omega, take_next hj h hp, hb, hi⟩
set_option maxRecDepth 100000 in
theorem let_high (c : Int) (hc : 128 ≤ c) (w : World) : Calls Tryz.prog 28 #[.int .i32 c] w fun e w' => e = .returned (.bool false) ∧ w = w' := by
  have h1 : decide (65 ≤ c) = true := by simp; omega
  have h2 : decide (c ≤ 90) = false := by simp; omega
  have h3 : decide (97 ≤ c) = true := by simp; omega
  have h4 : decide (c ≤ 122) = false := by simp; omega
  go_enter Tryz.func28, Tryz.ntmps28
  go_wp2
  go_ret
  exact ⟨rfl, rfl⟩
set_option maxRecDepth 100000 in
theorem dig_high (c : Int) (hc : 128 ≤ c) (w : World) : Calls Tryz.prog 29 #[.int .i32 c] w fun e w' => e = .returned (.bool false) ∧ w = w' := by
  have h1 : decide (48 ≤ c) = true := by simp; omega
  have h2 : decide (c ≤ 57) = false := by simp; omega
  go_enter Tryz.func29, Tryz.ntmps29
  go_wp2
  go_ret
  exact ⟨rfl, rfl⟩
theorem iterAt_eq {w : World} {r p : Nat} {s : ByteArray} (h : w.heap[r]? = some (.stringIter s p)) : iterAt r w = p := by unfold iterAt; rw [h]
set_option maxRecDepth 100000 in
set_option maxHeartbeats 4000000 in
theorem plain_any (l : List UInt8) (w : World) (hw : 3 ≤ w.heap.size) (hl : l.length ≤ 9223372036854775807) :
    Calls Tryz.prog 11 #[.string ⟨l.toArray⟩] w fun e w' => e = .returned (.bool (plainS l)) ∧ Below w.heap.size w w' := by
  go_enter Tryz.func11, Tryz.ntmps11
  go_wp2
  go_loopw [4] (fun _ wr => QRel w l wr) (fun _ wr => l.length - iterAt w.heap.size wr)
  case atStart => exact ⟨0, by omega, by simp, (Below.refl _ w).alloc (Nat.le_refl _) _, World.iter_heap w _ 0⟩
  case round =>
    obtain ⟨j, hj, ha, hb, hi⟩ := hrel
    have HA := Lib.hid ha
    clear ha
    have hs := hb.size
    by_cases hlt : j < l.length
    · have hnx := fun ty => next_any (P := Tryz.prog) hi (show j < (⟨l.toArray⟩ : ByteArray).size from hlt) ty
      by_cases h128 : l[j].toNat < 128
      · have hdec : Utf8.decode ⟨l.toArray⟩ j = (l[j].toNat, 1) := decode_ascii ⟨l.toArray⟩ j hlt h128
        rw [hdec] at hnx
        obtain ⟨hb1, hi1, hs1⟩ := nextW_below (p := j + 1) hb hi
        obtain ⟨w1, hw1⟩ : ∃ w1, w1 = nextW wr w.heap.size ⟨l.toArray⟩ (j + 1) := ⟨_, rfl⟩
        have hnx' : ∀ ty, (Instr.next (.pointer (some ⟨w.heap.size, 0, none⟩)) true ty).run Tryz.prog wr = .ok (.tuple #[.bool true, .int .i64 j, .int .i32 l[j].toNat]) w1 := by rw [hw1]; exact hnx
        rw [← hw1] at hb1 hi1 hs1
        clear hnx hdec hw1
        have HM : Hid (∀ u : World, u.heap[w.heap.size]? = some (.stringIter ⟨l.toArray⟩ (j + 1)) → l.length - iterAt w.heap.size u < l.length - iterAt w.heap.size wr) := Lib.hid fun u hu => by rw [iterAt_eq hu, iterAt_eq hi]; omega
        have HL := Lib.hid (fun (u : World) (hu : 3 ≤ u.heap.size) => table (g := 28) (args := fun n => [.int .i32 (n : Nat)]) let_ok h128 u hu)
        have HD := Lib.hid (fun (u : World) (hu : 3 ≤ u.heap.size) => table (g := 29) (args := fun n => [.int .i32 (n : Nat)]) dig_ok h128 u hu)
        have HR := Lib.hid (fun (u : World) (hu : 3 ≤ u.heap.size) => table (g := 30) (args := fun n => [.string ⟨#[95, 45, 46, 47, 44, 58, 43, 37, 64, 94]⟩, .int .i32 (n : Nat)]) con_ok h128 u hu)
        have HP : Hid (plainN l[j].toNat = (letB l[j].toNat || digB l[j].toNat || hasB setR l[j].toNat)) := Lib.hid rfl
        go_wp2_with fail
        refine (HL.out w1 (by omega)).mono ?_
        rintro e w2 ⟨rfl, hb2⟩
        have hb02 : Below w.heap.size w w2 := hb1.trans (hb2.mono hb1.size)
        have hi2 : w2.heap[w.heap.size]? = some (.stringIter ⟨l.toArray⟩ (j + 1)) := by rw [hb2.block _ hs1]; exact hi1
        have hs2 : w.heap.size < w2.heap.size := Nat.lt_of_lt_of_le hs1 hb2.size
        clear hb1 hi1 hb2
        cases hlb : letB l[j].toNat with
        | true =>
          have HP2 : Hid (plainN l[j].toNat = true) := Lib.hid (by rw [HP.out, hlb]; rfl)
          go_wp2
          go_roundw
          case rel => exact .step hlt HA.out HP2.out hb02 hi2
          case measure => exact HM.out _ hi2
        | false =>
          go_wp2_with fail
          refine (HD.out w2 (by omega)).mono ?_
          rintro e w3 ⟨rfl, hb3⟩
          have hb03 : Below w.heap.size w w3 := hb02.trans (hb3.mono hb02.size)
          have hi3 : w3.heap[w.heap.size]? = some (.stringIter ⟨l.toArray⟩ (j + 1)) := by rw [hb3.block _ hs2]; exact hi2
          have hs3 : w.heap.size < w3.heap.size := Nat.lt_of_lt_of_le hs2 hb3.size
          clear hb02 hi2 hb3
          cases hdb : digB l[j].toNat with
          | true =>
            have HP2 : Hid (plainN l[j].toNat = true) := Lib.hid (by rw [HP.out, hlb, hdb]; rfl)
            go_wp2
            go_roundw
            case rel => exact .step hlt HA.out HP2.out hb03 hi3
            case measure => exact HM.out _ hi3
          | false =>
            by_cases h126 : 126 < l[j].toNat
            · have hd1 : decide ((126 : Int) < (l[j].toNat : Int)) = true := by simp; omega
              have HP2 : Hid (plainN l[j].toNat = false) := Lib.hid (by
                have : l[j].toNat = 127 := by omega
                rw [this]; decide)
              go_wp2
              go_ret
              exact ⟨congrArg (fun b => Ending.returned (.bool b)) (plainS_false hlt HP2.out).symm, hb03⟩
            · have hd1 : decide ((126 : Int) < (l[j].toNat : Int)) = false := by simp; omega
              go_wp2_with fail
              refine (HR.out w3 (by omega)).mono ?_
              rintro e w4 ⟨rfl, hb4⟩
              have hb04 : Below w.heap.size w w4 := hb03.trans (hb4.mono hb03.size)
              have hi4 : w4.heap[w.heap.size]? = some (.stringIter ⟨l.toArray⟩ (j + 1)) := by rw [hb4.block _ hs3]; exact hi3
              clear hb03 hi3 hb4
              cases hrb : hasB setR l[j].toNat with
              | true =>
                have HP2 : Hid (plainN l[j].toNat = true) := Lib.hid (by rw [HP.out, hlb, hdb, hrb]; rfl)
                go_wp2
                go_roundw
                case rel => exact .step hlt HA.out HP2.out hb04 hi4
                case measure => exact HM.out _ hi4
              | false =>
                have HP2 : Hid (plainN l[j].toNat = false) := Lib.hid (by rw [HP.out, hlb, hdb, hrb]; rfl)
                go_wp2
                go_ret
                exact ⟨congrArg (fun b => Ending.returned (.bool b)) (plainS_false hlt HP2.out).symm, hb04⟩
      · have hhi := decode_high ⟨l.toArray⟩ j hlt (by show 128 ≤ l[j].toNat; omega)
        obtain ⟨c, hc⟩ : ∃ c : Int, c = ((Utf8.decode ⟨l.toArray⟩ j).1 : Int) := ⟨_, rfl⟩
        have hc128 : 128 ≤ c := by omega
        obtain ⟨hb1, hi1, hs1⟩ := nextW_below (p := j + (Utf8.decode ⟨l.toArray⟩ j).2) hb hi
        obtain ⟨w1, hw1⟩ : ∃ w1, w1 = nextW wr w.heap.size ⟨l.toArray⟩ (j + (Utf8.decode ⟨l.toArray⟩ j).2) := ⟨_, rfl⟩
        have hnx' : ∀ ty, (Instr.next (.pointer (some ⟨w.heap.size, 0, none⟩)) true ty).run Tryz.prog wr = .ok (.tuple #[.bool true, .int .i64 j, .int .i32 c]) w1 := by rw [hw1, hc]; exact hnx
        rw [← hw1] at hb1
        have HP2 : Hid (plainN l[j].toNat = false) := Lib.hid (plain_high (by omega) l[j].toNat_lt)
        have hd1 : decide ((126 : Int) < c) = true := by simp; omega
        have HL := Lib.hid (let_high c hc128 w1)
        have HD := Lib.hid (dig_high c hc128 w1)
        clear hnx hc hw1 hi1 hs1 hhi
        go_wp2_with fail
        refine HL.out.mono ?_
        rintro e w2 ⟨rfl, rfl⟩
        go_wp2_with fail
        refine HD.out.mono ?_
        rintro e w2 ⟨rfl, rfl⟩
        go_wp2
        go_ret
        exact ⟨congrArg (fun b => Ending.returned (.bool b)) (plainS_false hlt HP2.out).symm, hb1⟩
    · have hnx := fun ty => next_over (P := Tryz.prog) hi (show ¬ j < (⟨l.toArray⟩ : ByteArray).size from hlt) ty
      obtain rfl : j = l.length := by omega
      rw [List.take_length] at HA
      go_wp2
      go_ret
      exact ⟨congrArg (fun b => Ending.returned (.bool b)) (by unfold plainS; rw [HA.out, Bool.and_true]), hb⟩
end Go.Proofs.YtegkmccpnpfooaaGreatDoor
