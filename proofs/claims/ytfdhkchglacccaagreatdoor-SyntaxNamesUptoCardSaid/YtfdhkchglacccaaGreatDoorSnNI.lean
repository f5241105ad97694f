/- The reference: sets, names. No statement is proved here. -/
import Derived.Test.YtfdhkchglacccaaGreatDoorSnNG
import Derived.Test.YtfdhkchglacccaaGreatDoorSnA
set_option linter.all false
/-! the reference: before, Has, the lexer's Name -/
namespace Go.Proofs.YtfdhkchglacccaaGreatDoor
open Go Go.RowKit Go.Mir Go.Syn
set_option maxHeartbeats 1000000
set_option maxRecDepth 100000
theorem add_calls (l : List (List UInt8)) (s : List UInt8) (A : Option Addr) (m cap : Nat) (w : World) (hm : m = l.length) (hl : l.length ≤ 1048576) (hc : m ≤ cap) (hr : RdS 1 encS w A l) :
    Calls Tryz.prog 34 #[.slice A m cap, .string ⟨s.toArray⟩] w (ListP (addS s l) w) := by
  subst hm
  cases l with
  | nil => exact add_nil s A cap w
  | cons x l =>
    obtain ⟨b, o, rfl, _, _⟩ := hr 0 x rfl
    exact add_some _ s b o cap w hl hc hr
theorem lname_calls (t : List UInt8) (i : Nat) (hi : i ≤ t.length) (hm : t.length ≤ 1048576) (W : World) : Calls Tryz.prog 101 #[.string ⟨t.toArray⟩, .int .i64 i] W fun e w' => e = .returned (.int .i64 (nmEnd t i)) ∧ W = w' := by
  obtain ⟨r, hr0⟩ : ∃ r, r = nmEnd t i := ⟨_, rfl⟩
  rw [← hr0]
  have HR : Aside (nmEnd t i = r) := hr0.symm
  clear hr0
  obtain ⟨sz, hsz0⟩ : ∃ n, n = t.length := ⟨_, rfl⟩
  have hsz : Aside (sz = t.length) := hsz0
  have hi : Aside (i ≤ t.length) := hi
  clear hsz0
  go_enter Tryz.func101, Tryz.ntmps101
  go_wp2
  go_loopg [1] (sz - i) (fun g s wx => ∃ k : Nat, k + g = sz ∧ s = .int .i64 k ∧ Aside (nmEnd t k = r) ∧ wx = W)
  case atStart => exact ⟨i, by have := hsz.out; have := hi.out; omega, rfl, HR, rfl⟩
  case round =>
    obtain ⟨k, hkg, rfl, HI, rfl⟩ := hrel
    cases gk with
    | zero =>
      have hkz : ¬ (k : Int) < (t.length : Int) := by have := hsz.out; omega
      have ha : Aside (k = r) := by show _ = _; rw [← HI.out]; exact (run_end (by have := hsz.out; omega)).symm
      go_wp2
      go_ret
      exact ⟨congrArg (fun n : Nat => Ending.returned (.int .i64 n)) ha.out, rfl⟩
    | succ g =>
      have hkt : k < t.length := by have := hsz.out; omega
      have hk0 : (0 : Int) ≤ (k : Int) := by omega
      have hkz : (k : Int) < (t.length : Int) := by omega
      have hk63 : (k : Int) + 1 ≤ 9223372036854775807 := by omega
      have cw := fun W => rword_calls (t[k]) W
      have hb : Aside (bt t k = t[k].toNat) := bt_get hkt
      cases hw : isWord t[k].toNat with
      | false =>
        have ha : Aside (k = r) := by show _ = _; rw [← HI.out]; exact (run_off hkt (by rw [hb.out]; exact hw)).symm
        rw [hw] at cw
        clear hw
        go_wp2_with (go_at_call 77; refine (cw _).mono ?_; rintro e w' ⟨rfl, rfl⟩)
        go_ret
        exact ⟨congrArg (fun n : Nat => Ending.returned (.int .i64 n)) ha.out, rfl⟩
      | true =>
        have X : Aside (nmEnd t (k + 1) = r) := by show _ = _; rw [← HI.out]; exact (run_on hkt (by rw [hb.out]; exact hw)).symm
        rw [hw] at cw
        clear hw
        go_wp2_with (go_at_call 77; refine (cw _).mono ?_; rintro e w' ⟨rfl, rfl⟩)
        go_roundg g
        case measure => omega
        case rel => exact ⟨k + 1, by omega, by simp, X, rfl⟩
theorem has_calls (t : List UInt8) (hm : t.length ≤ 1048576) (W : World) : Calls Tryz.prog 100 #[.string ⟨t.toArray⟩, .int .u8 61] W fun e w' => e = .returned (.bool (t.contains 61)) ∧ W = w' := by
  obtain ⟨sz, hsz0⟩ : ∃ n, n = t.length := ⟨_, rfl⟩
  have hsz : Aside (sz = t.length) := hsz0
  clear hsz0
  obtain ⟨r, hr0⟩ : ∃ r, r = t.contains (61 : UInt8) := ⟨_, rfl⟩
  rw [← hr0]
  have HR : Aside (t.contains 61 = r) := hr0.symm
  clear hr0
  go_enter Tryz.func100, Tryz.ntmps100
  go_wp2
  go_loopg [5] sz (fun g s wx => ∃ k : Nat, k + g = sz ∧ s = .int .i64 k ∧ Aside ((t.drop k).contains 61 = r) ∧ wx = W)
  case atStart => exact ⟨0, by omega, rfl, HR, rfl⟩
  case round =>
    obtain ⟨k, hkg, rfl, HI, rfl⟩ := hrel
    cases gk with
    | zero =>
      have hkz : ¬ (k : Int) < (t.length : Int) := by have := hsz.out; omega
      have ha : Aside (false = r) := by show _ = _; rw [← HI.out, List.drop_eq_nil_of_le (by have := hsz.out; omega)]; rfl
      go_wp2
      go_ret
      exact ⟨congrArg (fun n : Bool => Ending.returned (.bool n)) ha.out, rfl⟩
    | succ g =>
      have hkt : k < t.length := by have := hsz.out; omega
      have hk0 : (0 : Int) ≤ (k : Int) := by omega
      have hkz : (k : Int) < (t.length : Int) := by omega
      have hk63 : (k : Int) + 1 ≤ 9223372036854775807 := by omega
      have hdrop : Aside (t.drop k = t[k] :: t.drop (k + 1)) := drop_at hkt
      by_cases hw : t[k] = 61
      · have ha : Aside (true = r) := by show _ = _; rw [← HI.out, hdrop.out, hw]; simp
        have hz : (((⟨t.toArray⟩ : ByteArray)[k].toNat : Int) == 61) = true := by
          rw [show (⟨t.toArray⟩ : ByteArray)[k] = t[k] from rfl, hw]; rfl
        clear hw
        go_wp2
        go_ret
        exact ⟨congrArg (fun n : Bool => Ending.returned (.bool n)) ha.out, rfl⟩
      · have X : Aside ((t.drop (k + 1)).contains 61 = r) := by
          show _ = _
          rw [← HI.out, hdrop.out]
          rw [List.contains_cons, show ((61 : UInt8) == t[k]) = false from beq_eq_false_iff_ne.2 fun h => hw h.symm, Bool.false_or]
        have hz : (((⟨t.toArray⟩ : ByteArray)[k].toNat : Int) == 61) = false := by
          rw [show (⟨t.toArray⟩ : ByteArray)[k] = t[k] from rfl, beq_eq_false_iff_ne]
          intro h
          exact hw (UInt8.toNat_inj.1 (by have : t[k].toNat = 61 := by omega
                                          rw [this]; rfl))
        clear hw
        go_wp2
        go_roundg g
        case measure => omega
        case rel => exact ⟨k + 1, by omega, by simp, X, rfl⟩
theorem cutE_take (t : List UInt8) : cutE t = t.take (toByte t 61 0) := by
  unfold cutE toByte run
  rw [List.drop_zero, Nat.zero_add]
  have : (fun c : UInt8 => c.toNat != 61) = fun c => c != 61 := by
    funext c
    rw [Bool.eq_iff_iff, bne_iff_ne, bne_iff_ne]
    exact ⟨fun h h2 => h (by rw [h2]; rfl), fun h h2 => h (UInt8.toNat_inj.1 (by rw [h2]; rfl))⟩
  rw [this]
  induction t with
  | nil => rfl
  | cons c t ih =>
    rw [List.takeWhile_cons]
    split
    · rw [List.length_cons, List.take_succ_cons, ← ih]
    · rfl
theorem before_calls (t : List UInt8) (hm : t.length ≤ 1048576) (W : World) : Calls Tryz.prog 39 #[.string ⟨t.toArray⟩] W fun e w' => e = .returned (.string ⟨(cutE t).toArray⟩) ∧ W = w' := by
  obtain ⟨sz, hsz0⟩ : ∃ n, n = t.length := ⟨_, rfl⟩
  have hsz : Aside (sz = t.length) := hsz0
  clear hsz0
  obtain ⟨r, hr0⟩ : ∃ r, r = cutE t := ⟨_, rfl⟩
  rw [← hr0]
  have HR : Aside (r = t.take (toByte t 61 0)) := by rw [hr0]; exact cutE_take t
  clear hr0
  go_enter Tryz.func39, Tryz.ntmps39
  go_wp2
  go_loopg [3] sz (fun g s wx => ∃ k : Nat, k + g = sz ∧ s = .int .i64 k ∧ Aside (toByte t 61 k = toByte t 61 0) ∧ wx = W)
  case atStart => exact ⟨0, by omega, rfl, rfl, rfl⟩
  case round =>
    obtain ⟨k, hkg, rfl, HI, rfl⟩ := hrel
    cases gk with
    | zero =>
      have hkz : ¬ (k : Int) < (t.length : Int) := by have := hsz.out; omega
      have ha : Aside (t = r) := by
        show _ = _
        rw [HR.out, ← HI.out, List.take_of_length_le]
        have h1 := run_ge (fun x => x != 61) t k
        have := hsz.out
        unfold toByte; omega
      go_wp2
      go_ret
      exact ⟨congrArg (fun n : List UInt8 => Ending.returned (.string ⟨n.toArray⟩)) ha.out, rfl⟩
    | succ g =>
      have hkt : k < t.length := by have := hsz.out; omega
      have hk0 : (0 : Int) ≤ (k : Int) := by omega
      have hkz : (k : Int) < (t.length : Int) := by omega
      have hk63 : (k : Int) + 1 ≤ 9223372036854775807 := by omega
      by_cases hb : t[k].toNat = 61
      · have hbb : (((⟨t.toArray⟩ : ByteArray)[k].toNat : Int) == 61) = true := by
          rw [show (⟨t.toArray⟩ : ByteArray)[k] = t[k] from rfl, hb]; rfl
        have ha : Aside (t.take k = r) := by
          show _ = _
          rw [HR.out, ← HI.out, show toByte t 61 k = k from run_off hkt (by rw [bt_get hkt, hb]; rfl)]
        have hk1 : (k : Int) ≤ (t.length : Int) := by omega
        clear hb
        go_wp2
        go_ret
        rw [ext_take]
        exact ⟨congrArg (fun n : List UInt8 => Ending.returned (.string ⟨n.toArray⟩)) ha.out, rfl⟩
      · have hbb : (((⟨t.toArray⟩ : ByteArray)[k].toNat : Int) == 61) = false := by
          rw [show (⟨t.toArray⟩ : ByteArray)[k] = t[k] from rfl]; simp; omega
        have X : Aside (toByte t 61 (k + 1) = toByte t 61 0) := by
          show _ = _
          rw [← HI.out]
          exact (run_on hkt (by rw [bt_get hkt]; simpa using hb)).symm
        clear hb
        go_wp2
        go_roundg g
        case measure => omega
        case rel => exact ⟨k + 1, by omega, by simp, X, rfl⟩
end Go.Proofs.YtfdhkchglacccaaGreatDoor

/-! the reference: sets -/
namespace Go.Proofs.YtfdhkchglacccaaGreatDoor
open Go Go.RowKit Go.Mir Go.Syn
set_option maxHeartbeats 1000000
set_option maxRecDepth 100000
def setL (l : List PartT) : Bool := l.any fun q => decide (q.kind = 1) && q.text.contains 61
theorem setsB_eq (p : PartT) : setsB p = setL p.parts := rfl
theorem sets_calls (l : List PartT) (A : Option Addr) (cap : Nat) (w : World) (hl : szPs l ≤ 1048576) (hr : RdS 5 encP w A l) :
    Calls Tryz.prog 73 #[.slice A l.length cap] w fun e w' => e = .returned (.bool (setL l)) ∧ w = w' := by
  obtain ⟨sz, hsz0⟩ : ∃ n, n = l.length := ⟨_, rfl⟩
  have HL : Aside (sz = l.length ∧ RdS 5 encP w A l ∧ szPs l ≤ 1048576) := ⟨hsz0, hr, hl⟩
  have hl : sz ≤ 1048576 := by rw [hsz0]; exact Nat.le_trans (szPs_len l) hl
  rw [← hsz0]
  clear hr hsz0
  obtain ⟨r, hr0⟩ : ∃ r, r = setL l := ⟨_, rfl⟩
  rw [← hr0]
  have HR : Aside (setL l = r) := hr0.symm
  clear hr0
  go_enter Tryz.func73, Tryz.ntmps73
  go_wp2
  go_loopg [3] sz (fun g s wx => ∃ k : Nat, k + g = sz ∧ s = .int .i64 k ∧ Aside (setL (l.drop k) = r) ∧ wx = w)
  case atStart => exact ⟨0, by omega, rfl, HR, rfl⟩
  case round =>
    obtain ⟨k, hkg, rfl, HI, rfl⟩ := hrel
    cases gk with
    | zero =>
      have hkz : ¬ (k : Int) < (sz : Int) := by omega
      have ha : Aside (false = r) := by show _ = _; rw [← HI.out, List.drop_eq_nil_of_le (by have := HL.out.1; omega)]; rfl
      go_wp2
      go_ret
      exact ⟨congrArg (fun n : Bool => Ending.returned (.bool n)) ha.out, rfl⟩
    | succ g =>
      have hk0 : (0 : Int) ≤ (k : Int) := by omega
      have hkz : (k : Int) < (sz : Int) := by omega
      have hk63 : (k : Int) + 1 ≤ 9223372036854775807 := by omega
      obtain ⟨x, hx⟩ : ∃ x, l[k]? = some x := ⟨_, List.getElem?_eq_getElem (by have := HL.out.1; omega)⟩
      have hdrop : Aside (l.drop k = x :: l.drop (k + 1)) := Lib.drop_at hx
      obtain ⟨b, o, rfl, hlt, hc⟩ := HL.out.2.1 k x hx
      have c0 : wr.cell? ⟨b, o + k * 5, none⟩ = some (.int .i64 x.kind) := hc 0 _ rfl
      have c1 : wr.cell? ⟨b, o + k * 5 + 1, none⟩ = some (.string ⟨x.text.toArray⟩) := hc 1 _ rfl
      have ch := has_calls x.text (by have := szPs_text (List.mem_of_getElem? hx); have := HL.out.2.2; omega) wr
      clear hc hx hlt
      have hset : Aside (setL (l.drop k) = ((decide (x.kind = 1) && x.text.contains 61) || setL (l.drop (k + 1)))) := by show _ = _; rw [hdrop.out]; rfl
      by_cases hk : x.kind = 1
      · have hkk : (x.kind == 1) = true := by simpa using hk
        cases hb : x.text.contains 61 with
        | true =>
          have ha : Aside (true = r) := by show _ = _; rw [← HI.out, hset.out, hb, decide_eq_true hk]; rfl
          rw [hb] at ch
          clear hb
          go_wp2_with (go_at_call 100; refine ch.mono ?_; rintro e w' ⟨rfl, rfl⟩)
          go_ret
          exact ⟨congrArg (fun n : Bool => Ending.returned (.bool n)) ha.out, rfl⟩
        | false =>
          have X : Aside (setL (l.drop (k + 1)) = r) := by show _ = _; rw [← HI.out, hset.out, hb]; simp
          rw [hb] at ch
          clear hb
          go_wp2_with (go_at_call 100; refine ch.mono ?_; rintro e w' ⟨rfl, rfl⟩)
          go_roundg g
          case measure => omega
          case rel => exact ⟨k + 1, by omega, by simp, X, rfl⟩
      · have X : Aside (setL (l.drop (k + 1)) = r) := by show _ = _; rw [← HI.out, hset.out, decide_eq_false hk]; simp
        have hkk : (x.kind == 1) = false := by simpa using hk
        clear ch
        go_wp2
        go_roundg g
        case measure => omega
        case rel => exact ⟨k + 1, by omega, by simp, X, rfl⟩
end Go.Proofs.YtfdhkchglacccaaGreatDoor

/-! the reference: names -/
namespace Go.Proofs.YtfdhkchglacccaaGreatDoor
open Go Go.RowKit Go.Mir Go.Syn
set_option maxHeartbeats 300000
set_option maxRecDepth 100000
theorem ext_cut (x : List UInt8) (j e : Nat) : (⟨x.toArray⟩ : ByteArray).extract j e = ⟨((x.take e).drop j).toArray⟩ := by
  apply ByteArray.ext
  simp [ByteArray.data_extract, List.drop_take]
theorem addS_len (s : List UInt8) : ∀ l : List (List UInt8), (addS s l).length ≤ l.length + 1
  | [] => Nat.le_refl _
  | x :: l => by
    unfold addS
    split
    · simp
    · split
      · simp
      · have := addS_len s l
        simp only [List.length_cons]; omega
theorem addAll_app (a b L : List (List UInt8)) : addAll (a ++ b) L = addAll b (addAll a L) := List.foldl_append ..
theorem names_calls (l : List PartT) (A : Option Addr) (cap : Nat) (out : List (List UInt8)) (AO : Option Addr) (mo co : Nat) (w : World) (hl : szPs l ≤ 1048576) (hr : RdS 5 encP w A l)
    (hmo : mo = out.length) (hco : mo ≤ co) (hro : RdS 1 encS w AO out) (hb : out.length + (calcL l).length ≤ 1048576) :
    Calls Tryz.prog 74 #[.slice AO mo co, .slice A l.length cap] w (ListP (addAll (calcL l) out) w) := by
  obtain ⟨sz, hsz0⟩ : ∃ n, n = l.length := ⟨_, rfl⟩
  have HL : Aside (sz = l.length ∧ RdS 5 encP w A l ∧ szPs l ≤ 1048576) := ⟨hsz0, hr, hl⟩
  have hl : sz ≤ 1048576 := by rw [hsz0]; exact Nat.le_trans (szPs_len l) hl
  rw [← hsz0]
  clear hr hsz0
  obtain ⟨R, hR0⟩ : ∃ R, R = addAll (calcL l) out := ⟨_, rfl⟩
  rw [← hR0]
  have HR : Aside (addAll (calcL l) out = R ∧ mo = out.length ∧ mo ≤ co ∧ RdS 1 encS w AO out ∧ out.length + (calcL l).length ≤ 1048576) := ⟨hR0.symm, hmo, hco, hro, hb⟩
  clear hR0 hmo hco hro hb
  go_enter Tryz.func74, Tryz.ntmps74
  go_wp2
  go_loopg [0, 5] sz (fun g so si wx => ∃ (k : Nat) (AL : Option Addr) (m c : Nat) (L : List (List UInt8)), k + g = sz ∧ si = .int .i64 k ∧ so = .slice AL m c ∧ Aside (m = L.length ∧ m ≤ c ∧ RdS 1 encS wx AL L ∧ addAll (calcL (l.drop k)) L = R ∧ L.length + (calcL (l.drop k)).length ≤ 1048576) ∧ Below w.heap.size w wx)
  case atStart => exact ⟨0, AO, mo, co, out, by omega, rfl, rfl, ⟨HR.out.2.1, HR.out.2.2.1, HR.out.2.2.2.1, HR.out.1, HR.out.2.2.2.2⟩, Below.refl _ _⟩
  case round =>
    obtain ⟨k, AL, m, c, L, hkg, rfl, rfl, HI, hwb⟩ := hrel
    cases gk with
    | zero =>
      have hkz : ¬ (k : Int) < (sz : Int) := by omega
      have ha : Aside (L = R) := by show _ = _; rw [← HI.out.2.2.2.1, List.drop_eq_nil_of_le (by have := HL.out.1; omega)]; rfl
      go_wp2
      go_ret
      exact ⟨AL, m, c, rfl, by rw [← ha.out]; exact ⟨HI.out.1, HI.out.2.1, HI.out.2.2.1⟩, hwb⟩
    | succ g =>
      have hk0 : (0 : Int) ≤ (k : Int) := by omega
      have hkz : (k : Int) < (sz : Int) := by omega
      have hk63 : (k : Int) + 1 ≤ 9223372036854775807 := by omega
      obtain ⟨x, hx⟩ : ∃ x, l[k]? = some x := ⟨_, List.getElem?_eq_getElem (by have := HL.out.1; omega)⟩
      have hdrop : Aside (l.drop k = x :: l.drop (k + 1)) := Lib.drop_at hx
      obtain ⟨b, o, rfl, hlt, hc⟩ := HL.out.2.1 k x hx
      have HC : Aside (∀ w', Below w.heap.size w w' → w'.cell? ⟨b, o + k * 5, none⟩ = some (.int .i64 x.kind) ∧ w'.cell? ⟨b, o + k * 5 + 1, none⟩ = some (.string ⟨x.text.toArray⟩)) := by
        intro w' hb'
        obtain ⟨b2, o2, he, _, hc⟩ := (HL.out.2.1.up hb') k x hx
        injection he with he
        injection he with e1 e2
        subst e1; subst e2
        exact ⟨hc 0 _ rfl, hc 1 _ rfl⟩
      obtain ⟨c0, c1⟩ := HC.out wr hwb
      have hxt : x.text.length ≤ 1048576 := by have := szPs_text (List.mem_of_getElem? hx); have := HL.out.2.2; omega
      clear hc hx hlt
      have hset : Aside (calcL (l.drop k) = (if x.kind = 1 then nmsT x.text else []) ++ calcL (l.drop (k + 1))) := by show _ = _; rw [hdrop.out]; rfl
      by_cases hk : x.kind = 1
      · rw [hk] at c0
        go_wp2
        go_loopg [0, 7] x.text.length (fun g so sa wx => ∃ (j : Nat) (AL : Option Addr) (m c : Nat) (L : List (List UInt8)), j + g = x.text.length ∧ sa = .int .i64 j ∧ so = .slice AL m c ∧ Aside (m = L.length ∧ m ≤ c ∧ RdS 1 encS wx AL L ∧ addAll (nmsT (x.text.drop j) ++ calcL (l.drop (k + 1))) L = R ∧ L.length + (nmsT (x.text.drop j) ++ calcL (l.drop (k + 1))).length ≤ 1048576) ∧ Below w.heap.size w wx)
        case atStart => exact ⟨0, AL, m, c, L, by omega, rfl, rfl, ⟨HI.out.1, HI.out.2.1, HI.out.2.2.1, by have := HI.out.2.2.2.1; rw [hset.out, if_pos hk] at this; exact this, by have := HI.out.2.2.2.2; rw [hset.out, if_pos hk] at this; exact this⟩, hwb⟩
        case round =>
          clear hwb c0 c1 HI
          obtain ⟨j, AL, m, c, L, hjg, rfl, rfl, HI, hwb⟩ := hrel
          obtain ⟨c0, c1⟩ := HC.out wr hwb
          rw [hk] at c0
          cases gk with
          | zero =>
            have hjz : ¬ (j : Int) < (x.text.length : Int) := by omega
            have HE : Aside (nmsT (x.text.drop j) = []) := nms_end (by omega)
            go_wp2
            go_roundg g
            case measure => omega
            case rel => exact ⟨k + 1, AL, m, c, L, by omega, by simp, rfl, by have := HI.out; rw [HE.out] at this; exact this, hwb⟩
          | succ g2 =>
            have hjt : j < x.text.length := by omega
            have hj0 : (0 : Int) ≤ (j : Int) := by omega
            have hjz : (j : Int) < (x.text.length : Int) := by omega
            have hjl : (j : Int) ≤ (x.text.length : Int) := by omega
            have cl := lname_calls x.text j (by omega) hxt wr
            cases hw : isWord (bt x.text j) with
            | false =>
              have he : nmEnd x.text j = j := run_off hjt hw
              have X : Aside (nmsT (x.text.drop j) = nmsT (x.text.drop (j + 1))) := nms_off hjt hw
              rw [he] at cl
              have cn : Calls Tryz.prog 38 #[.string ByteArray.empty] wr fun e w' => e = .returned (.bool false) ∧ wr = w' := rname_calls [] wr
              clear he hw
              have hmx : max (j : Int) ((j : Int) + 1) = (j : Int) + 1 := by omega
              have hj63 : (j : Int) + 1 ≤ 9223372036854775807 := by omega
              go_wp2_with (first
                | (go_at_call 101; refine cl.mono ?_; rintro e w' ⟨rfl, rfl⟩)
                | (go_at_call 38; refine cn.mono ?_; rintro e w' ⟨rfl, rfl⟩))
              go_roundg g2
              case measure => omega
              case rel => exact ⟨j + 1, AL, m, c, L, by omega, by simp, rfl, by rw [← X.out]; exact HI, hwb⟩
            | true =>
              obtain ⟨q, hq0⟩ : ∃ q, q = nmEnd x.text j := ⟨_, rfl⟩
              have hq : Aside (q = nmEnd x.text j) := hq0
              have hqj : j < q := by
                rw [hq0]
                have h1 : nmEnd x.text j = nmEnd x.text (j + 1) := run_on hjt hw
                rw [h1]
                have := run_ge isWord x.text (j + 1)
                unfold nmEnd; omega
              have hql : q ≤ x.text.length := by rw [hq0]; exact run_le (by omega)
              have X := nms_on hjt hw
              rw [← hq0] at cl X
              have cn := rname_calls ((x.text.take q).drop j) wr
              rw [← ext_cut] at cn
              clear hw hq0
              have hqj' : (j : Int) ≤ (q : Int) := by omega
              have hql' : (q : Int) ≤ (x.text.length : Int) := by omega
              have hq0' : (0 : Int) ≤ (q : Int) := by omega
              have hmx : max (q : Int) ((j : Int) + 1) = (q : Int) := by omega
              have hj63 : (j : Int) + 1 ≤ 9223372036854775807 := by omega
              cases hn : nameB ((x.text.take q).drop j) with
              | false =>
                rw [hn] at cn X
                have X2 : Aside (nmsT (x.text.drop j) = nmsT (x.text.drop q)) := X
                clear hn X
                go_wp2_with (first
                  | (go_at_call 101; refine cl.mono ?_; rintro e w' ⟨rfl, rfl⟩)
                  | (go_at_call 38; refine cn.mono ?_; rintro e w' ⟨rfl, rfl⟩))
                go_roundg (x.text.length - q)
                case measure => omega
                case rel => exact ⟨q, AL, m, c, L, by omega, rfl, rfl, by rw [← X2.out]; exact HI, hwb⟩
              | true =>
                rw [hn] at cn X
                have X2 : Aside (nmsT (x.text.drop j) = (x.text.take q).drop j :: nmsT (x.text.drop q)) := X
                have ca := add_calls L ((x.text.take q).drop j) AL m c wr HI.out.1 (by have := HI.out.2.2.2.2; omega) HI.out.2.1 HI.out.2.2.1
                rw [← ext_cut] at ca
                clear hn X
                go_wp2_with (first
                  | (go_at_call 101; refine cl.mono ?_; rintro e w' ⟨rfl, rfl⟩)
                  | (go_at_call 38; refine cn.mono ?_; rintro e w' ⟨rfl, rfl⟩)
                  | (go_at_call 34; refine ca.mono ?_; rintro e w' ⟨A2, m2, c2, rfl, H2, hb2⟩))
                go_roundg (x.text.length - q)
                case measure => omega
                case rel =>
                  refine ⟨q, A2, m2, c2, _, by omega, rfl, rfl, ⟨H2.out.1, H2.out.2.1, H2.out.2.2, ?_, ?_⟩, hwb.trans (hb2.mono hwb.size)⟩
                  · rw [← HI.out.2.2.2.1, X2.out]; rfl
                  · have h1 := HI.out.2.2.2.2
                    have h2 := addS_len ((x.text.take q).drop j) L
                    rw [X2.out] at h1
                    simp only [List.length_append, List.length_cons] at h1 ⊢
                    omega
      · have X : Aside (calcL (l.drop (k + 1)) = calcL (l.drop k)) := by show _ = _; rw [hset.out, if_neg hk]; rfl
        have hkk : (x.kind == 1) = false := by simpa using hk
        go_wp2
        go_loopg [0, 7] 0 (fun g so sa wx => so = .slice AL m c ∧ sa = .int .i64 0 ∧ wr = wx)
        case atStart => exact ⟨rfl, rfl, rfl⟩
        case round =>
          obtain ⟨rfl, rfl, rfl⟩ := hrel
          go_wp2
          go_roundg g
          case measure => omega
          case rel => exact ⟨k + 1, AL, m, c, L, by omega, by simp, rfl, by rw [X.out]; exact HI, hwb⟩
end Go.Proofs.YtfdhkchglacccaaGreatDoor
