/- What functions of the program and of the reference compute, on values. No statement is proved here. -/
import Derived.Test.YtnocibbhognbeaaGreatDoorPeC
import Derived.Test.YtnocibbhognbeaaGreatDoorProg
import Derived.KernelRfl
set_option linter.unusedSimpArgs false
set_option linter.unusedVariables false
namespace Go.PE
open Go Go.EvL
section
variable {P : Program} {Γ : Nat → Option PFn} {ext : PCallF}
theorem only_at (ls : List Nat) (f : PFr) (t : Nat) : onlyP ls f t = if t ∈ ls then f t else .sc undef := (rfl)
theorem okAll_un (F : Eff) (acc : List (Nat × Eff × Nat × Nat)) : OkAll [] F acc := fun e _ he => by cases he
theorem okAll_e (un : List Nat) (acc : List (Nat × Eff × Nat × Nat)) : OkAll un ⟨[], [], false, false⟩ acc := fun e _ _ => by
  refine ⟨fun k _ => ⟨?_, ?_⟩, ?_, ?_, ?_, ?_, ?_, ?_⟩ <;> simp
theorem pval_tmp (f : PFr) (t : Nat) : pval f (.tmp t) = f t := (rfl)
theorem pval_const (f : PFr) (v : Value) : pval f (.const v) = pvOf v := (rfl)
theorem pval_func (f : PFr) (g : Nat) : pval f (.func g) = .fn g [] [] := (rfl)
theorem set_at (f : PFr) (d : Nat) (v : PV) (j : Nat) : PFr.set f d v j = if j = d then v else f j := (rfl)
theorem new_h (s : PS) (b : Blk) (j : Nat) : (s.new b).h j = if j = s.n then b else s.h j := (rfl)
theorem new_n (s : PS) (b : Blk) : (s.new b).n = s.n + 1 := (rfl)
theorem new_w (s : PS) (b : Blk) : (s.new b).w = s.w := (rfl)
theorem put_h (s : PS) (k : Nat) (b : Blk) (j : Nat) : (s.put k b).h j = if j = k then b else s.h j := (rfl)
theorem put_n (s : PS) (k : Nat) (b : Blk) : (s.put k b).n = s.n := (rfl)
theorem put_w (s : PS) (k : Nat) (b : Blk) : (s.put k b).w = min s.w k := (rfl)
theorem bin_add (t : Nat) (x y : Operand) (a b : Int) : binP P .add t x y (.sc (.int .i64 a)) (.sc (.int .i64 b)) = some (.sc (.int .i64 (IntKind.i64.wrap (a + b)))) := (rfl)
theorem bin_sub (t : Nat) (x y : Operand) (a b : Int) : binP P .sub t x y (.sc (.int .i64 a)) (.sc (.int .i64 b)) = some (.sc (.int .i64 (IntKind.i64.wrap (a - b)))) := (rfl)
theorem bin_lss (t : Nat) (x y : Operand) (a b : Int) : binP P .lss t x y (.sc (.int .i64 a)) (.sc (.int .i64 b)) = some (.sc (.bool (decide (a < b)))) := (rfl)
theorem bin_leq (t : Nat) (x y : Operand) (a b : Int) : binP P .leq t x y (.sc (.int .i64 a)) (.sc (.int .i64 b)) = some (.sc (.bool (decide (a ≤ b)))) := (rfl)
theorem bin_gtr (t : Nat) (x y : Operand) (a b : Int) : binP P .gtr t x y (.sc (.int .i64 a)) (.sc (.int .i64 b)) = some (.sc (.bool (decide (a > b)))) := (rfl)
theorem bin_geq (t : Nat) (x y : Operand) (a b : Int) : binP P .geq t x y (.sc (.int .i64 a)) (.sc (.int .i64 b)) = some (.sc (.bool (decide (a ≥ b)))) := (rfl)
theorem bin_eql (t : Nat) (x y : Operand) (a b : Int) : binP P .eql t x y (.sc (.int .i64 a)) (.sc (.int .i64 b)) = some (.sc (.bool (a == b))) := (rfl)
theorem bin_neq (t : Nat) (x y : Operand) (a b : Int) : binP P .neq t x y (.sc (.int .i64 a)) (.sc (.int .i64 b)) = some (.sc (.bool (a != b))) := (rfl)
theorem bin_seql (t : Nat) (x y : Operand) (a b : ByteArray) : binP P .eql t x y (.sc (.string a)) (.sc (.string b)) = some (.sc (.bool (a.toList == b.toList))) := (rfl)
theorem bin_sneq (t : Nat) (x y : Operand) (a b : ByteArray) : binP P .neq t x y (.sc (.string a)) (.sc (.string b)) = some (.sc (.bool (!(a.toList == b.toList)))) := (rfl)
theorem pureRun_bind {α β : Type} (P : Program) (s : Sem α) (k : α → Sem β) : pureRun P (s >>= k) = (pureRun P s).bind fun a => pureRun P (k a) := by
  induction s with
  | pure a => rfl
  | program k' ih => exact ih P
  | _ => first | rfl | (rename_i ih; exact ih)
theorem pureRun_under {P : Program} {t : Nat} {d : TypeDesc} (h : P.underlying t = some d) : pureRun P (underlying t) = some d := by
  show pureRun P ((match P.underlying t with | some d => pure d | none => _ : Sem TypeDesc)) = _
  rw [h]; rfl
theorem binV_beql {P : Program} {t : Nat} (hu : P.underlying t = some .bool) (x y : Operand) (a b : Bool) : binV P .eql t x y (.bool a) (.bool b) = some (.bool (a == b)) := by
  have e : binV P .eql t x y (.bool a) (.bool b) = pureRun P (Op.equalIn Op.maxDepth t (.bool a) (.bool b) >>= fun r => pure (.bool r)) := (rfl)
  rw [e, pureRun_bind]
  have : pureRun P (Op.equalIn Op.maxDepth t (.bool a) (.bool b)) = some (a == b) := by
    show pureRun P (underlying t >>= _) = _
    rw [pureRun_bind, pureRun_under hu]
    rfl
  rw [this]; rfl
theorem bin_beql {P : Program} {t : Nat} (hu : P.underlying t = some .bool) (x y : Operand) (a b : Bool) : binP P .eql t x y (.sc (.bool a)) (.sc (.bool b)) = some (.sc (.bool (a == b))) := by
  simp only [binP, scalar, binV_beql hu]; rfl
theorem bin_bneq {P : Program} {t : Nat} (hu : P.underlying t = some .bool) (x y : Operand) (a b : Bool) : binP P .neq t x y (.sc (.bool a)) (.sc (.bool b)) = some (.sc (.bool (!(a == b)))) := by
  have e : binV P .neq t x y (.bool a) (.bool b) = pureRun P (Op.equalIn Op.maxDepth t (.bool a) (.bool b) >>= fun r => pure (.bool (!r))) := (rfl)
  have h : pureRun P (Op.equalIn Op.maxDepth t (.bool a) (.bool b)) = some (a == b) := by
    show pureRun P (underlying t >>= _) = _
    rw [pureRun_bind, pureRun_under hu]
    rfl
  rw [pureRun_bind, h] at e
  have e' : binV P .neq t x y (.bool a) (.bool b) = some (.bool (!(a == b))) := e
  simp only [binP, scalar, e']; rfl
theorem un_not (b : Bool) : unP P .not (.sc (.bool b)) = some (.sc (.bool (!b))) := (rfl)
end
end Go.PE
namespace Go.PE
open Go Go.EvL
theorem natP_cast (k : IntKind) (i : Nat) : natP (.sc (.int k (i : Int))) = some i := by
  simp only [natP]; rw [if_pos (by omega), Int.toNat_natCast]
theorem flat_len {α : Type} {c : α → List PV} {es : Nat} (hc : ∀ x, (c x).length = es) (l : List α) : (l.flatMap c).length = l.length * es := by
  induction l with
  | nil => simp
  | cons x l ih => rw [List.flatMap_cons, List.length_append, hc, ih, List.length_cons, Nat.succ_mul]; omega
theorem flat_drop {α : Type} {c : α → List PV} {es : Nat} (hc : ∀ x, (c x).length = es) : ∀ (l : List α) (i : Nat), (l.flatMap c).drop (i * es) = (l.drop i).flatMap c := by
  intro l
  induction l with
  | nil => intro i; simp
  | cons x l ih =>
    intro i
    cases i with
    | zero => simp
    | succ i => rw [List.flatMap_cons, Nat.succ_mul, Nat.add_comm, ← List.drop_drop, List.drop_left' (hc x), ih, List.drop_succ_cons]
theorem flat_at {α : Type} {c : α → List PV} {es : Nat} (hc : ∀ x, (c x).length = es) {l : List α} {i : Nat} {x : α} (h : l[i]? = some x) : ∃ r, (l.flatMap c).drop (i * es) = c x ++ r := by
  rw [flat_drop hc]
  have hi : i < l.length := (List.getElem?_eq_some_iff.1 h).1
  refine ⟨(l.drop (i + 1)).flatMap c, ?_⟩
  rw [List.drop_eq_getElem_cons hi, List.flatMap_cons]
  congr 1
  rw [List.getElem?_eq_getElem hi] at h
  injection h with h; rw [h]
theorem ld_ptr (s : PS) (k off fin sz : Nat) : ldP s (.ptr k off fin) sz = if off + sz ≤ fin ∧ (s.h k).low ≤ fin ∧ fin ≤ (s.h k).cells.length then some (((s.h k).cells.drop off).take sz) else none := (rfl)
theorem wrap_nat {n : Nat} (h : n < 9223372036854775808) : IntKind.i64.wrap (n : Int) = (n : Int) := by
  unfold IntKind.wrap
  simp [IntKind.bits, IntKind.signed]
  omega
end Go.PE
namespace Go.PE
open Go Go.EvL
section
variable {P : Program} {Γ : Nat → Option PFn} {ext : PCallF}
/-- a run that ends so -/
def W (r : PEx) (Q : PXt → PFr → PS → Prop) : Prop := ∃ x f s, r = some (x, f, s) ∧ Q x f s
theorem W.mono {r : PEx} {Q Q' : PXt → PFr → PS → Prop} (h : W r Q) (k : ∀ x f s, Q x f s → Q' x f s) : W r Q' :=
  let ⟨x, f, s, e, q⟩ := h; ⟨x, f, s, e, k x f s q⟩
end
end Go.PE
namespace Go.PE
open Go Go.EvL
def mt (d t : Nat) : PI := ⟨some d, .mv (.tmp t), none⟩
def mk (d : Nat) (v : Value) : PI := ⟨some d, .mv (.const v), none⟩
def gt (j : Nat) (w : Bool) (d t : Nat) : PI := ⟨some d, .mv (.tmp t), some (j, w)⟩
def ob (d : Nat) (p : POp) : PI := ⟨some d, p, none⟩
def og (j : Nat) (w : Bool) (d : Nat) (p : POp) : PI := ⟨some d, p, some (j, w)⟩
def o0 (p : POp) : PI := ⟨none, p, none⟩
def g0 (j : Nat) (w : Bool) (p : POp) : PI := ⟨none, p, some (j, w)⟩
abbrev tp (n : Nat) : Operand := .tmp n
abbrev ki (n : Int) : Operand := .const (.int .i64 n)
abbrev kc (n : Int) : Operand := .const (.int .u8 n)
abbrev kb (b : Bool) : Operand := .const (.bool b)
abbrev ks (l : Array UInt8) : Operand := .const (.string ⟨l⟩)
def bn (o : BinOp) (t x y : Nat) : POp := .bin o t (.tmp x) (.tmp y)
def bi (o : BinOp) (x : Nat) (n : Int) : POp := .bin o 3 (.tmp x) (.const (.int .i64 n))
def bc (o : BinOp) (x : Nat) (n : Int) : POp := .bin o 5 (.tmp x) (.const (.int .u8 n))
def pk (a b : Nat) : POp := .pick (.tmp a) (.tmp b) (.const (.bool false))
def po (a b : Nat) : POp := .pick (.tmp a) (.const (.bool true)) (.tmp b)
def cl (g : Nat) (l : List Operand) : POp := .call (.func g) l
def iff (l : List PI) (t : Nat) (a b : PCode) : PCode := .seq (.reg l) (.cond (.tmp t) a b)
def sr (l : List PI) (c : PCode) : PCode := .seq (.reg l) c
def lt (id : Nat) (b r : PCode) : PCode := .seq (.block id (.loop b)) r
end Go.PE
namespace Go.Proofs.YtnocibbhognbeaaGreatDoor
open Go Go.EvL Go.PE
/-- jobshell/jobshelllaw14.call -/
def p5 : PFn := ⟨9, (sr [ob 2 (.alloc 29 (.agg #[(.int .i64 0), (.int .i64 0), (.string ⟨#[]⟩), (.bool false), (.slice none 0 0), (.slice none 0 0), (.slice none 0 0), (.slice none 0 0), (.slice none 0 0)]))]
 (sr [mt 3 0, ob 4 (.build [(.int .i64 0), (.string ⟨#[]⟩), (.int .i64 0), (.bool false), (.slice none 0 0)] [(0, 1, (ki 1)), (1, 1, (tp 3))]), ob 5 (.bslice 38 1 [(.int .i64 0), (.string ⟨#[]⟩), (.int .i64 0), (.bool false), (.slice none 0 0)] [(0, 5, (tp 4))]), ob 6 (.build [(.int .i64 0), (.slice none 0 0)] [(1, 1, (tp 5))]), ob 7 (.bslice 40 1 [(.int .i64 0), (.slice none 0 0)] [(0, 2, (tp 6))]), ob 8 (.build [(.int .i64 0), (.int .i64 0), (.string ⟨#[]⟩), (.bool false), (.slice none 0 0), (.slice none 0 0), (.slice none 0 0), (.slice none 0 0), (.slice none 0 0)] [(0, 1, (ki 1)), (5, 1, (tp 7))]), o0 (.store 29 9 (tp 2) (tp 8))]
 .ret)), [.cell 2 true 9], true⟩
def b6_0 : PCode := (sr [ob 13 (bn .lss 3 12 11)]
 (.seq (.cond (tp 13)
 .skip
 (.exit 0))
 (.seq (.block 1 (sr [ob 14 (.iaddr 9 (tp 10) (tp 12)), ob 15 (.load 29 true 9 (tp 14)), ob 5 (.alloc 29 (.agg #[(.int .i64 0), (.int .i64 0), (.string ⟨#[]⟩), (.bool false), (.slice none 0 0), (.slice none 0 0), (.slice none 0 0), (.slice none 0 0), (.slice none 0 0)])), o0 (.store 29 9 (tp 5) (tp 15))]
 (.seq (sr [ob 16 (.load 29 true 9 (tp 5)), ob 17 (cl 9 [(tp 16)]), mt 6 17]
 (iff [mt 18 6, ob 19 (.bin .neq 31 (tp 18) (ki 0))] 19
 (sr [mt 20 6, mk 2 (.string ⟨#[]⟩), mt 3 20]
 .ret)
 .skip))
 (iff [ob 21 (.faddr 0 (tp 5)), ob 22 (.load 3 false 1 (tp 21)), ob 23 (bi .eql 22 6)] 23
 (sr [mk 2 (.string ⟨#[]⟩), mk 3 (.int .i64 1)]
 .ret)
 .skip))))
 (.reg [ob 24 (bi .add 12 1), mt 12 24]))))
def b6_1 : PCode := (sr [ob 30 (bn .lss 3 29 28)]
 (.seq (.cond (tp 30)
 .skip
 (.exit 2))
 (.seq (.block 3 (sr [ob 31 (.iaddr 9 (tp 27) (tp 29)), ob 32 (.load 29 true 9 (tp 31)), ob 9 (.alloc 29 (.agg #[(.int .i64 0), (.int .i64 0), (.string ⟨#[]⟩), (.bool false), (.slice none 0 0), (.slice none 0 0), (.slice none 0 0), (.slice none 0 0), (.slice none 0 0)])), o0 (.store 29 9 (tp 9) (tp 32))]
 (sr [mt 33 7, ob 34 (.load 29 true 9 (tp 9)), ob 35 (cl 10 [(tp 33), (tp 34)])]
 (.reg [mt 36 7, ob 37 (cl 11 [(tp 36)])]))))
 (.reg [ob 38 (bi .add 29 1), mt 29 38]))))
def r6_0 : PCode := (sr [mt 39 7, ob 40 (cl 12 [(tp 39)]), ob 41 (.ext (tp 40) 0), ob 42 (.ext (tp 40) 1), mt 2 41, mt 3 42]
 .ret)
def r6_1 : PCode := (sr [ob 25 (.build [(.pointer none), (.slice none 0 0), (.bool false), (.slice none 0 0)] []), ob 26 (.box 51 (tp 25)), mt 7 26]
 (.seq (sr [mt 27 0, ob 28 (.len false (tp 27)), mk 29 (.int .i64 0)]
 (.block 2 (.loop b6_1))) r6_0))
/-- jobshell/print.Program -/
def p6 : PFn := ⟨43, (sr [mk 2 (.string ⟨#[]⟩), mk 3 (.int .i64 0)]
 (.seq (sr [mt 10 0, ob 11 (.len false (tp 10)), mk 12 (.int .i64 0)]
 (.block 0 (.loop b6_0))) r6_1)), [.tmp 2, .tmp 3], false⟩
def b9_0 : PCode := (sr [ob 15 (bn .lss 3 14 13)]
 (.seq (.cond (tp 15)
 .skip
 (.exit 0))
 (.seq (.block 1 (sr [ob 16 (.iaddr 9 (tp 12) (tp 14)), ob 17 (.load 29 true 9 (tp 16)), ob 4 (.alloc 29 (.agg #[(.int .i64 0), (.int .i64 0), (.string ⟨#[]⟩), (.bool false), (.slice none 0 0), (.slice none 0 0), (.slice none 0 0), (.slice none 0 0), (.slice none 0 0)])), o0 (.store 29 9 (tp 4) (tp 17))]
 (iff [ob 18 (.load 29 true 9 (tp 4)), ob 19 (cl 18 [(tp 18)]), ob 20 (.un .not (tp 19))] 20
 (sr [mk 2 (.int .i64 1)]
 .ret)
 .skip)))
 (.reg [ob 21 (bi .add 14 1), mt 14 21]))))
def r9_0 : PCode := (sr [mk 2 (.int .i64 0)]
 .ret)
/-- jobshell/syntax.Valid -/
def p9 : PFn := ⟨22, (sr [ob 1 (.box 29 (tp 0)), mk 2 (.int .i64 0)]
 (.seq (iff [ob 5 (.load 29 true 9 (tp 1)), ob 6 (cl 15 [(tp 5)]), ob 7 (bi .gtr 6 32)] 7
 (sr [mk 2 (.int .i64 5)]
 .ret)
 .skip)
 (.seq (iff [ob 8 (.load 29 true 9 (tp 1)), ob 9 (cl 16 [(tp 8)]), ob 10 (bi .gtr 9 2048)] 10
 (sr [mk 2 (.int .i64 4)]
 .ret)
 .skip)
 (.seq (sr [ob 11 (.load 29 true 9 (tp 1)), ob 12 (cl 17 [(tp 11)]), ob 13 (.len false (tp 12)), mk 14 (.int .i64 0)]
 (.block 0 (.loop b9_0))) r9_0)))), [.tmp 2], false⟩
def b10_0 : PCode := (sr [ob 15 (bn .lss 3 14 13)]
 (.seq (.cond (tp 15)
 .skip
 (.exit 1))
 (.seq (.block 2 (sr [ob 16 (.iaddr 5 (tp 12) (tp 14)), ob 17 (.load 42 true 5 (tp 16)), ob 5 (.alloc 42 (.agg #[(.int .i64 0), (.int .i64 0), (.int .i64 0), (.int .i64 0), (.slice none 0 0)])), o0 (.store 42 5 (tp 5) (tp 17))]
 (sr [mt 18 0, ob 19 (.bslice 9 1 [(.string ⟨#[]⟩)] [(0, 1, (ks #[32]))]), ob 20 (cl 21 [(tp 18), (tp 19)])]
 (.reg [mt 21 0, ob 22 (.load 42 true 5 (tp 5)), ob 23 (cl 24 [(tp 21), (tp 22)])]))))
 (.reg [ob 24 (bi .add 14 1), mt 14 24]))))
/-- (*jobshell/print.writer).node -/
def p10 : PFn := ⟨88, (sr [ob 3 (.box 29 (tp 1))]
 (sr [ob 6 (.faddr 0 (tp 3)), ob 7 (.load 3 false 1 (tp 6))]
 (.block 0 (iff [ob 26 (bi .eql 7 1), mt 25 26] 25
 (.reg [mt 27 0, ob 28 (.load 29 true 9 (tp 3)), ob 29 (cl 19 [(tp 27), (tp 28)])])
 (iff [ob 31 (bi .eql 7 2), mt 30 31] 30
 (.reg [mt 32 0, ob 33 (.faddr 7 (tp 3)), ob 34 (.load 26 false 1 (tp 33)), ob 35 (cl 20 [(tp 32), (tp 34), (ks #[32, 124, 32])])])
 (iff [ob 37 (bi .eql 7 3), mt 36 37] 36
 (sr [mt 38 0, ob 39 (.bslice 9 1 [(.string ⟨#[]⟩)] [(0, 1, (ks #[33, 32]))]), ob 40 (cl 21 [(tp 38), (tp 39)])]
 (.reg [mt 41 0, ob 42 (.faddr 7 (tp 3)), ob 43 (.load 26 false 1 (tp 42)), ob 44 (.iaddr 9 (tp 43) (ki 0)), ob 45 (.load 29 true 9 (tp 44)), ob 46 (cl 10 [(tp 41), (tp 45)])]))
 (iff [ob 48 (bi .eql 7 4), mt 47 48] 47
 (.reg [mt 49 0, ob 50 (.faddr 7 (tp 3)), ob 51 (.load 26 false 1 (tp 50)), ob 52 (cl 20 [(tp 49), (tp 51), (ks #[32, 38, 38, 32])])])
 (iff [ob 54 (bi .eql 7 5), mt 53 54] 53
 (.reg [mt 55 0, ob 56 (.faddr 7 (tp 3)), ob 57 (.load 26 false 1 (tp 56)), ob 58 (cl 20 [(tp 55), (tp 57), (ks #[32, 124, 124, 32])])])
 (iff [ob 60 (bi .eql 7 7), mt 59 60] 59
 (sr [mt 61 0, ob 62 (.faddr 7 (tp 3)), ob 63 (.load 26 false 1 (tp 62)), ob 64 (.iaddr 9 (tp 63) (ki 0)), ob 65 (.load 29 true 9 (tp 64)), ob 66 (cl 10 [(tp 61), (tp 65)])]
 (.reg [mt 67 0, ob 68 (.bslice 9 1 [(.string ⟨#[]⟩)] [(0, 1, (ks #[32, 38]))]), ob 69 (cl 21 [(tp 67), (tp 68)])]))
 (iff [ob 71 (bi .eql 7 6), mt 70 71] 70
 (.reg [mt 72 0, ob 73 (.load 29 true 9 (tp 3)), ob 74 (cl 22 [(tp 72), (tp 73)])])
 (iff [ob 76 (bi .eql 7 15), mt 75 76] 75
 (sr [mt 77 0, ob 78 (.faddr 2 (tp 3)), ob 79 (.load 9 false 1 (tp 78)), ob 80 (.bslice 9 2 [(.string ⟨#[]⟩), (.string ⟨#[]⟩)] [(0, 1, (tp 79)), (1, 1, (ks #[40, 41, 32]))]), ob 81 (cl 21 [(tp 77), (tp 80)])]
 (.reg [mt 82 0, ob 83 (.faddr 7 (tp 3)), ob 84 (.load 26 false 1 (tp 83)), ob 85 (.iaddr 9 (tp 84) (ki 0)), ob 86 (.load 29 true 9 (tp 85)), ob 87 (cl 10 [(tp 82), (tp 86)])]))
 (sr [mt 8 0, ob 9 (.load 29 true 9 (tp 3)), ob 10 (cl 23 [(tp 8), (tp 9)])]
 (sr [ob 11 (.faddr 6 (tp 3)), ob 12 (.load 25 false 1 (tp 11)), ob 13 (.len false (tp 12)), mk 14 (.int .i64 0)]
 (.block 1 (.loop b10_0))))))))))))))), [], true⟩
def b11_0 : PCode := (sr [ob 20 (bn .lss 3 19 18)]
 (.seq (.cond (tp 20)
 .skip
 (.exit 0))
 (.seq (.block 1 (sr [ob 21 (.iaddr 2 (tp 17) (tp 19)), ob 22 (.load 63 true 2 (tp 21)), ob 3 (.alloc 63 (.agg #[(.string ⟨#[]⟩), (.string ⟨#[]⟩)])), o0 (.store 63 2 (tp 3) (tp 22))]
 (.reg [mt 23 0, ob 24 (.faddr 0 (tp 3)), ob 25 (.load 9 false 1 (tp 24)), ob 26 (.faddr 1 (tp 3)), ob 27 (.load 9 false 1 (tp 26)), ob 28 (.bslice 9 3 [(.string ⟨#[]⟩), (.string ⟨#[]⟩), (.string ⟨#[]⟩)] [(0, 1, (tp 25)), (1, 1, (tp 27)), (2, 1, (ks #[10]))]), ob 29 (cl 21 [(tp 23), (tp 28)])])))
 (.reg [ob 30 (bi .add 19 1), mt 19 30]))))
def r11_0 : PCode := (.reg [mt 31 0, ob 32 (.nck (tp 31)), ob 33 (.faddr 3 (tp 32)), o0 (.store 49 1 (tp 33) (.const (.slice none 0 0)))])
/-- (*jobshell/print.writer).newline -/
def p11 : PFn := ⟨34, (.seq (iff [mt 4 0, ob 5 (.nck (tp 4)), ob 6 (.faddr 2 (tp 5)), ob 7 (.load 4 false 1 (tp 6))] 7
 (sr [mt 8 0, ob 9 (.bslice 9 1 [(.string ⟨#[]⟩)] [(0, 1, (ks #[32]))]), ob 10 (cl 21 [(tp 8), (tp 9)])]
 .ret)
 .skip)
 (sr [mt 11 0, ob 12 (.bslice 9 1 [(.string ⟨#[]⟩)] [(0, 1, (ks #[10]))]), ob 13 (cl 21 [(tp 11), (tp 12)])]
 (.seq (sr [mt 14 0, ob 15 (.nck (tp 14)), ob 16 (.faddr 3 (tp 15)), ob 17 (.load 49 false 1 (tp 16)), ob 18 (.len false (tp 17)), mk 19 (.int .i64 0)]
 (.block 0 (.loop b11_0))) r11_0))), [], true⟩
/-- (*jobshell/print.writer).source -/
def p12 : PFn := ⟨13, (sr [mk 2 (.string ⟨#[]⟩), mk 3 (.int .i64 0)]
 (.seq (iff [mt 4 0, ob 5 (.nck (tp 4)), ob 6 (.faddr 0 (tp 5)), ob 7 (cl 25 [(tp 6)]), ob 8 (bi .gtr 7 16384)] 8
 (sr [mk 2 (.string ⟨#[]⟩), mk 3 (.int .i64 3)]
 .ret)
 .skip)
 (sr [mt 9 0, ob 10 (.nck (tp 9)), ob 11 (.faddr 0 (tp 10)), ob 12 (cl 13 [(tp 11)]), mt 2 12, mk 3 (.int .i64 0)]
 .ret))), [.tmp 2, .tmp 3], true⟩
/-- (*strings.Builder).String -/
def p13 : PFn := ⟨14, (sr [mk 2 (.string ⟨#[]⟩)]
 (.seq (.draw [(mt 3 0, [0], []), (ob 4 (.nck (tp 3)), [3], []), (ob 5 (.faddr 1 (tp 4)), [4], []), (ob 6 (.load 46 false 1 (tp 5)), [5], []), (ob 7 (.sdata (tp 6)), [6], []), (mt 8 0, [0], [4, 3, 2, 1, 0]), (ob 9 (.nck (tp 8)), [8], [4, 3, 2, 1, 0]), (ob 10 (.faddr 1 (tp 9)), [9], [4, 3, 2, 1, 0]), (ob 11 (.load 46 false 1 (tp 10)), [10], [4, 3, 2, 1, 0]), (ob 12 (.len false (tp 11)), [11], [4, 3, 2, 1, 0]), (ob 13 (.ustr 5 (tp 7) (tp 12)), [7, 12], []), (mt 2 13, [13], [])])
 .ret)), [.tmp 2], true⟩
def b15_0 : PCode := (sr [ob 10 (bn .lss 3 9 8)]
 (.seq (.cond (tp 10)
 .skip
 (.exit 0))
 (.seq (.block 1 (sr [ob 11 (.iaddr 9 (tp 7) (tp 9)), ob 12 (.load 29 true 9 (tp 11)), ob 5 (.alloc 29 (.agg #[(.int .i64 0), (.int .i64 0), (.string ⟨#[]⟩), (.bool false), (.slice none 0 0), (.slice none 0 0), (.slice none 0 0), (.slice none 0 0), (.slice none 0 0)])), o0 (.store 29 9 (tp 5) (tp 12))]
 (.reg [mt 13 3, ob 14 (.load 29 true 9 (tp 5)), ob 15 (cl 15 [(tp 14)]), ob 16 (.mnx true (tp 13) (tp 15)), mt 3 16])))
 (.reg [ob 17 (bi .add 9 1), mt 9 17]))))
def r15_0 : PCode := (sr [mt 18 3, ob 19 (bi .add 18 1), mt 2 19]
 .ret)
/-- jobshell/syntax.Depth -/
def p15 : PFn := ⟨20, (sr [ob 1 (.box 29 (tp 0)), mk 2 (.int .i64 0)]
 (sr [mk 3 (.int .i64 0)]
 (.seq (sr [ob 6 (.load 29 true 9 (tp 1)), ob 7 (cl 27 [(tp 6)]), ob 8 (.len false (tp 7)), mk 9 (.int .i64 0)]
 (.block 0 (.loop b15_0))) r15_0))), [.tmp 2], false⟩
def b16_0 : PCode := (sr [ob 10 (bn .lss 3 9 8)]
 (.seq (.cond (tp 10)
 .skip
 (.exit 0))
 (.seq (.block 1 (sr [ob 11 (.iaddr 9 (tp 7) (tp 9)), ob 12 (.load 29 true 9 (tp 11)), ob 5 (.alloc 29 (.agg #[(.int .i64 0), (.int .i64 0), (.string ⟨#[]⟩), (.bool false), (.slice none 0 0), (.slice none 0 0), (.slice none 0 0), (.slice none 0 0), (.slice none 0 0)])), o0 (.store 29 9 (tp 5) (tp 12))]
 (.reg [mt 13 3, ob 14 (.load 29 true 9 (tp 5)), ob 15 (cl 16 [(tp 14)]), ob 16 (bn .add 3 13 15), mt 3 16])))
 (.reg [ob 17 (bi .add 9 1), mt 9 17]))))
def r16_0 : PCode := (sr [mt 18 3, mt 2 18]
 .ret)
/-- jobshell/syntax.Size -/
def p16 : PFn := ⟨19, (sr [ob 1 (.box 29 (tp 0)), mk 2 (.int .i64 0)]
 (sr [mk 3 (.int .i64 1)]
 (.seq (sr [ob 6 (.load 29 true 9 (tp 1)), ob 7 (cl 27 [(tp 6)]), ob 8 (.len false (tp 7)), mk 9 (.int .i64 0)]
 (.block 0 (.loop b16_0))) r16_0))), [.tmp 2], false⟩
/-- jobshell/syntax.preorder -/
def p17 : PFn := ⟨10, (sr [ob 1 (.box 29 (tp 0)), mk 2 (.slice none 0 0)]
 (sr [ob 3 (.alloc 26 (.slice none 0 0))]
 (sr [ob 4 (.alloc 52 .nilFunc)]
 (sr [ob 5 (.mkfn 28 [] [(tp 3), (tp 4)]), o0 (.store 52 1 (tp 4) (tp 5))]
 (sr [ob 6 (.load 52 false 1 (tp 4)), ob 7 (.load 29 true 9 (tp 1)), ob 8 (.call (tp 6) [(tp 7)])]
 (sr [ob 9 (.load 26 false 1 (tp 3)), mt 2 9]
 .ret)))))), [.tmp 2], true⟩
/-- jobshell/syntax.formed -/
def p18 : PFn := ⟨98, (sr [ob 1 (.box 29 (tp 0)), mk 2 (.bool false)]
 (sr [ob 4 (.faddr 0 (tp 1)), ob 5 (.load 3 false 1 (tp 4)), ob 6 (bi .eql 5 13), mt 7 6, og 7 false 8 (.faddr 0 (tp 1)), og 7 false 9 (.load 3 false 1 (tp 8)), og 7 false 10 (bi .eql 9 15), ob 11 (po 7 10), mt 3 11]
 (.seq (iff [mt 12 3, ob 13 (.faddr 2 (tp 1)), ob 14 (.load 9 false 1 (tp 13)), ob 15 (.bin .neq 9 (tp 14) (ks #[])), ob 16 (bn .neq 4 12 15), mt 17 16, gt 17 false 18 3, gt 17 false 19 18, og 19 true 20 (.faddr 2 (tp 1)), og 19 true 21 (.load 9 false 1 (tp 20)), og 19 true 22 (cl 29 [(tp 21)]), og 19 true 23 (.un .not (tp 22)), og 17 false 24 (pk 19 23), ob 25 (po 17 24)] 25
 (sr [mk 2 (.bool false)]
 .ret)
 .skip)
 (.seq (iff [ob 26 (.faddr 3 (tp 1)), ob 27 (.load 4 false 1 (tp 26)), mt 28 27, og 28 true 29 (.faddr 0 (tp 1)), og 28 true 30 (.load 3 false 1 (tp 29)), og 28 true 31 (bi .neq 30 13), gt 28 true 32 31, og 32 false 33 (.faddr 5 (tp 1)), og 32 false 34 (.load 24 false 1 (tp 33)), og 32 false 35 (.len false (tp 34)), og 32 false 36 (bi .gtr 35 0), og 28 true 37 (po 32 36), ob 38 (pk 28 37)] 38
 (sr [mk 2 (.bool false)]
 .ret)
 .skip)
 (.seq (iff [ob 39 (.faddr 4 (tp 1)), ob 40 (.load 23 false 1 (tp 39)), ob 41 (.len false (tp 40)), ob 42 (bi .gtr 41 0), mt 43 42, og 43 true 44 (.faddr 0 (tp 1)), og 43 true 45 (.load 3 false 1 (tp 44)), og 43 true 46 (bi .neq 45 1), ob 47 (pk 43 46), mt 48 47, og 48 false 49 (.faddr 8 (tp 1)), og 48 false 50 (.load 27 false 1 (tp 49)), og 48 false 51 (.len false (tp 50)), og 48 false 52 (bi .gtr 51 0), gt 48 false 53 52, og 53 true 54 (.faddr 0 (tp 1)), og 53 true 55 (.load 3 false 1 (tp 54)), og 53 true 56 (bi .neq 55 14), og 48 false 57 (pk 53 56), ob 58 (po 48 57)] 58
 (sr [mk 2 (.bool false)]
 .ret)
 .skip)
 (.seq (iff [ob 59 (.faddr 5 (tp 1)), ob 60 (.load 24 false 1 (tp 59)), ob 61 (.len false (tp 60)), ob 62 (bi .gtr 61 0), mt 63 62, og 63 true 64 (.faddr 0 (tp 1)), og 63 true 65 (.load 3 false 1 (tp 64)), og 63 true 66 (bi .neq 65 1), ob 67 (pk 63 66), mt 68 67, og 68 true 69 (.faddr 0 (tp 1)), og 68 true 70 (.load 3 false 1 (tp 69)), og 68 true 71 (bi .neq 70 13), ob 72 (pk 68 71), mt 73 72, og 73 true 74 (.faddr 0 (tp 1)), og 73 true 75 (.load 3 false 1 (tp 74)), og 73 true 76 (bi .neq 75 14), ob 77 (pk 73 76)] 77
 (sr [mk 2 (.bool false)]
 .ret)
 .skip)
 (.seq (iff [ob 78 (.faddr 6 (tp 1)), ob 79 (.load 25 false 1 (tp 78)), ob 80 (.len false (tp 79)), ob 81 (bi .gtr 80 0), mt 82 81, og 82 true 83 (.faddr 0 (tp 1)), og 82 true 84 (.load 3 false 1 (tp 83)), og 82 true 85 (bi .neq 84 1), ob 86 (pk 82 85), mt 87 86, og 87 true 88 (.load 29 true 9 (tp 1)), og 87 true 89 (cl 30 [(tp 88)]), og 87 true 90 (.un .not (tp 89)), ob 91 (pk 87 90)] 91
 (sr [mk 2 (.bool false)]
 .ret)
 .skip)
 (sr [ob 92 (.load 29 true 9 (tp 1)), ob 93 (cl 31 [(tp 92)]), mt 94 93, og 94 true 95 (.load 29 true 9 (tp 1)), og 94 true 96 (cl 32 [(tp 95)]), ob 97 (pk 94 96), mt 2 97]
 .ret)))))))), [.tmp 2], false⟩
def b19_0 : PCode := (sr [ob 15 (bn .lss 3 14 13)]
 (.seq (.cond (tp 15)
 .skip
 (.exit 0))
 (.seq (.block 1 (sr [ob 16 (.iaddr 4 (tp 12) (tp 14)), ob 17 (.load 68 true 4 (tp 16)), ob 6 (.alloc 68 (.agg #[(.int .i64 0), (.string ⟨#[]⟩), (.int .i64 0), (.slice none 0 0)])), o0 (.store 68 4 (tp 6) (tp 17))]
 (.seq (.draw [(mt 18 0, [0], []), (mt 19 4, [4], [0]), (ob 20 (.faddr 1 (tp 6)), [6], [1, 0]), (ob 21 (.load 9 false 1 (tp 20)), [20], [1, 0]), (ob 22 (.faddr 2 (tp 6)), [6], [3, 2, 1, 0]), (ob 23 (.load 40 true 2 (tp 22)), [22], [3, 2, 1, 0]), (ob 24 (cl 33 [(tp 23)]), [23], [3, 2, 1, 0]), (ob 25 (.bslice 9 4 [(.string ⟨#[]⟩), (.string ⟨#[]⟩), (.string ⟨#[]⟩), (.string ⟨#[]⟩)] [(0, 1, (tp 19)), (1, 1, (tp 21)), (2, 1, (ks #[61])), (3, 1, (tp 24))]), [19, 21, 24], [0]), (ob 26 (cl 21 [(tp 18), (tp 25)]), [18, 25], [])])
 (.reg [mk 4 (.string ⟨#[32]⟩)]))))
 (.reg [ob 27 (bi .add 14 1), mt 14 27]))))
def b19_1 : PCode := (sr [ob 32 (bn .lss 3 31 30)]
 (.seq (.cond (tp 32)
 .skip
 (.exit 2))
 (.seq (.block 3 (sr [ob 33 (.iaddr 2 (tp 29) (tp 31)), ob 34 (.load 40 true 2 (tp 33)), ob 8 (.alloc 40 (.agg #[(.int .i64 0), (.slice none 0 0)])), o0 (.store 40 2 (tp 8) (tp 34))]
 (sr [mt 35 0, mt 36 4, ob 37 (.load 40 true 2 (tp 8)), ob 38 (cl 33 [(tp 37)]), ob 39 (.bslice 9 2 [(.string ⟨#[]⟩), (.string ⟨#[]⟩)] [(0, 1, (tp 36)), (1, 1, (tp 38))]), ob 40 (cl 21 [(tp 35), (tp 39)])]
 (.reg [mk 4 (.string ⟨#[32]⟩)]))))
 (.reg [ob 41 (bi .add 31 1), mt 31 41]))))
def b19_2 : PCode := (sr [ob 46 (bn .lss 3 45 44)]
 (.seq (.cond (tp 46)
 .skip
 (.exit 4))
 (.seq (.block 5 (sr [ob 47 (.iaddr 5 (tp 43) (tp 45)), ob 48 (.load 42 true 5 (tp 47)), ob 10 (.alloc 42 (.agg #[(.int .i64 0), (.int .i64 0), (.int .i64 0), (.int .i64 0), (.slice none 0 0)])), o0 (.store 42 5 (tp 10) (tp 48))]
 (sr [mt 49 0, mt 50 4, ob 51 (.bslice 9 1 [(.string ⟨#[]⟩)] [(0, 1, (tp 50))]), ob 52 (cl 21 [(tp 49), (tp 51)])]
 (sr [mt 53 0, ob 54 (.load 42 true 5 (tp 10)), ob 55 (cl 24 [(tp 53), (tp 54)])]
 (.reg [mk 4 (.string ⟨#[32]⟩)])))))
 (.reg [ob 56 (bi .add 45 1), mt 45 56]))))
def r19_0 : PCode := (sr [ob 42 (.faddr 6 (tp 3)), ob 43 (.load 25 false 1 (tp 42)), ob 44 (.len false (tp 43)), mk 45 (.int .i64 0)]
 (.block 4 (.loop b19_2)))
def r19_1 : PCode := (.seq (sr [ob 28 (.faddr 5 (tp 3)), ob 29 (.load 24 false 1 (tp 28)), ob 30 (.len false (tp 29)), mk 31 (.int .i64 0)]
 (.block 2 (.loop b19_1))) r19_0)
/-- (*jobshell/print.writer).simple -/
def p19 : PFn := ⟨57, (sr [ob 3 (.box 29 (tp 1))]
 (sr [mk 4 (.string ⟨#[]⟩)]
 (.seq (sr [ob 11 (.faddr 4 (tp 3)), ob 12 (.load 23 false 1 (tp 11)), ob 13 (.len false (tp 12)), mk 14 (.int .i64 0)]
 (.block 0 (.loop b19_0))) r19_1))), [], true⟩
def b21_0 : PCode := (sr [ob 9 (bn .lss 3 8 7)]
 (.seq (.cond (tp 9)
 .skip
 (.exit 0))
 (.seq (.block 1 (sr [ob 10 (.iaddr 1 (tp 6) (tp 8)), ob 11 (.load 9 false 1 (tp 10)), mt 5 11]
 (.reg [mt 12 0, ob 13 (.nck (tp 12)), ob 14 (.faddr 0 (tp 13)), mt 15 5, ob 16 (cl 34 [(tp 14), (tp 15)])])))
 (.reg [ob 17 (bi .add 8 1), mt 8 17]))))
/-- (*jobshell/print.writer).text -/
def p21 : PFn := ⟨18, (sr [mt 6 1, ob 7 (.len false (tp 6)), mk 8 (.int .i64 0)]
 (.block 0 (.loop b21_0))), [], true⟩
/-- (*strings.Builder).Len -/
def p25 : PFn := ⟨8, (sr [mk 2 (.int .i64 0)]
 (sr [mt 3 0, ob 4 (.nck (tp 3)), ob 5 (.faddr 1 (tp 4)), ob 6 (.load 46 false 1 (tp 5)), ob 7 (.len false (tp 6)), mt 2 7]
 .ret)), [.tmp 2], false⟩
def b27_0 : PCode := (sr [ob 19 (bn .lss 3 18 17)]
 (.seq (.cond (tp 19)
 .skip
 (.exit 0))
 (.seq (.block 1 (sr [ob 20 (.iaddr 2 (tp 16) (tp 18)), ob 21 (.load 80 true 2 (tp 20)), ob 5 (.alloc 80 (.agg #[(.slice none 0 0), (.slice none 0 0)])), o0 (.store 80 2 (tp 5) (tp 21))]
 (.reg [mt 22 3, ob 23 (.faddr 1 (tp 5)), ob 24 (.load 26 false 1 (tp 23)), ob 25 (.app 29 9 160 (tp 22) (tp 24)), mt 3 25])))
 (.reg [ob 26 (bi .add 18 1), mt 18 26]))))
def r27_0 : PCode := (sr [mt 27 3, mt 2 27]
 .ret)
/-- jobshell/syntax.children -/
def p27 : PFn := ⟨28, (sr [ob 1 (.box 29 (tp 0)), mk 2 (.slice none 0 0)]
 (sr [ob 6 (.faddr 7 (tp 1)), ob 7 (.load 26 false 1 (tp 6)), ob 8 (.faddr 7 (tp 1)), ob 9 (.load 26 false 1 (tp 8)), ob 10 (.len false (tp 9)), ob 11 (.faddr 7 (tp 1)), ob 12 (.load 26 false 1 (tp 11)), ob 13 (.len false (tp 12)), ob 14 (.slc3 29 9 (tp 7) (tp 10) (tp 13)), mt 3 14]
 (.seq (sr [ob 15 (.faddr 8 (tp 1)), ob 16 (.load 27 false 1 (tp 15)), ob 17 (.len false (tp 16)), mk 18 (.int .i64 0)]
 (.block 0 (.loop b27_0))) r27_0))), [.tmp 2], false⟩
def b28_0 : PCode := (sr [ob 16 (bn .lss 3 15 14)]
 (.seq (.cond (tp 16)
 .skip
 (.exit 0))
 (.seq (.block 1 (sr [ob 17 (.iaddr 9 (tp 13) (tp 15)), ob 18 (.load 29 true 9 (tp 17)), ob 5 (.alloc 29 (.agg #[(.int .i64 0), (.int .i64 0), (.string ⟨#[]⟩), (.bool false), (.slice none 0 0), (.slice none 0 0), (.slice none 0 0), (.slice none 0 0), (.slice none 0 0)])), o0 (.store 29 9 (tp 5) (tp 18))]
 (.reg [ob 19 (.load 52 false 1 (tp 2)), ob 20 (.load 29 true 9 (tp 5)), ob 21 (.call (tp 19) [(tp 20)])])))
 (.reg [ob 22 (bi .add 15 1), mt 15 22]))))
/-- jobshell/syntax.preorder$1 -/
def p28 : PFn := ⟨23, (sr [ob 3 (.box 29 (tp 0))]
 (.seq (.draw [(ob 6 (.load 26 false 1 (tp 1)), [1], []), (ob 7 (.load 29 true 9 (tp 3)), [3], [0]), (ob 8 (.len false (tp 6)), [6], [1]), (ob 9 (.bslice 29 1 [(.int .i64 0), (.int .i64 0), (.string ⟨#[]⟩), (.bool false), (.slice none 0 0), (.slice none 0 0), (.slice none 0 0), (.slice none 0 0), (.slice none 0 0)] [(0, 9, (.const (.agg #[(.int .i64 0), (.int .i64 0), (.string ⟨#[]⟩), (.bool false), (.slice none 0 0), (.slice none 0 0), (.slice none 0 0), (.slice none 0 0), (.slice none 0 0)])))]), [], [2, 1, 0]), (ob 10 (.app 29 9 160 (tp 6) (tp 9)), [6, 9], []), (ob 11 (.iaddr 9 (tp 10) (tp 8)), [10, 8], []), (o0 (.store 29 9 (tp 11) (tp 7)), [11, 7], []), (o0 (.store 26 1 (tp 1) (tp 10)), [1, 10], [6, 5])])
 (sr [ob 12 (.load 29 true 9 (tp 3)), ob 13 (cl 27 [(tp 12)]), ob 14 (.len false (tp 13)), mk 15 (.int .i64 0)]
 (.block 0 (.loop b28_0))))), [], true⟩
def b31_0 : PCode := (sr [ob 79 (bn .lss 3 78 77)]
 (.seq (.cond (tp 79)
 .skip
 (.exit 1))
 (.seq (.block 2 (sr [ob 80 (.iaddr 2 (tp 76) (tp 78)), ob 81 (.load 80 true 2 (tp 80)), ob 4 (.alloc 80 (.agg #[(.slice none 0 0), (.slice none 0 0)])), o0 (.store 80 2 (tp 4) (tp 81))]
 (iff [ob 82 (.faddr 0 (tp 4)), ob 83 (.load 24 false 1 (tp 82)), ob 84 (.len false (tp 83)), ob 85 (bi .eql 84 0), mt 86 85, og 86 false 87 (.faddr 1 (tp 4)), og 86 false 88 (.load 26 false 1 (tp 87)), og 86 false 89 (cl 44 [(tp 88), (ki 0), (ki 1), (.func 50)]), og 86 false 90 (.un .not (tp 89)), ob 91 (po 86 90)] 91
 (sr [mk 2 (.bool false)]
 .ret)
 .skip)))
 (.reg [ob 92 (bi .add 78 1), mt 78 92]))))
def r31_0 : PCode := (sr [ob 93 (.faddr 7 (tp 1)), ob 94 (.load 26 false 1 (tp 93)), ob 95 (.len false (tp 94)), ob 96 (bi .eql 95 0), mt 97 96, og 97 true 98 (.faddr 5 (tp 1)), og 97 true 99 (.load 24 false 1 (tp 98)), og 97 true 100 (.len false (tp 99)), og 97 true 101 (bi .eql 100 1), ob 102 (pk 97 101), mt 2 102]
 .ret)
/-- jobshell/syntax.family -/
def p31 : PFn := ⟨103, (sr [ob 1 (.box 29 (tp 0)), mk 2 (.bool false)]
 (.seq (sr [ob 5 (.faddr 0 (tp 1)), ob 6 (.load 3 false 1 (tp 5))]
 (.block 0 (iff [ob 8 (bi .eql 6 1), mt 7 8] 7
 (sr [ob 9 (.faddr 7 (tp 1)), ob 10 (.load 26 false 1 (tp 9)), ob 11 (.len false (tp 10)), ob 12 (bi .eql 11 0), mt 13 12, og 13 true 14 (.load 29 true 9 (tp 1)), og 13 true 15 (cl 43 [(tp 14)]), ob 16 (pk 13 15), mt 2 16]
 .ret)
 (iff [ob 18 (bi .eql 6 2), mt 17 18] 17
 (sr [ob 19 (.faddr 7 (tp 1)), ob 20 (.load 26 false 1 (tp 19)), ob 21 (cl 44 [(tp 20), (ki 2), (ki 2048), (.func 45)]), mt 2 21]
 .ret)
 (iff [ob 23 (bi .eql 6 3), mt 22 23] 22
 (sr [ob 24 (.faddr 7 (tp 1)), ob 25 (.load 26 false 1 (tp 24)), ob 26 (cl 44 [(tp 25), (ki 1), (ki 1), (.func 46)]), mt 2 26]
 .ret)
 (.seq (iff [ob 28 (bi .eql 6 4), mt 27 28] 27
 .skip
 (.reg [ob 29 (bi .eql 6 5), mt 27 29]))
 (.cond (tp 27)
 (sr [ob 30 (.faddr 7 (tp 1)), ob 31 (.load 26 false 1 (tp 30)), ob 32 (cl 44 [(tp 31), (ki 2), (ki 2), (.func 47)]), mt 33 32, og 33 true 34 (.faddr 7 (tp 1)), og 33 true 35 (.load 26 false 1 (tp 34)), og 33 true 36 (.iaddr 9 (tp 35) (ki 1)), og 33 true 37 (.load 29 true 9 (tp 36)), og 33 true 38 (cl 48 [(tp 37)]), ob 39 (pk 33 38), mt 2 39]
 .ret)
 (iff [ob 41 (bi .eql 6 7), mt 40 41] 40
 (sr [ob 42 (.faddr 7 (tp 1)), ob 43 (.load 26 false 1 (tp 42)), ob 44 (cl 44 [(tp 43), (ki 1), (ki 1), (.func 47)]), mt 2 44]
 .ret)
 (iff [ob 46 (bi .eql 6 6), mt 45 46] 45
 (sr [ob 47 (.faddr 7 (tp 1)), ob 48 (.load 26 false 1 (tp 47)), ob 49 (cl 44 [(tp 48), (ki 1), (ki 2048), (.func 49)]), mt 2 49]
 .ret)
 (.seq (iff [ob 51 (bi .eql 6 8), mt 50 51] 50
 .skip
 (iff [ob 52 (bi .eql 6 9), mt 50 52] 50
 .skip
 (.reg [ob 53 (bi .eql 6 13), mt 50 53])))
 (.cond (tp 50)
 (sr [ob 54 (.faddr 7 (tp 1)), ob 55 (.load 26 false 1 (tp 54)), ob 56 (cl 44 [(tp 55), (ki 1), (ki 1), (.func 50)]), mt 2 56]
 .ret)
 (iff [ob 58 (bi .eql 6 10), mt 57 58] 57
 (sr [ob 59 (.faddr 7 (tp 1)), ob 60 (.load 26 false 1 (tp 59)), ob 61 (cl 44 [(tp 60), (ki 2), (ki 3), (.func 50)]), mt 2 61]
 .ret)
 (.seq (iff [ob 63 (bi .eql 6 11), mt 62 63] 62
 .skip
 (.reg [ob 64 (bi .eql 6 12), mt 62 64]))
 (.cond (tp 62)
 (sr [ob 65 (.faddr 7 (tp 1)), ob 66 (.load 26 false 1 (tp 65)), ob 67 (cl 44 [(tp 66), (ki 2), (ki 2), (.func 50)]), mt 2 67]
 .ret)
 (iff [ob 69 (bi .eql 6 15), mt 68 69] 68
 (sr [ob 70 (.faddr 7 (tp 1)), ob 71 (.load 26 false 1 (tp 70)), ob 72 (cl 44 [(tp 71), (ki 1), (ki 1), (.func 30)]), mt 2 72]
 .ret)
 (iff [ob 74 (bi .eql 6 14), mt 73 74] 73
 (.seq (sr [ob 75 (.faddr 8 (tp 1)), ob 76 (.load 27 false 1 (tp 75)), ob 77 (.len false (tp 76)), mk 78 (.int .i64 0)]
 (.block 1 (.loop b31_0))) r31_0)
 .skip))))))))))))))))
 (sr [mk 2 (.bool false)]
 .ret))), [.tmp 2], false⟩
def b32_0 : PCode := (sr [ob 17 (bn .lss 3 16 15)]
 (.seq (.cond (tp 17)
 .skip
 (.exit 0))
 (.seq (.block 1 (sr [ob 18 (.iaddr 4 (tp 14) (tp 16)), ob 19 (.load 68 true 4 (tp 18)), ob 4 (.alloc 68 (.agg #[(.int .i64 0), (.string ⟨#[]⟩), (.int .i64 0), (.slice none 0 0)])), o0 (.store 68 4 (tp 4) (tp 19))]
 (iff [ob 20 (.faddr 1 (tp 4)), ob 21 (.load 9 false 1 (tp 20)), ob 22 (cl 29 [(tp 21)]), ob 23 (.un .not (tp 22)), mt 24 23, og 24 false 25 (.faddr 2 (tp 4)), og 24 false 26 (.faddr 1 (tp 25)), og 24 false 27 (.load 36 false 1 (tp 26)), og 24 false 28 (cl 51 [(tp 27)]), og 24 false 29 (.bin .neq 31 (tp 28) (ki 0)), ob 30 (po 24 29)] 30
 (sr [mk 2 (.bool false)]
 .ret)
 .skip)))
 (.reg [ob 31 (bi .add 16 1), mt 16 31]))))
def b32_1 : PCode := (sr [ob 36 (bn .lss 3 35 34)]
 (.seq (.cond (tp 36)
 .skip
 (.exit 2))
 (.seq (.block 3 (sr [ob 37 (.iaddr 2 (tp 33) (tp 35)), ob 38 (.load 40 true 2 (tp 37)), ob 6 (.alloc 40 (.agg #[(.int .i64 0), (.slice none 0 0)])), o0 (.store 40 2 (tp 6) (tp 38))]
 (iff [ob 39 (.load 40 true 2 (tp 6)), ob 40 (cl 52 [(tp 39)]), ob 41 (.un .not (tp 40))] 41
 (sr [mk 2 (.bool false)]
 .ret)
 .skip)))
 (.reg [ob 42 (bi .add 35 1), mt 35 42]))))
def b32_2 : PCode := (sr [ob 47 (bn .lss 3 46 45)]
 (.seq (.cond (tp 47)
 .skip
 (.exit 4))
 (.seq (.block 5 (sr [ob 48 (.iaddr 5 (tp 44) (tp 46)), ob 49 (.load 42 true 5 (tp 48)), ob 8 (.alloc 42 (.agg #[(.int .i64 0), (.int .i64 0), (.int .i64 0), (.int .i64 0), (.slice none 0 0)])), o0 (.store 42 5 (tp 8) (tp 49))]
 (iff [ob 50 (.load 42 true 5 (tp 8)), ob 51 (cl 53 [(tp 50)]), ob 52 (.un .not (tp 51))] 52
 (sr [mk 2 (.bool false)]
 .ret)
 .skip)))
 (.reg [ob 53 (bi .add 46 1), mt 46 53]))))
def b32_3 : PCode := (sr [ob 65 (bn .lss 3 64 63)]
 (.seq (.cond (tp 65)
 .skip
 (.exit 8))
 (.seq (.block 9 (sr [ob 66 (.iaddr 2 (tp 62) (tp 64)), ob 67 (.load 40 true 2 (tp 66)), ob 12 (.alloc 40 (.agg #[(.int .i64 0), (.slice none 0 0)])), o0 (.store 40 2 (tp 12) (tp 67))]
 (iff [ob 68 (.load 40 true 2 (tp 12)), ob 69 (cl 52 [(tp 68)]), ob 70 (.un .not (tp 69))] 70
 (sr [mk 2 (.bool false)]
 .ret)
 .skip)))
 (.reg [ob 71 (bi .add 64 1), mt 64 71]))))
def b32_4 : PCode := (sr [ob 58 (bn .lss 3 57 56)]
 (.seq (.cond (tp 58)
 .skip
 (.exit 6))
 (.seq (.block 7 (sr [ob 59 (.iaddr 2 (tp 55) (tp 57)), ob 60 (.load 80 true 2 (tp 59)), ob 10 (.alloc 80 (.agg #[(.slice none 0 0), (.slice none 0 0)])), o0 (.store 80 2 (tp 10) (tp 60))]
 (sr [ob 61 (.faddr 0 (tp 10)), ob 62 (.load 24 false 1 (tp 61)), ob 63 (.len false (tp 62)), mk 64 (.int .i64 0)]
 (.block 8 (.loop b32_3)))))
 (.reg [ob 72 (bi .add 57 1), mt 57 72]))))
def r32_0 : PCode := (sr [mk 2 (.bool true)]
 .ret)
def r32_1 : PCode := (.seq (sr [ob 54 (.faddr 8 (tp 1)), ob 55 (.load 27 false 1 (tp 54)), ob 56 (.len false (tp 55)), mk 57 (.int .i64 0)]
 (.block 6 (.loop b32_4))) r32_0)
def r32_2 : PCode := (.seq (sr [ob 43 (.faddr 6 (tp 1)), ob 44 (.load 25 false 1 (tp 43)), ob 45 (.len false (tp 44)), mk 46 (.int .i64 0)]
 (.block 4 (.loop b32_2))) r32_1)
def r32_3 : PCode := (.seq (sr [ob 32 (.faddr 5 (tp 1)), ob 33 (.load 24 false 1 (tp 32)), ob 34 (.len false (tp 33)), mk 35 (.int .i64 0)]
 (.block 2 (.loop b32_1))) r32_2)
/-- jobshell/syntax.texts -/
def p32 : PFn := ⟨73, (sr [ob 1 (.box 29 (tp 0)), mk 2 (.bool false)]
 (.seq (sr [ob 13 (.faddr 4 (tp 1)), ob 14 (.load 23 false 1 (tp 13)), ob 15 (.len false (tp 14)), mk 16 (.int .i64 0)]
 (.block 0 (.loop b32_0))) r32_3)), [.tmp 2], false⟩
/-- jobshell/print.word -/
def p33 : PFn := ⟨12, (sr [ob 1 (.box 40 (tp 0)), mk 2 (.string ⟨#[]⟩)]
 (sr [ob 6 (.faddr 1 (tp 1)), ob 7 (.load 36 false 1 (tp 6)), ob 8 (cl 54 [(tp 7)]), mt 5 8, ob 9 (.ext (tp 5) 0), ob 10 (.ext (tp 5) 1), mt 3 9, mt 4 10]
 (sr [mt 11 3, mt 2 11]
 .ret))), [.tmp 2], false⟩
/-- (*strings.Builder).WriteString -/
def p34 : PFn := ⟨19, (sr [mk 4 (.int .i64 0), mk 5 .nilIface]
 (sr [mt 6 0, ob 7 (cl 55 [(tp 6)])]
 (sr [mt 8 0, mt 9 0, ob 10 (.nck (tp 9)), ob 11 (.faddr 1 (tp 10)), ob 12 (.load 46 false 1 (tp 11)), mt 13 1, ob 14 (.apps 5 (tp 12) (tp 13)), ob 15 (.nck (tp 8)), ob 16 (.faddr 1 (tp 15)), o0 (.store 46 1 (tp 16) (tp 14))]
 (sr [mt 17 1, ob 18 (.len true (tp 17)), mt 4 18, mk 5 .nilIface]
 .ret)))), [.tmp 4, .tmp 5], true⟩
/-- jobshell/syntax.begins -/
def p43 : PFn := ⟨39, (sr [ob 1 (.box 29 (tp 0)), mk 2 (.bool false)]
 (.seq (iff [ob 5 (.faddr 5 (tp 1)), ob 6 (.load 24 false 1 (tp 5)), ob 7 (.len false (tp 6)), ob 8 (bi .eql 7 0)] 8
 (sr [ob 9 (.faddr 4 (tp 1)), ob 10 (.load 23 false 1 (tp 9)), ob 11 (.len false (tp 10)), ob 12 (.faddr 6 (tp 1)), ob 13 (.load 25 false 1 (tp 12)), ob 14 (.len false (tp 13)), ob 15 (bn .add 3 11 14), ob 16 (bi .gtr 15 0), mt 2 16]
 .ret)
 .skip)
 (sr [ob 18 (.faddr 5 (tp 1)), ob 19 (.load 24 false 1 (tp 18)), ob 20 (.iaddr 2 (tp 19) (ki 0)), ob 21 (.load 40 true 2 (tp 20)), ob 22 (cl 60 [(tp 21)]), mt 17 22, ob 23 (.ext (tp 17) 0), ob 24 (.ext (tp 17) 1), mt 3 23, mt 4 24]
 (sr [mt 25 4, mt 26 25, gt 26 true 27 3, og 26 true 28 (cl 61 [(tp 27)]), ob 29 (pk 26 28), ob 30 (.un .not (tp 29)), mt 31 30, og 31 true 32 (.faddr 5 (tp 1)), og 31 true 33 (.load 24 false 1 (tp 32)), og 31 true 34 (.iaddr 2 (tp 33) (ki 0)), og 31 true 35 (.load 40 true 2 (tp 34)), og 31 true 36 (cl 62 [(tp 35)]), og 31 true 37 (.un .not (tp 36)), ob 38 (pk 31 37), mt 2 38]
 .ret)))), [.tmp 2], false⟩
/-- jobshell/syntax.word -/
def p52 : PFn := ⟨24, (sr [ob 1 (.box 40 (tp 0)), mk 2 (.bool false)]
 (sr [ob 6 (.faddr 1 (tp 1)), ob 7 (.load 36 false 1 (tp 6)), ob 8 (cl 54 [(tp 7)]), mt 5 8, ob 9 (.ext (tp 5) 0), ob 10 (.ext (tp 5) 1), mt 3 9, mt 4 10]
 (sr [mt 11 4, ob 12 (.bin .eql 31 (tp 11) (ki 0)), mt 13 12, og 13 true 14 (.faddr 1 (tp 1)), og 13 true 15 (.load 36 false 1 (tp 14)), og 13 true 16 (.len false (tp 15)), og 13 true 17 (bi .gtr 16 0), ob 18 (pk 13 17), mt 19 18, gt 19 true 20 3, og 19 true 21 (cl 64 [(tp 20), (ks #[35])]), og 19 true 22 (.un .not (tp 21)), ob 23 (pk 19 22), mt 2 23]
 .ret))), [.tmp 2], false⟩
/-- jobshell/words.Show -/
def p54 : PFn := ⟨14, (sr [mk 2 (.string ⟨#[]⟩), mk 3 (.int .i64 0)]
 (sr [mt 7 0, ob 8 (cl 63 [(tp 7)]), mt 6 8, ob 9 (.ext (tp 6) 0), ob 10 (.ext (tp 6) 1), mt 4 9, mt 5 10]
 (.seq (iff [mt 11 5, ob 12 (.un .not (tp 11))] 12
 (sr [mk 2 (.string ⟨#[]⟩), mk 3 (.int .i64 1)]
 .ret)
 .skip)
 (sr [mt 13 4, mt 2 13, mk 3 (.int .i64 0)]
 .ret)))), [.tmp 2, .tmp 3], false⟩
/-- (*strings.Builder).copyCheck -/
def p55 : PFn := ⟨20, (iff [mt 2 0, ob 3 (.nck (tp 2)), ob 4 (.faddr 0 (tp 3)), ob 5 (.load 45 false 1 (tp 4)), ob 6 (.peq false 45 (tp 5) (.const (.pointer none)))] 6
 (.reg [mt 7 0, mt 8 0, ob 9 (.toU (tp 8)), ob 10 (.mv (tp 9)), ob 11 (.frU 48 1 (tp 10)), ob 12 (.nck (tp 7)), ob 13 (.faddr 0 (tp 12)), o0 (.store 45 1 (tp 13) (tp 11))])
 (iff [mt 14 0, ob 15 (.nck (tp 14)), ob 16 (.faddr 0 (tp 15)), ob 17 (.load 45 false 1 (tp 16)), mt 18 0, ob 19 (.peq true 45 (tp 17) (tp 18))] 19
 .bad
 .skip)), [], true⟩
/-- jobshell/syntax.literal -/
def p60 : PFn := ⟨21, (sr [ob 1 (.box 40 (tp 0)), mk 2 (.string ⟨#[]⟩), mk 3 (.bool false)]
 (.seq (iff [ob 4 (.faddr 1 (tp 1)), ob 5 (.load 36 false 1 (tp 4)), ob 6 (.len false (tp 5)), ob 7 (bi .eql 6 1), mt 8 7, og 8 true 9 (.faddr 1 (tp 1)), og 8 true 10 (.load 36 false 1 (tp 9)), og 8 true 11 (.iaddr 5 (tp 10) (ki 0)), og 8 true 12 (.faddr 0 (tp 11)), og 8 true 13 (.load 3 false 1 (tp 12)), og 8 true 14 (bi .eql 13 1), ob 15 (pk 8 14)] 15
 (sr [ob 16 (.faddr 1 (tp 1)), ob 17 (.load 36 false 1 (tp 16)), ob 18 (.iaddr 5 (tp 17) (ki 0)), ob 19 (.faddr 1 (tp 18)), ob 20 (.load 9 false 1 (tp 19)), mt 2 20, mk 3 (.bool true)]
 .ret)
 .skip)
 (sr [mk 2 (.string ⟨#[]⟩), mk 3 (.bool false)]
 .ret))), [.tmp 2, .tmp 3], false⟩
/-- jobshell/lexer.Reserved -/
def p61 : PFn := ⟨21, (sr [mk 2 (.bool false)]
 (.seq (sr [mt 3 0]
 (.block 0 (.seq (iff [ob 5 (.bin .eql 9 (tp 3) (ks #[33])), mt 4 5] 4
 .skip
 (iff [ob 6 (.bin .eql 9 (tp 3) (ks #[123])), mt 4 6] 4
 .skip
 (iff [ob 7 (.bin .eql 9 (tp 3) (ks #[125])), mt 4 7] 4
 .skip
 (iff [ob 8 (.bin .eql 9 (tp 3) (ks #[99, 97, 115, 101])), mt 4 8] 4
 .skip
 (iff [ob 9 (.bin .eql 9 (tp 3) (ks #[100, 111])), mt 4 9] 4
 .skip
 (iff [ob 10 (.bin .eql 9 (tp 3) (ks #[100, 111, 110, 101])), mt 4 10] 4
 .skip
 (iff [ob 11 (.bin .eql 9 (tp 3) (ks #[101, 108, 105, 102])), mt 4 11] 4
 .skip
 (iff [ob 12 (.bin .eql 9 (tp 3) (ks #[101, 108, 115, 101])), mt 4 12] 4
 .skip
 (iff [ob 13 (.bin .eql 9 (tp 3) (ks #[101, 115, 97, 99])), mt 4 13] 4
 .skip
 (iff [ob 14 (.bin .eql 9 (tp 3) (ks #[102, 105])), mt 4 14] 4
 .skip
 (iff [ob 15 (.bin .eql 9 (tp 3) (ks #[102, 111, 114])), mt 4 15] 4
 .skip
 (iff [ob 16 (.bin .eql 9 (tp 3) (ks #[105, 102])), mt 4 16] 4
 .skip
 (iff [ob 17 (.bin .eql 9 (tp 3) (ks #[105, 110])), mt 4 17] 4
 .skip
 (iff [ob 18 (.bin .eql 9 (tp 3) (ks #[116, 104, 101, 110])), mt 4 18] 4
 .skip
 (iff [ob 19 (.bin .eql 9 (tp 3) (ks #[117, 110, 116, 105, 108])), mt 4 19] 4
 .skip
 (.reg [ob 20 (.bin .eql 9 (tp 3) (ks #[119, 104, 105, 108, 101])), mt 4 20]))))))))))))))))
 (.cond (tp 4)
 (sr [mk 2 (.bool true)]
 .ret)
 .skip))))
 (sr [mk 2 (.bool false)]
 .ret))), [.tmp 2], false⟩
/-- jobshell/syntax.assigns -/
def p62 : PFn := ⟨33, (sr [ob 1 (.box 40 (tp 0)), mk 2 (.bool false)]
 (.seq (iff [ob 6 (.faddr 1 (tp 1)), ob 7 (.load 36 false 1 (tp 6)), ob 8 (.len false (tp 7)), ob 9 (bi .eql 8 0), mt 10 9, og 10 false 11 (.faddr 1 (tp 1)), og 10 false 12 (.load 36 false 1 (tp 11)), og 10 false 13 (.iaddr 5 (tp 12) (ki 0)), og 10 false 14 (.faddr 0 (tp 13)), og 10 false 15 (.load 3 false 1 (tp 14)), og 10 false 16 (bi .neq 15 1), ob 17 (po 10 16)] 17
 (sr [mk 2 (.bool false)]
 .ret)
 .skip)
 (sr [ob 19 (.faddr 1 (tp 1)), ob 20 (.load 36 false 1 (tp 19)), ob 21 (.iaddr 5 (tp 20) (ki 0)), ob 22 (.faddr 1 (tp 21)), ob 23 (.load 9 false 1 (tp 22)), ob 24 (cl 73 [(tp 23), (ks #[61])]), mt 18 24, ob 25 (.ext (tp 18) 0), ob 26 (.ext (tp 18) 1), ob 27 (.ext (tp 18) 2), mt 3 25, mt 4 26, mt 5 27]
 (sr [mt 28 5, mt 29 28, gt 29 true 30 3, og 29 true 31 (cl 29 [(tp 30)]), ob 32 (pk 29 31), mt 2 32]
 .ret)))), [.tmp 2], false⟩
/-- jobshell/words.valid -/
def p63 : PFn := ⟨36, (sr [mk 2 (.string ⟨#[]⟩), mk 3 (.bool false)]
 (sr [ob 9 (.build [(.pointer none), (.slice none 0 0), (.bool false)] []), ob 10 (.box 109 (tp 9)), mt 4 10]
 (sr [mt 11 4, mt 12 0, ob 13 (cl 74 [(tp 11), (tp 12), (ki 0), (kb false)])]
 (.seq (iff [mt 14 4, ob 15 (.nck (tp 14)), ob 16 (.faddr 2 (tp 15)), ob 17 (.load 4 false 1 (tp 16))] 17
 (sr [mk 2 (.string ⟨#[]⟩), mk 3 (.bool false)]
 .ret)
 .skip)
 (sr [mt 18 4, ob 19 (.nck (tp 18)), ob 20 (.faddr 0 (tp 19)), ob 21 (cl 13 [(tp 20)]), mt 5 21]
 (sr [mt 23 5, ob 24 (cl 75 [(tp 23)]), mt 22 24, ob 25 (.ext (tp 22) 0), ob 26 (.ext (tp 22) 1), ob 27 (.ext (tp 22) 2), mt 6 25, mt 7 26, mt 8 27]
 (sr [mt 28 5, mt 29 8, ob 30 (.bin .eql 31 (tp 29) (ki 0)), mt 31 30, gt 31 true 32 0, gt 31 true 33 6, og 31 true 34 (cl 65 [(tp 32), (tp 33)]), ob 35 (pk 31 34), mt 2 28, mt 3 35]
 .ret))))))), [.tmp 2, .tmp 3], false⟩
/-- strings.HasPrefix -/
def p64 : PFn := ⟨8, (sr [mk 4 (.bool false)]
 (sr [mt 5 0, mt 6 1, ob 7 (cl 76 [(tp 5), (tp 6)]), mt 4 7]
 .ret)), [.tmp 4], false⟩
/-- jobshell/words.Same -/
def p65 : PFn := ⟨8, (sr [mk 4 (.bool false)]
 (sr [mt 5 0, mt 6 1, ob 7 (cl 77 [(tp 5), (tp 6), (.func 78)]), mt 4 7]
 .ret)), [.tmp 4], false⟩
/-- (*strings.Builder).WriteByte -/
def p70 : PFn := ⟨17, (sr [mk 4 .nilIface]
 (sr [mt 5 0, ob 6 (cl 55 [(tp 5)])]
 (sr [mt 7 0, mt 8 0, ob 9 (.nck (tp 8)), ob 10 (.faddr 1 (tp 9)), ob 11 (.load 46 false 1 (tp 10)), mt 12 1, ob 13 (.bslice 5 1 [(.int .u8 0)] [(0, 1, (tp 12))]), ob 14 (.app 5 1 1 (tp 11) (tp 13)), ob 15 (.nck (tp 7)), ob 16 (.faddr 1 (tp 15)), o0 (.store 46 1 (tp 16) (tp 14))]
 (sr [mk 4 .nilIface]
 .ret)))), [.tmp 4], true⟩
/-- strings.Cut -/
def p73 : PFn := ⟨13, (sr [mk 4 (.string ⟨#[]⟩), mk 5 (.string ⟨#[]⟩), mk 6 (.bool false)]
 (sr [mt 7 0, mt 8 1, ob 9 (cl 88 [(tp 7), (tp 8)]), ob 10 (.ext (tp 9) 0), ob 11 (.ext (tp 9) 1), ob 12 (.ext (tp 9) 2), mt 4 10, mt 5 11, mt 6 12]
 .ret)), [.tmp 4, .tmp 5, .tmp 6], false⟩
def b74_0 : PCode := (sr [ob 14 (bn .lss 3 13 12)]
 (.seq (.cond (tp 14)
 .skip
 (.exit 0))
 (.seq (.block 1 (sr [mt 15 13, ob 16 (.iaddr 5 (tp 11) (tp 13)), ob 17 (.load 38 true 5 (tp 16)), ob 9 (.alloc 38 (.agg #[(.int .i64 0), (.string ⟨#[]⟩), (.int .i64 0), (.bool false), (.slice none 0 0)])), mt 8 15, o0 (.store 38 5 (tp 9) (tp 17))]
 (sr [ob 18 (.faddr 0 (tp 9)), ob 19 (.load 3 false 1 (tp 18))]
 (.block 2 (iff [ob 24 (bi .eql 19 7), mt 23 24] 23
 (.reg [mt 25 0, ob 26 (.nck (tp 25)), ob 27 (.faddr 0 (tp 26)), ob 28 (cl 70 [(tp 27), (kc 126)])])
 (iff [ob 30 (bi .eql 19 1), mt 29 30] 29
 (.reg [mt 31 0, ob 32 (.faddr 1 (tp 9)), ob 33 (.load 9 false 1 (tp 32)), mt 34 2, mt 35 3, ob 36 (cl 89 [(tp 31), (tp 33), (tp 34), (tp 35)])])
 (iff [ob 38 (bi .eql 19 2), mt 37 38] 37
 (iff [ob 39 (.faddr 1 (tp 9)), ob 40 (.load 9 false 1 (tp 39)), ob 41 (.bin .eql 9 (tp 40) (ks #[39]))] 41
 (.reg [mt 42 0, ob 43 (.nck (tp 42)), ob 44 (.faddr 0 (tp 43)), ob 45 (cl 34 [(tp 44), (ks #[92, 39])])])
 (.draw [(mt 46 0, [0], []), (ob 47 (.nck (tp 46)), [46], []), (ob 48 (.faddr 0 (tp 47)), [47], []), (ob 49 (.faddr 1 (tp 9)), [9], [2, 1, 0]), (ob 50 (.load 9 false 1 (tp 49)), [49], [2, 1, 0]), (ob 51 (.bin .add 9 (ks #[39]) (tp 50)), [50], [2, 1, 0]), (ob 52 (.bin .add 9 (tp 51) (ks #[39])), [51], [2, 1, 0]), (ob 53 (cl 34 [(tp 48), (tp 52)]), [48, 52], [])]))
 (iff [ob 55 (bi .eql 19 3), mt 54 55] 54
 (sr [mt 56 0, ob 57 (.nck (tp 56)), ob 58 (.faddr 0 (tp 57)), ob 59 (cl 70 [(tp 58), (kc 34)])]
 (sr [mt 60 0, ob 61 (.faddr 4 (tp 9)), ob 62 (.load 36 false 1 (tp 61)), ob 63 (cl 74 [(tp 60), (tp 62), (ki 1), (kb false)])]
 (.reg [mt 64 0, ob 65 (.nck (tp 64)), ob 66 (.faddr 0 (tp 65)), ob 67 (cl 70 [(tp 66), (kc 34)])])))
 (iff [ob 69 (bi .eql 19 5), mt 68 69] 68
 (.draw [(mt 70 0, [0], []), (ob 71 (.nck (tp 70)), [70], []), (ob 72 (.faddr 0 (tp 71)), [71], []), (ob 73 (.faddr 1 (tp 9)), [9], [2, 1, 0]), (ob 74 (.load 9 false 1 (tp 73)), [73], [2, 1, 0]), (ob 75 (.bin .add 9 (ks #[36, 40]) (tp 74)), [74], [2, 1, 0]), (ob 76 (.bin .add 9 (tp 75) (ks #[41])), [75], [2, 1, 0]), (ob 77 (cl 34 [(tp 72), (tp 76)]), [72, 76], [])])
 (iff [ob 79 (bi .eql 19 6), mt 78 79] 78
 (sr [mt 80 0, ob 81 (.nck (tp 80)), ob 82 (.faddr 0 (tp 81)), ob 83 (cl 34 [(tp 82), (ks #[36, 40, 40])])]
 (sr [mt 84 0, ob 85 (.faddr 4 (tp 9)), ob 86 (.load 36 false 1 (tp 85)), ob 87 (cl 74 [(tp 84), (tp 86), (ki 2), (kb false)])]
 (.reg [mt 88 0, ob 89 (.nck (tp 88)), ob 90 (.faddr 0 (tp 89)), ob 91 (cl 34 [(tp 90), (ks #[41, 41])])])))
 (iff [ob 93 (bi .eql 19 4), mt 92 93] 92
 (sr [mk 10 (.int .u8 0)]
 (.seq (iff [mt 94 8, ob 95 (bi .add 94 1), mt 96 1, ob 97 (.len false (tp 96)), ob 98 (bn .lss 3 95 97), mt 99 98, gt 99 true 100 1, gt 99 true 101 8, og 99 true 102 (bi .add 101 1), og 99 true 103 (.iaddr 5 (tp 100) (tp 102)), og 99 true 104 (.faddr 0 (tp 103)), og 99 true 105 (.load 3 false 1 (tp 104)), og 99 true 106 (bi .eql 105 1), ob 107 (pk 99 106), mt 108 107, gt 108 true 109 1, gt 108 true 110 8, og 108 true 111 (bi .add 110 1), og 108 true 112 (.iaddr 5 (tp 109) (tp 111)), og 108 true 113 (.faddr 1 (tp 112)), og 108 true 114 (.load 9 false 1 (tp 113)), og 108 true 115 (.bin .neq 9 (tp 114) (ks #[])), ob 116 (pk 108 115)] 116
 (.reg [mt 117 1, mt 118 8, ob 119 (bi .add 118 1), ob 120 (.iaddr 5 (tp 117) (tp 119)), ob 121 (.faddr 1 (tp 120)), ob 122 (.load 9 false 1 (tp 121)), ob 123 (.sidx (tp 122) (ki 0)), mt 10 123])
 .skip)
 (.reg [mt 124 0, ob 125 (.load 38 true 5 (tp 9)), mt 126 2, mt 127 10, ob 128 (cl 90 [(tp 124), (tp 125), (tp 126), (tp 127)])])))
 (.reg [mt 20 0, ob 21 (.nck (tp 20)), ob 22 (.faddr 2 (tp 21)), o0 (.store 4 1 (tp 22) (kb true))]))))))))))))
 (.reg [ob 129 (bi .add 13 1), mt 13 129]))))
/-- (*jobshell/words.writer).parts -/
def p74 : PFn := ⟨130, (sr [mt 11 1, ob 12 (.len false (tp 11)), mk 13 (.int .i64 0)]
 (.block 0 (.loop b74_0))), [], true⟩
/-- jobshell/words.Parse -/
def p75 : PFn := ⟨10, (sr [mk 2 (.slice none 0 0), mk 3 (.int .i64 0), mk 4 (.int .i64 0)]
 (sr [mt 5 0, ob 6 (cl 80 [(tp 5), (ki 0)]), ob 7 (.ext (tp 6) 0), ob 8 (.ext (tp 6) 1), ob 9 (.ext (tp 6) 2), mt 2 7, mt 3 8, mt 4 9]
 .ret)), [.tmp 2, .tmp 3, .tmp 4], false⟩
/-- internal/stringslite.HasPrefix -/
def p76 : PFn := ⟨18, (sr [mk 4 (.bool false)]
 (sr [mt 5 0, ob 6 (.len true (tp 5)), mt 7 1, ob 8 (.len true (tp 7)), ob 9 (bn .geq 3 6 8), mt 10 9, gt 10 true 11 0, gt 10 true 12 1, og 10 true 13 (.len true (tp 12)), og 10 true 14 (.sslc (tp 11) none (some (tp 13))), gt 10 true 15 1, og 10 true 16 (bn .eql 9 14 15), ob 17 (pk 10 16), mt 4 17]
 .ret)), [.tmp 4], false⟩
def b77_0 : PCode := (sr [ob 18 (bn .lss 3 17 16)]
 (.seq (.cond (tp 18)
 .skip
 (.exit 0))
 (.seq (.block 1 (sr [mt 19 17, ob 20 (.iaddr 5 (tp 15) (tp 17)), ob 21 (.load 38 true 5 (tp 20)), ob 8 (.alloc 38 (.agg #[(.int .i64 0), (.string ⟨#[]⟩), (.int .i64 0), (.bool false), (.slice none 0 0)])), mt 7 19, o0 (.store 38 5 (tp 8) (tp 21))]
 (sr [mt 22 1, mt 23 7, ob 24 (.iaddr 5 (tp 22) (tp 23)), ob 25 (.load 38 true 5 (tp 24)), ob 9 (.alloc 38 (.agg #[(.int .i64 0), (.string ⟨#[]⟩), (.int .i64 0), (.bool false), (.slice none 0 0)])), o0 (.store 38 5 (tp 9) (tp 25))]
 (iff [mt 26 2, ob 27 (.load 38 true 5 (tp 8)), ob 28 (.load 38 true 5 (tp 9)), ob 29 (.call (tp 26) [(tp 27), (tp 28)]), ob 30 (.un .not (tp 29))] 30
 (sr [mk 6 (.bool false)]
 .ret)
 .skip))))
 (.reg [ob 31 (bi .add 17 1), mt 17 31]))))
def r77_0 : PCode := (sr [mk 6 (.bool true)]
 .ret)
/-- slices.EqualFunc[[]jobshell/api.Part,[]jobshell/api.Part,jobshell/api.Part,jobshell/api.Part] -/
def p77 : PFn := ⟨32, (sr [mk 6 (.bool false)]
 (.seq (iff [mt 10 0, ob 11 (.len false (tp 10)), mt 12 1, ob 13 (.len false (tp 12)), ob 14 (bn .neq 3 11 13)] 14
 (sr [mk 6 (.bool false)]
 .ret)
 .skip)
 (.seq (sr [mt 15 0, ob 16 (.len false (tp 15)), mk 17 (.int .i64 0)]
 (.block 0 (.loop b77_0))) r77_0))), [.tmp 6], false⟩
/-- jobshell/words.Same$1 -/
def p78 : PFn := ⟨38, (sr [ob 2 (.box 38 (tp 0)), ob 3 (.box 38 (tp 1)), mk 4 (.bool false)]
 (sr [ob 5 (.faddr 0 (tp 2)), ob 6 (.load 3 false 1 (tp 5)), ob 7 (.faddr 0 (tp 3)), ob 8 (.load 3 false 1 (tp 7)), ob 9 (bn .eql 3 6 8), mt 10 9, og 10 true 11 (.faddr 1 (tp 2)), og 10 true 12 (.load 9 false 1 (tp 11)), og 10 true 13 (.faddr 1 (tp 3)), og 10 true 14 (.load 9 false 1 (tp 13)), og 10 true 15 (bn .eql 9 12 14), ob 16 (pk 10 15), mt 17 16, og 17 true 18 (.faddr 2 (tp 2)), og 17 true 19 (.load 3 false 1 (tp 18)), og 17 true 20 (.faddr 2 (tp 3)), og 17 true 21 (.load 3 false 1 (tp 20)), og 17 true 22 (bn .eql 3 19 21), ob 23 (pk 17 22), mt 24 23, og 24 true 25 (.faddr 3 (tp 2)), og 24 true 26 (.load 4 false 1 (tp 25)), og 24 true 27 (.faddr 3 (tp 3)), og 24 true 28 (.load 4 false 1 (tp 27)), og 24 true 29 (bn .eql 4 26 28), ob 30 (pk 24 29), mt 31 30, og 31 true 32 (.faddr 4 (tp 2)), og 31 true 33 (.load 36 false 1 (tp 32)), og 31 true 34 (.faddr 4 (tp 3)), og 31 true 35 (.load 36 false 1 (tp 34)), og 31 true 36 (cl 65 [(tp 33), (tp 35)]), ob 37 (pk 31 36), mt 4 37]
 .ret)), [.tmp 4], false⟩
/-- internal/stringslite.Cut -/
def p88 : PFn := ⟨23, (sr [mk 4 (.string ⟨#[]⟩), mk 5 (.string ⟨#[]⟩), mk 6 (.bool false)]
 (.seq (sr [mt 8 0, mt 9 1, ob 10 (cl 108 [(tp 8), (tp 9)]), mt 7 10]
 (iff [mt 11 7, ob 12 (bi .geq 11 0)] 12
 (.seq (.draw [(mt 13 0, [0], []), (mt 14 7, [7], [0]), (ob 15 (.sslc (tp 13) none (some (tp 14))), [13, 14], []), (mt 16 0, [0], [2, 1, 0]), (mt 17 7, [7], [3, 2, 1, 0]), (mt 18 1, [1], [4, 3, 2, 1, 0]), (ob 19 (.len true (tp 18)), [18], [4, 3, 2, 1, 0]), (ob 20 (bn .add 3 17 19), [17, 19], [3, 2, 1, 0]), (ob 21 (.sslc (tp 16) (some (tp 20)) none), [16, 20], [2, 1, 0]), (mt 4 15, [15], [8, 7, 6, 5, 4, 3]), (mt 5 21, [21], []), (mk 6 (.bool true), [], [])])
 .ret)
 .skip))
 (sr [mt 22 0, mt 4 22, mk 5 (.string ⟨#[]⟩), mk 6 (.bool false)]
 .ret))), [.tmp 4, .tmp 5, .tmp 6], false⟩
def b89_0 : PCode := (.seq (iff [mt 9 8, mt 10 1, ob 11 (.len true (tp 10)), ob 12 (bn .lss 3 9 11)] 12
 .skip
 (.exit 0))
 (.seq (.block 1 (.seq (iff [mt 15 2, mt 16 1, mt 17 8, ob 18 (.sidx (tp 16) (tp 17)), mt 19 3, ob 20 (cl 109 [(tp 15), (tp 18), (tp 19)])] 20
 (.reg [mt 21 0, ob 22 (.nck (tp 21)), ob 23 (.faddr 0 (tp 22)), ob 24 (cl 70 [(tp 23), (kc 92)])])
 .skip)
 (.draw [(mt 25 0, [0], []), (ob 26 (.nck (tp 25)), [25], []), (ob 27 (.faddr 0 (tp 26)), [26], []), (mt 28 1, [1], [2, 1, 0]), (mt 29 8, [8], [3, 2, 1, 0]), (ob 30 (.sidx (tp 28) (tp 29)), [28, 29], [2, 1, 0]), (ob 31 (cl 70 [(tp 27), (tp 30)]), [27, 30], [])])))
 (.reg [mt 13 8, ob 14 (bi .add 13 1), mt 8 14])))
/-- (*jobshell/words.writer).text -/
def p89 : PFn := ⟨32, (sr [mk 8 (.int .i64 0)]
 (.block 0 (.loop b89_0))), [], true⟩
def b94_0 : PCode := (.seq (iff [mt 2 0, ob 3 (cl 113 [(tp 2)]), ob 4 (.un .not (tp 3))] 4
 .skip
 (.exit 0))
 (.block 1 (.reg [mt 5 0, ob 6 (cl 114 [(tp 5)])])))
def r94_0 : PCode := (.reg [mt 7 0, ob 8 (cl 115 [(tp 7)])])
/-- (*jobshell/words.scope).parse -/
def p94 : PFn := ⟨9, (lt 0 b94_0 r94_0), [], true⟩
/-- internal/stringslite.IndexByte -/
def p107 : PFn := ⟨8, (sr [mk 4 (.int .i64 0)]
 (sr [mt 5 0, mt 6 1, ob 7 (.pcl 122 [(tp 5), (tp 6)]), mt 4 7]
 .ret)), [.tmp 4], false⟩
def b108_0 : PCode := (.seq (iff [mt 57 8, mt 58 9, ob 59 (bn .lss 3 57 58)] 59
 .skip
 (.exit 1))
 (.block 2 (.seq (iff [mt 60 0, mt 61 8, ob 62 (.sidx (tp 60) (tp 61)), mt 63 6, ob 64 (bn .neq 5 62 63)] 64
 (sr [mt 65 0, mt 66 8, ob 67 (bi .add 66 1), mt 68 9, ob 69 (.sslc (tp 65) (some (tp 67)) (some (tp 68))), mt 70 6, ob 71 (cl 107 [(tp 69), (tp 70)]), mt 11 71]
 (.seq (iff [mt 72 11, ob 73 (bi .lss 72 0)] 73
 (sr [mk 4 (.int .i64 (-1))]
 .ret)
 .skip)
 (.reg [mt 74 8, mt 75 11, ob 76 (bi .add 75 1), ob 77 (bn .add 3 74 76), mt 8 77])))
 .skip)
 (.seq (iff [mt 78 0, mt 79 8, ob 80 (bi .add 79 1), ob 81 (.sidx (tp 78) (tp 80)), mt 82 7, ob 83 (bn .eql 5 81 82), mt 84 83, gt 84 true 85 0, gt 84 true 86 8, gt 84 true 87 8, gt 84 true 88 5, og 84 true 89 (bn .add 3 87 88), og 84 true 90 (.sslc (tp 85) (some (tp 86)) (some (tp 89))), gt 84 true 91 1, og 84 true 92 (bn .eql 9 90 91), ob 93 (pk 84 92)] 93
 (sr [mt 94 8, mt 4 94]
 .ret)
 .skip)
 (sr [mt 95 8, ob 96 (bi .add 95 1), mt 8 96]
 (sr [mt 97 10, ob 98 (bi .add 97 1), mt 10 98]
 (iff [mt 99 5, ob 100 (.bad), ob 101 (bn .leq 3 99 100), mt 102 101, gt 102 true 103 10, gt 102 true 104 8, og 102 true 105 (cl 124 [(tp 104)]), og 102 true 106 (bn .gtr 3 103 105), ob 107 (pk 102 106)] 107
 (sr [mt 108 0, mt 109 8, ob 110 (.sslc (tp 108) (some (tp 109)) none), mt 111 1, ob 112 (.pcl 123 [(tp 110), (tp 111)]), mt 12 112]
 (.seq (iff [mt 113 12, ob 114 (bi .geq 113 0)] 114
 (sr [mt 115 12, mt 116 8, ob 117 (bn .add 3 115 116), mt 4 117]
 .ret)
 .skip)
 (sr [mk 4 (.int .i64 (-1))]
 .ret)))
 (iff [mt 118 5, ob 119 (.bad), ob 120 (bn .gtr 3 118 119), mt 121 120, gt 121 true 122 10, gt 121 true 123 8, og 121 true 124 (.bin .shr 3 (tp 123) (.const (.int .u64 4))), og 121 true 125 (.bin .add 3 (ki 4) (tp 124)), og 121 true 126 (bn .geq 3 122 125), ob 127 (pk 121 126), mt 128 127, gt 128 true 129 8, gt 128 true 130 9, og 128 true 131 (bn .lss 3 129 130), ob 132 (pk 128 131)] 132
 (sr [mt 133 0, mt 134 8, ob 135 (.sslc (tp 133) (some (tp 134)) none), mt 136 1, ob 137 (cl 125 [(tp 135), (tp 136)]), mt 13 137]
 (.seq (iff [mt 138 13, ob 139 (bi .lss 138 0)] 139
 (sr [mk 4 (.int .i64 (-1))]
 .ret)
 .skip)
 (sr [mt 140 8, mt 141 13, ob 142 (bn .add 3 140 141), mt 4 142]
 .ret)))
 .skip))))))))
def r108_0 : PCode := (sr [mk 4 (.int .i64 (-1))]
 .ret)
/-- internal/stringslite.Index -/
def p108 : PFn := ⟨143, (sr [mk 4 (.int .i64 0)]
 (sr [mt 14 1, ob 15 (.len true (tp 14)), mt 5 15]
 (.seq (.block 0 (iff [mt 17 5, ob 18 (bi .eql 17 0), mt 19 18, gt 19 false 20 1, gt 19 false 21 0, og 19 false 22 (bn .eql 9 20 21), ob 23 (po 19 22), mt 16 23] 16
 (sr [mk 4 (.int .i64 0)]
 .ret)
 (iff [mt 25 5, ob 26 (bi .eql 25 1), mt 24 26] 24
 (sr [mt 27 0, mt 28 1, ob 29 (.sidx (tp 28) (ki 0)), ob 30 (cl 107 [(tp 27), (tp 29)]), mt 4 30]
 .ret)
 (iff [mt 32 5, mt 33 0, ob 34 (.len true (tp 33)), ob 35 (bn .geq 3 32 34), mt 31 35] 31
 (sr [mk 4 (.int .i64 (-1))]
 .ret)
 (iff [mt 37 5, ob 38 (.bad), ob 39 (bn .leq 3 37 38), mt 40 39, gt 40 true 41 0, og 40 true 42 (.len true (tp 41)), og 40 true 43 (bi .leq 42 64), ob 44 (pk 40 43), mt 36 44] 36
 (sr [mt 45 0, mt 46 1, ob 47 (.pcl 123 [(tp 45), (tp 46)]), mt 4 47]
 .ret)
 .skip)))))
 (sr [mt 48 1, ob 49 (.sidx (tp 48) (ki 0)), mt 6 49]
 (sr [mt 50 1, ob 51 (.sidx (tp 50) (ki 1)), mt 7 51]
 (sr [mk 8 (.int .i64 0)]
 (sr [mt 52 0, ob 53 (.len true (tp 52)), mt 54 5, ob 55 (bn .sub 3 53 54), ob 56 (bi .add 55 1), mt 9 56]
 (sr [mk 10 (.int .i64 0)]
 (lt 1 b108_0 r108_0))))))))), [.tmp 4], false⟩
/-- (jobshell/words.place).escapes -/
def p109 : PFn := ⟨25, (sr [mk 6 (.bool false)]
 (.seq (sr [mt 7 1]
 (.block 0 (.seq (iff [ob 9 (bc .eql 7 36), mt 8 9] 8
 .skip
 (iff [ob 10 (bc .eql 7 96), mt 8 10] 8
 .skip
 (.reg [ob 11 (bc .eql 7 92), mt 8 11])))
 (.cond (tp 8)
 (sr [mt 12 0, ob 13 (.bin .neq 111 (tp 12) (ki 0)), mt 6 13]
 .ret)
 (iff [ob 15 (bc .eql 7 34), mt 14 15] 14
 (sr [mt 16 0, ob 17 (.bin .eql 111 (tp 16) (ki 1)), mt 6 17]
 .ret)
 (iff [ob 19 (bc .eql 7 125), mt 18 19] 18
 (sr [mt 20 0, ob 21 (.bin .neq 111 (tp 20) (ki 0)), mt 22 21, gt 22 true 23 2, ob 24 (pk 22 23), mt 6 24]
 .ret)
 .skip))))))
 (sr [mk 6 (.bool false)]
 .ret))), [.tmp 6], false⟩
/-- (*jobshell/words.scope).ended -/
def p113 : PFn := ⟨97, (sr [mk 2 (.bool false)]
 (.seq (.seq (.draw [(mt 4 0, [0], []), (ob 5 (.nck (tp 4)), [4], []), (ob 6 (.faddr 1 (tp 5)), [5], []), (ob 7 (.load 3 false 1 (tp 6)), [6], []), (mt 8 0, [0], [3, 2, 1, 0]), (ob 9 (.nck (tp 8)), [8], [3, 2, 1, 0]), (ob 10 (.faddr 0 (tp 9)), [9], [3, 2, 1, 0]), (ob 11 (.load 9 false 1 (tp 10)), [10], [3, 2, 1, 0]), (ob 12 (.len true (tp 11)), [11], [3, 2, 1, 0]), (ob 13 (bn .eql 3 7 12), [7, 12], [])])
 (.cond (tp 13)
 (.seq (iff [mt 14 0, ob 15 (.nck (tp 14)), ob 16 (.faddr 5 (tp 15)), ob 17 (.load 3 false 1 (tp 16)), ob 18 (bi .geq 17 0)] 18
 (.reg [mt 19 0, ob 20 (.nck (tp 19)), ob 21 (.faddr 5 (tp 20)), ob 22 (.load 3 false 1 (tp 21)), ob 23 (cl 93 [(tp 22), (ki 7)])])
 .skip)
 (sr [mk 2 (.bool true)]
 .ret))
 .skip))
 (.seq (.draw [(mt 24 0, [0], []), (ob 25 (.nck (tp 24)), [24], []), (ob 26 (.faddr 0 (tp 25)), [25], []), (ob 27 (.load 9 false 1 (tp 26)), [26], []), (mt 28 0, [0], [3, 2, 1, 0]), (ob 29 (.nck (tp 28)), [28], [3, 2, 1, 0]), (ob 30 (.faddr 1 (tp 29)), [29], [3, 2, 1, 0]), (ob 31 (.load 3 false 1 (tp 30)), [30], [3, 2, 1, 0]), (ob 32 (.sidx (tp 27) (tp 31)), [27, 31], []), (mt 3 32, [32], [])])
 (.seq (.block 0 (iff [mt 34 0, ob 35 (.nck (tp 34)), ob 36 (.faddr 3 (tp 35)), ob 37 (.load 4 false 1 (tp 36)), mt 33 37] 33
 (sr [mt 38 3, ob 39 (bc .eql 38 125), mt 2 39]
 .ret)
 (iff [mt 41 0, ob 42 (.nck (tp 41)), ob 43 (.faddr 2 (tp 42)), ob 44 (.load 111 false 1 (tp 43)), ob 45 (.bin .eql 111 (tp 44) (ki 1)), mt 40 45] 40
 (sr [mt 46 3, ob 47 (bc .eql 46 34), mt 2 47]
 .ret)
 (iff [mt 49 0, ob 50 (.nck (tp 49)), ob 51 (.faddr 2 (tp 50)), ob 52 (.load 111 false 1 (tp 51)), ob 53 (.bin .eql 111 (tp 52) (ki 2)), mt 54 53, gt 54 true 55 3, og 54 true 56 (bc .eql 55 41), ob 57 (pk 54 56), mt 58 57, gt 58 true 59 0, og 58 true 60 (.nck (tp 59)), og 58 true 61 (.faddr 6 (tp 60)), og 58 true 62 (.load 3 false 1 (tp 61)), og 58 true 63 (bi .eql 62 0), ob 64 (pk 58 63), mt 48 64] 48
 (.seq (.seq (.draw [(mt 65 0, [0], []), (ob 66 (.nck (tp 65)), [65], []), (ob 67 (.faddr 1 (tp 66)), [66], []), (ob 68 (.load 3 false 1 (tp 67)), [67], []), (ob 69 (bi .add 68 1), [68], []), (mt 70 0, [0], [4, 3, 2, 1, 0]), (ob 71 (.nck (tp 70)), [70], [4, 3, 2, 1, 0]), (ob 72 (.faddr 0 (tp 71)), [71], [4, 3, 2, 1, 0]), (ob 73 (.load 9 false 1 (tp 72)), [72], [4, 3, 2, 1, 0]), (ob 74 (.len true (tp 73)), [73], [4, 3, 2, 1, 0]), (ob 75 (bn .eql 3 69 74), [69, 74], [])])
 (.cond (tp 75)
 (.reg [mt 76 0, ob 77 (.nck (tp 76)), ob 78 (.faddr 5 (tp 77)), ob 79 (.load 3 false 1 (tp 78)), ob 80 (cl 93 [(tp 79), (ki 7)])])
 .skip))
 (.seq (.seq (.draw [(mt 81 0, [0], []), (ob 82 (.nck (tp 81)), [81], []), (ob 83 (.faddr 0 (tp 82)), [82], []), (ob 84 (.load 9 false 1 (tp 83)), [83], []), (mt 85 0, [0], [3, 2, 1, 0]), (ob 86 (.nck (tp 85)), [85], [3, 2, 1, 0]), (ob 87 (.faddr 1 (tp 86)), [86], [3, 2, 1, 0]), (ob 88 (.load 3 false 1 (tp 87)), [87], [3, 2, 1, 0]), (ob 89 (bi .add 88 1), [88], [3, 2, 1, 0]), (ob 90 (.sidx (tp 84) (tp 89)), [84, 89], []), (ob 91 (bc .neq 90 41), [90], [])])
 (.cond (tp 91)
 (.reg [mt 92 0, ob 93 (.nck (tp 92)), ob 94 (.faddr 1 (tp 93)), ob 95 (.load 3 false 1 (tp 94)), ob 96 (cl 93 [(tp 95), (ki 6)])])
 .skip))
 (sr [mk 2 (.bool true)]
 .ret)))
 .skip))))
 (sr [mk 2 (.bool false)]
 .ret))))), [.tmp 2], false⟩
/-- (*jobshell/words.scope).next -/
def p114 : PFn := ⟨85, (.seq (.draw [(mt 3 0, [0], []), (ob 4 (.nck (tp 3)), [3], []), (ob 5 (.faddr 0 (tp 4)), [4], []), (ob 6 (.load 9 false 1 (tp 5)), [5], []), (mt 7 0, [0], [3, 2, 1, 0]), (ob 8 (.nck (tp 7)), [7], [3, 2, 1, 0]), (ob 9 (.faddr 1 (tp 8)), [8], [3, 2, 1, 0]), (ob 10 (.load 3 false 1 (tp 9)), [9], [3, 2, 1, 0]), (ob 11 (.sidx (tp 6) (tp 10)), [6, 10], []), (mt 2 11, [11], [])])
 (.block 0 (iff [mt 47 2, ob 48 (bc .eql 47 92), mt 46 48] 46
 (.reg [mt 49 0, ob 50 (cl 126 [(tp 49)])])
 (iff [mt 52 2, ob 53 (bc .eql 52 36), mt 51 53] 51
 (.reg [mt 54 0, ob 55 (cl 127 [(tp 54)])])
 (iff [mt 57 2, ob 58 (bc .eql 57 96), mt 56 58] 56
 (.reg [mt 59 0, ob 60 (cl 128 [(tp 59)])])
 (iff [mt 62 0, ob 63 (.nck (tp 62)), ob 64 (.faddr 2 (tp 63)), ob 65 (.load 111 false 1 (tp 64)), ob 66 (.bin .eql 111 (tp 65) (ki 0)), mt 61 66] 61
 (.reg [mt 67 0, mt 68 2, ob 69 (cl 129 [(tp 67), (tp 68)])])
 (iff [mt 71 2, ob 72 (bc .eql 71 34), mt 73 72, gt 73 true 74 0, og 73 true 75 (.nck (tp 74)), og 73 true 76 (.faddr 2 (tp 75)), og 73 true 77 (.load 111 false 1 (tp 76)), og 73 true 78 (.bin .eql 111 (tp 77) (ki 1)), ob 79 (pk 73 78), mt 70 79] 70
 (.reg [mt 80 0, ob 81 (.nck (tp 80)), ob 82 (.faddr 1 (tp 81)), ob 83 (.load 3 false 1 (tp 82)), ob 84 (cl 93 [(tp 83), (ki 6)])])
 (.seq (iff [mt 12 0, ob 13 (.nck (tp 12)), ob 14 (.faddr 2 (tp 13)), ob 15 (.load 111 false 1 (tp 14)), ob 16 (.bin .eql 111 (tp 15) (ki 2)), mt 17 16, gt 17 true 18 0, og 17 true 19 (.nck (tp 18)), og 17 true 20 (.faddr 3 (tp 19)), og 17 true 21 (.load 4 false 1 (tp 20)), og 17 true 22 (.un .not (tp 21)), ob 23 (pk 17 22)] 23
 (sr [mt 24 2]
 (.block 1 (iff [ob 26 (bc .eql 24 40), mt 25 26] 25
 (.reg [mt 27 0, ob 28 (.nck (tp 27)), ob 29 (.faddr 6 (tp 28)), ob 30 (.load 3 false 1 (tp 29)), ob 31 (bi .add 30 1), ob 32 (.nck (tp 27)), ob 33 (.faddr 6 (tp 32)), o0 (.store 3 1 (tp 33) (tp 31))])
 (iff [ob 35 (bc .eql 24 41), mt 34 35] 34
 (.reg [mt 36 0, ob 37 (.nck (tp 36)), ob 38 (.faddr 6 (tp 37)), ob 39 (.load 3 false 1 (tp 38)), ob 40 (bi .sub 39 1), ob 41 (.nck (tp 36)), ob 42 (.faddr 6 (tp 41)), o0 (.store 3 1 (tp 42) (tp 40))])
 .skip))))
 .skip)
 (.reg [mt 43 0, mt 44 2, ob 45 (cl 130 [(tp 43), (tp 44), (ki 1)])]))))))))), [], true⟩
/-- (*jobshell/words.scope).flush -/
def p115 : PFn := ⟨27, (iff [mt 2 0, ob 3 (.nck (tp 2)), ob 4 (.faddr 7 (tp 3)), ob 5 (.load 46 false 1 (tp 4)), ob 6 (.len false (tp 5)), ob 7 (bi .gtr 6 0)] 7
 (.seq (.draw [(mt 8 0, [0], []), (ob 9 (.nck (tp 8)), [8], []), (ob 10 (.faddr 8 (tp 9)), [9], []), (ob 11 (.load 36 false 1 (tp 10)), [10], []), (mt 12 0, [0], [3, 2, 1, 0]), (ob 13 (.nck (tp 12)), [12], [3, 2, 1, 0]), (ob 14 (.faddr 7 (tp 13)), [13], [3, 2, 1, 0]), (ob 15 (.load 46 false 1 (tp 14)), [14], [3, 2, 1, 0]), (ob 16 (.bts (tp 15)), [15], [3, 2, 1, 0]), (ob 17 (.build [(.int .i64 0), (.string ⟨#[]⟩), (.int .i64 0), (.bool false), (.slice none 0 0)] [(0, 1, (ki 1)), (1, 1, (tp 16))]), [16], [3, 2, 1, 0]), (ob 18 (.len false (tp 11)), [11], [9, 8, 7, 6, 5, 4]), (ob 19 (.bslice 38 1 [(.int .i64 0), (.string ⟨#[]⟩), (.int .i64 0), (.bool false), (.slice none 0 0)] [(0, 5, (.const (.agg #[(.int .i64 0), (.string ⟨#[]⟩), (.int .i64 0), (.bool false), (.slice none 0 0)])))]), [], [10, 9, 8, 7, 6, 5, 4, 3, 2, 1, 0]), (ob 20 (.app 38 5 64 (tp 11) (tp 19)), [11, 19], []), (ob 21 (.iaddr 5 (tp 20) (tp 18)), [20, 18], []), (o0 (.store 38 5 (tp 21) (tp 17)), [21, 17], []), (ob 22 (.nck (tp 8)), [8], [14, 13]), (ob 23 (.faddr 8 (tp 22)), [22], [14, 13]), (o0 (.store 36 1 (tp 23) (tp 20)), [23, 20], [14, 13])])
 (.reg [mt 24 0, ob 25 (.nck (tp 24)), ob 26 (.faddr 7 (tp 25)), o0 (.store 46 1 (tp 26) (.const (.slice none 0 0)))]))
 .skip), [], true⟩
/-- (*jobshell/words.scope).unquoted -/
def p129 : PFn := ⟨102, (sr [mt 7 1]
 (.block 0 (iff [ob 12 (bc .eql 7 39), mt 11 12] 11
 (sr [mt 13 0, ob 14 (cl 137 [(tp 13)]), mt 4 14]
 (.draw [(mt 15 0, [0], []), (mt 16 0, [0], [0]), (ob 17 (.nck (tp 16)), [16], [0]), (ob 18 (.faddr 0 (tp 17)), [17], [0]), (ob 19 (.load 9 false 1 (tp 18)), [18], [0]), (mt 20 0, [0], [4, 3, 2, 1, 0]), (ob 21 (.nck (tp 20)), [20], [4, 3, 2, 1, 0]), (ob 22 (.faddr 1 (tp 21)), [21], [4, 3, 2, 1, 0]), (ob 23 (.load 3 false 1 (tp 22)), [22], [4, 3, 2, 1, 0]), (ob 24 (bi .add 23 1), [23], [4, 3, 2, 1, 0]), (mt 25 4, [4], [9, 8, 7, 6, 5, 4, 3, 2, 1, 0]), (ob 26 (bi .sub 25 1), [25], [9, 8, 7, 6, 5, 4, 3, 2, 1, 0]), (ob 27 (.sslc (tp 19) (some (tp 24)) (some (tp 26))), [19, 24, 26], [0]), (ob 28 (.build [(.int .i64 0), (.string ⟨#[]⟩), (.int .i64 0), (.bool false), (.slice none 0 0)] [(0, 1, (ki 2)), (1, 1, (tp 27))]), [27], [0]), (mt 29 4, [4], [13, 12, 11, 10, 9, 8, 7, 6, 5, 4, 3, 2, 1, 0]), (ob 30 (cl 135 [(tp 15), (tp 28), (tp 29)]), [15, 28, 29], [])]))
 (iff [ob 32 (bc .eql 7 34), mt 31 32] 31
 (.seq (iff [mt 33 0, ob 34 (.nck (tp 33)), ob 35 (.faddr 4 (tp 34)), ob 36 (.load 3 false 1 (tp 35)), ob 37 (bi .eql 36 32)] 37
 (.reg [mt 38 0, ob 39 (.nck (tp 38)), ob 40 (.faddr 1 (tp 39)), ob 41 (.load 3 false 1 (tp 40)), ob 42 (cl 93 [(tp 41), (ki 5)])])
 .skip)
 (.seq (.draw [(mt 44 0, [0], []), (mt 45 0, [0], [0]), (ob 46 (.nck (tp 45)), [45], [0]), (ob 47 (.faddr 1 (tp 46)), [46], [0]), (ob 48 (.load 3 false 1 (tp 47)), [47], [0]), (ob 49 (bi .add 48 1), [48], [0]), (mt 50 0, [0], [5, 4, 3, 2, 1, 0]), (ob 51 (.nck (tp 50)), [50], [5, 4, 3, 2, 1, 0]), (ob 52 (.faddr 1 (tp 51)), [51], [5, 4, 3, 2, 1, 0]), (ob 53 (.load 3 false 1 (tp 52)), [52], [5, 4, 3, 2, 1, 0]), (ob 54 (cl 136 [(tp 44), (tp 49), (tp 53), (ki 1), (kb false)]), [44, 49, 53], []), (mt 43 54, [54], []), (ob 55 (.ext (tp 43) 0), [43], []), (ob 56 (.ext (tp 43) 1), [43], [12]), (mt 5 55, [55], [13]), (mt 6 56, [56], [])])
 (.reg [mt 57 0, mt 58 5, ob 59 (.build [(.int .i64 0), (.string ⟨#[]⟩), (.int .i64 0), (.bool false), (.slice none 0 0)] [(0, 1, (ki 3)), (4, 1, (tp 58))]), mt 60 6, ob 61 (bi .add 60 1), ob 62 (cl 135 [(tp 57), (tp 59), (tp 61)])])))
 (.seq (iff [ob 64 (bc .eql 7 9), mt 63 64] 63
 .skip
 (iff [ob 65 (bc .eql 7 32), mt 63 65] 63
 .skip
 (iff [ob 66 (bc .eql 7 10), mt 63 66] 63
 .skip
 (iff [ob 67 (bc .eql 7 38), mt 63 67] 63
 .skip
 (iff [ob 68 (bc .eql 7 124), mt 63 68] 63
 .skip
 (iff [ob 69 (bc .eql 7 59), mt 63 69] 63
 .skip
 (iff [ob 70 (bc .eql 7 40), mt 63 70] 63
 .skip
 (iff [ob 71 (bc .eql 7 41), mt 63 71] 63
 .skip
 (iff [ob 72 (bc .eql 7 60), mt 63 72] 63
 .skip
 (.reg [ob 73 (bc .eql 7 62), mt 63 73]))))))))))
 (.cond (tp 63)
 (.seq (iff [mt 74 0, ob 75 (.nck (tp 74)), ob 76 (.faddr 3 (tp 75)), ob 77 (.load 4 false 1 (tp 76)), ob 78 (.un .not (tp 77))] 78
 (.reg [mt 79 0, ob 80 (.nck (tp 79)), ob 81 (.faddr 1 (tp 80)), ob 82 (.load 3 false 1 (tp 81)), ob 83 (cl 93 [(tp 82), (ki 6)])])
 .skip)
 (.reg [mt 84 0, mt 85 1, ob 86 (cl 130 [(tp 84), (tp 85), (ki 1)])]))
 (iff [ob 88 (bc .eql 7 126), mt 87 88] 87
 (iff [mt 89 0, ob 90 (cl 142 [(tp 89)])] 90
 (.reg [mt 91 0, ob 92 (.build [(.int .i64 0), (.string ⟨#[]⟩), (.int .i64 0), (.bool false), (.slice none 0 0)] [(0, 1, (ki 7))]), mt 93 0, ob 94 (.nck (tp 93)), ob 95 (.faddr 1 (tp 94)), ob 96 (.load 3 false 1 (tp 95)), ob 97 (bi .add 96 1), ob 98 (cl 135 [(tp 91), (tp 92), (tp 97)])])
 (.reg [mt 99 0, mt 100 1, ob 101 (cl 130 [(tp 99), (tp 100), (ki 1)])]))
 (.reg [mt 8 0, mt 9 1, ob 10 (cl 130 [(tp 8), (tp 9), (ki 1)])])))))))), [], true⟩
/-- (*jobshell/words.scope).literal -/
def p130 : PFn := ⟨24, (sr [mt 6 0, mt 7 0, ob 8 (.nck (tp 7)), ob 9 (.faddr 7 (tp 8)), ob 10 (.load 46 false 1 (tp 9)), mt 11 1, ob 12 (.bslice 5 1 [(.int .u8 0)] [(0, 1, (tp 11))]), ob 13 (.app 5 1 1 (tp 10) (tp 12)), ob 14 (.nck (tp 6)), ob 15 (.faddr 7 (tp 14)), o0 (.store 46 1 (tp 15) (tp 13))]
 (.reg [mt 16 0, ob 17 (.nck (tp 16)), ob 18 (.faddr 1 (tp 17)), ob 19 (.load 3 false 1 (tp 18)), mt 20 2, ob 21 (bn .add 3 19 20), ob 22 (.nck (tp 16)), ob 23 (.faddr 1 (tp 22)), o0 (.store 3 1 (tp 23) (tp 21))])), [], true⟩
def b3_0 : PCode := (.seq (iff [mt 10 3, ob 11 (.len true (tp 10)), ob 12 (bi .lss 11 5000)] 12
 .skip
 (.exit 0))
 (.block 1 (.reg [mt 13 3, mt 14 3, ob 15 (bn .add 9 13 14), mt 3 15])))
def r3_0 : PCode := (.seq (.draw [(mt 16 3, [3], []), (ob 17 (.sslc (tp 16) none (some (ki 4000))), [16], []), (ob 18 (cl 5 [(tp 17)]), [17], []), (mt 19 3, [3], [2, 1, 0]), (ob 20 (.sslc (tp 19) none (some (ki 4000))), [19], [2, 1, 0]), (ob 21 (cl 5 [(tp 20)]), [20], []), (mt 22 3, [3], [5, 4, 3, 2, 1, 0]), (ob 23 (.sslc (tp 22) none (some (ki 4000))), [22], [5, 4, 3, 2, 1, 0]), (ob 24 (cl 5 [(tp 23)]), [23], []), (mt 25 3, [3], [8, 7, 6, 5, 4, 3, 2, 1, 0]), (mt 26 0, [0], [9, 8, 7, 6, 5, 4, 3, 2, 1, 0]), (ob 27 (.conv .i64 (tp 26)), [26], [9, 8, 7, 6, 5, 4, 3, 2, 1, 0]), (ob 28 (.bin .add 3 (ki 4378) (tp 27)), [27], [9, 8, 7, 6, 5, 4, 3, 2, 1, 0]), (ob 29 (.sslc (tp 25) none (some (tp 28))), [25, 28], [8, 7, 6, 5, 4, 3, 2, 1, 0]), (ob 30 (cl 5 [(tp 29)]), [29], []), (ob 31 (.bslice 29 4 [(.int .i64 0), (.int .i64 0), (.string ⟨#[]⟩), (.bool false), (.slice none 0 0), (.slice none 0 0), (.slice none 0 0), (.slice none 0 0), (.slice none 0 0), (.int .i64 0), (.int .i64 0), (.string ⟨#[]⟩), (.bool false), (.slice none 0 0), (.slice none 0 0), (.slice none 0 0), (.slice none 0 0), (.slice none 0 0), (.int .i64 0), (.int .i64 0), (.string ⟨#[]⟩), (.bool false), (.slice none 0 0), (.slice none 0 0), (.slice none 0 0), (.slice none 0 0), (.slice none 0 0), (.int .i64 0), (.int .i64 0), (.string ⟨#[]⟩), (.bool false), (.slice none 0 0), (.slice none 0 0), (.slice none 0 0), (.slice none 0 0), (.slice none 0 0)] [(0, 9, (tp 18)), (9, 9, (tp 21)), (18, 9, (tp 24)), (27, 9, (tp 30))]), [18, 21, 24, 30], []), (mt 4 31, [31], [])])
 (sr [mt 33 4, ob 34 (cl 6 [(tp 33)]), mt 32 34, ob 35 (.ext (tp 32) 0), ob 36 (.ext (tp 32) 1), mt 5 35, mt 6 36]
 (.seq (iff [mt 37 0, ob 38 (bc .gtr 37 2)] 38
 (sr [mt 39 5, ob 40 (.bin .eql 9 (tp 39) (ks #[])), mt 41 40, gt 41 true 42 6, og 41 true 43 (.bin .eql 31 (tp 42) (ki 3)), ob 44 (pk 41 43), mt 45 44, og 45 true 46 (cl 4 []), ob 47 (pk 45 46), mt 2 47]
 .ret)
 .skip)
 (sr [mt 48 5, ob 49 (.len true (tp 48)), mt 50 0, ob 51 (.conv .i64 (tp 50)), ob 52 (.bin .add 3 (ki 16382) (tp 51)), ob 53 (bn .eql 3 49 52), mt 54 53, gt 54 true 55 6, og 54 true 56 (.bin .eql 31 (tp 55) (ki 0)), ob 57 (pk 54 56), mt 58 57, og 58 true 59 (cl 4 []), ob 60 (pk 58 59), mt 2 60]
 .ret))))
/-- jobshell/jobshelllaw14.PrintLong -/
def p3 : PFn := ⟨61, (sr [mk 2 (.bool false)]
 (.seq (iff [mt 7 0, ob 8 (bc .gtr 7 4)] 8
 (sr [ob 9 (cl 4 []), mt 2 9]
 .ret)
 .skip)
 (sr [mk 3 (.string ⟨#[97]⟩)]
 (lt 0 b3_0 r3_0)))), [.tmp 2], false⟩
def Γ1 : Nat → Option PFn
  | 5 => some p5
  | 6 => some p6
  | 9 => some p9
  | 10 => some p10
  | 11 => some p11
  | 12 => some p12
  | 13 => some p13
  | 15 => some p15
  | 16 => some p16
  | 17 => some p17
  | 18 => some p18
  | 19 => some p19
  | 21 => some p21
  | 25 => some p25
  | 27 => some p27
  | 28 => some p28
  | _ => none
def Γ2 : Nat → Option PFn
  | 31 => some p31
  | 32 => some p32
  | 33 => some p33
  | 34 => some p34
  | 43 => some p43
  | 52 => some p52
  | 54 => some p54
  | 55 => some p55
  | 60 => some p60
  | 61 => some p61
  | 62 => some p62
  | 63 => some p63
  | 64 => some p64
  | 65 => some p65
  | 70 => some p70
  | 73 => some p73
  | _ => none
def Γ3 : Nat → Option PFn
  | 74 => some p74
  | 75 => some p75
  | 76 => some p76
  | 77 => some p77
  | 78 => some p78
  | 88 => some p88
  | 89 => some p89
  | 94 => some p94
  | 107 => some p107
  | 108 => some p108
  | 109 => some p109
  | 113 => some p113
  | 114 => some p114
  | 115 => some p115
  | 129 => some p129
  | 130 => some p130
  | _ => none
def Γ (g : Nat) : Option PFn := (Γ1 g).or ((Γ2 g).or (Γ3 g))
def ΓL : Nat → Option PFn
  | 3 => some p3
  | _ => none
theorem c5 : compF Tryz.prog Tryz.f5 p5.keep = some p5 := by kernel_rfl
theorem c6 : compF Tryz.prog Tryz.f6 p6.keep = some p6 := by kernel_rfl
theorem c9 : compF Tryz.prog Tryz.f9 p9.keep = some p9 := by kernel_rfl
theorem c10 : compF Tryz.prog Tryz.f10 p10.keep = some p10 := by kernel_rfl
theorem c11 : compF Tryz.prog Tryz.f11 p11.keep = some p11 := by kernel_rfl
theorem c12 : compF Tryz.prog Tryz.f12 p12.keep = some p12 := by kernel_rfl
theorem c13 : compF Tryz.prog Tryz.f13 p13.keep = some p13 := by kernel_rfl
theorem c15 : compF Tryz.prog Tryz.f15 p15.keep = some p15 := by kernel_rfl
theorem c16 : compF Tryz.prog Tryz.f16 p16.keep = some p16 := by kernel_rfl
theorem c17 : compF Tryz.prog Tryz.f17 p17.keep = some p17 := by kernel_rfl
theorem c18 : compF Tryz.prog Tryz.f18 p18.keep = some p18 := by kernel_rfl
theorem c19 : compF Tryz.prog Tryz.f19 p19.keep = some p19 := by kernel_rfl
theorem c21 : compF Tryz.prog Tryz.f21 p21.keep = some p21 := by kernel_rfl
theorem c25 : compF Tryz.prog Tryz.f25 p25.keep = some p25 := by kernel_rfl
theorem c27 : compF Tryz.prog Tryz.f27 p27.keep = some p27 := by kernel_rfl
theorem c28 : compF Tryz.prog Tryz.f28 p28.keep = some p28 := by kernel_rfl
theorem c31 : compF Tryz.prog Tryz.f31 p31.keep = some p31 := by kernel_rfl
theorem c32 : compF Tryz.prog Tryz.f32 p32.keep = some p32 := by kernel_rfl
theorem c33 : compF Tryz.prog Tryz.f33 p33.keep = some p33 := by kernel_rfl
theorem c34 : compF Tryz.prog Tryz.f34 p34.keep = some p34 := by kernel_rfl
theorem c43 : compF Tryz.prog Tryz.f43 p43.keep = some p43 := by kernel_rfl
theorem c52 : compF Tryz.prog Tryz.f52 p52.keep = some p52 := by kernel_rfl
theorem c54 : compF Tryz.prog Tryz.f54 p54.keep = some p54 := by kernel_rfl
theorem c55 : compF Tryz.prog Tryz.f55 p55.keep = some p55 := by kernel_rfl
theorem c60 : compF Tryz.prog Tryz.f60 p60.keep = some p60 := by kernel_rfl
theorem c61 : compF Tryz.prog Tryz.f61 p61.keep = some p61 := by kernel_rfl
theorem c62 : compF Tryz.prog Tryz.f62 p62.keep = some p62 := by kernel_rfl
theorem c63 : compF Tryz.prog Tryz.f63 p63.keep = some p63 := by kernel_rfl
theorem c64 : compF Tryz.prog Tryz.f64 p64.keep = some p64 := by kernel_rfl
theorem c65 : compF Tryz.prog Tryz.f65 p65.keep = some p65 := by kernel_rfl
theorem c70 : compF Tryz.prog Tryz.f70 p70.keep = some p70 := by kernel_rfl
theorem c73 : compF Tryz.prog Tryz.f73 p73.keep = some p73 := by kernel_rfl
theorem c74 : compF Tryz.prog Tryz.f74 p74.keep = some p74 := by kernel_rfl
theorem c75 : compF Tryz.prog Tryz.f75 p75.keep = some p75 := by kernel_rfl
theorem c76 : compF Tryz.prog Tryz.f76 p76.keep = some p76 := by kernel_rfl
theorem c77 : compF Tryz.prog Tryz.f77 p77.keep = some p77 := by kernel_rfl
theorem c78 : compF Tryz.prog Tryz.f78 p78.keep = some p78 := by kernel_rfl
theorem c88 : compF Tryz.prog Tryz.f88 p88.keep = some p88 := by kernel_rfl
theorem c89 : compF Tryz.prog Tryz.f89 p89.keep = some p89 := by kernel_rfl
theorem c94 : compF Tryz.prog Tryz.f94 p94.keep = some p94 := by kernel_rfl
theorem c107 : compF Tryz.prog Tryz.f107 p107.keep = some p107 := by kernel_rfl
theorem c108 : compF Tryz.prog Tryz.f108 p108.keep = some p108 := by kernel_rfl
theorem c109 : compF Tryz.prog Tryz.f109 p109.keep = some p109 := by kernel_rfl
theorem c113 : compF Tryz.prog Tryz.f113 p113.keep = some p113 := by kernel_rfl
theorem c114 : compF Tryz.prog Tryz.f114 p114.keep = some p114 := by kernel_rfl
theorem c115 : compF Tryz.prog Tryz.f115 p115.keep = some p115 := by kernel_rfl
theorem c129 : compF Tryz.prog Tryz.f129 p129.keep = some p129 := by kernel_rfl
theorem c130 : compF Tryz.prog Tryz.f130 p130.keep = some p130 := by kernel_rfl
theorem c3 : compF Tryz.prog Tryz.f3 p3.keep = some p3 := by kernel_rfl
theorem tab1 : TabOK Tryz.prog Γ1 := by
  intro g pf h
  unfold Γ1 at h
  split at h
  all_goals first | cases h; done | injection h with h; subst h
  · exact ⟨_, _, Tryz.func5, c5⟩
  · exact ⟨_, _, Tryz.func6, c6⟩
  · exact ⟨_, _, Tryz.func9, c9⟩
  · exact ⟨_, _, Tryz.func10, c10⟩
  · exact ⟨_, _, Tryz.func11, c11⟩
  · exact ⟨_, _, Tryz.func12, c12⟩
  · exact ⟨_, _, Tryz.func13, c13⟩
  · exact ⟨_, _, Tryz.func15, c15⟩
  · exact ⟨_, _, Tryz.func16, c16⟩
  · exact ⟨_, _, Tryz.func17, c17⟩
  · exact ⟨_, _, Tryz.func18, c18⟩
  · exact ⟨_, _, Tryz.func19, c19⟩
  · exact ⟨_, _, Tryz.func21, c21⟩
  · exact ⟨_, _, Tryz.func25, c25⟩
  · exact ⟨_, _, Tryz.func27, c27⟩
  · exact ⟨_, _, Tryz.func28, c28⟩
theorem tab2 : TabOK Tryz.prog Γ2 := by
  intro g pf h
  unfold Γ2 at h
  split at h
  all_goals first | cases h; done | injection h with h; subst h
  · exact ⟨_, _, Tryz.func31, c31⟩
  · exact ⟨_, _, Tryz.func32, c32⟩
  · exact ⟨_, _, Tryz.func33, c33⟩
  · exact ⟨_, _, Tryz.func34, c34⟩
  · exact ⟨_, _, Tryz.func43, c43⟩
  · exact ⟨_, _, Tryz.func52, c52⟩
  · exact ⟨_, _, Tryz.func54, c54⟩
  · exact ⟨_, _, Tryz.func55, c55⟩
  · exact ⟨_, _, Tryz.func60, c60⟩
  · exact ⟨_, _, Tryz.func61, c61⟩
  · exact ⟨_, _, Tryz.func62, c62⟩
  · exact ⟨_, _, Tryz.func63, c63⟩
  · exact ⟨_, _, Tryz.func64, c64⟩
  · exact ⟨_, _, Tryz.func65, c65⟩
  · exact ⟨_, _, Tryz.func70, c70⟩
  · exact ⟨_, _, Tryz.func73, c73⟩
theorem tab3 : TabOK Tryz.prog Γ3 := by
  intro g pf h
  unfold Γ3 at h
  split at h
  all_goals first | cases h; done | injection h with h; subst h
  · exact ⟨_, _, Tryz.func74, c74⟩
  · exact ⟨_, _, Tryz.func75, c75⟩
  · exact ⟨_, _, Tryz.func76, c76⟩
  · exact ⟨_, _, Tryz.func77, c77⟩
  · exact ⟨_, _, Tryz.func78, c78⟩
  · exact ⟨_, _, Tryz.func88, c88⟩
  · exact ⟨_, _, Tryz.func89, c89⟩
  · exact ⟨_, _, Tryz.func94, c94⟩
  · exact ⟨_, _, Tryz.func107, c107⟩
  · exact ⟨_, _, Tryz.func108, c108⟩
  · exact ⟨_, _, Tryz.func109, c109⟩
  · exact ⟨_, _, Tryz.func113, c113⟩
  · exact ⟨_, _, Tryz.func114, c114⟩
  · exact ⟨_, _, Tryz.func115, c115⟩
  · exact ⟨_, _, Tryz.func129, c129⟩
  · exact ⟨_, _, Tryz.func130, c130⟩
theorem tabL : TabOK Tryz.prog ΓL := by
  intro g pf h
  unfold ΓL at h
  split at h
  all_goals first | cases h; done | injection h with h; subst h
  · exact ⟨_, _, Tryz.func3, c3⟩
theorem tab_or {A B : Nat → Option PFn} (hA : TabOK Tryz.prog A) (hB : TabOK Tryz.prog B) : TabOK Tryz.prog fun g => (A g).or (B g) := by
  intro g pf h
  have h : (A g).or (B g) = some pf := h
  cases h1 : A g with
  | some x => rw [h1] at h; exact hA g pf (h1.trans h)
  | none => rw [h1] at h; exact hB g pf h
theorem tab_ok : TabOK Tryz.prog Γ := tab_or tab1 (tab_or tab2 tab3)
def d298 : PDf := ⟨23, [ob 4 (.alloc 36 (.slice none 0 0)), ob 5 (.alloc 3 (.int .i64 0)), ob 6 (.alloc 31 (.int .i64 0))], [ob 8 (.mkfn 92 [] [(tp 4), (tp 5), (tp 6)])], tp 8,
 (.seq (iff [mt 9 0, ob 10 (.len true (tp 9)), ob 11 (bi .gtr 10 16384)] 11
 (.reg [ob 12 (cl 93 [(ki 0), (ki 3)])])
 .skip)
 (sr [mt 13 0, mt 14 1, ob 15 (.build [(.string ⟨#[]⟩), (.int .i64 0), (.int .i64 0), (.bool false), (.int .i64 0), (.int .i64 0), (.int .i64 0), (.slice none 0 0), (.slice none 0 0)] [(0, 1, (tp 13)), (2, 1, (tp 14)), (4, 1, (ki 1)), (5, 1, (ki (-1)))]), ob 16 (.box 132 (tp 15)), mt 7 16]
 (sr [mt 17 7, ob 18 (cl 94 [(tp 17)])]
 (sr [mt 19 7, ob 20 (.nck (tp 19)), ob 21 (.faddr 8 (tp 20)), ob 22 (.load 36 false 1 (tp 21)), o0 (.store 36 1 (tp 4) (tp 22)), o0 (.store 3 1 (tp 5) (ki 0)), o0 (.store 31 1 (tp 6) (ki 0))]
 .ret)))), [.cell 4 false 1, .cell 5 false 1, .cell 6 false 1], 19, 6, [mt 3 6],
 (iff [mt 7 3, ob 8 (.inq true 20 (tp 7))] 8
 (sr [o0 (.store 36 1 (tp 0) (.const (.slice none 0 0))), o0 (.store 3 1 (tp 1) (ki 0)), o0 (.store 31 1 (tp 2) (ki 1))]
 (sr [mt 10 3, ob 11 (.asr 127 (.agg #[(.int .i64 0), (.int .i64 0)]) (tp 10)), mt 9 11, ob 12 (.ext (tp 9) 0), ob 13 (.ext (tp 9) 1), ob 4 (.alloc 127 (.agg #[(.int .i64 0), (.int .i64 0)])), o0 (.store 127 2 (tp 4) (tp 12)), mt 5 13]
 (iff [mt 14 5] 14
 (.draw [(ob 15 (.faddr 0 (tp 4)), [4], []), (ob 16 (.load 3 false 1 (tp 15)), [15], []), (ob 17 (.faddr 1 (tp 4)), [4], [1, 0]), (ob 18 (.load 31 false 1 (tp 17)), [17], [1, 0]), (o0 (.store 3 1 (tp 1) (tp 16)), [1, 16], [3, 2]), (o0 (.store 31 1 (tp 2) (tp 18)), [2, 18], [])])
 .skip)))
 .skip)⟩
theorem c298 : compD Tryz.prog Tryz.f80 Tryz.f92 = some d298 := by kernel_rfl
end Go.Proofs.YtnocibbhognbeaaGreatDoor
namespace Go.PE
open Go Go.EvL
inductive ZR where
  | ok (v : PV) (s : PS)
  | pan (v : Value) (s : PS)
inductive ZC where
  | go (x : PXt) (f : PFr) (s : PS)
  | pan (v : Value) (f : PFr) (s : PS)
abbrev ZCallF := Nat → List PV → PS → Option ZR
def zokR (o : Option (PV × PS)) : Option ZR := o.map fun q => .ok q.1 q.2
noncomputable def zact (P : Program) (call : ZCallF) (f : PFr) (s : PS) (o : POp) : Option ZR := match o with
  | .call x args => match pval f x with
    | .fn g first cap => call g (first ++ (args.map (pval f) ++ cap)) s
    | _ => none
  | .pan x => match pval f x with
    | .sc (.iface t v) => if sok (.iface t v) = true then some (.pan (.iface t v) s) else none
    | _ => none
  | o => zokR (opP P f s o)
noncomputable def zops (P : Program) (call : ZCallF) : List PI → PFr → PS → Option ZC
  | [], f, s => some (.go .normal f s)
  | i :: l, f, s => match guardP f i.gd with
    | some true => (zact P call f s i.op).bind fun
      | .ok v s' => zops P call l (setD f i.dst v) s'
      | .pan v s' => some (.pan v f s')
    | some false => zops P call l (setD f i.dst (.sc undef)) s
    | none => none
noncomputable def zpan (P : Program) (call : ZCallF) (b : Bool) (f : PFr) (s : PS) (o : POp) : Option ZC :=
  if b = true then (zact P call f s o).bind fun
    | .pan v s' => some (.pan v f s')
    | .ok _ _ => none
  else none
noncomputable def zdraw (P : Program) (pu : Nat → Bool) (call : ZCallF) : Bool → List (PI × List Nat × List Nat) → Nat → List (Nat × Eff × Nat × Nat) → PFr → PS → Option ZC
  | _, [], _, _, f, s => some (.go .normal f s)
  | b, (i, ls, un) :: l, j, acc, f, s => match guardP (onlyP ls f) i.gd with
    | some true => (zact P call (onlyP ls f) s i.op).bind fun
      | .ok v s' => if (pureI pu (onlyP ls f) i = true ∨ barP un j l = true) ∧ OkAll un (effI (onlyP ls f) i) acc then zdraw P pu call (b && i.gd.isNone) l (j + 1) ((j, effI (onlyP ls f) i, s.n, s'.n) :: acc) (setD f i.dst v) s' else none
      | .pan _ _ => zpan P call (b && i.gd.isNone && barP un j l) f s i.op
    | some false => if (pureI pu (onlyP ls f) i = true ∨ barP un j l = true) ∧ OkAll un (effI (onlyP ls f) i) acc then zdraw P pu call false l (j + 1) ((j, effI (onlyP ls f) i, s.n, s.n) :: acc) (setD f i.dst (.sc undef)) s else none
    | none => none
def zseq (r : Option ZC) (k : PFr → PS → Option ZC) : Option ZC := r.bind fun
  | .go .normal f s => k f s
  | r => some r
def zblk (id : Nat) (r : Option ZC) : Option ZC := r.map fun
  | .go (.exit i) f s => if i = id then .go .normal f s else .go (.exit i) f s
  | r => r
def zcond (b : Option Bool) (x y : Option ZC) : Option ZC := match b with
  | some true => x
  | some false => y
  | none => none
def zloop (body : PFr → PS → Option ZC) : Nat → PFr → PS → Option ZC
  | 0, _, _ => none
  | n + 1, f, s => zseq (body f s) (zloop body n)
noncomputable def zcodeN (P : Program) (pu : Nat → Bool) (call : ZCallF) (L : Nat) : PCode → PFr → PS → Option ZC
  | .skip, f, s => some (.go .normal f s)
  | .reg l, f, s => zops P call l f s
  | .draw l, f, s => zdraw P pu call true l 0 [] f s
  | .seq a b, f, s => zseq (zcodeN P pu call L a f s) (zcodeN P pu call L b)
  | .cond c a b, f, s => zcond (asBool (pval f c)) (zcodeN P pu call L a f s) (zcodeN P pu call L b f s)
  | .block id b, f, s => zblk id (zcodeN P pu call L b f s)
  | .loop b, f, s => zloop (zcodeN P pu call L b) L f s
  | .exit id, f, s => some (.go (.exit id) f s)
  | .ret, f, s => some (.go .ret f s)
  | .bad, _, _ => none
noncomputable def zleave (fn : PFn) (s : PS) (r : ZC) : Option ZR := match r with
  | .go (.exit _) _ _ => none
  | .go _ f s' => zokR (leaveP fn s f s')
  | .pan v _ s1 => if fn.keep = true then some (.pan v ⟨s1.h, s1.n, min s.w s1.w⟩) else if s.n ≤ s1.w then some (.pan v s) else none
noncomputable def zenter (P : Program) (pu : Nat → Bool) (call : ZCallF) (L : Nat) (fn : PFn) (args : List PV) (s : PS) : Option ZR :=
  if args.length ≤ fn.nt then (zcodeN P pu call L fn.body (initP args 0) ⟨s.h, s.n, s.n⟩).bind (zleave fn s) else none
noncomputable def zcallN (P : Program) (Γ : Nat → Option PFn) (ext : PCallF) : Nat → ZCallF
  | 0 => fun _ _ _ => none
  | n + 1 => fun g args s => match Γ g with
    | some fn => zenter P (puOf Γ) (zcallN P Γ ext n) n fn args s
    | none => zokR (ext g args s)
def LeZ (c d : ZCallF) : Prop := ∀ g args s, Le (c g args s) (d g args s)
section
variable {P : Program} {c d : ZCallF}
theorem lz_act (h : LeZ c d) (f : PFr) (s : PS) (o : POp) : Le (zact P c f s o) (zact P d f s o) := by
  unfold zact
  split
  · split
    · exact h _ _ _
    · exact .refl _
  · exact .refl _
  · exact .refl _
theorem lz_ops (h : LeZ c d) : ∀ (l : List PI) (f : PFr) (s : PS), Le (zops P c l f s) (zops P d l f s) := by
  intro l
  induction l with
  | nil => intro f s; exact .refl _
  | cons i l ih =>
    intro f s
    simp only [zops]
    split
    · refine Le.bind (lz_act h f s i.op) fun q => ?_
      cases q with
      | ok v s' => exact ih _ _
      | pan v s' => exact .refl _
    · exact ih _ _
    · exact .refl _
theorem lz_pan (h : LeZ c d) (b : Bool) (f : PFr) (s : PS) (o : POp) : Le (zpan P c b f s o) (zpan P d b f s o) := by
  unfold zpan
  split
  · exact Le.bind (lz_act h f s o) fun q => .refl _
  · exact .refl _
theorem lz_draw {pu : Nat → Bool} (h : LeZ c d) : ∀ (l : List (PI × List Nat × List Nat)) (b : Bool) (j : Nat) (acc : List (Nat × Eff × Nat × Nat)) (f : PFr) (s : PS), Le (zdraw P pu c b l j acc f s) (zdraw P pu d b l j acc f s) := by
  intro l
  induction l with
  | nil => intro b j acc f s; exact .refl _
  | cons i l ih =>
    intro b j acc f s
    obtain ⟨i, ls, un⟩ := i
    simp only [zdraw]
    split
    · refine Le.bind (lz_act h _ s i.op) fun q => ?_
      cases q with
      | ok v s' =>
        simp only
        split
        · exact ih _ _ _ _ _
        · exact .refl _
      | pan v s' => exact lz_pan h _ _ _ _
    · split
      · exact ih _ _ _ _ _
      · exact .refl _
    · exact .refl _
theorem lz_seq {a b : Option ZC} {k l : PFr → PS → Option ZC} (h : Le a b) (hk : ∀ f s, Le (k f s) (l f s)) : Le (zseq a k) (zseq b l) := by
  refine Le.bind h fun q => ?_
  rcases q with ⟨x, f, s⟩ | ⟨v, f, s⟩
  · cases x with
    | normal => exact hk _ _
    | _ => exact .refl _
  · exact .refl _
theorem lz_loop {a b : PFr → PS → Option ZC} (h : ∀ f s, Le (a f s) (b f s)) : ∀ (n m : Nat), n ≤ m → ∀ f s, Le (zloop a n f s) (zloop b m f s) := by
  intro n
  induction n with
  | zero => intro m _ f s x hx; cases hx
  | succ n ih =>
    intro m hm f s
    obtain ⟨m', rfl⟩ : ∃ m', m = m' + 1 := ⟨m - 1, by omega⟩
    exact lz_seq (h f s) (ih m' (by omega))
theorem lz_code {pu : Nat → Bool} (h : LeZ c d) {n m : Nat} (hn : n ≤ m) : ∀ (pc : PCode) (f : PFr) (s : PS), Le (zcodeN P pu c n pc f s) (zcodeN P pu d m pc f s) := by
  intro pc
  induction pc with
  | reg l => intro f s; exact lz_ops h l f s
  | draw l => intro f s; exact lz_draw h l _ _ _ f s
  | seq a b iha ihb => intro f s; exact lz_seq (iha f s) ihb
  | cond o a b iha ihb =>
    intro f s
    simp only [zcodeN]
    unfold zcond
    cases asBool (pval f o) with
    | none => exact .refl _
    | some t => cases t; exact ihb f s; exact iha f s
  | block id b ih => intro f s; exact Le.map (ih f s)
  | loop b ih => intro f s; exact lz_loop ih n m hn f s
  | _ => intro f s; exact .refl _
theorem lz_enter {pu : Nat → Bool} (h : LeZ c d) {n m : Nat} (hn : n ≤ m) (fn : PFn) (args : List PV) (s : PS) : Le (zenter P pu c n fn args s) (zenter P pu d m fn args s) := by
  unfold zenter
  split
  · exact Le.bind (lz_code h hn _ _ _) fun q => .refl _
  · exact .refl _
variable {Γ : Nat → Option PFn} {ext : PCallF}
theorem lz_call : ∀ n, LeZ (zcallN P Γ ext n) (zcallN P Γ ext (n + 1)) := by
  intro n
  induction n with
  | zero => intro g args s x hx; cases hx
  | succ n ih =>
    intro g args s
    simp only [zcallN]
    split
    · exact lz_enter ih (Nat.le_succ n) _ _ _
    · exact .refl _
theorem lz_calls {n m : Nat} (h : n ≤ m) : LeZ (zcallN P Γ ext n) (zcallN P Γ ext m) := by
  induction m with
  | zero => rw [show n = 0 by omega]; exact fun _ _ _ => .refl _
  | succ m ih =>
    by_cases he : n = m + 1
    · rw [he]; exact fun _ _ _ => .refl _
    · exact fun g args s x hx => lz_call m g args s x (ih (by omega) g args s x hx)
end
section
variable (P : Program) (Γ : Nat → Option PFn) (ext : PCallF)
noncomputable def zcall : ZCallF := fun g args s => Lim fun n => zcallN P Γ ext n g args s
noncomputable def zcode (c : PCode) (f : PFr) (s : PS) : Option ZC := Lim fun n => zcodeN P (puOf Γ) (zcallN P Γ ext n) n c f s
end
section
variable {P : Program} {Γ : Nat → Option PFn} {ext : PCallF}
theorem mz_call (g : Nat) (args : List PV) (s : PS) : Mono fun n => zcallN P Γ ext n g args s := fun _ _ h => lz_calls h g args s
theorem mz_code (c : PCode) (f : PFr) (s : PS) : Mono fun n => zcodeN P (puOf Γ) (zcallN P Γ ext n) n c f s := fun _ _ h => lz_code (lz_calls h) h c f s
theorem mz_act (f : PFr) (s : PS) (o : POp) : Mono fun n => zact P (zcallN P Γ ext n) f s o := fun _ _ h => lz_act (lz_calls h) f s o
theorem limz_act (f : PFr) (s : PS) (o : POp) : Lim (fun n => zact P (zcallN P Γ ext n) f s o) = zact P (zcall P Γ ext) f s o := by
  unfold zact
  cases o with
  | call x args =>
    simp only
    cases pval f x with
    | fn g first cap => rfl
    | _ => exact lim_const _
  | _ => exact lim_const _
theorem limz_ops : ∀ (l : List PI) (f : PFr) (s : PS), Lim (fun n => zops P (zcallN P Γ ext n) l f s) = zops P (zcall P Γ ext) l f s := by
  intro l
  induction l with
  | nil => intro f s; exact lim_const _
  | cons i l ih =>
    intro f s
    simp only [zops]
    cases guardP f i.gd with
    | none => exact lim_const _
    | some b =>
      cases b with
      | false => exact ih _ _
      | true =>
        simp only
        refine (lim_bind (mz_act f s i.op) fun q => ?_).trans ?_
        · cases q with
          | ok v s' => exact fun _ _ h => lz_ops (lz_calls h) _ _ _
          | pan v s' => exact fun _ _ _ => .refl _
        · rw [limz_act]
          congr 1
          funext q
          cases q with
          | ok v s' => exact ih _ _
          | pan v s' => exact lim_const _
theorem limz_pan (b : Bool) (f : PFr) (s : PS) (o : POp) : Lim (fun n => zpan P (zcallN P Γ ext n) b f s o) = zpan P (zcall P Γ ext) b f s o := by
  unfold zpan
  split
  · refine (lim_bind (mz_act f s o) fun q => fun _ _ _ => .refl _).trans ?_
    rw [limz_act]
    congr 1
    funext q
    exact lim_const _
  · exact lim_const _
theorem limz_draw : ∀ (l : List (PI × List Nat × List Nat)) (b : Bool) (j : Nat) (acc : List (Nat × Eff × Nat × Nat)) (f : PFr) (s : PS), Lim (fun n => zdraw P (puOf Γ) (zcallN P Γ ext n) b l j acc f s) = zdraw P (puOf Γ) (zcall P Γ ext) b l j acc f s := by
  intro l
  induction l with
  | nil => intro b j acc f s; exact lim_const _
  | cons i l ih =>
    intro b j acc f s
    obtain ⟨i, ls, un⟩ := i
    simp only [zdraw]
    cases guardP (onlyP ls f) i.gd with
    | none => exact lim_const _
    | some g =>
      cases g with
      | false =>
        simp only
        split
        · exact ih _ _ _ _ _
        · exact lim_const _
      | true =>
        simp only
        refine (lim_bind (mz_act _ s i.op) fun q => ?_).trans ?_
        · cases q with
          | ok v s' =>
            simp only
            split
            · exact fun _ _ h => lz_draw (lz_calls h) _ _ _ _ _ _
            · exact fun _ _ _ => .refl _
          | pan v s' => exact fun _ _ h => lz_pan (lz_calls h) _ _ _ _
        · rw [limz_act]
          congr 1
          funext q
          cases q with
          | ok v s' =>
            simp only
            split
            · exact ih _ _ _ _ _
            · exact lim_const _
          | pan v s' => exact limz_pan _ _ _ _
theorem zcode_reg (l : List PI) (f : PFr) (s : PS) : zcode P Γ ext (.reg l) f s = zops P (zcall P Γ ext) l f s := limz_ops l f s
theorem zcode_draw (l : List (PI × List Nat × List Nat)) (f : PFr) (s : PS) : zcode P Γ ext (.draw l) f s = zdraw P (puOf Γ) (zcall P Γ ext) true l 0 [] f s := limz_draw l _ _ _ f s
theorem zcode_skip (f : PFr) (s : PS) : zcode P Γ ext .skip f s = some (.go .normal f s) := lim_const _
theorem zcode_exit (id : Nat) (f : PFr) (s : PS) : zcode P Γ ext (.exit id) f s = some (.go (.exit id) f s) := lim_const _
theorem zcode_ret (f : PFr) (s : PS) : zcode P Γ ext .ret f s = some (.go .ret f s) := lim_const _
theorem zcode_seq (a b : PCode) (f : PFr) (s : PS) : zcode P Γ ext (.seq a b) f s = zseq (zcode P Γ ext a f s) (zcode P Γ ext b) := by
  refine (lim_bind (F := fun n => zcodeN P (puOf Γ) (zcallN P Γ ext n) n a f s) (G := fun n q => match q with | .go .normal f s => zcodeN P (puOf Γ) (zcallN P Γ ext n) n b f s | r => some r) (mz_code a f s) fun q => ?_).trans ?_
  · rcases q with ⟨x, f, s⟩ | ⟨v, f, s⟩
    · cases x with
      | normal => exact mz_code b _ _
      | _ => exact fun _ _ _ => .refl _
    · exact fun _ _ _ => .refl _
  · unfold zseq zcode
    congr 1
    funext q
    rcases q with ⟨x, f, s⟩ | ⟨v, f, s⟩
    · cases x with
      | normal => rfl
      | _ => exact lim_const _
    · exact lim_const _
theorem zcode_cond (o : Operand) (a b : PCode) (f : PFr) (s : PS) : zcode P Γ ext (.cond o a b) f s = zcond (asBool (pval f o)) (zcode P Γ ext a f s) (zcode P Γ ext b f s) := by
  unfold zcode zcond
  simp only [zcodeN, zcond]
  cases asBool (pval f o) with
  | none => exact lim_const _
  | some t => cases t <;> rfl
theorem zcode_block (id : Nat) (b : PCode) (f : PFr) (s : PS) : zcode P Γ ext (.block id b) f s = zblk id (zcode P Γ ext b f s) := lim_map (mz_code b f s) _
theorem zseq_some {r : Option ZC} {k : PFr → PS → Option ZC} {x : ZC} : zseq r k = some x ↔ (∃ f s, r = some (.go .normal f s) ∧ k f s = some x) ∨ (r = some x ∧ ∀ f s, x ≠ .go .normal f s) := by
  unfold zseq
  constructor
  · intro h
    rw [Option.bind_eq_some_iff] at h
    obtain ⟨q, h1, h2⟩ := h
    rcases q with ⟨y, f, s⟩ | ⟨v, f, s⟩
    · cases y with
      | normal => exact .inl ⟨f, s, h1, h2⟩
      | _ => injection h2 with h2; subst h2; exact .inr ⟨h1, fun _ _ h => by cases h⟩
    · injection h2 with h2; subst h2; exact .inr ⟨h1, fun _ _ h => by cases h⟩
  · rintro (⟨f, s, rfl, h⟩ | ⟨rfl, h⟩)
    · exact h
    · rcases x with ⟨y, f, s⟩ | ⟨v, f, s⟩
      · cases y with
        | normal => exact absurd rfl (h f s)
        | _ => rfl
      · rfl
theorem zcode_loop (b : PCode) (f : PFr) (s : PS) : zcode P Γ ext (.loop b) f s = zseq (zcode P Γ ext b f s) (zcode P Γ ext (.loop b)) := by
  apply Option.ext
  intro x
  rw [zseq_some]
  unfold zcode
  rw [lim_iff (mz_code (.loop b) f s)]
  constructor
  · rintro ⟨n, h⟩
    cases n with
    | zero => cases h
    | succ n =>
      have h' : zseq (zcodeN P (puOf Γ) (zcallN P Γ ext (n + 1)) (n + 1) b f s) (zloop (zcodeN P (puOf Γ) (zcallN P Γ ext (n + 1)) (n + 1) b) n) = some x := h
      rw [zseq_some] at h'
      rcases h' with ⟨f1, s1, h1, h2⟩ | ⟨h1, h2⟩
      · refine .inl ⟨f1, s1, (lim_iff (mz_code b f s) _).2 ⟨_, h1⟩, (lim_iff (mz_code (.loop b) _ _) x).2 ⟨n + 1, ?_⟩⟩
        exact lz_loop (fun _ _ => .refl _) n (n + 1) (by omega) _ _ _ h2
      · exact .inr ⟨(lim_iff (mz_code b f s) _).2 ⟨_, h1⟩, h2⟩
  · rintro (⟨f1, s1, h1, h2⟩ | ⟨h1, h2⟩)
    · obtain ⟨n, h1⟩ := (lim_iff (mz_code b f s) _).1 h1
      obtain ⟨m, h2⟩ := (lim_iff (mz_code (.loop b) _ _) x).1 h2
      refine ⟨max n m + 1, ?_⟩
      show zseq (zcodeN P (puOf Γ) (zcallN P Γ ext (max n m + 1)) (max n m + 1) b f s) (zloop (zcodeN P (puOf Γ) (zcallN P Γ ext (max n m + 1)) (max n m + 1) b) (max n m)) = some x
      rw [zseq_some]
      refine .inl ⟨f1, s1, mz_code b f s n _ (by omega) _ h1, ?_⟩
      exact lz_loop (fun f s => mz_code b f s m _ (by omega)) m (max n m) (by omega) _ _ _ h2
    · obtain ⟨n, h1⟩ := (lim_iff (mz_code b f s) _).1 h1
      refine ⟨n + 1, ?_⟩
      show zseq (zcodeN P (puOf Γ) (zcallN P Γ ext (n + 1)) (n + 1) b f s) (zloop (zcodeN P (puOf Γ) (zcallN P Γ ext (n + 1)) (n + 1) b) n) = some x
      rw [zseq_some]
      exact .inr ⟨mz_code b f s n _ (by omega) _ h1, h2⟩
theorem zcall_eq {g : Nat} {fn : PFn} (h : Γ g = some fn) (args : List PV) (s : PS) (hl : args.length ≤ fn.nt) : zcall P Γ ext g args s = (zcode P Γ ext fn.body (initP args 0) ⟨s.h, s.n, s.n⟩).bind (zleave fn s) := by
  unfold zcall
  rw [← lim_succ (mz_call g args s)]
  have e : (fun n => zcallN P Γ ext (n + 1) g args s) = fun n => zenter P (puOf Γ) (zcallN P Γ ext n) n fn args s := by
    funext n
    simp only [zcallN, h]
  rw [e]
  unfold zenter
  simp only [if_pos hl]
  exact lim_bind (mz_code fn.body (initP args 0) ⟨s.h, s.n, s.n⟩) (fun q => fun _ _ _ => .refl _) |>.trans (by
    unfold zcode
    congr 1
    funext q
    exact lim_const _)
theorem zcall_ext {g : Nat} (h : Γ g = none) (args : List PV) (s : PS) : zcall P Γ ext g args s = zokR (ext g args s) := by
  unfold zcall
  rw [← lim_succ (mz_call g args s)]
  have e : (fun n => zcallN P Γ ext (n + 1) g args s) = fun _ => zokR (ext g args s) := by
    funext n
    simp only [zcallN, h]
  rw [e]
  exact lim_const _
def ZOK (P : Program) (Γ : Nat → Option PFn) (ext : PCallF) (z : ZCallF) (c : PCallF) (K : KX) : Prop := ∀ g args s, (∀ v s', z g args s = some (.ok v s') → c g args s = some (v, s')) ∧ ∀ v s', z g args s = some (.pan v s') → ∀ U : Value → PS → Prop, U v s' → K g args s U
theorem zokR_some {o : Option (PV × PS)} {r : ZR} : zokR o = some r ↔ ∃ v s, o = some (v, s) ∧ r = .ok v s := by
  unfold zokR
  rw [Option.map_eq_some_iff]
  constructor
  · rintro ⟨⟨v, s⟩, h, rfl⟩; exact ⟨v, s, h, rfl⟩
  · rintro ⟨v, s, h, rfl⟩; exact ⟨(v, s), h, rfl⟩
theorem setG_setD0 (f h : PFr) (d : Option Nat) (v : PV) : setG f d (setD h d v) = setD f d v := by
  cases d with
  | none => rfl
  | some d =>
    show PFr.set f d (PFr.set h d v d) = _
    rw [show PFr.set h d v d = v from if_pos rfl]; rfl
section
variable {z : ZCallF} {c : PCallF} {K : KX}
theorem zact_ok (hz : ZOK P Γ ext z c K) (f : PFr) (s : PS) (o : POp) : (∀ v s', zact P z f s o = some (.ok v s') → actP P c f s o = some (v, s')) ∧ ∀ v s', zact P z f s o = some (.pan v s') → ∀ U : Value → PS → Prop, U v s' → XA K f s U o := by
  unfold zact actP XA
  cases o with
  | call x args =>
    simp only [callP]
    cases pval f x with
    | fn g first cap => exact hz g _ s
    | _ => exact ⟨fun _ _ h => (by simp at h), fun _ _ h => (by simp at h)⟩
  | pan x =>
    simp only
    refine ⟨fun v s' h => ?_, fun v s' h U hu => ?_⟩
    · split at h
      · split at h <;> cases h
      · cases h
    · cases hp : pval f x with
      | sc u =>
        cases u with
        | iface t w =>
          simp only [hp] at h ⊢
          split at h
          · rename_i hs
            injection h with h; injection h with h1 h2; subst h1; subst h2
            exact ⟨hs, hu⟩
          · cases h
        | _ => simp [hp] at h
      | _ => simp [hp] at h
  | _ =>
    refine ⟨fun v s' h => ?_, fun v s' h => ?_⟩
    · obtain ⟨v1, s1, h1, h2⟩ := zokR_some.1 h
      injection h2 with h2 h3; subst h2; subst h3
      exact h1
    · obtain ⟨v1, s1, h1, h2⟩ := zokR_some.1 h
      cases h2
theorem zstep_ok (hz : ZOK P Γ ext z c K) (hc : LeC c (pcall P Γ ext)) {i : PI} {f : PFr} {s : PS} {v : PV} {s' : PS} (hg : guardP f i.gd = some true) (h : zact P z f s i.op = some (.ok v s')) : stepP P c i f s = some (setD f i.dst v, s') := by
  unfold stepP
  rw [hg]
  simp only [(zact_ok hz f s i.op).1 v s' h]
  rfl
theorem zops_ok (hz : ZOK P Γ ext z c K) (hc : LeC c (pcall P Γ ext)) : ∀ (l : List PI) (f : PFr) (s : PS), (∀ x f' s', zops P z l f s = some (.go x f' s') → x = .normal ∧ opsP P c l f s = some (f', s')) ∧ ∀ v f' s', zops P z l f s = some (.pan v f' s') → ∀ U : XU, U v f' s' → XO P Γ ext K l f s U := by
  intro l
  induction l with
  | nil => intro f s; exact ⟨fun x f' s' h => (by injection h with h; injection h with h1 h2 h3; subst h1; subst h2; subst h3; exact ⟨rfl, rfl⟩), fun v f' s' h => (by cases h)⟩
  | cons i l ih =>
    intro f s
    cases hg : guardP f i.gd with
    | none => exact ⟨fun _ _ _ h => (by simp only [zops, hg] at h; cases h), fun _ _ _ h => (by simp only [zops, hg] at h; cases h)⟩
    | some b =>
      cases b with
      | false =>
        have hst : stepP P c i f s = some (setD f i.dst (.sc undef), s) := by unfold stepP; rw [hg]
        obtain ⟨a1, a2⟩ := ih (setD f i.dst (.sc undef)) s
        refine ⟨fun x f' s' h => ?_, fun v f' s' h U hu => ?_⟩
        · simp only [zops, hg] at h
          obtain ⟨b1, b2⟩ := a1 x f' s' h
          exact ⟨b1, by show (stepP P c i f s).bind _ = _; rw [hst]; exact b2⟩
        · simp only [zops, hg] at h
          exact .inr ⟨_, le_step hc i f s _ hst, a2 v f' s' h U hu⟩
      | true =>
        refine ⟨fun x f' s' h => ?_, fun v f' s' h U hu => ?_⟩
        · simp only [zops, hg] at h
          rw [Option.bind_eq_some_iff] at h
          obtain ⟨q, h1, h2⟩ := h
          cases q with
          | ok v1 s1 =>
            obtain ⟨b1, b2⟩ := (ih _ _).1 x f' s' h2
            exact ⟨b1, by show (stepP P c i f s).bind _ = _; rw [zstep_ok hz hc hg h1]; exact b2⟩
          | pan v1 s1 => cases h2
        · simp only [zops, hg] at h
          rw [Option.bind_eq_some_iff] at h
          obtain ⟨q, h1, h2⟩ := h
          cases q with
          | ok v1 s1 => exact .inr ⟨_, le_step hc i f s _ (zstep_ok hz hc hg h1), (ih _ _).2 v f' s' h2 U hu⟩
          | pan v1 s1 =>
            injection h2 with h2; injection h2 with e1 e2 e3; subst e1; subst e2; subst e3
            exact .inl ⟨hg, (zact_ok hz f s i.op).2 v1 s1 h1 _ hu⟩
theorem zdraw_ok (hz : ZOK P Γ ext z c K) (hc : LeC c (pcall P Γ ext)) : ∀ (l : List (PI × List Nat × List Nat)) (b : Bool) (j : Nat) (acc : List (Nat × Eff × Nat × Nat)) (f : PFr) (s : PS),
    (∀ x f' s', zdraw P (puOf Γ) z b l j acc f s = some (.go x f' s') → x = .normal ∧ drawP P (puOf Γ) c l j acc f s = some (f', s')) ∧ ∀ v f' s', zdraw P (puOf Γ) z b l j acc f s = some (.pan v f' s') → b = true ∧ ∀ U : XU, U v f' s' → XD P Γ ext K l j acc f s U := by
  intro l
  induction l with
  | nil => intro b j acc f s; exact ⟨fun x f' s' h => (by injection h with h; injection h with h1 h2 h3; subst h1; subst h2; subst h3; exact ⟨rfl, rfl⟩), fun v f' s' h => (by cases h)⟩
  | cons i l ih =>
    intro b j acc f s
    obtain ⟨i, ls, un⟩ := i
    cases hg : guardP (onlyP ls f) i.gd with
    | none => exact ⟨fun _ _ _ h => (by simp only [zdraw, hg] at h; cases h), fun _ _ _ h => (by simp only [zdraw, hg] at h; cases h)⟩
    | some g =>
      cases g with
      | false =>
        have hst : stepP P c i (onlyP ls f) s = some (setD (onlyP ls f) i.dst (.sc undef), s) := by unfold stepP; rw [hg]
        refine ⟨fun x f' s' h => ?_, fun v f' s' h => ?_⟩
        · simp only [zdraw, hg] at h
          split at h
          · rename_i hok
            obtain ⟨b1, b2⟩ := (ih _ _ _ _ _).1 x f' s' h
            refine ⟨b1, ?_⟩
            show (stepP P c i (onlyP ls f) s).bind _ = _
            rw [hst]
            simp only [Option.bind_some, setG_setD0, if_pos hok]
            exact b2
          · cases h
        · simp only [zdraw, hg] at h
          split at h
          · have := ((ih _ _ _ _ _).2 v f' s' h).1
            cases this
          · cases h
      | true =>
        refine ⟨fun x f' s' h => ?_, fun v f' s' h => ?_⟩
        · simp only [zdraw, hg] at h
          rw [Option.bind_eq_some_iff] at h
          obtain ⟨q, h1, h2⟩ := h
          cases q with
          | ok v1 s1 =>
            simp only at h2
            split at h2
            · rename_i hok
              obtain ⟨b1, b2⟩ := (ih _ _ _ _ _).1 x f' s' h2
              refine ⟨b1, ?_⟩
              show (stepP P c i (onlyP ls f) s).bind _ = _
              rw [zstep_ok hz hc hg h1]
              simp only [Option.bind_some, setG_setD0, if_pos hok]
              exact b2
            · cases h2
          | pan v1 s1 =>
            simp only at h2
            unfold zpan at h2
            split at h2
            · rw [Option.bind_eq_some_iff] at h2
              obtain ⟨q, _, h3⟩ := h2
              cases q <;> cases h3
            · cases h2
        · simp only [zdraw, hg] at h
          rw [Option.bind_eq_some_iff] at h
          obtain ⟨q, h1, h2⟩ := h
          cases q with
          | ok v1 s1 =>
            simp only at h2
            split at h2
            · rename_i hok
              obtain ⟨b1, b2⟩ := (ih _ _ _ _ _).2 v f' s' h2
              rw [Bool.and_eq_true, Option.isNone_iff_eq_none] at b1
              refine ⟨b1.1, fun U hu => ⟨b1.2, .inr ⟨_, le_step hc i (onlyP ls f) s _ (zstep_ok hz hc hg h1), hok.1, hok.2, ?_⟩⟩⟩
              simp only [setG_setD0]
              exact b2 U hu
            · cases h2
          | pan v1 s1 =>
            simp only at h2
            unfold zpan at h2
            split at h2
            · rename_i hb
              simp only [Bool.and_eq_true, Option.isNone_iff_eq_none] at hb
              rw [Option.bind_eq_some_iff] at h2
              obtain ⟨q, h2, h3⟩ := h2
              cases q with
              | ok _ _ => cases h3
              | pan v2 s2 =>
                injection h3 with h3; injection h3 with e1 e2 e3; subst e1; subst e2; subst e3
                exact ⟨hb.1.1, fun U hu => ⟨hb.1.2, .inl ⟨hb.2, (zact_ok hz f s i.op).2 v2 s2 h2 _ hu⟩⟩⟩
            · cases h2
theorem zc_ok (hz : ZOK P Γ ext z c K) (hc : LeC c (pcall P Γ ext)) {L : Nat} (hL : ∀ pc f s, Le (codeP P (puOf Γ) c L pc f s) (pcode P Γ ext pc f s)) : ∀ (pc : PCode) (f : PFr) (s : PS),
    (∀ x f' s', zcodeN P (puOf Γ) z L pc f s = some (.go x f' s') → codeP P (puOf Γ) c L pc f s = some (x, f', s')) ∧ ∀ v f' s', zcodeN P (puOf Γ) z L pc f s = some (.pan v f' s') → ∀ U : XU, U v f' s' → XC P Γ ext K pc f s U := by
  intro pc
  induction pc with
  | skip => intro f s; exact ⟨fun x f' s' h => (by injection h with h; injection h with h1 h2 h3; subst h1; subst h2; subst h3; rfl), fun v f' s' h => (by cases h)⟩
  | exit id => intro f s; exact ⟨fun x f' s' h => (by injection h with h; injection h with h1 h2 h3; subst h1; subst h2; subst h3; rfl), fun v f' s' h => (by cases h)⟩
  | ret => intro f s; exact ⟨fun x f' s' h => (by injection h with h; injection h with h1 h2 h3; subst h1; subst h2; subst h3; rfl), fun v f' s' h => (by cases h)⟩
  | bad => intro f s; exact ⟨fun x f' s' h => (by cases h), fun v f' s' h => (by cases h)⟩
  | reg l =>
    intro f s
    refine ⟨fun x f' s' h => ?_, fun v f' s' h => (zops_ok hz hc l f s).2 v f' s' h⟩
    obtain ⟨rfl, h2⟩ := (zops_ok hz hc l f s).1 x f' s' h
    show (opsP P c l f s).map _ = _
    rw [h2]; rfl
  | draw l =>
    intro f s
    refine ⟨fun x f' s' h => ?_, fun v f' s' h => ((zdraw_ok hz hc l true 0 [] f s).2 v f' s' h).2⟩
    obtain ⟨rfl, h2⟩ := (zdraw_ok hz hc l true 0 [] f s).1 x f' s' h
    show (drawP P (puOf Γ) c l 0 [] f s).map _ = _
    rw [h2]; rfl
  | seq a b iha ihb =>
    intro f s
    refine ⟨fun x f' s' h => ?_, fun v f' s' h U hu => ?_⟩
    · rcases zseq_some.1 h with ⟨f1, s1, h1, h2⟩ | ⟨h1, h2⟩
      · show seqP (codeP P (puOf Γ) c L a f s) _ = _
        rw [(iha f s).1 _ _ _ h1]
        exact (ihb f1 s1).1 _ _ _ h2
      · show seqP (codeP P (puOf Γ) c L a f s) _ = _
        rw [(iha f s).1 _ _ _ h1]
        cases x with
        | normal => exact absurd rfl (h2 f' s')
        | _ => rfl
    · rcases zseq_some.1 h with ⟨f1, s1, h1, h2⟩ | ⟨h1, h2⟩
      · exact .inr ⟨f1, s1, hL a f s _ ((iha f s).1 _ _ _ h1), (ihb f1 s1).2 _ _ _ h2 U hu⟩
      · exact .inl ((iha f s).2 _ _ _ h1 U hu)
  | cond o a b iha ihb =>
    intro f s
    simp only [zcodeN, codeP, XC]
    unfold zcond condP
    cases asBool (pval f o) with
    | none => exact ⟨fun _ _ _ h => (by cases h), fun _ _ _ h => (by cases h)⟩
    | some t =>
      cases t with
      | true => exact ⟨(iha f s).1, fun v f' s' h U hu => .inl ⟨rfl, (iha f s).2 v f' s' h U hu⟩⟩
      | false => exact ⟨(ihb f s).1, fun v f' s' h U hu => .inr ⟨rfl, (ihb f s).2 v f' s' h U hu⟩⟩
  | block id b ih =>
    intro f s
    refine ⟨fun x f' s' h => ?_, fun v f' s' h U hu => ?_⟩
    · have h' : zblk id (zcodeN P (puOf Γ) z L b f s) = some (.go x f' s') := h
      unfold zblk at h'
      rw [Option.map_eq_some_iff] at h'
      obtain ⟨q, h1, h2⟩ := h'
      rcases q with ⟨y, f1, s1⟩ | ⟨w, f1, s1⟩
      · show blockP id (codeP P (puOf Γ) c L b f s) = _
        rw [(ih f s).1 _ _ _ h1]
        cases y with
        | exit i =>
          simp only at h2
          show some (if i = id then _ else _) = _
          split at h2
          · rename_i hi; injection h2 with e1 e2 e3; subst e1; subst e2; subst e3; rw [if_pos hi]
          · rename_i hi; injection h2 with e1 e2 e3; subst e1; subst e2; subst e3; rw [if_neg hi]
        | _ => injection h2 with e1 e2 e3; subst e1; subst e2; subst e3; rfl
      · cases h2
    · have h' : zblk id (zcodeN P (puOf Γ) z L b f s) = some (.pan v f' s') := h
      unfold zblk at h'
      rw [Option.map_eq_some_iff] at h'
      obtain ⟨q, h1, h2⟩ := h'
      rcases q with ⟨y, f1, s1⟩ | ⟨w, f1, s1⟩
      · cases y with
        | exit i => simp only at h2; split at h2 <;> cases h2
        | _ => cases h2
      · injection h2 with e1 e2 e3; subst e1; subst e2; subst e3
        exact (ih f s).2 _ _ _ h1 U hu
  | loop b ih =>
    have key : ∀ n f s, (∀ x f' s', zloop (zcodeN P (puOf Γ) z L b) n f s = some (.go x f' s') → loopP (codeP P (puOf Γ) c L b) n f s = some (x, f', s')) ∧ ∀ v f' s', zloop (zcodeN P (puOf Γ) z L b) n f s = some (.pan v f' s') → ∀ U : XU, U v f' s' → XL (fun f s => XC P Γ ext K b f s U) (pcode P Γ ext b) f s := by
      intro n
      induction n with
      | zero => intro f s; exact ⟨fun _ _ _ h => (by cases h), fun _ _ _ h => (by cases h)⟩
      | succ n ihn =>
        intro f s
        refine ⟨fun x f' s' h => ?_, fun v f' s' h U hu => ?_⟩
        · rcases zseq_some.1 h with ⟨f1, s1, h1, h2⟩ | ⟨h1, h2⟩
          · show seqP (codeP P (puOf Γ) c L b f s) _ = _
            rw [(ih f s).1 _ _ _ h1]
            exact (ihn f1 s1).1 _ _ _ h2
          · show seqP (codeP P (puOf Γ) c L b f s) _ = _
            rw [(ih f s).1 _ _ _ h1]
            cases x with
            | normal => exact absurd rfl (h2 f' s')
            | _ => rfl
        · rcases zseq_some.1 h with ⟨f1, s1, h1, h2⟩ | ⟨h1, h2⟩
          · exact .next f s f1 s1 (hL b f s _ ((ih f s).1 _ _ _ h1)) ((ihn f1 s1).2 _ _ _ h2 U hu)
          · exact .here f s ((ih f s).2 _ _ _ h1 U hu)
    intro f s
    exact key L f s
theorem zleave_ok {fn : PFn} {s : PS} {r : ZC} {v : PV} {s' : PS} (h : zleave fn s r = some (.ok v s')) : ∃ x f1 s1, r = .go x f1 s1 ∧ endP (x, f1, s1) (leaveP fn s) = some (v, s') := by
  unfold zleave at h
  rcases r with ⟨x, f, s1⟩ | ⟨w, f, s1⟩
  · cases x with
    | exit i => cases h
    | normal =>
      obtain ⟨v1, s2, h1, h2⟩ := zokR_some.1 h
      injection h2 with e1 e2; subst e1; subst e2
      exact ⟨_, _, _, rfl, h1⟩
    | ret =>
      obtain ⟨v1, s2, h1, h2⟩ := zokR_some.1 h
      injection h2 with e1 e2; subst e1; subst e2
      exact ⟨_, _, _, rfl, h1⟩
  · simp only at h
    split at h
    · cases h
    · split at h <;> cases h
theorem zleave_pan {fn : PFn} {s : PS} {r : ZC} {v : Value} {s' : PS} (h : zleave fn s r = some (.pan v s')) : ∃ f1 s1, r = .pan v f1 s1 ∧ ((fn.keep = true ∧ s' = ⟨s1.h, s1.n, min s.w s1.w⟩) ∨ (fn.keep = false ∧ s.n ≤ s1.w ∧ s' = s)) := by
  unfold zleave at h
  rcases r with ⟨x, f, s1⟩ | ⟨w, f, s1⟩
  · cases x with
    | exit i => cases h
    | normal => obtain ⟨v1, s2, h1, h2⟩ := zokR_some.1 h; cases h2
    | ret => obtain ⟨v1, s2, h1, h2⟩ := zokR_some.1 h; cases h2
  · simp only at h
    split at h
    · rename_i hk
      injection h with h; injection h with e1 e2; subst e1; subst e2
      exact ⟨f, s1, rfl, .inl ⟨hk, rfl⟩⟩
    · rename_i hk
      split at h
      · rename_i hw
        injection h with h; injection h with e1 e2; subst e1; subst e2
        exact ⟨f, s1, rfl, .inr ⟨by simpa using hk, hw, rfl⟩⟩
      · cases h
end
theorem zcallN_ok : ∀ n, ZOK P Γ ext (zcallN P Γ ext n) (callN P Γ ext n) (XKn P Γ ext n) := by
  intro n
  induction n with
  | zero => intro g args s; exact ⟨fun _ _ h => (by cases h), fun _ _ h => (by cases h)⟩
  | succ n ih =>
    intro g args s
    have hc : LeC (callN P Γ ext n) (pcall P Γ ext) := fun g args s x hx => (lim_iff (mono_call g args s) x).2 ⟨n, hx⟩
    have hL : ∀ pc f s, Le (codeP P (puOf Γ) (callN P Γ ext n) n pc f s) (pcode P Γ ext pc f s) := fun pc f s x hx => (lim_iff (mono_code pc f s) x).2 ⟨n, hx⟩
    simp only [zcallN, callN]
    cases hg : Γ g with
    | none =>
      refine ⟨fun v s' h => ?_, fun v s' h => ?_⟩
      · obtain ⟨v1, s1, h1, h2⟩ := zokR_some.1 h
        injection h2 with e1 e2; subst e1; subst e2
        exact h1
      · obtain ⟨v1, s1, h1, h2⟩ := zokR_some.1 h; cases h2
    | some fn =>
      simp only
      unfold zenter enterP
      split
      · rename_i hl
        refine ⟨fun v s' h => ?_, fun v s' h U hu => ?_⟩
        · rw [Option.bind_eq_some_iff] at h
          obtain ⟨r, h1, h2⟩ := h
          obtain ⟨x, f1, s1, rfl, h3⟩ := zleave_ok h2
          rw [(zc_ok ih hc hL _ _ _).1 _ _ _ h1]
          exact h3
        · rw [Option.bind_eq_some_iff] at h
          obtain ⟨r, h1, h2⟩ := h
          obtain ⟨f1, s1, rfl, h3⟩ := zleave_pan h2
          refine ⟨fn, hg, hl, (zc_ok ih hc hL _ _ _).2 _ _ _ h1 _ ?_⟩
          rcases h3 with ⟨h3, rfl⟩ | ⟨h3, h4, rfl⟩
          · exact .inl ⟨h3, hu⟩
          · exact .inr ⟨h3, h4, hu⟩
      · exact ⟨fun _ _ h => (by cases h), fun _ _ h => (by cases h)⟩
theorem zcall_ok {g : Nat} {args : List PV} {s : PS} {v : PV} {s' : PS} (h : zcall P Γ ext g args s = some (.ok v s')) : pcall P Γ ext g args s = some (v, s') := by
  obtain ⟨n, h⟩ := (lim_iff (mz_call g args s) _).1 h
  exact (lim_iff (mono_call g args s) _).2 ⟨n, (zcallN_ok n g args s).1 v s' h⟩
theorem zcode_go {c : PCode} {f : PFr} {s : PS} {x : PXt} {f' : PFr} {s' : PS} (h : zcode P Γ ext c f s = some (.go x f' s')) : pcode P Γ ext c f s = some (x, f', s') := by
  obtain ⟨n, h⟩ := (lim_iff (mz_code c f s) _).1 h
  have hc : LeC (callN P Γ ext n) (pcall P Γ ext) := fun g args s x hx => (lim_iff (mono_call g args s) x).2 ⟨n, hx⟩
  have hL : ∀ pc f s, Le (codeP P (puOf Γ) (callN P Γ ext n) n pc f s) (pcode P Γ ext pc f s) := fun pc f s x hx => (lim_iff (mono_code pc f s) x).2 ⟨n, hx⟩
  exact hL c f s _ ((zc_ok (zcallN_ok n) hc hL c f s).1 x f' s' h)
end
end Go.PE
namespace Go.Mir
def bt (l : List UInt8) (i : Nat) : Nat := (l.getD i 0).toNat
def isLetter (c : Nat) : Bool := decide (97 ≤ c) && decide (c ≤ 122) || decide (65 ≤ c) && decide (c ≤ 90)
def isDigit (c : Nat) : Bool := decide (48 ≤ c) && decide (c ≤ 57)
def isBlank (c : Nat) : Bool := c == 9 || c == 32
def isOpByte (c : Nat) : Bool := c == 38 || c == 124 || c == 59 || c == 40 || c == 41 || c == 60 || c == 62
def isWord (c : Nat) : Bool := isLetter c || isDigit c || c == 95
def isSpecial (c : Nat) : Bool := isDigit c || c == 64 || c == 42 || c == 35 || c == 63 || c == 45 || c == 36 || c == 33
def isExp (l : List UInt8) (a : Nat) : Bool := decide (a + 1 < l.length) && bt l a == 36 && (isWord (bt l (a + 1)) || isSpecial (bt l (a + 1)) || bt l (a + 1) == 123 || bt l (a + 1) == 40)
def joined (l : List UInt8) (i : Nat) : Bool := decide (i + 1 < l.length) && bt l i == 92 && bt l (i + 1) == 10
/-- where a run of bytes isEnd -/
def run (q : Nat → Bool) (l : List UInt8) (i : Nat) : Nat := i + ((l.drop i).takeWhile fun c => q c.toNat).length
def nmEnd (l : List UInt8) (i : Nat) : Nat := run isWord l i
def toByte (l : List UInt8) (c i : Nat) : Nat := run (fun x => x != c) l i
/-- what is read: a construct, or what is left of one from an offset on -/
inductive Tag where
  | pass (a p : Nat)
  | exp (a p : Nat)
  | bq (i a : Nat)
  | dbl (i a : Nat)
  | brc (i a p : Nat)
  | cmd (i a o : Nat) (b : Bool)
  | ari (i a o : Nat)
def open2 (c o : Nat) : Nat := if c = 40 then o + 1 else if c = 41 then o - 1 else o
def isBreak (c : Nat) : Bool := isBlank c || c == 10 || isOpByte c
/-- where a reading isBreak, and what its end is bounded by -/
def Tag.at : Tag → Nat
  | .pass a _ | .exp a _ => a
  | .bq i _ | .dbl i _ | .brc i _ _ | .cmd i _ _ _ | .ari i _ _ => i
end Go.Mir
namespace Go.Mir
def Tag.ok (l : List UInt8) : Tag → Prop
  | .pass a _ => a < l.length
  | .exp a _ => isExp l a = true
  | .bq i a | .dbl i a | .brc i a _ | .cmd i a _ _ | .ari i a _ => i ≤ l.length ∧ a < l.length
def Tag.size (l : List UInt8) : Tag → Nat
  | .pass a _ => 3 * (l.length - a) + 1
  | .exp a _ => 3 * (l.length - a)
  | .bq i _ | .dbl i _ | .brc i _ _ | .cmd i _ _ _ | .ari i _ _ => 3 * (l.length - i) + 2
end Go.Mir
namespace Go.PE
open Go Go.EvL
section
variable {P : Program} {Γ : Nat → Option PFn} {ext : PCallF}
theorem bin_ceql (t : Nat) (x y : Operand) (a b : Int) : binP P .eql t x y (.sc (.int .u8 a)) (.sc (.int .u8 b)) = some (.sc (.bool (a == b))) := (rfl)
theorem bin_cneq (t : Nat) (x y : Operand) (a b : Int) : binP P .neq t x y (.sc (.int .u8 a)) (.sc (.int .u8 b)) = some (.sc (.bool (a != b))) := (rfl)
theorem bin_clss (t : Nat) (x y : Operand) (a b : Int) : binP P .lss t x y (.sc (.int .u8 a)) (.sc (.int .u8 b)) = some (.sc (.bool (decide (a < b)))) := (rfl)
theorem bin_cleq (t : Nat) (x y : Operand) (a b : Int) : binP P .leq t x y (.sc (.int .u8 a)) (.sc (.int .u8 b)) = some (.sc (.bool (decide (a ≤ b)))) := (rfl)
theorem bin_cgtr (t : Nat) (x y : Operand) (a b : Int) : binP P .gtr t x y (.sc (.int .u8 a)) (.sc (.int .u8 b)) = some (.sc (.bool (decide (a > b)))) := (rfl)
theorem bin_cgeq (t : Nat) (x y : Operand) (a b : Int) : binP P .geq t x y (.sc (.int .u8 a)) (.sc (.int .u8 b)) = some (.sc (.bool (decide (a ≥ b)))) := (rfl)
theorem beqN (a b : Nat) : ((a : Int) == (b : Int)) = (a == b) := by
  rw [Bool.eq_iff_iff]; simp only [beq_iff_eq]; omega
theorem bneN (a b : Nat) : ((a : Int) != (b : Int)) = !(a == b) := by
  show (!((a : Int) == (b : Int))) = _; rw [beqN]
theorem ltN (a b : Nat) : decide ((a : Int) < (b : Int)) = decide (a < b) := by
  rw [Bool.eq_iff_iff]; simp only [decide_eq_true_iff]; omega
theorem leN (a b : Nat) : decide ((a : Int) ≤ (b : Int)) = decide (a ≤ b) := by
  rw [Bool.eq_iff_iff]; simp only [decide_eq_true_iff]; omega
theorem gtN (a b : Nat) : decide ((a : Int) > (b : Int)) = decide (b < a) := by
  rw [Bool.eq_iff_iff]; simp only [decide_eq_true_iff]; omega
theorem geN (a b : Nat) : decide ((a : Int) ≥ (b : Int)) = decide (b ≤ a) := by
  rw [Bool.eq_iff_iff]; simp only [decide_eq_true_iff]; omega
theorem wrapI {z : Int} (h0 : 0 ≤ z) (h : z < 9223372036854775808) : IntKind.i64.wrap z = z := by
  obtain ⟨n, rfl⟩ := Int.eq_ofNat_of_zero_le h0
  exact wrap_nat (by omega)
theorem addN {i k : Nat} (h : i + k < 9223372036854775808) : IntKind.i64.wrap ((i : Int) + (k : Int)) = ((i + k : Nat) : Int) := by
  rw [wrapI (by omega) (by omega)]; omega
theorem subN {i k : Nat} (h : k ≤ i ∧ i < 9223372036854775808) : IntKind.i64.wrap ((i : Int) - (k : Int)) = ((i - k : Nat) : Int) := by
  rw [wrapI (by omega) (by omega)]; omega
theorem bin_sadd (t : Nat) (x y : Operand) {a b : ByteArray} (h : a.size + b.size < 9223372036854775808) : binP P .add t x y (.sc (.string a)) (.sc (.string b)) = some (.sc (.string (a ++ b))) := by
  have e : binV P .add t x y (.string a) (.string b) = some (.string (a ++ b)) := by
    show pureRun P (if ((a.size + b.size : Nat) : Int) > IntKind.i64.max then _ else pure (Value.string (a ++ b))) = _
    rw [if_neg (by show ¬ (((a.size + b.size : Nat) : Int) > 9223372036854775807); omega)]
    rfl
  simp only [binP, scalar, e]; rfl
end
end Go.PE
namespace Go.PE
open Go Go.EvL
section
variable {P : Program} {Γ : Nat → Option PFn} {ext : PCallF}
theorem gt_e (j : Nat) (w : Bool) (d t : Nat) : gt j w d t = ⟨some d, .mv (.tmp t), some (j, w)⟩ := rfl
theorem ob_e (d : Nat) (p : POp) : ob d p = ⟨some d, p, none⟩ := rfl
theorem og_e (j : Nat) (w : Bool) (d : Nat) (p : POp) : og j w d p = ⟨some d, p, some (j, w)⟩ := rfl
theorem o0_e (p : POp) : o0 p = ⟨none, p, none⟩ := rfl
theorem g0_e (j : Nat) (w : Bool) (p : POp) : g0 j w p = ⟨none, p, some (j, w)⟩ := rfl
theorem bn_e (o : BinOp) (t x y : Nat) : bn o t x y = .bin o t (.tmp x) (.tmp y) := rfl
theorem bi_e (o : BinOp) (x : Nat) (n : Int) : bi o x n = .bin o 3 (.tmp x) (.const (.int .i64 n)) := rfl
theorem bc_e (o : BinOp) (x : Nat) (n : Int) : bc o x n = .bin o 5 (.tmp x) (.const (.int .u8 n)) := rfl
theorem pk_e (a b : Nat) : pk a b = .pick (.tmp a) (.tmp b) (.const (.bool false)) := rfl
theorem po_e (a b : Nat) : po a b = .pick (.tmp a) (.const (.bool true)) (.tmp b) := rfl
theorem cl_e (g : Nat) (l : List Operand) : cl g l = .call (.func g) l := rfl
theorem ce_agg (cs : List PV) : cellsP (.agg cs) = cs := rfl
theorem ce_sc (v : Value) : cellsP (.sc v) = [.sc v] := rfl
theorem ce_own (k off n fin : Nat) : cellsP (.own k off n fin) = [.own k off n fin] := rfl
theorem ce_ptr (k off fin : Nat) : cellsP (.ptr k off fin) = [.ptr k off fin] := rfl
theorem ce_fn (g : Nat) (a c : List PV) : cellsP (.fn g a c) = [.fn g a c] := rfl
theorem ce_lit (e n : Nat) (c : List PV) : cellsP (.lit e n c) = [.lit e n c] := rfl
theorem und_e : undef = .tuple #[] := rfl
theorem init_0 (i : Nat) : initP [] i = fun _ => .sc undef := rfl
theorem init_1 (v : PV) (l : List PV) (i : Nat) : initP (v :: l) i = PFr.set (initP l (i + 1)) i v := rfl
end
end Go.PE
