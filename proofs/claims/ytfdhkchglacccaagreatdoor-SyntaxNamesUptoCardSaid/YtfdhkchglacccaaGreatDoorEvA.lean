/- An evaluator for closed calls: its definitions, and what its states say of a run. No statement is proved here. -/
import GoSem.Step
import Derived.Control
import Derived.Orders
import Derived.Lib.FrozenHead
import Derived.Tactics
import Derived.WalkKit
namespace Go.EvL
open Go
inductive Tr (α : Type) where
  | nil
  | node (v : Option α) (l r : Tr α)
/-- the value is reckoned before it is handed on -/
noncomputable def forceN {β : Type} (n : Nat) (k : Nat → β) : β := Nat.rec (k 0) (fun m _ => k (Nat.succ m)) n
noncomputable def forceT {α β : Type} (t : Tr α) (k : Tr α → β) : β := Tr.rec (motive := fun _ => β) (k .nil) (fun v l r _ _ => k (.node v l r)) t
noncomputable def forceL {α β : Type} (l : List α) (k : List α → β) : β :=
  List.rec (motive := fun _ => (List α → β) → β) (fun k => k []) (fun a _ ih k => ih fun l => k (a :: l)) l k
noncomputable def Tr.get {α : Type} (t : Tr α) : Nat → Option α :=
  Tr.rec (motive := fun _ => Nat → Option α) (fun _ => none) (fun v _ _ gl gr n => Nat.rec v (fun m _ => Nat.rec (gl (Nat.div m 2)) (fun _ _ => gr (Nat.div m 2)) (Nat.mod m 2)) n) t
noncomputable def setNil {α : Type} (a : α) (ih : Tr α → Nat → Tr α) (n : Nat) : Tr α :=
  Nat.rec (.node (some a) .nil .nil) (fun m _ => Nat.rec (forceT (ih .nil (Nat.div m 2)) fun l => .node none l .nil) (fun _ _ => forceT (ih .nil (Nat.div m 2)) fun r => .node none .nil r) (Nat.mod m 2)) n
noncomputable def setNode {α : Type} (a : α) (ih : Tr α → Nat → Tr α) (n : Nat) (v : Option α) (l r : Tr α) : Tr α :=
  Nat.rec (.node (some a) l r) (fun m _ => Nat.rec (forceT (ih l (Nat.div m 2)) fun l => .node v l r) (fun _ _ => forceT (ih r (Nat.div m 2)) fun r => .node v l r) (Nat.mod m 2)) n
noncomputable def Tr.setF {α : Type} (a : α) (f : Nat) : Tr α → Nat → Tr α :=
  Nat.rec (motive := fun _ => Tr α → Nat → Tr α) (fun t _ => t) (fun _ ih t n =>
    Tr.rec (motive := fun _ => Tr α) (setNil a ih n) (fun v l r _ _ => setNode a ih n v l r) t) f
noncomputable def Tr.set {α : Type} (a : α) (_ : Nat) (t : Tr α) (n : Nat) : Tr α := Tr.setF a (Nat.succ n) t n
noncomputable def bytesEq (l : List UInt8) : List UInt8 → Bool :=
  List.rec (motive := fun _ => List UInt8 → Bool) (fun r => List.rec true (fun _ _ _ => false) r)
    (fun a _ ih r => List.rec false (fun b r' _ => Bool.rec false (ih r') (Nat.beq a.toNat b.toNat)) r) l
noncomputable def fastAdd (a b : Nat) : Option Value := forceN (Nat.add a b) fun c => Bool.rec none (some (.int .i64 (.ofNat c))) (Nat.ble c 9223372036854775807)
noncomputable def fastSub (a b : Nat) : Option Value := Bool.rec none (forceN (Nat.sub a b) fun c => Bool.rec none (some (.int .i64 (.ofNat c))) (Nat.ble c 9223372036854775807)) (Nat.ble b a)
noncomputable def boolV (b : Bool) : Option Value := Bool.rec (some (.bool false)) (some (.bool true)) b
noncomputable def fastCmp (op : BinOp) (a b : Nat) : Option Value :=
  match op with
  | .eql => boolV (Nat.beq a b)
  | .neq => boolV (!(Nat.beq a b))
  | .lss => boolV (Nat.ble (Nat.succ a) b)
  | .leq => boolV (Nat.ble a b)
  | .gtr => boolV (Nat.ble (Nat.succ b) a)
  | .geq => boolV (Nat.ble b a)
  | _ => none
noncomputable def fastInt (op : BinOp) (a b : Nat) : Option Value :=
  match op with
  | .add => fastAdd a b
  | .sub => fastSub a b
  | o => fastCmp o a b
noncomputable def fastStr (op : BinOp) (a b : ByteArray) : Option Value :=
  match op with
  | .eql => boolV (bytesEq a.data.toList b.data.toList)
  | .neq => boolV (!(bytesEq a.data.toList b.data.toList))
  | _ => none
noncomputable def fastInts (op : BinOp) (k k' : IntKind) (a b : Nat) : Option Value :=
  match k with
  | .i64 => match k' with | .i64 => fastInt op a b | _ => none
  | .u8 => match k' with | .u8 => fastCmp op a b | _ => none
  | .i32 => match k' with | .i32 => fastCmp op a b | _ => none
  | _ => none
noncomputable def fastBin (op : BinOp) (x y : Value) : Option Value :=
  match x with
  | .int k (.ofNat a) => match y with
    | .int k' (.ofNat b) => fastInts op k k' a b
    | _ => none
  | .string a => match y with
    | .string b => fastStr op a b
    | _ => none
  | _ => none
inductive AObj where
  | row (cells : List Value) (elem cls st : Nat) (ok : Bool)
  | map (es : List MapEntry) (clock : Nat)
  | iter (s : ByteArray) (pos : Nat)
structure AS where
  heap : Tr AObj
  next : Nat
  mem : Tr (List Nat)
  fz : Tr Nat
  r : Nat
  w : Nat
structure Fr where
  tmps : Tr Value
  n : Nat
  defers : List Deferred
noncomputable def plain0 (v : Value) : Bool :=
  match v with
  | .bool _ | .int _ _ | .string _ | .pointer none | .slice none 0 0 | .map none | .nilFunc | .nilIface => true
  | _ => false
noncomputable def plainS (ih : Value → Bool) (v : Value) : Bool :=
  match v with
  | .bool _ | .int _ _ | .string _ | .pointer none | .slice none 0 0 | .map none | .nilFunc | .nilIface => true
  | .func (.func _) first cap => first.toList.isEmpty && cap.toList.isEmpty
  | .iface _ v => ih v
  | .agg cs => cs.toList.all ih
  | .tuple cs => cs.toList.all ih
  | _ => false
noncomputable def plain (n : Nat) : Value → Bool := Nat.rec (motive := fun _ => Value → Bool) plain0 (fun _ ih v => plainS ih v) n
noncomputable def pureRun {α : Type} (P : Program) (s : Sem α) : Option α :=
  Sem.rec (motive := fun _ => Option α) (fun a => some a) (fun _ _ _ _ => none) (fun _ _ _ _ _ => none) (fun _ _ _ => none) (fun _ _ _ => none) (fun _ _ _ _ => none) (fun _ _ _ => none) (fun _ _ _ => none) (fun _ _ _ _ => none) (fun _ _ _ => none) (fun _ _ _ => none) (fun _ ih => ih P) (fun _ _ ih => ih) (fun _ => none) s
noncomputable def constV (v : Value) : Option Value := Bool.rec none (some v) (plain 50 v)
noncomputable def someV (o : Option Value) : Option Value := Option.rec (some undef) (fun v => some v) o
noncomputable def Fr.eval (f : Fr) (x : Operand) : Option Value :=
  Operand.rec (motive := fun _ => Option Value) (fun t => someV (f.tmps.get t)) (fun v => constV v) (fun _ => none) (fun g => some (.func (.func g) #[] #[])) x
noncomputable def evalG (P : Program) (f : Fr) (x : Operand) : Option Value := match x with
  | .global g => Bool.rec none (some (.pointer (some ⟨g, 0, none⟩))) (Nat.ble (Nat.succ g) P.globals.size)
  | x => f.eval x
inductive ANext where
  | val (v : Value) | enter (f : FuncId) (args : Array Value) | dfr (d : Deferred) | recover | panic (v : Value)
inductive AEnd where
  | ret (v : Value) | panic (v : Value)
inductive AExit where
  | normal | exit (id : Nat) | goto (l : Nat) | ret | panic (v : Value)
noncomputable def logR (s : AS) (c : Nat) : AS := AS.rec (fun h n m z r w => forceN (Nat.lor r (Nat.shiftLeft 1 c)) fun r => ⟨h, n, m, z, r, w⟩) s
noncomputable def logW (s : AS) (c : Nat) : AS := AS.rec (fun h n m z r w => forceN (Nat.lor w (Nat.shiftLeft 1 c)) fun w => ⟨h, n, m, z, r, w⟩) s
noncomputable def AS.put (s : AS) (b : Nat) (o : AObj) : AS := AS.rec (fun h n m z r w => forceT (Tr.set o 40 h b) fun h => ⟨h, n, m, z, r, w⟩) s
noncomputable def AS.new (s : AS) (o : Nat → AObj) : AS := AS.rec (fun h n m z r w => forceT (Tr.set (o n) 40 h n) fun h => forceN (Nat.lor w (Nat.shiftLeft 1 n)) fun w => forceN (Nat.add n 1) fun n => ⟨h, n, m, z, r, w⟩) s
noncomputable def newRow (s : AS) (cells : List Value) (elem : Nat) : AS := forceL cells fun cells => s.new fun b => .row cells elem b 0 true
noncomputable def ldIn (s : AS) (cells : List Value) (off n cls : Nat) : Option (List Value × AS) :=
  forceL ((cells.drop off).take n) fun xs => Bool.rec none (some (xs, logR s cls)) (Nat.beq xs.length n)
noncomputable def ld (s : AS) (b off n : Nat) : Option (List Value × AS) :=
  match s.heap.get b with
  | some (.row cells _ cls _ true) => ldIn s cells off n cls
  | _ => none
noncomputable def kill1 (s : AS) (b : Nat) : AS :=
  match s.heap.get b with
  | some (.row cells e c st _) => s.put b (.row cells e c st false)
  | _ => s
noncomputable def kill (s : AS) (l : List Nat) : AS := List.rec (motive := fun _ => AS → AS) (fun s => s) (fun b _ ih s => ih (kill1 s b)) l s
noncomputable def members (s : AS) (c : Nat) : List Nat := (s.mem.get c).getD [c]
noncomputable def setMem (s : AS) (c : Nat) (l : List Nat) : AS := AS.rec (fun h n m z r w => forceT (Tr.set l 40 m c) fun m => ⟨h, n, m, z, r, w⟩) s
noncomputable def setFz (s : AS) (c : Nat) (k : Nat) : AS := AS.rec (fun h n m z r w => forceT (Tr.set k 40 z c) fun z => ⟨h, n, m, z, r, w⟩) s
noncomputable def alone (s : AS) (b cls : Nat) : AS :=
  match s.mem.get cls with
  | none => s
  | some l => setMem (kill s (l.filter fun m => !(Nat.beq m b))) cls [b]
noncomputable def oneC (v : Value) : Bool := match v with
  | .agg _ | .tuple _ => false
  | _ => true
noncomputable def fzOk (s : AS) (cls k : Nat) : Bool :=
  match s.fz.get cls with
  | none => true
  | some h => Nat.ble h k
/-- no class of memory that came in -/
noncomputable def fzSmall (s : AS) (cls : Nat) : Bool :=
  match s.fz.get cls with
  | none => true
  | some h => Nat.ble h 18446744073709551616
noncomputable def stIn (s : AS) (b off : Nat) (vs cells : List Value) (e cls st : Nat) : Option AS :=
  Bool.rec none (forceL (cells.take off ++ (vs ++ cells.drop (Nat.add off vs.length))) fun cs => some (logW ((alone s b cls).put b (.row cs e cls st true)) cls))
    (Nat.ble (Nat.add off vs.length) cells.length && (fzOk s cls (Nat.add st off) && vs.all oneC))
noncomputable def stc (s : AS) (b off : Nat) (vs : List Value) : Option AS :=
  match s.heap.get b with
  | some (.row cells e cls st true) => stIn s b off vs cells e cls st
  | _ => none
noncomputable def isAggD : Option TypeDesc → Bool
  | some (.struct _) | some (.array _ _) => true
  | _ => false
noncomputable def szOf (P : Program) (t : TypeId) : Option Nat := (P.info? t).map (·.size)
noncomputable def natOf? : Value → Option Nat
  | .int _ (.ofNat n) => some n
  | _ => none
abbrev Res := Option (ANext × AS)
noncomputable def valR (s : AS) (o : Option Value) : Res := Option.rec none (fun v => some (.val v, s)) o
noncomputable def tooLong (s : AS) (en m : Nat) : Bool :=
  match s.heap.get m with
  | some (.row c _ _ st' _) => Nat.ble (Nat.succ en) (Nat.add st' c.length)
  | _ => true
noncomputable def pushRow (s : AS) (cells : List Value) (e cls st : Nat) (ms : List Nat) (n : Nat) : Res :=
  AS.rec (fun h b m z r w => forceL cells fun cells => forceT (Tr.set (.row cells e cls st true) 40 h b) fun h => forceT (Tr.set (b :: ms) 40 m cls) fun m => forceN (Nat.add b 1) fun b' =>
    some (.val (.slice (some ⟨b, 0, none⟩) n n), logW (logR ⟨h, b', m, z, r, w⟩ cls) cls)) s
noncomputable def appIn (s : AS) (off len n es e cls st : Nat) (cells xs : List Value) : Res :=
  forceL ((cells.drop off).take (Nat.mul len es)) fun old =>
  forceN (Nat.add (Nat.add st off) (Nat.mul len es)) fun en =>
  Bool.rec none
    (forceL ((members s cls).filter (tooLong s en)) fun long =>
      pushRow (kill s long) (old ++ xs) e cls (Nat.add st off) ((members s cls).filter fun m => !(tooLong s en m)) (Nat.add len n))
    (Nat.beq old.length (Nat.mul len es) && (fzOk s cls en && (Nat.beq (Nat.mod off es) 0 && xs.all oneC)))
/-- an append to a slice whose capacity is its length -/
noncomputable def appX (s : AS) (off len n es e cls : Nat) (cells xs : List Value) : Res :=
  forceL ((cells.drop off).take (Nat.mul len es)) fun old =>
  Bool.rec none (some (.val (.slice (some ⟨s.next, 0, none⟩) (Nat.add len n) (Nat.add len n)), newRow (logR s cls) (old ++ xs) e)) (Nat.beq old.length (Nat.mul len es))
noncomputable def appTo (e : TypeId) (s : AS) (base : Option Addr) (len n es : Nat) (xs : List Value) : Res :=
  match base with
  | none => Bool.rec none (some (.val (.slice (some ⟨s.next, 0, none⟩) n n), newRow s xs e)) (Nat.beq len 0)
  | some ⟨b, off, none⟩ => match s.heap.get b with
    | some (.row cells e' cls st true) => Bool.rec none (appIn s off len n es e cls st cells xs) (Nat.beq e' e)
    | _ => none
  | some ⟨b, off, some 0⟩ => match s.heap.get b with
    | some (.row cells _ cls _ true) => appX s off len n es e cls cells xs
    | _ => none
  | _ => none
noncomputable def appOk (i : TypeInfo) (es len n : Nat) (xs : List Value) : Bool :=
  match i.zero with
  | some z => !(Nat.beq es 0) && (Nat.beq xs.length (Nat.mul n es) && (Nat.ble (Nat.mul (Nat.add len n) i.bytes) 140737488355328 && (Nat.beq z.cells.size es && (Nat.ble (Nat.add len n) 1073741824 && xs.all oneC))))
  | none => false
noncomputable def appendA (P : Program) (e : TypeId) (s : AS) (v : Value) (xs : List Value) (n : Nat) : Res :=
  match v with
  | .slice base len _ => match P.info? e with
    | some i => Nat.rec (some (.val v, s)) (fun _ _ => Bool.rec none (appTo e s base len n i.size xs) (appOk i i.size len n xs)) n
    | none => none
  | _ => none
noncomputable def cellsOfArg (P : Program) (e : TypeId) (t : Option TypeDesc) (s : AS) (x : Value) : Option (List Value × Nat × AS) :=
  match x, t with
  | .string b, some .string => match szOf P e with
    | some 1 => some (b.data.toList.map (fun c => .int .u8 (.ofNat c.toNat)), b.size, s)
    | _ => none
  | .slice none 0 _, some (.slice _) => some ([], 0, s)
  | .slice (some ⟨b, off, none⟩) n _, some (.slice _) => match szOf P e with
    | some es => Nat.rec (some ([], 0, s)) (fun _ _ => (ld s b off (Nat.mul n es)).map fun (xs, s) => (xs, n, s)) n
    | none => none
  | _, _ => none
noncomputable def bytesOfCells (l : List Value) : Option (List UInt8) :=
  List.rec (motive := fun _ => Option (List UInt8)) (some []) (fun v _ ih => match v with
    | .int .u8 n => ih.map (UInt8.ofNat n.toNat :: ·)
    | _ => none) l
noncomputable def plainAt (f : Fr) (x : Operand) : Bool := match f.eval x with | some v => plain 50 v | none => false
noncomputable def valOfNext (s : AS) (n : Option Next) : Res :=
  match n with
  | some (.value v) => Bool.rec none (some (.val v, s)) (plain 50 v)
  | _ => none
noncomputable def purely (P : Program) (f : Fr) (o : Oper) (s : AS) : Res :=
  Bool.rec none (valOfNext s (pureRun P (execOp (fun x => (f.eval x).getD undef) o))) (o.op.operands.toList.all (plainAt f))
noncomputable def fieldsOf (P : Program) (t : TypeId) : Option (Array Field) := match P.underlying t with
  | some (.struct fs) => some fs
  | _ => none
noncomputable def partA (P : Program) (t : TypeId) (cs : List Value) (off : Nat) : Option Value :=
  match P.underlying t with
  | some d => Bool.rec cs[off]? ((szOf P t).map fun n => .agg ((cs.drop off).take n).toArray) (isAggD (some d))
  | none => none
noncomputable def callA (P : Program) (f : FuncId) (args : List Value) (s : AS) : Res :=
  match P.funcs[f]? with
  | none => none
  | some fn => match fn.body with
    | some _ => some (.enter f args.toArray, s)
    | none => Bool.rec
      (Bool.rec none (valOfNext s (pureRun P (callFunc f args.toArray))) (args.all (plain 50)))
      (match args with | [v] => some (.val v, s) | _ => none) (fn.name == "internal/abi.NoEscape")
noncomputable def keyOk (d : TypeDesc) (k : Value) : Bool := match d, k with
  | .int _, .int _ _ => true
  | .string, .string _ => true
  | .bool, .bool _ => true
  | _, _ => false
noncomputable def findK (P : Program) (kt : TypeId) (k : Value) (es : List MapEntry) : Option (Option (Nat × Value)) :=
  match P.underlying kt with
  | some d => Bool.rec none (Instr.findNow d k es 0) (keyOk d k)
  | none => none
noncomputable def zeroOf (P : Program) (t : TypeId) : Option Value := match (P.info? t).bind (·.zero) with
  | some z => constV z
  | none => none
noncomputable def evals (f : Fr) (l : List Operand) : Option (List Value) :=
  List.rec (motive := fun _ => Option (List Value)) (some []) (fun x _ ih => match f.eval x with
    | some v => match ih with | some vs => some (v :: vs) | none => none
    | none => none) l
noncomputable def evalParts (f : Fr) (l : List (Nat × Operand)) : Option (List (Nat × Value)) :=
  List.rec (motive := fun _ => Option (List (Nat × Value))) (some []) (fun x _ ih => match f.eval x.2 with
    | some v => match ih with | some vs => some ((x.1, v) :: vs) | none => none
    | none => none) l
noncomputable def boxA (s : AS) (e : TypeId) (v : Option Value) : Res := match v with
  | some v => some (.val (.pointer (some ⟨s.next, 0, none⟩)), newRow s v.cells.toList e)
  | none => none
noncomputable def buildA (P : Program) (f : Fr) (t : TypeId) (parts : Array (Nat × Operand)) (s : AS) : Res :=
  match zeroOf P t, P.underlying t, evalParts f parts.toList with
  | some z, some (.struct fs), some ps => Bool.rec none ((Instr.fill (fun i => (fs[i]?).bind fun fl => (szOf P fl.type).map fun n => (fl.offset, n)) z.cells ps).map fun cs => (.val (.agg cs), s)) (Nat.ble (Nat.succ t) P.types.size)
  | some z, some (.array _ e), some ps => (szOf P e).bind fun n => (Instr.fill (fun i => some (i * n, n)) z.cells ps).map fun cs => (.val (.agg cs), s)
  | _, _, _ => none
noncomputable def buildSliceA (P : Program) (f : Fr) (t : TypeId) (len : Nat) (parts : Array (Nat × Operand)) (s : AS) : Res :=
  match P.underlying t with
  | some (.slice e) => match zeroOf P e, szOf P e, evalParts f parts.toList with
    | some z, some n, some ps => if Nat.ble (Nat.mul len n) 1048576 && Nat.beq z.cells.toList.length n then
        (Instr.fill (fun i => some (i * n, n)) (List.replicate len z.cells.toList).flatten.toArray ps).map fun cs => (.val (.slice (some ⟨s.next, 0, none⟩) len len), newRow s cs.toList e) else none
    | _, _, _ => none
  | _ => none
noncomputable def oneOf (r : Option (List Value × AS)) : Res := match r with
  | some ([v], s) => some (.val v, s)
  | _ => none
noncomputable def aggOf (r : Option (List Value × AS)) : Res := match r with
  | some (xs, s) => some (.val (.agg xs.toArray), s)
  | _ => none
noncomputable def loadIn (P : Program) (t : TypeId) (d : TypeDesc) (b off : Nat) (s : AS) : Res :=
  Bool.rec (oneOf (ld s b off 1)) (match szOf P t with | some n => aggOf (ld s b off n) | none => none) (isAggD (some d))
noncomputable def loadA (P : Program) (t : TypeId) (a : Option Value) (s : AS) : Res :=
  match a with
  | some (.pointer (some ⟨b, off, none⟩)) => match P.underlying t with
    | some d => loadIn P t d b off s
    | none => none
  | _ => none
noncomputable def skipOf (o : Option AS) : Res := match o with | some s => some (.val undef, s) | none => none
noncomputable def storeA (P : Program) (t : TypeId) (a x : Option Value) (s : AS) : Res :=
  match a with
  | some (.pointer (some ⟨b, off, none⟩)) => match x with
    | some v => match szOf P t with
      | some n => Bool.rec none (skipOf (stc s b off v.cells.toList)) (Nat.beq v.cells.size n)
      | none => none
    | none => none
  | _ => none
noncomputable def nilCheckA (P : Program) (f : Fr) (o : Oper) (x : Option Value) (s : AS) : Res :=
  match x with
  | some (.pointer (some a)) => some (.val (.pointer (some a)), s)
  | some (.func (.func g) x y) => some (.val (.func (.func g) x y), s)
  | _ => purely P f o s
noncomputable def ifaceA (P : Program) (t : TypeId) (x : Option Value) (s : AS) : Res :=
  match x with
  | some v => match P.underlying t with
    | some (.interface _) => none
    | some _ => some (.val (.iface t v), s)
    | none => none
  | none => none
noncomputable def funcA (f : Fr) (fn : Fn) (first cap : Array Operand) (s : AS) : Res :=
  match fn with
  | .func g => match evals f first.toList with
    | some a => match evals f cap.toList with
      | some b => some (.val (.func (.func g) a.toArray b.toArray), s)
      | none => none
    | none => none
  | _ => none
noncomputable def optNat (f : Fr) (x : Option Operand) (d : Nat) : Option Nat := match x with
  | none => some d
  | some l => match f.eval l with | some v => natOf? v | none => none
noncomputable def sliceIn (b off l h m cap n : Nat) (s : AS) : Res :=
  Bool.rec none (some (.val (.slice (some ⟨b, Nat.add off (Nat.mul l n), none⟩) (Nat.sub h l) (Nat.sub m l)), s)) (Nat.ble l h && (Nat.ble h m && Nat.ble m cap))
noncomputable def esCls (P : Program) (s : AS) (b n : Nat) : Option Nat :=
  match s.heap.get b with
  | some (.row _ e c _ true) => match szOf P e with
    | some m => Bool.rec none (some c) (Nat.beq m n)
    | none => none
  | _ => none
noncomputable def sliceAt (P : Program) (b off l h m cap n : Nat) (s : AS) : Res := match esCls P s b n with
  | some c => sliceIn b off l h m cap n (logR s c)
  | none => none
/-- a slice with its capacity cut to its length: the mark is in the address -/
noncomputable def sliceX (b off l h m cap n : Nat) (s : AS) : Res :=
  Bool.rec none (some (.val (.slice (some ⟨b, Nat.add off (Nat.mul l n), some 0⟩) (Nat.sub h l) (Nat.sub h l)), s)) (Nat.ble l h && (Nat.beq h m && Nat.ble m cap))
noncomputable def sliceMax (P : Program) (b off l h m cap n : Nat) (s : AS) : Res := match esCls P s b n with
  | some c => Bool.rec (sliceIn b off l h m cap n (logR s c)) (sliceX b off l h m cap n (logR s c)) (Nat.beq h m)
  | none => none
noncomputable def strSlice (b : ByteArray) (l h : Nat) (s : AS) : Res :=
  Bool.rec none (forceL ((b.data.toList.drop l).take (Nat.sub h l)) fun xs => some (.val (.string ⟨⟨xs⟩⟩), s)) (Nat.ble l h && Nat.ble h b.data.toList.length)
noncomputable def sliceA (P : Program) (f : Fr) (o : Oper) (t : TypeId) (x : Option Value) (lo hi mx : Option Operand) (s : AS) : Res :=
  match x with
  | some (.slice (some ⟨b, off, none⟩) len cap) => match P.underlying t with
    | some (.slice e) => match optNat f lo 0, optNat f hi len, optNat f mx cap, szOf P e with
      | some l, some h, some m, some n => Option.rec (sliceAt P b off l h m cap n s) (fun _ => sliceMax P b off l h m cap n s) mx
      | _, _, _, _ => none
    | _ => none
  | some (.slice none 0 0) => match P.underlying t, optNat f lo 0, optNat f hi 0, optNat f mx 0 with
    | some (.slice e), some 0, some 0, some 0 => match szOf P e with
      | some _ => some (.val (.slice none 0 0), s)
      | none => none
    | _, _, _, _ => purely P f o s
  | some (.string b) => match P.underlying t with
    | some .string => match optNat f lo 0, optNat f hi b.data.toList.length, mx with
      | some l, some h, none => strSlice b l h s
      | _, _, _ => none
    | _ => none
  | _ => purely P f o s
noncomputable def fieldAddrA (P : Program) (t : TypeId) (x : Option Value) (i : Nat) (s : AS) : Res :=
  match x with
  | some (.pointer (some ⟨b, off, none⟩)) => match fieldsOf P t with
    | some fs => match fs[i]? with
      | some fl => match szOf P fl.type with
        | some (_ + 1) => some (.val (.pointer (some ⟨b, Nat.add off fl.offset, none⟩)), s)
        | _ => none
      | none => none
    | none => none
  | _ => none
noncomputable def fieldA (P : Program) (t : TypeId) (x : Option Value) (i : Nat) (s : AS) : Res :=
  match x with
  | some (.agg cs) => match fieldsOf P t with
    | some fs => match fs[i]? with
      | some fl => valR s (partA P fl.type cs.toList fl.offset)
      | none => none
    | none => none
  | _ => none
noncomputable def elemAt (P : Program) (b off len i : Nat) (e : TypeId) (s : AS) : Res :=
  match szOf P e with
  | some n => Bool.rec none (some (.val (.pointer (some ⟨b, Nat.add off (Nat.mul i n), none⟩)), s)) (Nat.ble (Nat.succ i) len)
  | none => none
noncomputable def indexAddrA (P : Program) (t : TypeId) (x ix : Option Value) (s : AS) : Res :=
  match x, P.underlying t, ix.bind natOf? with
  | some (.slice (some ⟨b, off, none⟩) len _), some (.slice e), some i => elemAt P b off len i e s
  | some (.slice (some ⟨b, off, some 0⟩) len _), some (.slice e), some i => elemAt P b off len i e s
  | some (.pointer (some ⟨b, off, none⟩)), some (.array len e), some i => elemAt P b off len i e s
  | _, _, _ => none
noncomputable def byteA (s : AS) (o : Option UInt8) : Res := match o with
  | some c => forceN c.toNat fun n => some (.val (.int .u8 (.ofNat n)), s)
  | none => none
noncomputable def indexA (P : Program) (f : Fr) (o : Oper) (t : TypeId) (x ix : Option Value) (s : AS) : Res :=
  match x with
  | some (.string b) => match P.underlying t with
    | some .string => match ix.bind natOf? with
      | some i => byteA s b.data.toList[i]?
      | none => none
    | _ => none
  | _ => purely P f o s
noncomputable def extractA (x : Option Value) (i : Nat) (s : AS) : Res := match x with
  | some (.tuple vs) => valR s vs.toList[i]?
  | _ => none
noncomputable def okV (ok : Bool) (v : Value) (b : Bool) : Value := Bool.rec v (.tuple #[v, .bool b]) ok
noncomputable def lookupA (P : Program) (t : TypeId) (x k : Option Value) (ok : Bool) (s : AS) : Res :=
  match P.underlying t, x, k with
  | some (.map kt et), some (.map (some b)), some kv => match s.heap.get b with
    | some (.map es _) => if plain 50 kv then match findK P kt kv es with
        | some (some (_, v)) => some (.val (okV ok v true), logR s b)
        | some none => match zeroOf P et with
          | some z => some (.val (okV ok z false), logR s b)
          | none => none
        | none => none
      else none
    | _ => none
  | _, _, _ => none
noncomputable def mapUpdateA (P : Program) (t : TypeId) (m k x : Option Value) (s : AS) : Res :=
  match P.underlying t, m, k, x with
  | some (.map kt _), some (.map (some b)), some kv, some v => match s.heap.get b with
    | some (.map es clock) => if plain 50 kv then match findK P kt kv es with
        | some none => some (.val undef, logW (logR (s.put b (.map (es ++ [{ key := kv, val := v, born := clock }]) (clock + 1))) b) b)
        | _ => none
      else none
    | _ => none
  | _, _, _, _ => none
noncomputable def rangeA (P : Program) (t : TypeId) (x : Option Value) (s : AS) : Res :=
  match P.underlying t, x with
  | some .string, some (.string b) => some (.val (.pointer (some ⟨s.next, 0, none⟩)), s.new fun _ => .iter b 0)
  | _, _ => none
noncomputable def nextIn (b : Nat) (st : ByteArray) (pos : Nat) (s : AS) : Res :=
  Bool.rec (some (.val (.tuple #[.bool false]), logR s b))
    (some (.val (.tuple #[.bool true, .int .i64 (.ofNat pos), .int .i32 (Utf8.decode st pos).1]), logW (logR (s.put b (.iter st (Nat.add pos (Utf8.decode st pos).2))) b) b)) (Nat.ble (Nat.succ pos) st.size)
noncomputable def nextA (it : Option Value) (isS : Bool) (s : AS) : Res :=
  match it, isS with
  | some (.pointer (some ⟨b, 0, none⟩)), true => match s.heap.get b with
    | some (.iter st pos) => nextIn b st pos s
    | _ => none
  | _, _ => none
noncomputable def assertA (P : Program) (x : Option Value) (asserted : TypeId) (ok : Bool) (s : AS) : Res :=
  match x, P.underlying asserted, ok with
  | _, some (.interface _), _ => none
  | some (.iface t v), some _, true => Bool.rec (match zeroOf P asserted with | some z => some (.val (.tuple #[z, .bool false]), s) | none => none) (some (.val (.tuple #[v, .bool true]), s)) (Nat.beq t asserted)
  | _, _, _ => none
noncomputable def cmpR (op : BinOp) (b : Bool) (s : AS) : Res := match op with
  | .eql => some (.val (.bool b), s)
  | .neq => some (.val (.bool (!b)), s)
  | _ => none
noncomputable def samePtr (P : Program) (op : BinOp) (e : TypeId) (a b : Addr) (s : AS) : Res := match szOf P e with
  | some (_ + 1) => Bool.rec none (cmpR op (Nat.beq a.off b.off) s) (Nat.beq a.block b.block)
  | _ => none
noncomputable def slowBin (P : Program) (f : Fr) (o : Oper) (op : BinOp) (t : TypeId) (x y : Value) (s : AS) : Res :=
  match x, y, P.underlying t with
  | .pointer (some _), .pointer none, some (.pointer _) => cmpR op false s
  | .iface _ _, .nilIface, some (.interface _) => cmpR op false s
  | .slice (some _) _ _, .slice none _ _, some (.slice _) => cmpR op false s
  | .pointer (some ⟨a, i, none⟩), .pointer (some ⟨b, j, none⟩), some (.pointer e) => samePtr P op e ⟨a, i, none⟩ ⟨b, j, none⟩ s
  | _, _, _ => purely P f o s
noncomputable def binA (P : Program) (f : Fr) (o : Oper) (op : BinOp) (t : TypeId) (x y : Option Value) (s : AS) : Res :=
  match x with
  | some a => match y with
    | some b => match fastBin op a b with
      | some v => some (.val v, s)
      | none => slowBin P f o op t a b s
    | none => none
  | none => none
noncomputable def bytesStr (b off n : Nat) (s : AS) : Res :=
  Nat.rec (some (.val (.string ⟨#[]⟩), s)) (fun _ _ => match ld s b off n with
        | some (xs, s) => match bytesOfCells xs with
          | some l => forceL l fun l => some (.val (.string ⟨⟨l⟩⟩), s)
          | none => none
        | none => none) n
noncomputable def toUnsafe (P : Program) (t : TypeId) (b off : Nat) (s : AS) : Res := match szOf P t with
  | some (_ + 1) => match s.heap.get b with
    | some (.row cells _ c _ true) => Bool.rec none (some (.val (.pointer (some ⟨b, off, none⟩)), logR s c)) (Nat.ble (Nat.succ off) cells.length)
    | _ => none
  | _ => none
/-- a field of that type lies there -/
noncomputable def inField (P : Program) (e u r : Nat) : Bool := match P.underlying e with
  | some (.struct fs) => !P.stoodInHeld e && fs.toList.any fun f => Nat.beq f.offset r && Nat.beq f.type u
  | _ => false
noncomputable def fieldOk (P : Program) (e u off len : Nat) : Bool := match szOf P e with
  | some (m + 1) => inField P e u (Nat.mod off (m + 1)) && Nat.ble (Nat.mul (Nat.add (Nat.div off (m + 1)) 1) (m + 1)) len
  | _ => false
noncomputable def fromOk (P : Program) (e u off n len : Nat) : Bool :=
  Bool.rec (fieldOk P e u off len) true (Nat.beq e u && (Nat.beq (Nat.mod off (n + 1)) 0 && Nat.ble (Nat.add off (n + 1)) len))
noncomputable def fromUnsafe (P : Program) (u : TypeId) (b off : Nat) (s : AS) : Res := match szOf P u with
  | some (n + 1) => match s.heap.get b with
    | some (.row cells e c _ true) => Bool.rec none (some (.val (.pointer (some ⟨b, off, none⟩)), logR s c)) (fromOk P e u off n cells.length && fzSmall s c)
    | _ => none
  | _ => none
noncomputable def ptrConv (P : Program) (f : Fr) (o : Oper) (src dst : TypeId) (a : Option Addr) (s : AS) : Res := match a with
  | some ⟨b, off, none⟩ => match P.underlying src, P.underlying dst with
    | some (.pointer t), some .unsafePointer => toUnsafe P t b off s
    | some .unsafePointer, some (.pointer u) => fromUnsafe P u b off s
    | _, _ => none
  | _ => purely P f o s
noncomputable def strBytes (e : TypeId) (b : ByteArray) (s : AS) : Res :=
  forceN b.data.toList.length fun n => Bool.rec none (some (.val (.slice (some ⟨s.next, 0, none⟩) n n), logW (logR (setFz (newRow s (b.data.toList.map fun c => .int .u8 (.ofNat c.toNat)) e) s.next 18446744073709551616) s.next) s.next)) (Nat.ble n 1073741824)
noncomputable def convA (P : Program) (f : Fr) (o : Oper) (src dst : TypeId) (x : Option Value) (s : AS) : Res :=
  match x with
  | some (.slice (some ⟨b, off, none⟩) n _) => match P.underlying src, P.underlying dst with
    | some (.slice e), some .string => match P.underlying e with
      | some (.int .u8) => bytesStr b off n s
      | _ => none
    | _, _ => none
  | some (.pointer a) => ptrConv P f o src dst a s
  | some (.string b) => match P.underlying dst with
    | some (.slice e) => match P.underlying src, P.underlying e, szOf P e with
      | some .string, some (.int .u8), some 1 => strBytes e b s
      | _, _, _ => none
    | _ => purely P f o s
  | _ => purely P f o s
noncomputable def lenMapA (b : Nat) (s : AS) : Res := match s.heap.get b with
  | some (.map es _) => forceN es.length fun n => some (.val (.int .i64 (.ofNat n)), logR s b)
  | _ => none
noncomputable def lenA (P : Program) (f : Fr) (o : Oper) (t : Option TypeDesc) (x : Option Value) (s : AS) : Res := match t, x with
  | some (.slice _), some (.slice _ n _) => some (.val (.int .i64 (.ofNat n)), s)
  | some .string, some (.string b) => forceN b.data.toList.length fun n => some (.val (.int .i64 (.ofNat n)), s)
  | some (.map _ _), some (.map (some b)) => lenMapA b s
  | _, _ => purely P f o s
noncomputable def appA (P : Program) (t0 t1 : Option TypeDesc) (v x : Option Value) (s : AS) : Res :=
  match t0, v, x with
  | some (.slice e), some v, some x => match cellsOfArg P e t1 s x with
    | some (xs, n, s) => appendA P e s v xs n
    | none => none
  | _, _, _ => none
noncomputable def copyTo (base : Option Addr) (m : Nat) (xs : List Value) (s : AS) : Res :=
  Nat.rec (some (.val (.int .i64 (.ofNat 0)), s)) (fun k _ => match base with
    | some ⟨b, off, none⟩ => match stc s b off xs with
      | some s => some (.val (.int .i64 (.ofNat (Nat.add k 1))), s)
      | none => none
    | _ => none) m
noncomputable def copyA (P : Program) (t0 t1 : Option TypeDesc) (v x : Option Value) (s : AS) : Res :=
  match t0, v, x with
  | some (.slice e), some (.slice base len _), some x => match cellsOfArg P e t1 s x, P.info? e with
    | some (xs, m, s), some i => Bool.rec none (copyTo base m xs s) (Nat.ble m len && (Nat.beq xs.length (Nat.mul m i.size) && xs.all oneC))
    | _, _ => none
  | _, _, _ => none
noncomputable def dataA (P : Program) (f : Fr) (o : Oper) (x : Option Value) (s : AS) : Res := match x with
  | some (.slice (some ⟨b, off, none⟩) (_ + 1) _) => some (.val (.pointer (some ⟨b, off, none⟩)), s)
  | _ => purely P f o s
noncomputable def ustrIn (cells : List Value) (cls st off n : Nat) (s : AS) : Res :=
  match bytesOfCells ((cells.drop off).take n) with
  | some l => forceL l fun l => Bool.rec none (some (.val (.string ⟨⟨l⟩⟩), logW (logR (setFz s cls (max ((s.fz.get cls).getD 0) (st + off + n))) cls) cls)) (Nat.beq l.length n)
  | none => none
noncomputable def ustrRow (P : Program) (tys : List TypeId) (r : Option AObj) (off n : Nat) (s : AS) : Res := match r, tys with
  | some (.row cells e cls st true), [pt, _] => match P.underlying pt, szOf P e with
    | some (.pointer e'), some 1 => Bool.rec none (ustrIn cells cls st off n s) (Nat.beq e e' && (Nat.ble n 1073741824 && fzSmall s cls))
    | _, _ => none
  | _, _ => none
noncomputable def ustrA (P : Program) (f : Fr) (o : Oper) (tys : List TypeId) (x y : Option Value) (s : AS) : Res :=
  match x, y with
  | some (.pointer (some ⟨b, off, none⟩)), some (.int .i64 (.ofNat (n + 1))) => ustrRow P tys (s.heap.get b) off (n + 1) s
  | _, _ => purely P f o s
noncomputable def builtinA (P : Program) (f : Fr) (o : Oper) (b : Builtin) (args : List Operand) (tys : List TypeId) (s : AS) : Res :=
  match b with
  | .len => lenA P f o ((tys[0]?).bind P.underlying) ((args[0]?).bind f.eval) s
  | .append => match args, tys with
    | [x, y], [t, u] => appA P (P.underlying t) (P.underlying u) (f.eval x) (f.eval y) s
    | _, _ => none
  | .copy => match args, tys with
    | [x, y], [t, u] => copyA P (P.underlying t) (P.underlying u) (f.eval x) (f.eval y) s
    | _, _ => none
  | .recover => some (.recover, s)
  | .unsafeSliceData => match args with
    | [x] => dataA P f o (f.eval x) s
    | _ => none
  | .unsafeString => match args with
    | [x, y] => ustrA P f o tys (f.eval x) (f.eval y) s
    | _ => none
  | _ => purely P f o s
noncomputable def callV (P : Program) (f : Option Value) (as : Option (List Value)) (s : AS) : Res :=
  match f, as with
  | some (.func (.func g) first cap), some as => callA P g (first.toList ++ (as ++ cap.toList)) s
  | _, _ => none
noncomputable def calleeA (P : Program) (f : Fr) (o : Oper) (c : Call) (s : AS) : Res :=
  match c.callee with
  | .value x => callV P (f.eval x) (evals f c.args.toList) s
  | .builtin b => builtinA P f o b c.args.toList c.argTypes.toList s
  | .invoke .. => none
noncomputable def deferA (f : Fr) (c : Call) (s : AS) : Res := match c.callee with
  | .value x => match f.eval x, evals f c.args.toList with
    | some (.func (.func g) first cap), some as => some (.dfr { target := .fn (.func g) cap, args := (first.toList ++ as).toArray }, s)
    | _, _ => none
  | _ => none
noncomputable def panicA (x : Option Value) (s : AS) : Res := match x with
  | some (.iface t v) => some (.panic (.iface t v), s)
  | _ => none
noncomputable def pickA (f : Fr) (c : Option Value) (a b : Operand) (s : AS) : Res := match c with
  | some (.bool true) => valR s (f.eval a)
  | some (.bool false) => valR s (f.eval b)
  | _ => none
noncomputable def sliceG (mx hi : Option Operand) (r : Res) : Res := match mx, hi with
  | some _, none => none
  | _, _ => r
noncomputable def madeC (z : List Value) (m n : Nat) : List Value := (List.range n).map fun k => z.getD (Nat.mod k m) undef
noncomputable def makeIn (e : TypeId) (l c : Nat) (i : TypeInfo) (z : Value) (s : AS) : Res :=
  Bool.rec none (some (.val (.slice (some ⟨s.next, 0, none⟩) l c), newRow s (madeC z.cells.toList i.size (Nat.mul c i.size)) e))
    (Nat.ble l c && (Nat.ble (Nat.mul i.bytes c) 281474976710656 && (Nat.ble c 1073741824 && (plain 50 z && Nat.beq z.cells.toList.length i.size))))
noncomputable def makeA (P : Program) (t : TypeId) (l c : Option Value) (s : AS) : Res := match P.underlying t, l.bind natOf?, c.bind natOf? with
  | some (.slice e), some l, some c => match P.info? e with
    | some i => match i.zero with
      | some z => makeIn e l c i z s
      | none => none
    | none => none
  | _, _, _ => none
noncomputable def evalOp (P : Program) (f : Fr) (o : Oper) (s : AS) : Res :=
  Op.rec (motive := fun _ => Res)
    (fun x => valR s (f.eval x)) (fun x => valR s (f.eval x)) (fun c a b => pickA f (f.eval c) a b s)
    (fun e => boxA s e (zeroOf P e)) (fun e x => boxA s e (f.eval x)) (fun t ps => buildA P f t ps s) (fun t n ps => buildSliceA P f t n ps s) (fun _ _ _ _ => none)
    (fun t a => loadA P t (evalG P f a) s) (fun t a x => storeA P t (f.eval a) (f.eval x) s) (fun _ => none) (fun _ => none) (fun x => nilCheckA P f o (f.eval x) s)
    (fun op t x y _ => binA P f o op t (f.eval x) (f.eval y) s) (fun _ _ _ => purely P f o s) (fun a b x => convA P f o a b (f.eval x) s) (fun _ _ => none) (fun t x => ifaceA P t (f.eval x) s)
    (fun fn a b => funcA f fn a b s) (fun _ r => match r with | none => some (.val (.map (some s.next)), s.new fun _ => .map [] 0) | some _ => none) (fun _ _ => none) (fun t l c => makeA P t (f.eval l) (f.eval c) s)
    (fun t x lo hi mx => sliceG mx hi (sliceA P f o t (f.eval x) lo hi mx s)) (fun t x i => fieldAddrA P t (evalG P f x) i s) (fun t x i => fieldA P t (f.eval x) i s) (fun t x i => indexAddrA P t (evalG P f x) (f.eval i) s) (fun t x i => indexA P f o t (f.eval x) (f.eval i) s)
    (fun t x k ok => lookupA P t (f.eval x) (f.eval k) ok s) (fun t m k x => mapUpdateA P t (f.eval m) (f.eval k) (f.eval x) s) (fun _ _ _ => none) (fun _ _ _ _ => none)
    (fun t x => rangeA P t (f.eval x) s) (fun it b => nextA (f.eval it) b s) (fun _ => none) (fun x _ a ok => assertA P (f.eval x) a ok s) (fun t i => extractA (f.eval t) i s)
    (fun c => calleeA P f o c s) (fun _ => none) (fun c => deferA f c s) (fun x => panicA (f.eval x) s) (fun _ _ => none) (fun _ _ _ => none) (fun _ _ => none) o.op
noncomputable def Fr.put (f : Fr) (d : Option Tmp) (v : Value) : Option Fr :=
  Option.rec (some f) (fun d => Fr.rec (fun t n ds => Bool.rec none (forceT (Tr.set v 40 t d) fun t => some ⟨t, n, ds⟩) (Nat.ble (Nat.succ d) n)) f) d
noncomputable def sameB (v : Value) (want : Bool) : Option Bool := match v with
  | .bool b => some (b == want)
  | .tuple _ => some false
  | _ => none
noncomputable def guardA (ops : List Oper) (f : Fr) (j : Nat) (want : Bool) : Option Bool :=
  match (ops[j]?).bind (·.dst) with
  | some d => sameB ((f.tmps.get d).getD undef) want
  | none => none
noncomputable def wantedA (ops : List Oper) (f : Fr) (g : Option (Nat × Bool)) : Option Bool :=
  Option.rec (some true) (fun p => guardA ops f p.1 p.2) g
inductive St where
  | on (f : Fr) (s : AS)
  | up (v : Value) (f : Fr) (s : AS)
  | no
abbrev CallF := FuncId → Array Value → AS → Option (AEnd × AS)
noncomputable def onward (f : Option Fr) (s : AS) : St := Option.rec .no (fun f => .on f s) f
noncomputable def afterCall (f : Fr) (d : Option Tmp) (r : Option (AEnd × AS)) : St := match r with
  | none => .no
  | some (.ret v, s) => onward (f.put d v) s
  | some (.panic v, s) => .up v f s
noncomputable def afterOp (call : CallF) (f : Fr) (d : Option Tmp) (r : Res) : St := match r with
  | none => .no
  | some (.val v, s) => onward (f.put d v) s
  | some (.enter g args, s) => afterCall f d (call g args s)
  | some (.dfr x, s) => onward ((f.put d undef).map fun f => { f with defers := x :: f.defers }) s
  | some (.recover, _) => .no
  | some (.panic v, s) => .up v f s
noncomputable def step1 (P : Program) (call : CallF) (ops : List Oper) (f : Fr) (o : Oper) (s : AS) : St :=
  match wantedA ops f o.guard with
  | some true => afterOp call f o.dst (evalOp P f o s)
  | some false => onward (f.put o.dst undef) s
  | none => .no
noncomputable def stepK (r : St) (k : Fr → AS → St) : St := St.rec (motive := fun _ => St) (fun f s => k f s) (fun v f s => .up v f s) .no r
noncomputable def runOps (P : Program) (call : CallF) (ops : List Oper) (l : List Oper) : Fr → AS → St :=
  List.rec (motive := fun _ => Fr → AS → St) (fun f s => .on f s) (fun o _ ih f s => stepK (step1 P call ops f o s) ih) l
noncomputable def clearRW (s : AS) : AS := AS.rec (fun h n m z _ _ => ⟨h, n, m, z, 0, 0⟩) s
noncomputable def joinRW (s s' : AS) : AS := AS.rec (fun h n m z r w => forceN (Nat.lor r s.r) fun r => forceN (Nat.lor w s.w) fun w => ⟨h, n, m, z, r, w⟩) s'
/-! a region that draws: every operation sees only the slots that it looks at -/
noncomputable def onlyT (t : Tr Value) (l : List Tmp) : Tr Value :=
  List.rec (motive := fun _ => Tr Value) .nil (fun x _ ih => Option.rec ih (fun v => forceT ih fun ih => Tr.set v 40 ih x) (t.get x)) l
noncomputable def onlyFr (l : List Tmp) (f : Fr) : Fr := Fr.rec (fun t n _ => forceT (onlyT t l) fun t => ⟨t, n, []⟩) f
noncomputable def slotMask (l : List Tmp) : Nat := List.rec (motive := fun _ => Nat) 0 (fun x _ ih => Nat.lor ih (Nat.shiftLeft 1 x)) l
noncomputable def befOf (bs : Tr Nat) (l : List Edge) : Nat :=
  List.rec (motive := fun _ => Nat) 0 (fun e _ ih => Bool.rec ih (Nat.lor ih (Nat.lor (Nat.shiftLeft 1 e.on) ((bs.get e.on).getD 0))) (Region.binds .any e)) l
noncomputable def edgesLow (j : Nat) (l : List Edge) : Bool := l.all fun e => !(Region.binds .any e) || Nat.ble (Nat.succ e.on) j
noncomputable def apartM (r w r' w' : Nat) : Bool := Nat.beq (Nat.land w (Nat.lor r' w')) 0 && Nat.beq (Nat.land w' r) 0
structure Fp where
  j : Nat
  r : Nat
  w : Nat
noncomputable def clearOf (b r w : Nat) (acc : List Fp) : Bool := acc.all fun p => apartM p.r p.w r w || b.testBit p.j
noncomputable def drawPut (f : Fr) (d : Option Tmp) (g : Fr) : Option Fr := match g.defers with
  | [] => f.put d (match d with | some t => (g.tmps.get t).getD undef | none => undef)
  | _ => none
noncomputable def lowSlots (l : List Tmp) : Bool := l.all fun t => Nat.ble t 1000000
noncomputable def combM (n c l : Nat) : Nat := Nat.lor (Nat.shiftLeft c n) l
abbrev DrK := Nat → Tr Nat → List Fp → Fr → AS → St
noncomputable def drawGo (o : Oper) (l : List Tmp) (s : AS) (j : Nat) (bs : Tr Nat) (acc : List Fp) (k : DrK) (f' : Fr) (s' : AS) : St :=
  forceN (befOf bs o.after.toList) fun b => forceN (combM f'.n s'.r (slotMask l)) fun r => forceN (combM f'.n s'.w (slotMask o.dst.toList)) fun w =>
    Bool.rec .no (forceN (Nat.add j 1) fun j' => forceT (Tr.set b 40 bs j) fun bs => k j' bs (⟨j, r, w⟩ :: acc) f' (joinRW s s')) (edgesLow j o.after.toList && (Nat.ble (Nat.succ j) 100000 && (lowSlots l && clearOf b r w acc)))
noncomputable def drawNext (o : Oper) (l : List Tmp) (f : Fr) (s : AS) (j : Nat) (bs : Tr Nat) (acc : List Fp) (r : St) (k : DrK) : St :=
  match r with
  | .on g s' => match drawPut f o.dst g with
    | some f' => drawGo o l s j bs acc k f' s'
    | none => .no
  | _ => .no
noncomputable def runDraw (P : Program) (call : CallF) (ops : Array Oper) (l : List Oper) : DrK :=
  List.rec (motive := fun _ => DrK) (fun _ _ _ f s => .on f s)
    (fun o _ ih j bs acc f s => forceL (o.looksAt ops) fun ls => drawNext o ls f s j bs acc (step1 P call ops.toList (onlyFr ls f) o (clearRW s)) ih) l
abbrev Ex := Option (AExit × Fr × AS)
noncomputable def exOf (r : St) : Ex := match r with
  | .on f s => some (.normal, f, s)
  | .up v f s => some (.panic v, f, s)
  | .no => none
noncomputable def seqK (r : Ex) (k : Fr → AS → Ex) : Ex := match r with
  | some (.normal, f, s) => k f s
  | r => r
noncomputable def loopN (body : Fr → AS → Ex) (n : Nat) : Fr → AS → Ex :=
  Nat.rec (motive := fun _ => Fr → AS → Ex) (fun _ _ => none) (fun _ ih f s => seqK (body f s) ih) n
def loopMax : Nat := 18446744073709551616
noncomputable def condK (v : Option Value) (a b : Ex) : Ex := match v with
  | some (.bool true) => a
  | some (.bool false) => b
  | _ => none
noncomputable def blockK (id : Nat) (r : Ex) : Ex := match r with
  | some (.exit i, f, s) => Bool.rec (some (.exit i, f, s)) (some (.normal, f, s)) (Nat.beq i id)
  | r => r
noncomputable def evalCode (P : Program) (call : CallF) (c : Code) : Fr → AS → Ex :=
  Code.rec (motive := fun _ => Fr → AS → Ex)
    (fun f s => some (.normal, f, s))
    (fun _ ops draw f s => Bool.rec (exOf (runOps P call ops.toList ops.toList f s)) (exOf (runDraw P call ops ops.toList 0 .nil [] f s)) draw)
    (fun _ _ ia ib f s => seqK (ia f s) ib)
    (fun c _ _ ia ib f s => condK (f.eval c) (ia f s) (ib f s))
    (fun id _ ic f s => blockK id (ic f s))
    (fun _ ic f s => loopN ic loopMax f s)
    (fun _ _ _ _ _ _ _ _ => none)
    (fun id f s => some (.exit id, f, s))
    (fun _ _ _ _ => none)
    (fun _ f s => some (.normal, f, s))
    (fun _ _ _ => none)
    (fun f s => some (.ret, f, s))
    (fun _ _ _ => none) c
noncomputable def setAll (l : List Value) : Nat → Tr Value → Tr Value :=
  List.rec (motive := fun _ => Nat → Tr Value → Tr Value) (fun _ t => t) (fun v _ ih i t => forceT (Tr.set v 40 t i) fun t => ih (Nat.add i 1) t) l
noncomputable def initFr (fn : Func) (args : Array Value) : Fr := ⟨setAll args.toList 0 .nil, fn.ntmps, []⟩
noncomputable def resCell (P : Program) (a : Option Value) (t : TypeId) (s : AS) : Option (Value × AS) :=
  match loadA P t a s with
  | some (.val v, s) => some (v, s)
  | _ => none
noncomputable def resultsA (P : Program) (f : Fr) (l : List ResultVar) : AS → Option (List Value × AS) :=
  List.rec (motive := fun _ => AS → Option (List Value × AS)) (fun s => some ([], s))
    (fun rv _ ih s => match rv with
      | .tmp t => match ih s with
        | some (vs, s) => some ((f.tmps.get t).getD undef :: vs, s)
        | none => none
      | .cell a t => match resCell P (f.tmps.get a) t s with
        | some (v, s) => match ih s with
          | some (vs, s) => some (v :: vs, s)
          | none => none
        | none => none) l
noncomputable def finish (P : Program) (fn : Func) (f : Fr) (s : AS) : Option (AEnd × AS) :=
  match resultsA P f fn.results.toList s with
  | some ([v], s) => some (.ret v, s)
  | some (vs, s) => some (.ret (.tuple vs.toArray), s)
  | none => none
structure Dd where
  f : Fr
  s : AS
  u : Option Value
noncomputable def ddK (r : St) (u : Option Value) (k : Fr → AS → Option Value → Option Dd) : Option Dd := match r with
  | .on f s => k f s u
  | _ => none
noncomputable def ddOp (P : Program) (call : CallF) (ops : List Oper) (o : Oper) (f : Fr) (s : AS) (u : Option Value) (k : Fr → AS → Option Value → Option Dd) : Option Dd :=
  match evalOp P f o s with
  | some (.recover, s) => match o.guard with
    | none => ddK (onward (f.put o.dst (u.getD .nilIface)) s) none k
    | some _ => none
  | _ => ddK (step1 P call ops f o s) u k
noncomputable def runOpsD (P : Program) (call : CallF) (ops : List Oper) (l : List Oper) : Fr → AS → Option Value → Option Dd :=
  List.rec (motive := fun _ => Fr → AS → Option Value → Option Dd) (fun f s u => some ⟨f, s, u⟩) (fun o _ ih f s u => ddOp P call ops o f s u ih) l
noncomputable def endD (r : Ex) (u : Option Value) : Option (AS × Option Value) := match r with
  | some (.normal, f, s) | some (.ret, f, s) => match f.defers with | [] => some (s, u) | _ => none
  | _ => none
noncomputable def deferIn (P : Program) (call : CallF) (fn : Func) (args : Array Value) (s : AS) (u : Option Value) : Option (AS × Option Value) :=
  match fn.body with
  | some (.seq (.region _ ops false) c) => match runOpsD P call ops.toList ops.toList (initFr fn args) s u with
    | some ⟨f, s, u⟩ => endD (evalCode P call c f s) u
    | none => none
  | _ => none
noncomputable def evalDeferred (P : Program) (call : CallF) (d : Deferred) (s : AS) (u : Option Value) : Option (AS × Option Value) :=
  match d.target with
  | .fn (.func g) cap => match P.funcs[g]? with
    | some fn => Bool.rec none (deferIn P call fn (d.args ++ cap) s u) (Nat.ble fn.ntmps 1000000 && (Nat.ble (d.args ++ cap).toList.length fn.ntmps && fn.results.toList.isEmpty))
    | none => none
  | _ => none
noncomputable def leaveNil (P : Program) (fn : Func) (f : Fr) (s : AS) (u : Option Value) : Option (AEnd × AS) := match u with
  | none => finish P fn f s
  | some v => some (.panic v, s)
noncomputable def leave (P : Program) (call : CallF) (fn : Func) (f : Fr) (l : List Deferred) : AS → Option Value → Option (AEnd × AS) :=
  List.rec (motive := fun _ => AS → Option Value → Option (AEnd × AS)) (fun s u => leaveNil P fn f s u)
    (fun d _ ih s u => match evalDeferred P call d s u with
      | some (s, u') => ih s u'
      | none => none) l
noncomputable def endBody (P : Program) (call : CallF) (fn : Func) (r : Ex) : Option (AEnd × AS) := match r with
  | some (.normal, f, s) | some (.ret, f, s) => leave P call fn f f.defers s none
  | some (.panic v, f, s) => leave P call fn f f.defers s (some v)
  | _ => none
noncomputable def enterA (P : Program) (call : CallF) (fn : Func) (args : Array Value) (s : AS) : Option (AEnd × AS) :=
  match fn.body with
  | some c => Bool.rec none (endBody P call fn (evalCode P call c (initFr fn args) s)) (Nat.ble fn.ntmps 1000000 && Nat.ble args.toList.length fn.ntmps)
  | none => none
/-! functions of Go's library whose contracts are laid from outside: maps.Keys and slices.Sorted of what it handed back -/
structure Orc where
  keys : Nat → Option (Nat × Nat)
  sorted : Nat → Option Nat
  iter : Nat → Bool
  look : Nat → Option (Nat × (ByteArray → ByteArray → Option (ByteArray × Bool)))
  tab : Nat → List Value → Option Value
def noOrc : Orc := ⟨fun _ => none, fun _ => none, fun _ => false, fun _ => none, fun _ _ => none⟩
/-! a table of closed calls -/
noncomputable def valEq (a b : Value) : Bool := match a, b with
  | .string x, .string y => bytesEq x.data.toList y.data.toList
  | .int .i64 (.ofNat x), .int .i64 (.ofNat y) => Nat.beq x y
  | _, _ => false
noncomputable def argsEq (l : List Value) : List Value → Bool :=
  List.rec (motive := fun _ => List Value → Bool) (fun r => List.rec true (fun _ _ _ => false) r)
    (fun a _ ih r => List.rec false (fun b r' _ => Bool.rec false (ih r') (valEq a b)) r) l
noncomputable def tabFind (t : List (Nat × List Value × Value)) (g : Nat) (args : List Value) : Option Value :=
  List.rec (motive := fun _ => Option Value) none (fun e _ ih => Bool.rec ih (Bool.rec ih (some e.2.2) (argsEq e.2.1 args)) (Nat.beq e.1 g)) t
noncomputable def orcKeys (it t : Nat) (args : List Value) (s : AS) : Option (AEnd × AS) := match args with
  | [.map (some b)] => some (.ret (.func (.func it) #[] #[.pointer (some ⟨s.next, 0, none⟩)]), newRow s [.map (some b)] t)
  | _ => none
noncomputable def bytesLt (a : List UInt8) : List UInt8 → Bool :=
  List.rec (motive := fun _ => List UInt8 → Bool) (fun m => List.rec false (fun _ _ _ => true) m)
    (fun x _ ih m => List.rec false (fun y m' _ => Bool.rec (Bool.rec false (ih m') (Nat.beq x.toNat y.toNat)) true (Nat.ble (Nat.succ x.toNat) y.toNat)) m) a
noncomputable def twoSorted (k k2 : ByteArray) : List Value := Bool.rec [.string k2, .string k] [.string k, .string k2] (bytesLt k.data.toList k2.data.toList)
noncomputable def sortedRow (t clock : Nat) (es : List MapEntry) (s : AS) : Option (AEnd × AS) := match es with
  | [] => some (.ret (.slice none 0 0), s)
  | [⟨.string k, _, born⟩] => Bool.rec none (some (.ret (.slice (some ⟨s.next, 0, none⟩) 1 1), newRow s [.string k] t)) (Nat.ble (Nat.succ born) clock && Nat.ble k.size 1048576)
  | [⟨.string k, _, born⟩, ⟨.string k2, _, born2⟩] => Bool.rec none (some (.ret (.slice (some ⟨s.next, 0, none⟩) 2 2), newRow s (twoSorted k k2) t))
    (Nat.ble (Nat.succ born) born2 && (Nat.ble (Nat.succ born2) clock && (Nat.ble k.size 1048576 && (Nat.ble k2.size 1048576 && (bytesLt k.data.toList k2.data.toList || bytesLt k2.data.toList k.data.toList)))))
  | _ => none
noncomputable def sortedIn (t b : Nat) (r : Option AObj) (s : AS) : Option (AEnd × AS) := match r with
  | some (.map es clock) => sortedRow t clock es (logR s b)
  | _ => none
noncomputable def sortedAt (t p : Nat) (s : AS) : Option (AEnd × AS) := match s.heap.get p with
  | some (.row [.map (some b)] _ c _ true) => Bool.rec none (sortedIn t b (s.heap.get b) (logR s c)) (Nat.beq c p)
  | _ => none
noncomputable def orcSorted (orc : Orc) (t : Nat) (args : List Value) (s : AS) : Option (AEnd × AS) := match args with
  | [.func (.func it) first cap] => match first.toList, cap.toList with
    | [], [.pointer (some ⟨p, 0, none⟩)] => Bool.rec none (sortedAt t p s) (orc.iter it)
    | _, _ => none
  | _ => none
noncomputable def lookEnd (f : ByteArray → Option (ByteArray × Bool)) (r : Option (List Value × AS)) : Option (AEnd × AS) := match r with
  | some ([.string e], s) => match f e with
    | some (v, ok) => some (.ret (.tuple #[.string v, .bool ok]), s)
    | none => none
  | _ => none
noncomputable def lookIn (f : ByteArray → Option (ByteArray × Bool)) (r : Option (List Value × AS)) : Option (AEnd × AS) := match r with
  | some ([.slice (some ⟨b, o, none⟩) len _], s) => Bool.rec none (lookEnd f (ld s b o 1)) (Nat.beq len 1)
  | _ => none
noncomputable def orcLook (off : Nat) (f : ByteArray → ByteArray → Option (ByteArray × Bool)) (args : List Value) (s : AS) : Option (AEnd × AS) := match args with
  | [.pointer (some ⟨b, o, none⟩), .string n] => lookIn (f n) (ld s b (Nat.add o off) 1)
  | _ => none
noncomputable def orcCall (orc : Orc) (g : FuncId) (args : Array Value) (s : AS) : Option (Option (AEnd × AS)) := match orc.tab g args.toList with
  | some v => some (some (.ret v, s))
  | none => match orc.keys g with
    | some (it, t) => some (orcKeys it t args.toList s)
    | none => match orc.sorted g with
      | some t => some (orcSorted orc t args.toList s)
      | none => match orc.look g with
        | some (off, f) => some (orcLook off f args.toList s)
        | none => none
noncomputable def plainCall (P : Program) (ih : CallF) (g : FuncId) (args : Array Value) (s : AS) : Option (AEnd × AS) := match P.funcs[g]? with
  | none => none
  | some fn => enterA P ih fn args s
noncomputable def evalCall (P : Program) (orc : Orc) (n : Nat) : CallF :=
  Nat.rec (motive := fun _ => CallF) (fun _ _ _ => none)
    (fun _ ih g args s => match orcCall orc g args s with
      | some r => r
      | none => plainCall P ih g args s) n
noncomputable def start : AS := ⟨.nil, 0, .nil, .nil, 0, 0⟩
end Go.EvL

namespace Go.EvL
open Go
theorem forceN_eq {β : Type} (n : Nat) (k : Nat → β) : forceN n k = k n := by cases n <;> rfl
theorem forceT_eq {α β : Type} (t : Tr α) (k : Tr α → β) : forceT t k = k t := by cases t <;> rfl
theorem forceL_eq {α β : Type} (l : List α) : ∀ k : List α → β, forceL l k = k l := by
  induction l with
  | nil => intro k; rfl
  | cons a l ih => intro k; exact ih fun l => k (a :: l)
theorem natRec_eq {β : Type} (a b : β) (n : Nat) : (Nat.rec a (fun _ _ => b) n : β) = if n = 0 then a else b := by
  cases n with
  | zero => rfl
  | succ n => simp
theorem Tr.get_nil {α : Type} (n : Nat) : (Tr.nil : Tr α).get n = none := rfl
theorem Tr.get_zero {α : Type} (v : Option α) (l r : Tr α) : (Tr.node v l r).get 0 = v := rfl
theorem Tr.get_succ {α : Type} (v : Option α) (l r : Tr α) (m : Nat) : (Tr.node v l r).get (m + 1) = if m % 2 = 0 then l.get (m / 2) else r.get (m / 2) := by
  show (Nat.rec _ _ (Nat.mod m 2) : Option α) = _
  exact natRec_eq _ _ _
theorem setNil_zero {α : Type} (a : α) (ih : Tr α → Nat → Tr α) : setNil a ih 0 = .node (some a) .nil .nil := rfl
theorem setNil_succ {α : Type} (a : α) (ih : Tr α → Nat → Tr α) (m : Nat) : setNil a ih (m + 1) = if m % 2 = 0 then .node none (ih .nil (m / 2)) .nil else .node none .nil (ih .nil (m / 2)) := by
  show (Nat.rec _ _ (Nat.mod m 2) : Tr α) = _
  simp only [forceT_eq]
  exact natRec_eq _ _ _
theorem setNode_zero {α : Type} (a : α) (ih : Tr α → Nat → Tr α) (v : Option α) (l r : Tr α) : setNode a ih 0 v l r = .node (some a) l r := rfl
theorem setNode_succ {α : Type} (a : α) (ih : Tr α → Nat → Tr α) (v : Option α) (l r : Tr α) (m : Nat) : setNode a ih (m + 1) v l r = if m % 2 = 0 then .node v (ih l (m / 2)) r else .node v l (ih r (m / 2)) := by
  show (Nat.rec _ _ (Nat.mod m 2) : Tr α) = _
  simp only [forceT_eq]
  exact natRec_eq _ _ _
theorem Tr.set_nil {α : Type} (a : α) (f n : Nat) : Tr.setF a (f + 1) .nil n = setNil a (Tr.setF a f) n := rfl
theorem Tr.set_node {α : Type} (a : α) (f n : Nat) (v : Option α) (l r : Tr α) : Tr.setF a (f + 1) (.node v l r) n = setNode a (Tr.setF a f) n v l r := rfl
theorem Tr.get_set' {α : Type} (a : α) : ∀ (f : Nat) (t : Tr α) (n m : Nat), n + 1 < 2 ^ f → (Tr.setF a f t n).get m = if m = n then some a else t.get m := by
  intro f
  induction f with
  | zero => intro t n m h; simp at h
  | succ f ih =>
    intro t n m h
    have hp : 2 ^ (f + 1) = 2 * 2 ^ f := by rw [Nat.pow_succ]; omega
    cases t with
    | nil =>
      rw [Tr.set_nil]
      cases n with
      | zero =>
        rw [setNil_zero]
        cases m with
        | zero => rfl
        | succ m => rw [Tr.get_succ]; simp [Tr.get_nil]
      | succ n =>
        have hb : n / 2 + 1 < 2 ^ f := by omega
        rw [setNil_succ]
        cases m with
        | zero => split <;> simp [Tr.get_zero, Tr.get_nil]
        | succ m =>
          split
          · rw [Tr.get_succ, ih _ _ _ hb, Tr.get_nil, Tr.get_nil]
            split <;> split <;> (try split) <;> simp_all <;> omega
          · rw [Tr.get_succ, ih _ _ _ hb, Tr.get_nil, Tr.get_nil]
            split <;> (try split) <;> (try split) <;> simp_all <;> omega
    | node v l r =>
      rw [Tr.set_node]
      cases n with
      | zero =>
        rw [setNode_zero]
        cases m with
        | zero => rfl
        | succ m => rw [Tr.get_succ, Tr.get_succ]; simp
      | succ n =>
        have hb : n / 2 + 1 < 2 ^ f := by omega
        rw [setNode_succ]
        cases m with
        | zero => split <;> simp [Tr.get_zero]
        | succ m =>
          rw [Tr.get_succ]
          split
          · rw [Tr.get_succ, ih _ _ _ hb]
            by_cases hm : m % 2 = 0
            · rw [if_pos hm, if_pos hm]
              by_cases he : m / 2 = n / 2
              · rw [if_pos he, if_pos (by omega)]
              · rw [if_neg he, if_neg (by omega)]
            · rw [if_neg hm, if_neg hm, if_neg (by omega)]
          · rw [Tr.get_succ, ih _ _ _ hb]
            by_cases hm : m % 2 = 0
            · rw [if_pos hm, if_pos hm, if_neg (by omega)]
            · rw [if_neg hm, if_neg hm]
              by_cases he : m / 2 = n / 2
              · rw [if_pos he, if_pos (by omega)]
              · rw [if_neg he, if_neg (by omega)]
def Fits (_ : Nat) : Prop := True
theorem Tr.get_set {α : Type} (a : α) (t : Tr α) (n m : Nat) (_ : Fits n) : (Tr.set a 40 t n).get m = if m = n then some a else t.get m := Tr.get_set' a (n + 1) t n m (Nat.lt_two_pow_self)

/-! ### how values stand for one another -/
structure Inf where
  blk : Nat
  sh : Nat
  sz : Nat
  es : Nat
  cls : Nat
  st : Nat
abbrev Emb := Nat → Option Inf
inductive VR (φ : Emb) : Value × Value ⊕ List Value × List Value → Prop
  | bool (b : Bool) : VR φ (.inl (.bool b, .bool b))
  | int (k : IntKind) (n : Int) : VR φ (.inl (.int k n, .int k n))
  | string (s : ByteArray) : VR φ (.inl (.string s, .string s))
  | nilPtr : VR φ (.inl (.pointer none, .pointer none))
  | ptr (b off : Nat) (i : Inf) (h : φ b = some i) : VR φ (.inl (.pointer (some ⟨b, off, none⟩), .pointer (some ⟨i.blk, i.sh + off, none⟩)))
  | nilSlice : VR φ (.inl (.slice none 0 0, .slice none 0 0))
  | slice (b off len cap cap' : Nat) (a' : Addr) (i : Inf) (h : φ b = some i) (hl : len ≤ cap) (hc : cap ≤ cap') (ha : cap' = 0 ∨ a' = ⟨i.blk, i.sh + off, none⟩) (hr : off + cap' * i.es ≤ i.sz) :
      VR φ (.inl (.slice (some ⟨b, off, none⟩) len cap, .slice (some a') len cap'))
  | sliceX (b off len : Nat) (a' : Addr) (i : Inf) (h : φ b = some i) (ha : len = 0 ∨ a' = ⟨i.blk, i.sh + off, none⟩) : VR φ (.inl (.slice (some ⟨b, off, some 0⟩) len len, .slice (some a') len len))
  | nilMap : VR φ (.inl (.map none, .map none))
  | map (b : Nat) (i : Inf) (h : φ b = some i) : VR φ (.inl (.map (some b), .map (some i.blk)))
  | func (g : FuncId) (xs ys xs' ys' : Array Value) (h : VR φ (.inr (xs.toList, xs'.toList))) (h' : VR φ (.inr (ys.toList, ys'.toList))) : VR φ (.inl (.func (.func g) xs ys, .func (.func g) xs' ys'))
  | nilFunc : VR φ (.inl (.nilFunc, .nilFunc))
  | nilIface : VR φ (.inl (.nilIface, .nilIface))
  | iface (t : TypeId) (v v' : Value) (h : VR φ (.inl (v, v'))) : VR φ (.inl (.iface t v, .iface t v'))
  | agg (xs xs' : Array Value) (h : VR φ (.inr (xs.toList, xs'.toList))) : VR φ (.inl (.agg xs, .agg xs'))
  | tuple (xs xs' : Array Value) (h : VR φ (.inr (xs.toList, xs'.toList))) : VR φ (.inl (.tuple xs, .tuple xs'))
  | nil : VR φ (.inr ([], []))
  | cons (v v' : Value) (l l' : List Value) (h : VR φ (.inl (v, v'))) (hs : VR φ (.inr (l, l'))) : VR φ (.inr (v :: l, v' :: l'))
abbrev VRel (φ : Emb) (v v' : Value) : Prop := VR φ (.inl (v, v'))
abbrev VRels (φ : Emb) (l l' : List Value) : Prop := VR φ (.inr (l, l'))
def Ext (φ φ' : Emb) : Prop := ∀ b i, φ b = some i → φ' b = some i
theorem VR.mono {φ φ' : Emb} (he : Ext φ φ') {x : Value × Value ⊕ List Value × List Value} (h : VR φ x) : VR φ' x := by
  induction h with
  | bool b => exact .bool b
  | int k n => exact .int k n
  | string s => exact .string s
  | nilPtr => exact .nilPtr
  | ptr b off i h => exact .ptr b off i (he _ _ h)
  | nilSlice => exact .nilSlice
  | slice b off len cap cap' a' i h hl hc ha hr => exact .slice b off len cap cap' a' i (he _ _ h) hl hc ha hr
  | sliceX b off len a' i h ha => exact .sliceX b off len a' i (he _ _ h) ha
  | nilMap => exact .nilMap
  | map b i h => exact .map b i (he _ _ h)
  | func g xs ys xs' ys' _ _ h h' => exact .func g xs ys xs' ys' h h'
  | nilFunc => exact .nilFunc
  | nilIface => exact .nilIface
  | iface t v v' _ h => exact .iface t v v' h
  | agg xs xs' _ h => exact .agg xs xs' h
  | tuple xs xs' _ h => exact .tuple xs xs' h
  | nil => exact .nil
  | cons v v' l l' _ _ h hs => exact .cons v v' l l' h hs
theorem VRels.length {φ : Emb} : ∀ {l l' : List Value}, VRels φ l l' → l.length = l'.length := by
  intro l
  induction l with
  | nil => intro l' h; cases h; rfl
  | cons v l ih => intro l' h; cases h with | cons _ v' _ l'' h hs => simp [ih hs]
theorem VRels.get {φ : Emb} : ∀ {l l' : List Value} (i : Nat) {v : Value}, VRels φ l l' → l[i]? = some v → ∃ v', l'[i]? = some v' ∧ VRel φ v v' := by
  intro l
  induction l with
  | nil => intro l' i v h hv; simp at hv
  | cons a l ih =>
    intro l' i v h hv
    cases h with
    | cons _ a' _ l'' h hs =>
      cases i with
      | zero => simp at hv; subst hv; exact ⟨a', by simp, h⟩
      | succ i => simp at hv; obtain ⟨v', h1, h2⟩ := ih i hs hv; exact ⟨v', by simpa using h1, h2⟩
theorem VRels.of_get {φ : Emb} : ∀ {l l' : List Value}, l.length = l'.length → (∀ (i : Nat) (v : Value), l[i]? = some v → ∃ v', l'[i]? = some v' ∧ VRel φ v v') → VRels φ l l' := by
  intro l
  induction l with
  | nil => intro l' h _; cases l' with | nil => exact .nil | cons => simp at h
  | cons a l ih =>
    intro l' h hg
    cases l' with
    | nil => simp at h
    | cons a' l' =>
      obtain ⟨v', h1, h2⟩ := hg 0 a (by simp)
      simp at h1
      subst h1
      refine .cons _ _ _ _ h2 (ih (by simpa using h) fun i v hv => ?_)
      obtain ⟨v', h1, h2⟩ := hg (i + 1) v (by simpa using hv)
      exact ⟨v', by simpa using h1, h2⟩
theorem VRels.append {φ : Emb} : ∀ {l l' r r' : List Value}, VRels φ l l' → VRels φ r r' → VRels φ (l ++ r) (l' ++ r') := by
  intro l
  induction l with
  | nil => intro l' r r' h hr; cases h; exact hr
  | cons a l ih => intro l' r r' h hr; cases h with | cons _ a' _ l'' h hs => exact .cons _ _ _ _ h (ih hs hr)
theorem VRels.take {φ : Emb} : ∀ (n : Nat) {l l' : List Value}, VRels φ l l' → VRels φ (l.take n) (l'.take n) := by
  intro n
  induction n with
  | zero => intro l l' _; exact .nil
  | succ n ih => intro l l' h; cases h with | nil => exact .nil | cons v v' l l' h hs => exact .cons _ _ _ _ h (ih hs)
theorem VRels.drop {φ : Emb} : ∀ (n : Nat) {l l' : List Value}, VRels φ l l' → VRels φ (l.drop n) (l'.drop n) := by
  intro n
  induction n with
  | zero => intro l l' h; exact h
  | succ n ih => intro l l' h; cases h with | nil => exact .nil | cons v v' l l' h hs => exact ih hs
theorem plain_zero (v : Value) : plain 0 v = plain0 v := rfl
theorem plain_succ (n : Nat) (v : Value) : plain (n + 1) v = plainS (plain n) v := rfl
theorem rels_self {φ : Emb} {p : Value → Bool} (hp : ∀ v, p v = true → VRel φ v v) : ∀ l : List Value, l.all p = true → VRels φ l l := by
  intro l
  induction l with
  | nil => intro _; exact .nil
  | cons a l ih => intro h; simp only [List.all_cons, Bool.and_eq_true] at h; exact .cons _ _ _ _ (hp _ h.1) (ih h.2)
theorem rels_eq {φ : Emb} {p : Value → Bool} (hp : ∀ v v', p v = true → VRel φ v v' → v' = v) : ∀ l l' : List Value, l.all p = true → VRels φ l l' → l' = l := by
  intro l
  induction l with
  | nil => intro l' _ h; cases h; rfl
  | cons a l ih =>
    intro l' h hr
    simp only [List.all_cons, Bool.and_eq_true] at h
    cases hr with
    | cons _ a' _ l'' h1 hs => rw [hp _ _ h.1 h1, ih _ h.2 hs]
theorem plain_self (φ : Emb) : ∀ (n : Nat) (v : Value), plain n v = true → VRel φ v v := by
  intro n
  induction n with
  | zero =>
    intro v h
    rw [plain_zero] at h
    unfold plain0 at h
    split at h <;> first | (cases h; done) | exact .bool _ | exact .int _ _ | exact .string _ | exact .nilPtr | exact .nilSlice | exact .nilMap | exact .nilFunc | exact .nilIface | cases h
  | succ n ih =>
    intro v h
    rw [plain_succ] at h
    unfold plainS at h
    split at h <;> first
      | (cases h; done)
      | exact .bool _ | exact .int _ _ | exact .string _ | exact .nilPtr | exact .nilSlice | exact .nilMap | exact .nilFunc | exact .nilIface
      | exact .iface _ _ _ (ih _ h) | exact .agg _ _ (rels_self ih _ h) | exact .tuple _ _ (rels_self ih _ h)
      | (simp only [Bool.and_eq_true, List.isEmpty_iff] at h; exact .func _ _ _ _ _ (by rw [h.1]; exact .nil) (by rw [h.2]; exact .nil))
      | cases h
theorem plain_eq (φ : Emb) : ∀ (n : Nat) (v v' : Value), plain n v = true → VRel φ v v' → v' = v := by
  intro n
  induction n with
  | zero =>
    intro v v' h hr
    rw [plain_zero] at h
    unfold plain0 at h
    split at h <;> first | (cases h; done) | (cases hr; rfl)
  | succ n ih =>
    intro v v' h hr
    rw [plain_succ] at h
    unfold plainS at h
    split at h
    all_goals first
      | (cases h; done)
      | (cases hr; rfl)
      | (cases hr with | iface _ _ _ hh => rw [ih _ _ h hh])
      | (cases hr with | agg _ xs' hh => rw [Array.toList_inj.1 (rels_eq ih _ _ h hh)])
      | (cases hr with | tuple _ xs' hh => rw [Array.toList_inj.1 (rels_eq ih _ _ h hh)])
      | (simp only [Bool.and_eq_true, List.isEmpty_iff] at h
         cases hr with
         | func _ _ _ xs' ys' h1 h2 =>
           rw [h.1] at h1
           rw [h.2] at h2
           generalize hx : xs'.toList = X at h1
           generalize hy : ys'.toList = Y at h2
           cases h1
           cases h2
           rw [Array.toList_inj.1 (hx.trans h.1.symm), Array.toList_inj.1 (hy.trans h.2.symm)])
      | cases h
/-! ### operations that look at no memory -/
theorem pureRun_ok {α : Type} (P : Program) (s : Sem α) : ∀ {a : α}, pureRun P s = some a → ∀ w, s.run P w = .ok a w := by
  induction s with
  | pure a => intro b h w; injection h with h; subst h; rfl
  | program k ih => intro b h w; exact ih P h w
  | mark m k ih => intro b h w; exact ih h w
  | _ => intro b h; first | cases h | (intro w; cases h)
end Go.EvL

namespace Go.EvL
open Go
theorem logR_eq (s : AS) (c : Nat) : logR s c = ⟨s.heap, s.next, s.mem, s.fz, s.r ||| (1 <<< c), s.w⟩ := by
  cases s; unfold logR; simp only [forceN_eq]; rfl
theorem logW_eq (s : AS) (c : Nat) : logW s c = ⟨s.heap, s.next, s.mem, s.fz, s.r, s.w ||| (1 <<< c)⟩ := by
  cases s; unfold logW; simp only [forceN_eq]; rfl
theorem put_eq (s : AS) (b : Nat) (o : AObj) : s.put b o = ⟨Tr.set o 40 s.heap b, s.next, s.mem, s.fz, s.r, s.w⟩ := by
  cases s; unfold AS.put; simp only [forceT_eq]
theorem new_eq (s : AS) (o : Nat → AObj) : s.new o = ⟨Tr.set (o s.next) 40 s.heap s.next, s.next + 1, s.mem, s.fz, s.r, s.w ||| (1 <<< s.next)⟩ := by
  cases s; unfold AS.new; simp only [forceT_eq, forceN_eq]; rfl
theorem newRow_eq (s : AS) (cells : List Value) (e : Nat) : newRow s cells e = s.new fun b => .row cells e b 0 true := forceL_eq _ _
theorem setMem_eq (s : AS) (c : Nat) (l : List Nat) : setMem s c l = ⟨s.heap, s.next, Tr.set l 40 s.mem c, s.fz, s.r, s.w⟩ := by
  cases s; unfold setMem; simp only [forceT_eq]
theorem setFz_eq (s : AS) (c k : Nat) : setFz s c k = ⟨s.heap, s.next, s.mem, Tr.set k 40 s.fz c, s.r, s.w⟩ := by
  cases s; unfold setFz; simp only [forceT_eq]
theorem bit_or (a c x : Nat) : (a ||| (1 <<< c)).testBit x = (a.testBit x || decide (c = x)) := by
  rw [Nat.testBit_or, Nat.one_shiftLeft, Nat.testBit_two_pow]
theorem bit_in {a c x : Nat} (h : (a ||| (1 <<< c)).testBit x = true) : a.testBit x = true ∨ c = x := by
  rw [bit_or, Bool.or_eq_true, decide_eq_true_iff] at h; exact h
theorem bit_lt {a c x n : Nat} (h : (a ||| (1 <<< c)).testBit x = true) (hc : c < n) : a.testBit x = true ∨ x < n := by
  rcases bit_in h with h | rfl
  · exact .inl h
  · exact .inr hc
def clsOf (b : Nat) : AObj → Nat
  | .row _ _ c _ _ => c
  | _ => b
/-- what holds of the evaluator's state by itself -/
structure Inv (A : AS) : Prop where
  lt : ∀ b o, A.heap.get b = some o → b < A.next ∧ clsOf b o < A.next
  mem : ∀ b cells e c st, A.heap.get b = some (.row cells e c st true) → b ∈ members A c
  memc : ∀ c l x cells e c' st ok, A.mem.get c = some l → x ∈ l → A.heap.get x = some (.row cells e c' st ok) → c' = c
  root : ∀ b cells e c st ok, A.heap.get b = some (.row cells e c st ok) → ∃ cells' e' st' ok', A.heap.get c = some (.row cells' e' c st' ok')
  ml : ∀ c l x, A.mem.get c = some l → x ∈ l → x < A.next
  old : ∀ c l, A.mem.get c = some l → c < A.next
  fz : ∀ c k, A.fz.get c = some k → c < A.next
/-- what a step of the evaluator leaves alone -/
structure AFr (A A' : AS) : Prop where
  next : A.next ≤ A'.next
  r : ∀ c, A.r.testBit c = true → A'.r.testBit c = true
  w : ∀ c, A.w.testBit c = true → A'.w.testBit c = true
  old : ∀ b o, A.heap.get b = some o → A'.w.testBit (clsOf b o) = false → A'.heap.get b = some o
  new : ∀ b o, A'.heap.get b = some o → A'.w.testBit (clsOf b o) = false → A.heap.get b = some o
  fz : ∀ c, A'.w.testBit c = false → A'.fz.get c = A.fz.get c
  mem : ∀ c, A'.w.testBit c = false → A'.mem.get c = A.mem.get c
  rb : ∀ c, A'.r.testBit c = true → A.r.testBit c = true ∨ c < A'.next
  wb : ∀ c, A'.w.testBit c = true → A.w.testBit c = true ∨ c < A'.next
  inv : Inv A'
theorem AFr.refl {A : AS} (h : Inv A) : AFr A A :=
  ⟨Nat.le_refl _, fun _ h => h, fun _ h => h, fun _ _ h _ => h, fun _ _ h _ => h, fun _ _ => rfl, fun _ _ => rfl, fun _ h => .inl h, fun _ h => .inl h, h⟩
theorem bfalse {a b : Bool} (h : a = true → b = true) (hb : b = false) : a = false := by cases a <;> simp_all
theorem AFr.trans {A B C : AS} (h : AFr A B) (k : AFr B C) : AFr A C where
  next := Nat.le_trans h.next k.next
  r := fun c hc => k.r c (h.r c hc)
  w := fun c hc => k.w c (h.w c hc)
  old := fun b o hb hw => k.old b o (h.old b o hb (bfalse (k.w _) hw)) hw
  new := fun b o hb hw => h.new b o (k.new b o hb hw) (bfalse (k.w _) hw)
  fz := fun c hc => (k.fz c hc).trans (h.fz c (bfalse (k.w _) hc))
  mem := fun c hc => (k.mem c hc).trans (h.mem c (bfalse (k.w _) hc))
  rb := fun c hc => (k.rb c hc).elim (fun h1 => (h.rb c h1).imp id fun x => Nat.lt_of_lt_of_le x k.next) .inr
  wb := fun c hc => (k.wb c hc).elim (fun h1 => (h.wb c h1).imp id fun x => Nat.lt_of_lt_of_le x k.next) .inr
  inv := k.inv
theorem logR_fr {A : AS} (h : Inv A) {c : Nat} (hc : c < A.next) : AFr A (logR A c) := by
  rw [logR_eq]
  exact ⟨Nat.le_refl _, fun x hx => by rw [bit_or, hx]; rfl, fun _ h => h, fun _ _ h _ => h, fun _ _ h _ => h, fun _ _ => rfl, fun _ _ => rfl,
    fun x hx => bit_lt hx hc, fun _ h => .inl h, ⟨h.lt, h.mem, h.memc, h.root, h.ml, h.old, h.fz⟩⟩
theorem fits {n : Nat} (_ : n ≤ n) : Fits n := trivial
/-- a new object, a class of its own -/
theorem new_fr {A : AS} (h : Inv A) (hn : A.next + 1 ≤ A.next + 1) (o : Nat → AObj) (ho : clsOf A.next (o A.next) = A.next) : AFr A (A.new o) := by
  have hf : Fits A.next := fits (by omega)
  have hnone : A.heap.get A.next = none := by
    cases hg : A.heap.get A.next with
    | none => rfl
    | some x => have := (h.lt _ _ hg).1; omega
  rw [new_eq]
  refine ⟨by show A.next ≤ A.next + 1; omega, fun _ h => h, fun x hx => by rw [bit_or, hx]; rfl, fun b x hb _ => ?_, fun b x hb hw => ?_, fun _ _ => rfl, fun _ _ => rfl, fun _ h => .inl h, fun x hx => ?_, ⟨fun b x hb => ?_, fun b cells e c st hb => ?_, fun c l x cells e c' st ok hl hx hg => ?_, fun b cells e c st ok hb => ?_, fun c l x hl hx => ?_, fun c l hl => ?_, fun c l hl => ?_⟩⟩
  · rw [Tr.get_set _ _ _ _ hf, if_neg (by rintro rfl; rw [hnone] at hb; cases hb)]; exact hb
  · rw [Tr.get_set _ _ _ _ hf] at hb
    split at hb
    · rename_i he; subst he; injection hb with hb; subst hb; rw [ho, bit_or] at hw; simp at hw
    · exact hb
  · rw [bit_or, Bool.or_eq_true, decide_eq_true_iff] at hx
    rcases hx with hx | rfl
    · exact .inl hx
    · exact .inr (by show A.next < A.next + 1; omega)
  · rw [Tr.get_set _ _ _ _ hf] at hb
    show b < A.next + 1 ∧ clsOf b x < A.next + 1
    split at hb
    · rename_i he; subst he; injection hb with hb; subst hb; rw [ho]; omega
    · have := h.lt _ _ hb; omega
  · rw [Tr.get_set _ _ _ _ hf] at hb
    show b ∈ (A.mem.get c).getD [c]
    split at hb
    · rename_i he; subst he
      injection hb with hb
      rw [hb] at ho
      have : c = A.next := ho
      subst this
      cases hm : A.mem.get A.next with
      | none => simp
      | some l => have := h.old _ _ hm; omega
    · exact h.mem _ _ _ _ _ hb
  · rw [Tr.get_set _ _ _ _ hf] at hg
    split at hg
    · rename_i he; subst he; have := h.ml _ _ _ hl hx; omega
    · exact h.memc _ _ _ _ _ _ _ _ hl hx hg
  · rw [Tr.get_set _ _ _ _ hf] at hb
    rw [Tr.get_set _ _ _ _ hf]
    split at hb
    · rename_i he; subst he
      injection hb with hb
      rw [hb] at ho
      have : c = A.next := ho
      subst this
      rw [if_pos rfl, hb]
      exact ⟨_, _, _, _, rfl⟩
    · obtain ⟨a1, a2, a3, a4, h4⟩ := h.root _ _ _ _ _ _ hb
      rw [if_neg (by have := (h.lt _ _ h4).1; omega)]
      exact ⟨a1, a2, a3, a4, h4⟩
  · have := h.ml _ _ _ hl hx; show x < A.next + 1; omega
  · have := h.old _ _ hl; show c < A.next + 1; omega
  · have := h.fz _ _ hl; show c < A.next + 1; omega
theorem newRow_fr {A : AS} (h : Inv A) (hn : A.next + 1 ≤ A.next + 1) (cells : List Value) (e : Nat) : AFr A (newRow A cells e) := by
  rw [newRow_eq]; exact new_fr h hn _ rfl
/-- an object that is no row is written anew -/
theorem put_fr {A : AS} (h : Inv A) (hn : A.next ≤ A.next) {b : Nat} {o o' : AObj} (hb : A.heap.get b = some o) (hc : clsOf b o = b) (hc' : clsOf b o' = b) (hr : ∀ cells e c st ok, o' ≠ .row cells e c st ok) (hro : ∀ cells e c st ok, o ≠ .row cells e c st ok) :
    AFr A (logW (logR (A.put b o') b) b) := by
  have hl := (h.lt _ _ hb).1
  have hf : Fits b := fits (by omega)
  rw [put_eq, logR_eq, logW_eq]
  refine ⟨Nat.le_refl _, fun x hx => by rw [bit_or, hx]; rfl, fun x hx => by rw [bit_or, hx]; rfl, fun b' x hb' hw => ?_, fun b' x hb' hw => ?_, fun _ _ => rfl, fun _ _ => rfl, fun x hx => ?_, fun x hx => ?_, ⟨fun b' x hb' => ?_, fun b' cells e c st hb' => ?_, fun c l x cells e c' st ok hl hx hg => ?_, fun b' cells e c st ok hb' => ?_, h.ml, h.old, h.fz⟩⟩
  · rw [Tr.get_set _ _ _ _ hf]
    split
    · rename_i he; subst he
      rw [hb'] at hb; injection hb with hb; subst hb
      rw [hc, bit_or] at hw; simp at hw
    · exact hb'
  · rw [Tr.get_set _ _ _ _ hf] at hb'
    split at hb'
    · rename_i he; subst he; injection hb' with hb'; subst hb'; rw [hc', bit_or] at hw; simp at hw
    · exact hb'
  · exact bit_lt hx hl
  · exact bit_lt hx hl
  · rw [Tr.get_set _ _ _ _ hf] at hb'
    split at hb'
    · rename_i he; subst he; injection hb' with hb'; subst hb'; exact ⟨hl, by rw [hc']; exact hl⟩
    · exact h.lt _ _ hb'
  · rw [Tr.get_set _ _ _ _ hf] at hb'
    split at hb'
    · injection hb' with hb'; exact absurd hb' (hr _ _ _ _ _)
    · exact h.mem _ _ _ _ _ hb'
  · rw [Tr.get_set _ _ _ _ hf] at hg
    split at hg
    · injection hg with hg; exact absurd hg (hr _ _ _ _ _)
    · exact h.memc _ _ _ _ _ _ _ _ hl hx hg
  · rw [Tr.get_set _ _ _ _ hf] at hb'
    rw [Tr.get_set _ _ _ _ hf]
    split at hb'
    · injection hb' with hb'; exact absurd hb' (hr _ _ _ _ _)
    · obtain ⟨a1, a2, a3, a4, h4⟩ := h.root _ _ _ _ _ _ hb'
      split
      · rename_i he; subst he; rw [hb] at h4; injection h4 with h4; exact absurd h4 (hro _ _ _ _ _)
      · exact ⟨a1, a2, a3, a4, h4⟩
theorem members_mk (h : Tr AObj) (n : Nat) (m : Tr (List Nat)) (z : Tr Nat) (r w c : Nat) : members ⟨h, n, m, z, r, w⟩ c = (m.get c).getD [c] := rfl
def dead : AObj → AObj
  | .row cells e c st _ => .row cells e c st false
  | o => o
def Bd (A : AS) : Prop := A.next ≤ A.next ∧ ∀ b o, A.heap.get b = some o → b < A.next
theorem Inv.bd {A : AS} (h : Inv A) (hn : A.next ≤ A.next) : Bd A := ⟨hn, fun b o hb => (h.lt b o hb).1⟩
/-- what killing does -/
theorem kill1_get {A : AS} (h : Bd A) (b : Nat) : (∀ x, (kill1 A b).heap.get x = if x = b then (A.heap.get x).map dead else A.heap.get x) ∧ (kill1 A b).next = A.next ∧ (kill1 A b).mem = A.mem ∧ (kill1 A b).fz = A.fz ∧ (kill1 A b).r = A.r ∧ (kill1 A b).w = A.w := by
  unfold kill1
  split
  · rename_i cells e c st ok hb
    have hf : Fits b := fits (by have := h.2 _ _ hb; have := h.1; omega)
    rw [put_eq]
    refine ⟨fun x => ?_, rfl, rfl, rfl, rfl, rfl⟩
    rw [Tr.get_set _ _ _ _ hf]
    split
    · rename_i he; subst he; rw [hb]; rfl
    · rfl
  · rename_i hb
    refine ⟨fun x => ?_, rfl, rfl, rfl, rfl, rfl⟩
    split
    · rename_i he; subst he
      cases ho : A.heap.get x with
      | none => rfl
      | some o =>
        cases o with
        | row cells e c st ok => exact absurd ho (hb _ _ _ _ _)
        | map es k => rfl
        | iter s p => rfl
    · rfl
theorem dead_dead (o : AObj) : dead (dead o) = dead o := by cases o <;> rfl
theorem kill_get : ∀ (l : List Nat) {A : AS}, Bd A → (∀ x, (kill A l).heap.get x = if x ∈ l then (A.heap.get x).map dead else A.heap.get x) ∧ (kill A l).next = A.next ∧ (kill A l).mem = A.mem ∧ (kill A l).fz = A.fz ∧ (kill A l).r = A.r ∧ (kill A l).w = A.w := by
  intro l
  induction l with
  | nil => intro A _; exact ⟨fun x => by simp; rfl, rfl, rfl, rfl, rfl, rfl⟩
  | cons b l ih =>
    intro A h
    obtain ⟨h1, h2, h3, h4, h5, h6⟩ := kill1_get h b
    have hB : Bd (kill1 A b) := by
      refine ⟨by rw [h2]; exact h.1, fun x o hx => ?_⟩
      rw [h1] at hx
      rw [h2]
      split at hx
      · cases hg : A.heap.get x with
        | none => rw [hg] at hx; cases hx
        | some o' => exact h.2 _ _ hg
      · exact h.2 _ _ hx
    obtain ⟨k1, k2, k3, k4, k5, k6⟩ := ih hB
    have he : kill A (b :: l) = kill (kill1 A b) l := rfl
    rw [he]
    refine ⟨fun x => ?_, k2.trans h2, k3.trans h3, k4.trans h4, k5.trans h5, k6.trans h6⟩
    rw [k1, h1]
    by_cases hx : x = b
    · subst hx
      rw [if_pos rfl, if_pos (List.mem_cons_self)]
      split
      · rw [Option.map_map]; congr 1; funext o; exact dead_dead o
      · rfl
    · rw [if_neg hx]
      by_cases hl : x ∈ l
      · rw [if_pos hl, if_pos (List.mem_cons_of_mem _ hl)]
      · rw [if_neg hl, if_neg (by simp [hx, hl])]
theorem clsOf_dead (b : Nat) (o : AObj) : clsOf b (dead o) = clsOf b o := by cases o <;> rfl
end Go.EvL

namespace Go.EvL
open Go
/-- one row of a class is written (or made), others of the class are killed -/
structure Wr (A A' : AS) (b cls : Nat) (cs : List Value) (e st : Nat) (K : List Nat) : Prop where
  next : (b = A.next ∧ A'.next = A.next + 1) ∨ (A'.next = A.next ∧ ∃ cs' e' st' ok', A.heap.get b = some (.row cs' e' cls st' ok'))
  root : ∃ cs' e' st' ok', A.heap.get cls = some (.row cs' e' cls st' ok')
  heap : ∀ x, A'.heap.get x = if x = b then some (.row cs e cls st true) else if x ∈ K then (A.heap.get x).map dead else A.heap.get x
  kill : ∀ x ∈ K, x ∈ members A cls
  memo : ∀ c, c ≠ cls → A'.mem.get c = A.mem.get c
  memb : b ∈ members A' cls
  memk : ∀ x cs' e' st', x ≠ b → x ∉ K → A.heap.get x = some (.row cs' e' cls st' true) → x ∈ members A' cls
  meml : ∀ l x, A'.mem.get cls = some l → x ∈ l → x = b ∨ x ∈ members A cls
  fzo : ∀ c, c ≠ cls → A'.fz.get c = A.fz.get c
  r : A'.r = A.r ∨ A'.r = A.r ||| (1 <<< cls)
  w : A'.w = A.w ||| (1 <<< cls)
theorem Inv.memr {A : AS} (h : Inv A) {cls x : Nat} {cells : List Value} {e c st : Nat} {ok : Bool} (hr : ∃ cs' e' st' ok', A.heap.get cls = some (.row cs' e' cls st' ok')) (hx : x ∈ members A cls) (hg : A.heap.get x = some (.row cells e c st ok)) : c = cls := by
  unfold members at hx
  cases hm : A.mem.get cls with
  | none =>
    rw [hm] at hx
    simp at hx
    subst hx
    obtain ⟨_, _, _, _, h4⟩ := hr
    rw [hg] at h4
    injection h4 with h4
    injection h4
  | some l => rw [hm] at hx; exact h.memc _ _ _ _ _ _ _ _ hm hx hg
theorem Inv.meml {A : AS} (h : Inv A) {cls x : Nat} (hr : ∃ cs' e' st' ok', A.heap.get cls = some (.row cs' e' cls st' ok')) (hx : x ∈ members A cls) : x < A.next := by
  unfold members at hx
  cases hm : A.mem.get cls with
  | none =>
    rw [hm] at hx
    simp at hx
    subst hx
    obtain ⟨_, _, _, _, h4⟩ := hr
    exact (h.lt _ _ h4).1
  | some l => rw [hm] at hx; exact h.ml _ _ _ hm hx
theorem map_dead {o : Option AObj} {x : AObj} (h : o.map dead = some x) : ∃ y, o = some y ∧ x = dead y := by
  cases o with
  | none => cases h
  | some y => injection h with h; exact ⟨y, rfl, h.symm⟩
theorem Wr.fr {A A' : AS} {b cls : Nat} {cs : List Value} {e st : Nat} {K : List Nat} (h : Inv A) (k : Wr A A' b cls cs e st K) : AFr A A' := by
  have hcl : cls < A.next := by obtain ⟨_, _, _, _, h4⟩ := k.root; exact (h.lt _ _ h4).1
  have hle : A.next ≤ A'.next := by rcases k.next with ⟨_, h1⟩ | ⟨h1, _⟩ <;> omega
  have hb : b < A'.next := by
    rcases k.next with ⟨h0, h1⟩ | ⟨h1, _, _, _, _, h2⟩
    · omega
    · rw [h1]; exact (h.lt _ _ h2).1
  have hbit : A'.w.testBit cls = true := by rw [k.w, bit_or]; simp
  refine ⟨hle, ?_, ?_, ?_, ?_, ?_, ?_, ?_, ?_, ⟨?_, ?_, ?_, ?_, ?_, ?_, ?_⟩⟩
  · intro c hc
    rcases k.r with hr | hr
    · rw [hr]; exact hc
    · rw [hr, bit_or, hc]; rfl
  · intro c hc; rw [k.w, bit_or, hc]; rfl
  · intro x o hx hw
    rw [k.heap]
    have hne : x ≠ b := by
      rintro rfl
      rcases k.next with ⟨h0, _⟩ | ⟨_, _, _, _, _, h2⟩
      · have := (h.lt _ _ hx).1; omega
      · rw [hx] at h2; injection h2 with h2; subst h2; rw [show clsOf x (AObj.row _ _ cls _ _) = cls from rfl, hbit] at hw; cases hw
    rw [if_neg hne]
    split
    · rename_i hk
      cases o with
      | row cells e' c st' ok =>
        have : c = cls := h.memr k.root (k.kill _ hk) hx
        subst this
        rw [show clsOf x (AObj.row cells e' c st' ok) = c from rfl, hbit] at hw; cases hw
      | map es q => rw [hx]; rfl
      | iter s p => rw [hx]; rfl
    · exact hx
  · intro x o hx hw
    rw [k.heap] at hx
    split at hx
    · injection hx with hx; subst hx; rw [show clsOf x (AObj.row _ _ cls _ _) = cls from rfl, hbit] at hw; cases hw
    · split at hx
      · rename_i hk
        obtain ⟨y, hy, rfl⟩ := map_dead hx
        cases y with
        | row cells e' c st' ok =>
          have : c = cls := h.memr k.root (k.kill _ hk) hy
          subst this
          rw [show clsOf x (dead (AObj.row cells e' c st' ok)) = c from rfl, hbit] at hw; cases hw
        | map es q => exact hy
        | iter s p => exact hy
      · exact hx
  · intro c hc; exact k.fzo c (by rintro rfl; rw [hbit] at hc; cases hc)
  · intro c hc; exact k.memo c (by rintro rfl; rw [hbit] at hc; cases hc)
  · intro c hc
    rcases k.r with hr | hr
    · rw [hr] at hc; exact .inl hc
    · rw [hr] at hc; exact bit_lt hc (by omega)
  · intro c hc; rw [k.w] at hc; exact bit_lt hc (by omega)
  · intro x o hx
    rw [k.heap] at hx
    split at hx
    · rename_i he; subst he; injection hx with hx; subst hx; exact ⟨hb, by show cls < _; omega⟩
    · split at hx
      · obtain ⟨y, hy, rfl⟩ := map_dead hx
        rw [clsOf_dead]
        have := h.lt _ _ hy
        omega
      · have := h.lt _ _ hx; omega
  · intro x cells e' c st' hx
    rw [k.heap] at hx
    split at hx
    · rename_i he; subst he; injection hx with hx; injection hx with _ _ h3; subst h3; exact k.memb
    · rename_i hne
      split at hx
      · obtain ⟨y, hy, hd⟩ := map_dead hx
        cases y <;> simp [dead] at hd
      · rename_i hk
        by_cases hc : c = cls
        · subst hc; exact k.memk _ _ _ _ hne hk hx
        · have := h.mem _ _ _ _ _ hx
          unfold members at this ⊢
          rw [k.memo c hc]; exact this
  · intro c l x cells e' c' st' ok hl hx hg
    by_cases hc : c = cls
    · subst hc
      rw [k.heap] at hg
      split at hg
      · injection hg with hg; injection hg with _ _ h3; exact h3.symm
      · rename_i hne
        have hm : x ∈ members A c := (k.meml _ _ hl hx).resolve_left hne
        split at hg
        · obtain ⟨y, hy, hd⟩ := map_dead hg
          cases y with
          | row cells2 e2 c2 st2 ok2 => simp [dead] at hd; rw [hd.2.2.1]; exact h.memr k.root hm hy
          | map es q => simp [dead] at hd
          | iter s p => simp [dead] at hd
        · exact h.memr k.root hm hg
    · rw [k.memo c hc] at hl
      rw [k.heap] at hg
      split at hg
      · rename_i he
        subst he
        injection hg with hg; injection hg with _ _ h3
        subst h3
        rcases k.next with ⟨h0, _⟩ | ⟨_, _, _, _, _, h2⟩
        · have := h.ml _ _ _ hl hx; omega
        · exact absurd (h.memc _ _ _ _ _ _ _ _ hl hx h2).symm hc
      · split at hg
        · obtain ⟨y, hy, hd⟩ := map_dead hg
          cases y with
          | row cells2 e2 c2 st2 ok2 => simp [dead] at hd; rw [hd.2.2.1]; exact h.memc _ _ _ _ _ _ _ _ hl hx hy
          | map es q => simp [dead] at hd
          | iter s p => simp [dead] at hd
        · exact h.memc _ _ _ _ _ _ _ _ hl hx hg
  · intro x cells e' c st' ok hx
    have hroot : ∀ c0, (∃ cells' e' st' ok', A.heap.get c0 = some (.row cells' e' c0 st' ok')) → ∃ cells' e' st' ok', A'.heap.get c0 = some (.row cells' e' c0 st' ok') := by
      rintro c0 ⟨a1, a2, a3, a4, h4⟩
      rw [k.heap]
      split
      · rename_i he; subst he
        rcases k.next with ⟨h0, _⟩ | ⟨_, _, _, _, _, h2⟩
        · have := (h.lt _ _ h4).1; omega
        · rw [h4] at h2; injection h2 with h2; injection h2 with _ _ h3; subst h3; exact ⟨_, _, _, _, rfl⟩
      · split
        · rw [h4]; exact ⟨_, _, _, _, rfl⟩
        · exact ⟨_, _, _, _, h4⟩
    rw [k.heap] at hx
    split at hx
    · injection hx with hx; injection hx with _ _ h3; subst h3; exact hroot _ k.root
    · split at hx
      · obtain ⟨y, hy, hd⟩ := map_dead hx
        cases y with
        | row cells2 e2 c2 st2 ok2 => simp [dead] at hd; rw [hd.2.2.1]; exact hroot _ (h.root _ _ _ _ _ _ hy)
        | map es q => simp [dead] at hd
        | iter s p => simp [dead] at hd
      · exact hroot _ (h.root _ _ _ _ _ _ hx)
  · intro c l x hl hx
    by_cases hc : c = cls
    · subst hc
      rcases k.meml _ _ hl hx with rfl | hm
      · exact hb
      · have := h.meml k.root hm; omega
    · rw [k.memo c hc] at hl
      have := h.ml _ _ _ hl hx; omega
  · intro c l hl
    by_cases hc : c = cls
    · subst hc; omega
    · rw [k.memo c hc] at hl; have := h.old _ _ hl; omega
  · intro c l hl
    by_cases hc : c = cls
    · subst hc; omega
    · rw [k.fzo c hc] at hl; have := h.fz _ _ hl; omega
end Go.EvL

namespace Go.EvL
open Go
theorem boolRec {β : Type} {a b c : β} {t : Bool} (h : (Bool.rec a b t : β) = c) : (t = false ∧ a = c) ∨ (t = true ∧ b = c) := by cases t; exact .inl ⟨rfl, h⟩; exact .inr ⟨rfl, h⟩
theorem boolSome {β : Type} {b : Option β} {c : β} {t : Bool} (h : (Bool.rec none b t : Option β) = some c) : t = true ∧ b = some c := by
  cases t
  · cases h
  · exact ⟨rfl, h⟩
structure StSpec (A A' : AS) (b off : Nat) (vs cells : List Value) (e cls st : Nat) (K : List Nat) : Prop where
  row : A.heap.get b = some (.row cells e cls st true)
  len : off + vs.length ≤ cells.length
  fz : fzOk A cls (st + off) = true
  one : vs.all oneC = true
  wr : Wr A A' b cls (cells.take off ++ (vs ++ cells.drop (off + vs.length))) e st K
  fze : A'.fz = A.fz
  all : ∀ x cs' e' st', x ≠ b → A.heap.get x = some (.row cs' e' cls st' true) → x ∈ K
theorem stc_spec {A A' : AS} {b off : Nat} {vs : List Value} (hi : Inv A) (hn : A.next ≤ A.next) (h : stc A b off vs = some A') : ∃ cells e cls st K, StSpec A A' b off vs cells e cls st K := by
  unfold stc at h
  split at h
  · rename_i cells e cls st hb
    unfold stIn at h
    obtain ⟨hc, h⟩ := boolSome h
    rw [forceL_eq] at h
    injection h with h
    simp only [Bool.and_eq_true] at hc
    obtain ⟨hlen, hfz, hone⟩ := hc
    have hlen' : off + vs.length ≤ cells.length := Nat.le_of_ble_eq_true hlen
    have hroot := hi.root _ _ _ _ _ _ hb
    have hbl := (hi.lt _ _ hb).1
    have hcl : cls < A.next := (hi.lt _ _ hb).2
    have hf : Fits b := fits (by omega)
    have hfc : Fits cls := fits (by omega)
    have hmb := hi.mem _ _ _ _ _ hb
    cases hm : A.mem.get cls with
    | none =>
      have hone1 : ∀ x cs' e' st', A.heap.get x = some (.row cs' e' cls st' true) → x = cls := by
        intro x cs' e' st' hx
        have := hi.mem _ _ _ _ _ hx
        unfold members at this
        rw [hm] at this
        simpa using this
      have hbc : b = cls := hone1 _ _ _ _ hb
      refine ⟨cells, e, cls, st, [], ⟨hb, hlen', hfz, hone, ?_, ?_, ?_⟩⟩
      · have ha : alone A b cls = A := by unfold alone; rw [hm]
        rw [ha, put_eq, logW_eq] at h
        subst h
        refine ⟨.inr ⟨rfl, _, _, _, _, hb⟩, hroot, fun x => ?_, fun x hx => (by cases hx), fun c _ => rfl, ?_, ?_, ?_, fun c _ => rfl, .inl rfl, rfl⟩
        · rw [Tr.get_set _ _ _ _ hf]; simp
        · exact hmb
        · intro x cs' e' st' hne _ hx; exact hi.mem _ _ _ _ _ hx
        · intro l x hl hx; rw [show ((_ : AS).mem.get cls) = A.mem.get cls from rfl, hm] at hl; cases hl
      · rw [← h]; unfold alone; rw [hm]; rw [put_eq, logW_eq]
      · intro x cs' e' st' hne hx; exact absurd ((hone1 _ _ _ _ hx).trans hbc.symm) hne
    | some l =>
      have ha : alone A b cls = setMem (kill A (l.filter fun m => !(Nat.beq m b))) cls [b] := by unfold alone; rw [hm]
      obtain ⟨k1, k2, k3, k4, k5, k6⟩ := kill_get (l.filter fun m => !(Nat.beq m b)) (hi.bd hn)
      rw [ha, setMem_eq, put_eq, logW_eq] at h
      have hK : ∀ x, x ∈ (l.filter fun m => !(Nat.beq m b)) ↔ x ∈ l ∧ x ≠ b := by
        intro x
        rw [List.mem_filter]
        constructor
        · rintro ⟨h1, h2⟩
          refine ⟨h1, ?_⟩
          rintro rfl
          simp at h2
        · rintro ⟨h1, h2⟩
          refine ⟨h1, ?_⟩
          cases hbq : Nat.beq x b with
          | false => rfl
          | true => exact absurd (Nat.eq_of_beq_eq_true hbq) h2
      refine ⟨cells, e, cls, st, l.filter fun m => !(Nat.beq m b), ⟨hb, hlen', hfz, hone, ?_, ?_, ?_⟩⟩
      · subst h
        refine ⟨.inr ⟨k2, _, _, _, _, hb⟩, hroot, fun x => ?_, fun x hx => ?_, fun c hc => ?_, ?_, ?_, ?_, fun c _ => by rw [show ((_ : AS).fz) = (kill A (l.filter fun m => !(Nat.beq m b))).fz from rfl, k4], .inl k5, by show (kill A _).w ||| _ = _; rw [k6]⟩
        · rw [Tr.get_set _ _ _ _ hf]
          split
          · rfl
          · exact k1 x
        · unfold members; rw [hm]; exact ((hK x).1 hx).1
        · show (Tr.set [b] 40 (kill A _).mem cls).get c = _
          rw [Tr.get_set _ _ _ _ hfc, if_neg hc, k3]
        · show b ∈ ((Tr.set [b] 40 (kill A _).mem cls).get cls).getD [cls]
          rw [Tr.get_set _ _ _ _ hfc, if_pos rfl]
          simp
        · intro x cs' e' st' hne hk hx
          have := hi.mem _ _ _ _ _ hx
          unfold members at this
          rw [hm] at this
          exact absurd ((hK x).2 ⟨this, hne⟩) hk
        · intro l' x hl hx
          rw [show ((_ : AS).mem.get cls) = (Tr.set [b] 40 (kill A (l.filter fun m => !(Nat.beq m b))).mem cls).get cls from rfl, Tr.get_set _ _ _ _ hfc, if_pos rfl] at hl
          injection hl with hl
          subst hl
          simp at hx
          exact .inl hx
      · subst h; exact k4
      · intro x cs' e' st' hne hx
        have := hi.mem _ _ _ _ _ hx
        unfold members at this
        rw [hm] at this
        exact (hK x).2 ⟨this, hne⟩
  · cases h
structure AppSpec (A A' : AS) (off len n es : Nat) (xs cells : List Value) (e cls st : Nat) (K : List Nat) : Prop where
  old : ((cells.drop off).take (len * es)).length = len * es
  fz : fzOk A cls (st + off + len * es) = true
  one : xs.all oneC = true
  al : es ∣ off
  wr : Wr A A' A.next cls ((cells.drop off).take (len * es) ++ xs) e (st + off) K
  fze : A'.fz = A.fz
  all : ∀ x cs' e' st', x ∉ K → A.heap.get x = some (.row cs' e' cls st' true) → st' + cs'.length ≤ st + off + len * es
  bit : A'.r = A.r ||| (1 <<< cls)
  only : ∀ x ∈ K, ∀ cs' e' c' st' ok', A.heap.get x = some (.row cs' e' c' st' ok') → st + off + len * es < st' + cs'.length
theorem app_spec {A A' : AS} {b off len n es e cls st : Nat} {cells xs : List Value} {nx : ANext} (hi : Inv A) (hn : A.next + 1 ≤ A.next + 1) (hb : A.heap.get b = some (.row cells e cls st true))
    (h : appIn A off len n es e cls st cells xs = some (nx, A')) : nx = .val (.slice (some ⟨A.next, 0, none⟩) (len + n) (len + n)) ∧ ∃ K, AppSpec A A' off len n es xs cells e cls st K := by
  unfold appIn at h
  rw [forceL_eq, forceN_eq] at h
  obtain ⟨hc, h⟩ := boolSome h
  rw [forceL_eq] at h
  simp only [Bool.and_eq_true] at hc
  obtain ⟨hold, hfz, hal, hone⟩ := hc
  have hold' : ((cells.drop off).take (len * es)).length = len * es := Nat.eq_of_beq_eq_true hold
  obtain ⟨k1, k2, k3, k4, k5, k6⟩ := kill_get ((members A cls).filter (tooLong A (st + off + len * es))) (hi.bd (by omega))
  have hroot := hi.root _ _ _ _ _ _ hb
  have hcl : cls < A.next := (hi.lt _ _ hb).2
  have hfc : Fits cls := fits (by omega)
  have hfn : Fits A.next := fits (by omega)
  have hp : pushRow (kill A ((members A cls).filter (tooLong A (st + off + len * es)))) ((cells.drop off).take (len * es) ++ xs) e cls (st + off) ((members A cls).filter fun m => !(tooLong A (st + off + len * es) m)) (len + n) =
      some (.val (.slice (some ⟨A.next, 0, none⟩) (len + n) (len + n)), ⟨Tr.set (.row ((cells.drop off).take (len * es) ++ xs) e cls (st + off) true) 40 (kill A ((members A cls).filter (tooLong A (st + off + len * es)))).heap A.next, A.next + 1,
        Tr.set (A.next :: (members A cls).filter fun m => !(tooLong A (st + off + len * es) m)) 40 A.mem cls, A.fz, A.r ||| (1 <<< cls), A.w ||| (1 <<< cls)⟩) := by
    generalize hk : kill A ((members A cls).filter (tooLong A (st + off + len * es))) = B at *
    cases B
    simp only at k2 k3 k4 k5 k6
    subst k2 k3 k4 k5 k6
    unfold pushRow
    simp only [forceL_eq, forceT_eq, forceN_eq, logR_eq, logW_eq]
  rw [show Nat.add (Nat.add st off) (Nat.mul len es) = st + off + len * es from rfl, show Nat.mul len es = len * es from rfl, show Nat.add st off = st + off from rfl, show Nat.add len n = len + n from rfl, hp] at h
  injection h with h
  injection h with h1 h2
  refine ⟨h1.symm, (members A cls).filter (tooLong A (st + off + len * es)), ⟨hold', hfz, hone, Nat.dvd_of_mod_eq_zero (Nat.eq_of_beq_eq_true hal), ?_, ?_, ?_, ?_, ?_⟩⟩
  · subst h2
    refine ⟨.inl ⟨rfl, rfl⟩, hroot, fun x => ?_, fun x hx => (List.mem_filter.1 hx).1, fun c hc => ?_, ?_, ?_, ?_, fun c _ => rfl, .inr rfl, rfl⟩
    · show (Tr.set _ 40 _ A.next).get x = _
      rw [Tr.get_set _ _ _ _ hfn]
      split
      · rfl
      · exact k1 x
    · show (Tr.set _ 40 A.mem cls).get c = _
      rw [Tr.get_set _ _ _ _ hfc, if_neg hc]
    · show A.next ∈ ((Tr.set _ 40 A.mem cls).get cls).getD [cls]
      rw [Tr.get_set _ _ _ _ hfc, if_pos rfl]
      simp
    · intro x cs' e' st' hne hk hx
      show x ∈ ((Tr.set _ 40 A.mem cls).get cls).getD [cls]
      rw [Tr.get_set _ _ _ _ hfc, if_pos rfl]
      have hmx := hi.mem _ _ _ _ _ hx
      simp only [Option.getD_some, List.mem_cons, List.mem_filter]
      right
      refine ⟨hmx, ?_⟩
      cases ht : tooLong A (st + off + len * es) x with
      | false => rfl
      | true => exact absurd (List.mem_filter.2 ⟨hmx, ht⟩) hk
    · intro l x hl hx
      rw [show ((_ : AS).mem.get cls) = (Tr.set _ 40 A.mem cls).get cls from rfl, Tr.get_set _ _ _ _ hfc, if_pos rfl] at hl
      injection hl with hl
      subst hl
      simp only [List.mem_cons, List.mem_filter] at hx
      exact hx.imp id And.left
  · subst h2; rfl
  · intro x cs' e' st' hk hx
    have hmx := hi.mem _ _ _ _ _ hx
    cases ht : tooLong A (st + off + len * es) x with
    | true => exact absurd (List.mem_filter.2 ⟨hmx, ht⟩) hk
    | false =>
      unfold tooLong at ht
      rw [hx] at ht
      have ht' : Nat.ble (st + off + len * es).succ (st' + cs'.length) = false := ht
      have h3 : ¬ (st + off + len * es).succ ≤ st' + cs'.length := by
        intro hle
        rw [Nat.ble_eq_true_of_le hle] at ht'
        cases ht'
      omega
  · subst h2; rfl
  · intro x hx cs' e' c' st' ok' hg
    have ht := (List.mem_filter.1 hx).2
    unfold tooLong at ht
    rw [hg] at ht
    exact Nat.lt_of_succ_le (Nat.le_of_ble_eq_true ht)
end Go.EvL

namespace Go.EvL
open Go
inductive ERel (φ : Emb) : List MapEntry → List MapEntry → Prop
  | nil : ERel φ [] []
  | cons (k v v' : Value) (n : Nat) (l l' : List MapEntry) (hk : plain 50 k = true) (hv : VRel φ v v') (hl : ERel φ l l') : ERel φ (⟨k, v, n⟩ :: l) (⟨k, v', n⟩ :: l')
theorem ERel.mono {φ φ' : Emb} (he : Ext φ φ') {l l' : List MapEntry} (h : ERel φ l l') : ERel φ' l l' := by
  induction h with
  | nil => exact .nil
  | cons k v v' n l l' hk hv _ ih => exact .cons k v v' n l l' hk (hv.mono he) ih
/-- the mark of classes whose memory came in from outside: they are only read -/
def Big (hz : Option Nat) : Prop := ∃ h, hz = some h ∧ 1180591620717411303424 ≤ h
theorem Big.mono {hz hz' : Option Nat} (hh : ∀ h, hz = some h → ∃ h', hz' = some h' ∧ h ≤ h') (h : Big hz) : Big hz' := by
  obtain ⟨k, e1, e2⟩ := h
  obtain ⟨k', e3, e4⟩ := hh k e1
  exact ⟨k', e3, Nat.le_trans e2 e4⟩
theorem not_big {A : AS} {c : Nat} (h : fzSmall A c = true) : ¬ Big (A.fz.get c) := by
  rintro ⟨k, e1, e2⟩
  unfold fzSmall at h
  rw [e1] at h
  have := Nat.le_of_ble_eq_true h
  omega
inductive ORel (P : Program) (φ : Emb) (hz : Option Nat) (b : Nat) (i : Inf) : AObj → Obj → Prop
  | row (cells : List Value) (e c st : Nat) (C : Array Value) (fz : Nat × Nat) (hc : i.cls = c) (hs : i.st = st) (he : i.es = P.cellsOf e) (hsz : i.sh + i.sz = C.size) (hl : i.sh + cells.length ≤ C.size)
      (hv : VRels φ cells ((C.toList.drop i.sh).take cells.length)) (hf : fz = (0, 0) ∨ ∃ h, hz = some h ∧ fz.2 + st ≤ h + i.sh) (e' : Nat) (hE : (e' = e ∧ i.es ∣ i.sh) ∨ Big hz) : ORel P φ hz b i (.row cells e c st true) (.cells C e' fz)
  | map (es : List MapEntry) (k : Nat) (es' : Array MapEntry) (hc : i.cls = b) (he : ERel φ es es'.toList) : ORel P φ hz b i (.map es k) (.map es' k)
  | iter (s : ByteArray) (p : Nat) (hc : i.cls = b) (hs : i.sh = 0) : ORel P φ hz b i (.iter s p) (.stringIter s p)
def live : AObj → Bool
  | .row _ _ _ _ ok => ok
  | _ => true
theorem ORel.mono {P : Program} {φ φ' : Emb} {hz hz' : Option Nat} {b : Nat} {i : Inf} {o : AObj} {o' : Obj} (he : Ext φ φ') (hh : ∀ h, hz = some h → ∃ h', hz' = some h' ∧ h ≤ h') (h : ORel P φ hz b i o o') : ORel P φ' hz' b i o o' := by
  cases h with
  | row cells e c st C fz hc hs h1 hsz hl hv hf e' hE =>
    refine .row cells e c st C fz hc hs h1 hsz hl (hv.mono he) (hf.imp id ?_) e' (hE.imp id (Big.mono hh))
    rintro ⟨h, e1, e2⟩
    obtain ⟨h', e3, e4⟩ := hh h e1
    exact ⟨h', e3, by omega⟩
  | map es k es' hc h1 => exact .map es k es' hc (h1.mono he)
  | iter s p hc hs => exact .iter s p hc hs
theorem ORel.cls {P : Program} {φ : Emb} {hz : Option Nat} {b : Nat} {i : Inf} {o : AObj} {o' : Obj} (h : ORel P φ hz b i o o') : i.cls = clsOf b o := by
  cases h with
  | row cells e c st C fz hc => exact hc
  | map es k es' hc => exact hc
  | iter s p hc hs => exact hc
/-- the package-level variables are blocks of their own -/
def Glob (P : Program) (φ : Emb) : Prop := ∀ g, g < P.globals.size → ∃ i, φ g = some i ∧ i.blk = g ∧ i.sh = 0
theorem Glob.mono {P : Program} {φ φ' : Emb} (he : Ext φ φ') (h : Glob P φ) : Glob P φ' := fun g hg => let ⟨i, h1, h2⟩ := h g hg; ⟨i, he _ _ h1, h2⟩
structure Rel (P : Program) (φ : Emb) (T : Nat → Prop) (A : AS) (w : World) : Prop where
  blk : ∀ b i, φ b = some i → i.blk < w.heap.size
  inj : ∀ b₁ b₂ i₁ i₂, φ b₁ = some i₁ → φ b₂ = some i₂ → i₁.blk = i₂.blk → i₁.cls = i₂.cls ∧ i₁.sh + i₂.st = i₂.sh + i₁.st
  obj : ∀ b o, A.heap.get b = some o → live o = true → T (clsOf b o) → ∃ i o', φ b = some i ∧ w.heap[i.blk]? = some o' ∧ ORel P φ (A.fz.get (clsOf b o)) b i o o'
  al : ∀ b i, φ b = some i → True
  glob : Glob P φ
  root : ∀ b i, φ b = some i → i.cls = b → i.sh = 0
theorem Rel.sub {P : Program} {φ : Emb} {T T' : Nat → Prop} {A : AS} {w : World} (h : Rel P φ T A w) (ht : ∀ c, T' c → T c) : Rel P φ T' A w :=
  ⟨h.blk, h.inj, fun b o hb hl hT => h.obj b o hb hl (ht _ hT), h.al, h.glob, h.root⟩
theorem Rel.heap {P : Program} {φ : Emb} {T : Nat → Prop} {A A' : AS} {w w' : World} (h : Rel P φ T A w) (h1 : A'.heap = A.heap) (h2 : A'.fz = A.fz) (h3 : w'.heap = w.heap) : Rel P φ T A' w' :=
  ⟨fun b i hb => by rw [h3]; exact h.blk b i hb, h.inj, fun b o hb hl hT => by rw [h1] at hb; rw [h2, h3]; exact h.obj b o hb hl hT, h.al, h.glob, h.root⟩
/-- what a step does to a run's world and to the embedding -/
structure Post (P : Program) (φ : Emb) (T : Nat → Prop) (A A' : AS) (w w' : World) (φ' : Emb) : Prop where
  ext : Ext φ φ'
  out : ∀ b, b < A.next ∨ A'.next ≤ b → φ' b = φ b
  rel : Rel P φ' (fun c => T c ∨ (A.next ≤ c ∧ c < A'.next)) A' w'
  img : ∀ b i, φ' b = some i → i.blk < w.heap.size → ∃ b₀ i₀, φ b₀ = some i₀ ∧ i₀.blk = i.blk ∧ i₀.cls = i.cls
  size : w.heap.size ≤ w'.heap.size
  same : ∀ k, k < w.heap.size → (∀ b i, φ b = some i → i.blk = k → A'.w.testBit i.cls = false) → w'.heap[k]? = w.heap[k]?
  os : w'.os = w.os
  tape : w'.tape = w.tape
  output : w'.output = w.output
theorem Post.refl {P : Program} {φ : Emb} {T : Nat → Prop} {A A' : AS} {w w' : World} (h : Rel P φ T A w) (h1 : A'.heap = A.heap) (h2 : A'.fz = A.fz) (h4 : A'.next = A.next) (h3 : w'.heap = w.heap) (ho : w'.os = w.os) (ht : w'.tape = w.tape) (hp : w'.output = w.output) : Post P φ T A A' w w' φ where
  ext := fun _ _ h => h
  out := fun _ _ => rfl
  rel := (h.heap h1 h2 h3).sub fun c hc => hc.elim id fun hc => by omega
  img := fun b i hb _ => ⟨b, i, hb, rfl, rfl⟩
  size := by rw [h3]; exact Nat.le_refl _
  same := fun k _ _ => by rw [h3]
  os := ho
  tape := ht
  output := hp
theorem Post.trans {P : Program} {φ φ' φ'' : Emb} {T : Nat → Prop} {A B C : AS} {w w' w'' : World} (hn : A.next ≤ B.next) (f : AFr B C) (h : Post P φ T A B w w' φ') (k : Post P φ' (fun c => T c ∨ (A.next ≤ c ∧ c < B.next)) B C w' w'' φ'') : Post P φ T A C w w'' φ'' where
  ext := fun b i hb => k.ext b i (h.ext b i hb)
  out := fun b hb => by
    have := f.next
    rw [k.out b (by omega), h.out b (by omega)]
  rel := k.rel.sub fun c hc => by
    have := f.next
    rcases hc with hc | ⟨h1, h2⟩
    · exact .inl (.inl hc)
    · by_cases hlt : c < B.next
      · exact .inl (.inr ⟨h1, hlt⟩)
      · exact .inr ⟨by omega, h2⟩
  img := fun b i hb hlt => by
    obtain ⟨b₁, i₁, e1, e2, e3⟩ := k.img b i hb (Nat.lt_of_lt_of_le hlt h.size)
    obtain ⟨b₀, i₀, g1, g2, g3⟩ := h.img b₁ i₁ e1 (by rw [e2]; exact hlt)
    exact ⟨b₀, i₀, g1, g2.trans e2, g3.trans e3⟩
  size := Nat.le_trans h.size k.size
  same := fun x hx hw => by
    rw [k.same x (Nat.lt_of_lt_of_le hx h.size) fun b i hb he => by
      obtain ⟨b₀, i₀, g1, g2, g3⟩ := h.img b i hb (by rw [he]; exact hx)
      rw [← g3]
      exact hw b₀ i₀ g1 (g2.trans he)]
    exact h.same x hx fun b i hb he => bfalse (f.w _) (hw b i hb he)
  os := k.os.trans h.os
  tape := k.tape.trans h.tape
  output := k.output.trans h.output
theorem heap_push_lt {w : World} {o : Obj} {k : Nat} (h : k < w.heap.size) : (w.alloc o).heap[k]? = w.heap[k]? := by
  unfold World.alloc; rw [Array.getElem?_push]; rw [if_neg (by omega)]
theorem heap_push_eq {w : World} {o : Obj} : (w.alloc o).heap[w.heap.size]? = some o := by
  unfold World.alloc; rw [Array.getElem?_push]; rw [if_pos rfl]
/-- a new object on both sides -/
theorem Post.new {P : Program} {φ : Emb} {T : Nat → Prop} {A : AS} {w : World} (hi : Inv A) (hn : A.next + 1 ≤ A.next + 1) (h : Rel P φ T A w) (hfr : φ A.next = none) (o : Nat → AObj) (hc : clsOf A.next (o A.next) = A.next) (o' : Obj) (sh sz es st : Nat) (hal : sh = 0)
    (ho : ∀ φ', Ext φ φ' → φ' A.next = some ⟨w.heap.size, sh, sz, es, A.next, st⟩ → ORel P φ' (A.fz.get A.next) A.next ⟨w.heap.size, sh, sz, es, A.next, st⟩ (o A.next) o') :
    ∃ φ', φ' A.next = some ⟨w.heap.size, sh, sz, es, A.next, st⟩ ∧ Post P φ T A (A.new o) w (w.alloc o') φ' := by
  have hf : Fits A.next := fits (by omega)
  refine ⟨fun b => if b = A.next then some ⟨w.heap.size, sh, sz, es, A.next, st⟩ else φ b, if_pos rfl, ?_⟩
  have hext : Ext φ fun b => if b = A.next then some ⟨w.heap.size, sh, sz, es, A.next, st⟩ else φ b := by
    intro b i hb
    show (if b = A.next then _ else _) = _
    rw [if_neg (by rintro rfl; rw [hfr] at hb; cases hb)]
    exact hb
  have hsz : (w.alloc o').heap.size = w.heap.size + 1 := by unfold World.alloc; exact Array.size_push ..
  refine ⟨hext, fun b hb => ?_, ⟨fun b i hb => ?_, fun b₁ b₂ i₁ i₂ h₁ h₂ he => ?_, fun b x hb hl hT => ?_, fun b i hb => by
    have hb' : (if b = A.next then some (⟨w.heap.size, sh, sz, es, A.next, st⟩ : Inf) else φ b) = some i := hb
    split at hb'
    · trivial
    · exact h.al _ _ hb', h.glob.mono hext, fun b i hb hcl => by
    have hb' : (if b = A.next then some (⟨w.heap.size, sh, sz, es, A.next, st⟩ : Inf) else φ b) = some i := hb
    split at hb'
    · injection hb' with hb'; subst hb'; exact hal
    · exact h.root _ _ hb' hcl⟩, fun b i hb hlt => ?_, by rw [hsz]; omega, fun k hk _ => heap_push_lt hk, rfl, rfl, rfl⟩
  · rw [new_eq] at hb
    have hb' : b < A.next ∨ A.next + 1 ≤ b := hb
    show (if b = A.next then _ else _) = _
    rw [if_neg (by omega)]
  · rw [hsz]
    split at hb
    · injection hb with hb; subst hb; show w.heap.size < _; omega
    · have := h.blk _ _ hb; omega
  · split at h₁ <;> split at h₂
    · injection h₁ with h₁; injection h₂ with h₂; subst h₁; subst h₂; exact ⟨rfl, rfl⟩
    · injection h₁ with h₁; subst h₁; have := h.blk _ _ h₂; simp only at he; omega
    · injection h₂ with h₂; subst h₂; have := h.blk _ _ h₁; simp only at he; omega
    · exact h.inj _ _ _ _ h₁ h₂ he
  · rw [new_eq] at hb hT
    rw [show (A.new o).fz = A.fz from by rw [new_eq]]
    have hb' : (Tr.set (o A.next) 40 A.heap A.next).get b = some x := hb
    rw [Tr.get_set _ _ _ _ hf] at hb'
    split at hb'
    · rename_i he; subst he
      injection hb' with hb'; subst hb'
      refine ⟨_, o', if_pos rfl, heap_push_eq, ?_⟩
      rw [hc]
      exact ho _ hext (if_pos rfl)
    · have hlt := (hi.lt _ _ hb').2
      have hT' : T (clsOf b x) := by
        rcases hT with hT | ⟨h1, _⟩
        · exact hT
        · omega
      obtain ⟨i, y, e1, e2, e3⟩ := h.obj b x hb' hl hT'
      exact ⟨i, y, hext _ _ e1, by rw [heap_push_lt (h.blk _ _ e1)]; exact e2, e3.mono hext fun h hh => ⟨h, hh, Nat.le_refl _⟩⟩
  · split at hb
    · injection hb with hb; subst hb; simp only at hlt; omega
    · exact ⟨b, i, hb, rfl, rfl⟩
/-- a cell of a row that is related -/
theorem Rel.cells {P : Program} {φ : Emb} {T : Nat → Prop} {A : AS} {w : World} (h : Rel P φ T A w) {b : Nat} {cells : List Value} {e c st : Nat} (hb : A.heap.get b = some (.row cells e c st true)) (hT : T c) :
    ∃ i C fz e', φ b = some i ∧ w.heap[i.blk]? = some (.cells C e' fz) ∧ i.cls = c ∧ i.st = st ∧ i.es = P.cellsOf e ∧ i.sh + i.sz = C.size ∧ i.sh + cells.length ≤ C.size ∧ VRels φ cells ((C.toList.drop i.sh).take cells.length) ∧ (fz = (0, 0) ∨ ∃ h, A.fz.get c = some h ∧ fz.2 + st ≤ h + i.sh) ∧ ((e' = e ∧ i.es ∣ i.sh) ∨ Big (A.fz.get c)) := by
  obtain ⟨i, o', e1, e2, e3⟩ := h.obj b _ hb rfl hT
  cases e3 with
  | row _ _ _ _ C fz hc hs he hsz hl hv hf e' hE => exact ⟨i, C, fz, e', e1, e2, hc, hs, he, hsz, hl, hv, hf, hE⟩
end Go.EvL

namespace Go.EvL
open Go
theorem splice {α : Type} (C vs : List α) (sh off n : Nat) (h : off + vs.length ≤ n) (h2 : sh + n ≤ C.length) :
    ((C.take (sh + off) ++ vs ++ C.drop (sh + off + vs.length)).drop sh).take n = ((C.drop sh).take n).take off ++ (vs ++ ((C.drop sh).take n).drop (off + vs.length)) := by
  apply List.ext_getElem?
  intro j
  simp only [List.getElem?_take, List.getElem?_drop, List.getElem?_append, List.length_append, List.length_take, List.length_drop]
  have e1 : min (sh + off) C.length = sh + off := by omega
  have e2 : min off (min n (C.length - sh)) = off := by omega
  rw [e1, e2]
  by_cases h1 : j < n
  · by_cases h3 : j < off
    · rw [if_pos h1, if_pos (show sh + j < sh + off + vs.length by omega), if_pos (show sh + j < sh + off by omega), if_pos (show sh + j < sh + off by omega), if_pos h3, if_pos h3, if_pos h1]
    · rw [if_pos h1]
      by_cases h4 : j < off + vs.length
      · rw [if_pos (show sh + j < sh + off + vs.length by omega), if_neg (show ¬ sh + j < sh + off by omega), if_neg h3, if_pos (show j - off < vs.length by omega)]
        congr 1; omega
      · rw [if_neg (show ¬ sh + j < sh + off + vs.length by omega), if_neg h3, if_neg (show ¬ j - off < vs.length by omega), if_pos (show off + vs.length + (j - off - vs.length) < n by omega)]
        congr 1; omega
  · rw [if_neg h1, if_neg (show ¬ j < off by omega), if_neg (show ¬ j - off < vs.length by omega), if_neg (show ¬ off + vs.length + (j - off - vs.length) < n by omega)]
theorem splice_before {α : Type} (C vs : List α) (o sh n : Nat) (h : sh + n ≤ o) (h2 : o ≤ C.length) : ((C.take o ++ vs ++ C.drop (o + vs.length)).drop sh).take n = (C.drop sh).take n := by
  apply List.ext_getElem?
  intro j
  simp only [List.getElem?_take, List.getElem?_drop, List.getElem?_append, List.length_append, List.length_take]
  by_cases h1 : j < n
  · rw [if_pos h1, if_pos h1, if_pos (by omega), if_pos (by omega), if_pos (by omega)]
  · rw [if_neg h1, if_neg h1]
theorem setRow_size (w : World) (g : Nat) (cs : Array Value) : (w.setRow g cs).heap.size = w.heap.size := by simp [World.setRow]
theorem fz_low {A : AS} {cls st off : Nat} {i : Inf} {fz : Nat × Nat} (h : fzOk A cls (st + off) = true) (hf : fz = (0, 0) ∨ ∃ h, A.fz.get cls = some h ∧ fz.2 + st ≤ h + i.sh) : fz.2 ≤ i.sh + off := by
  rcases hf with rfl | ⟨k, e1, e2⟩
  · exact Nat.zero_le _
  · unfold fzOk at h
    rw [e1] at h
    have := Nat.le_of_ble_eq_true h
    omega
/-- a store on both sides -/
theorem Post.store {P : Program} {φ : Emb} {T : Nat → Prop} {A A' : AS} {w : World} {b off : Nat} {vs vs' cells : List Value} {e cls st : Nat} {K : List Nat} (hi : Inv A) (s : StSpec A A' b off vs cells e cls st K)
    (h : Rel P φ T A w) (hT : T cls) (hv : VRels φ vs vs') {i : Inf} (hb : φ b = some i) :
    ∃ C fz e', w.heap[i.blk]? = some (.cells C e' fz) ∧ fz.2 ≤ i.sh + off ∧ i.sh + off + vs'.length ≤ C.size ∧ Post P φ T A A' w (w.setRow i.blk (C.toList.take (i.sh + off) ++ vs' ++ C.toList.drop (i.sh + off + vs'.length)).toArray) φ := by
  obtain ⟨i', C, fz, e', e1, e2, e3, e4, e5, e6, e7, e8, e9, e10⟩ := h.cells s.row hT
  obtain rfl : i' = i := by rw [hb] at e1; injection e1 with e1; exact e1.symm
  have hlen := hv.length
  have hsl := s.len
  refine ⟨C, fz, e', e2, fz_low s.fz e9, by omega, ?_⟩
  have hnx : A'.next = A.next := by
    rcases s.wr.next with ⟨h0, _⟩ | ⟨h1, _⟩
    · have := (hi.lt _ _ s.row).1; omega
    · exact h1
  have hbit : A'.w.testBit cls = true := by rw [s.wr.w, bit_or]; simp
  have hC : C.toList.length = C.size := by simp
  refine ⟨fun _ _ h => h, fun _ _ => rfl, ⟨fun b i hb => by rw [setRow_size]; exact h.blk b i hb, h.inj, fun x o hx hl hTx => ?_, h.al, h.glob, h.root⟩, fun b i hb _ => ⟨b, i, hb, rfl, rfl⟩, by rw [setRow_size]; exact Nat.le_refl _, fun k _ hk => ?_, rfl, rfl, rfl⟩
  · rw [s.wr.heap] at hx
    rw [s.fze]
    have hTx' : T (clsOf x o) := hTx.elim id fun hc => by omega
    split at hx
    · rename_i he; subst he
      injection hx with hx; subst hx
      refine ⟨i', _, hb, setRow_heap _ _ _ _ _ _ e2, .row _ _ _ _ _ fz e3 e4 e5 ?_ ?_ ?_ e9 e' e10⟩
      · simp; omega
      · simp; omega
      · have hl1 : (cells.take off ++ (vs ++ cells.drop (off + vs.length))).length = cells.length := by simp; omega
        rw [hl1]
        show VRels φ _ (((C.toList.take (i'.sh + off) ++ vs' ++ C.toList.drop (i'.sh + off + vs'.length)).toArray.toList.drop i'.sh).take cells.length)
        rw [List.toList_toArray, splice _ _ _ _ _ (by omega) (by omega), hlen]
        exact (e8.take off).append (hv.append (e8.drop _))
    · rename_i hne
      split at hx
      · obtain ⟨y, hy, rfl⟩ := map_dead hx
        cases y with
        | row a1 a2 a3 a4 a5 => cases hl
        | map es k =>
          obtain ⟨j, o', g1, g2, g3⟩ := h.obj x _ hy rfl hTx'
          cases g3 with
          | map _ _ es' hc hE => exact ⟨j, _, g1, by rw [setRow_other _ _ _ _ (by intro hh; rw [hh, e2] at g2; cases g2)]; exact g2, .map _ _ _ hc hE⟩
        | iter ss p =>
          obtain ⟨j, o', g1, g2, g3⟩ := h.obj x _ hy rfl hTx'
          cases g3 with
          | iter _ _ hc hs => exact ⟨j, _, g1, by rw [setRow_other _ _ _ _ (by intro hh; rw [hh, e2] at g2; cases g2)]; exact g2, .iter _ _ hc hs⟩
      · rename_i hk
        obtain ⟨j, o', g1, g2, g3⟩ := h.obj x _ hx hl hTx'
        have hjc := g3.cls
        have hne' : clsOf x o ≠ cls := by
          intro hc
          cases o with
          | row a1 a2 a3 a4 a5 =>
            cases hl
            have : a3 = cls := hc
            subst this
            exact hk (s.all _ _ _ _ hne hx)
          | map es k =>
            have : x = cls := hc
            subst this
            obtain ⟨_, _, _, _, h4⟩ := s.wr.root
            rw [hx] at h4; cases h4
          | iter ss p =>
            have : x = cls := hc
            subst this
            obtain ⟨_, _, _, _, h4⟩ := s.wr.root
            rw [hx] at h4; cases h4
        refine ⟨j, o', g1, ?_, g3⟩
        rw [setRow_other _ _ _ _ (by intro hh; exact hne' (by rw [← hjc, (h.inj _ _ _ _ g1 hb hh).1, e3]))]
        exact g2
  · rw [setRow_other _ _ _ _ (by
      rintro rfl
      have := hk b i' hb rfl
      rw [e3, hbit] at this
      cases this)]
end Go.EvL

namespace Go.EvL
open Go
theorem ext_new {φ : Emb} {n : Nat} {i : Inf} (hfr : φ n = none) : Ext φ fun b => if b = n then some i else φ b := by
  intro b j hb
  show (if b = n then _ else _) = _
  rw [if_neg (by rintro rfl; rw [hfr] at hb; cases hb)]
  exact hb
/-- an append where there is room -/
theorem Post.room {P : Program} {φ : Emb} {T : Nat → Prop} {A A' : AS} {w : World} {b off len n es : Nat} {xs xs' cells : List Value} {e cls st : Nat} {K : List Nat} (hi : Inv A) (s : AppSpec A A' off len n es xs cells e cls st K)
    (hb : A.heap.get b = some (.row cells e cls st true)) (h : Rel P φ T A w) (hT : T cls) (hfr : φ A.next = none) (hv : VRels φ xs xs') (hx : xs.length = n * es) {i : Inf} (hφ : φ b = some i) {cap : Nat} (hcap : len + n ≤ cap) (hes : i.es = es) (hr : off + cap * i.es ≤ i.sz) :
    ∃ C fz e', w.heap[i.blk]? = some (.cells C e' fz) ∧ fz.2 ≤ i.sh + off + len * es ∧ i.sh + off + len * es + xs'.length ≤ C.size ∧
      Post P φ T A A' w (w.setRow i.blk (C.toList.take (i.sh + off + len * es) ++ xs' ++ C.toList.drop (i.sh + off + len * es + xs'.length)).toArray) (fun x => if x = A.next then some ⟨i.blk, i.sh + off, i.sz - off, i.es, i.cls, i.st + off⟩ else φ x) := by
  obtain ⟨i', C, fz, e', e1, e2, e3, e4, e5, e6, e7, e8, e9, e10⟩ := h.cells hb hT
  obtain rfl : i' = i := by rw [hφ] at e1; injection e1 with e1; exact e1.symm
  have hlen := hv.length
  have hold := s.old
  rw [List.length_take, List.length_drop] at hold
  have hmul : len * es + n * es ≤ cap * i'.es := by rw [hes, ← Nat.add_mul]; exact Nat.mul_le_mul_right _ hcap
  have hsz : i'.sh + off + len * es + xs'.length ≤ C.size := by omega
  have hoff : i'.sh + off ≤ C.size := by omega
  have hC : C.toList.length = C.size := by simp
  have hlow : fz.2 ≤ i'.sh + off + len * es := by
    have := fz_low (A := A) (st := st) (off := off + len * es) (i := i') (fz := fz) (by rw [← Nat.add_assoc]; exact s.fz) e9
    omega
  refine ⟨C, fz, e', e2, hlow, hsz, ?_⟩
  have hnx : A'.next = A.next + 1 := by
    rcases s.wr.next with ⟨_, h1⟩ | ⟨_, _, _, _, _, h2⟩
    · exact h1
    · have := (hi.lt _ _ h2).1; omega
  have hbit : A'.w.testBit cls = true := by rw [s.wr.w, bit_or]; simp
  have hcl : cls < A.next := (hi.lt _ _ hb).2
  have hext := ext_new (i := ⟨i'.blk, i'.sh + off, i'.sz - off, i'.es, i'.cls, i'.st + off⟩) hfr
  refine ⟨hext, fun x hx => ?_, ⟨fun x j hx => ?_, fun b₁ b₂ i₁ i₂ h₁ h₂ he => ?_, fun x o hx hl hTx => ?_, fun x j hx => by
    have hx' : (if x = A.next then some (⟨i'.blk, i'.sh + off, i'.sz - off, i'.es, i'.cls, i'.st + off⟩ : Inf) else φ x) = some j := hx
    split at hx'
    · trivial
    · exact h.al _ _ hx', h.glob.mono hext, fun x j hx hcl => by
    have hx' : (if x = A.next then some (⟨i'.blk, i'.sh + off, i'.sz - off, i'.es, i'.cls, i'.st + off⟩ : Inf) else φ x) = some j := hx
    split at hx'
    · rename_i hxn; injection hx' with hx'; subst hx'; have hcc : i'.cls = x := hcl; rw [e3] at hcc; omega
    · exact h.root _ _ hx' hcl⟩, fun x j hx hlt => ?_, by rw [setRow_size]; exact Nat.le_refl _, fun k _ hk => ?_, rfl, rfl, rfl⟩
  · show (if x = A.next then _ else _) = _
    rw [if_neg (by omega)]
  · rw [setRow_size]
    split at hx
    · injection hx with hx; subst hx; exact h.blk _ i' hφ
    · exact h.blk _ _ hx
  · split at h₁ <;> split at h₂
    · injection h₁ with h₁; injection h₂ with h₂; subst h₁; subst h₂; exact ⟨rfl, rfl⟩
    · injection h₁ with h₁; subst h₁
      have := h.inj _ _ _ _ hφ h₂ he
      simp only
      omega
    · injection h₂ with h₂; subst h₂
      have := h.inj _ _ _ _ h₁ hφ he
      simp only
      omega
    · exact h.inj _ _ _ _ h₁ h₂ he
  · rw [s.wr.heap] at hx
    rw [s.fze]
    split at hx
    · rename_i he; subst he
      injection hx with hx; subst hx
      refine ⟨⟨i'.blk, i'.sh + off, i'.sz - off, i'.es, i'.cls, i'.st + off⟩, _, if_pos rfl, setRow_heap _ _ _ _ _ _ e2, ORel.row (i := ⟨i'.blk, i'.sh + off, i'.sz - off, i'.es, i'.cls, i'.st + off⟩) _ _ _ _ _ fz e3 (by show i'.st + off = st + off; rw [e4]) e5 ?_ ?_ ?_ ?_ e' ?_⟩
      · simp; omega
      · simp; omega
      · have hl1 : ((cells.drop off).take (len * es) ++ xs).length = len * es + xs'.length := by rw [List.length_append, s.old, hlen]
        rw [hl1]
        show VRels _ _ (((C.toList.take (i'.sh + off + len * es) ++ xs' ++ C.toList.drop (i'.sh + off + len * es + xs'.length)).toArray.toList.drop (i'.sh + off)).take (len * es + xs'.length))
        rw [List.toList_toArray, splice _ _ _ _ _ (Nat.le_refl _) (by omega)]
        have hd : ((C.toList.drop (i'.sh + off)).take (len * es + xs'.length)).drop (len * es + xs'.length) = [] := by rw [List.drop_eq_nil_iff]; simp; omega
        rw [hd, List.append_nil]
        refine VRels.append (VR.mono hext ?_) (hv.mono hext)
        have e8' := (e8.drop off).take (len * es)
        have hEq : (((C.toList.drop i'.sh).take cells.length).drop off).take (len * es) = ((C.toList.drop (i'.sh + off)).take (len * es + xs'.length)).take (len * es) := by
          rw [List.drop_take, List.take_take, List.take_take, List.drop_drop]
          congr 1
          omega
        rw [hEq] at e8'
        exact e8'
      · refine e9.imp id ?_
        rintro ⟨k, g1, g2⟩
        exact ⟨k, g1, by show fz.2 + (st + off) ≤ k + (i'.sh + off); omega⟩
      · exact e10.imp (fun ⟨g1, g2⟩ => ⟨g1, Nat.dvd_add g2 (by show i'.es ∣ off; rw [hes]; exact s.al)⟩) id
    · rename_i hne
      have hTx' : ∀ o', A.heap.get x = some o' → clsOf x o' = clsOf x o → T (clsOf x o) := by
        intro o' ho' hc
        rcases hTx with ht | ⟨h1, _⟩
        · exact ht
        · have := (hi.lt _ _ ho').2; rw [hc] at this; omega
      split at hx
      · obtain ⟨y, hy, rfl⟩ := map_dead hx
        have hT2 := hTx' y hy (by rw [clsOf_dead])
        cases y with
        | row a1 a2 a3 a4 a5 => cases hl
        | map es' k =>
          obtain ⟨j, o', g1, g2, g3⟩ := h.obj x _ hy rfl hT2
          cases g3 with
          | map _ _ es' hc hE => exact ⟨j, _, hext _ _ g1, by rw [setRow_other _ _ _ _ (by intro hh; rw [hh, e2] at g2; cases g2)]; exact g2, .map _ _ _ hc (hE.mono hext)⟩
        | iter ss p =>
          obtain ⟨j, o', g1, g2, g3⟩ := h.obj x _ hy rfl hT2
          cases g3 with
          | iter _ _ hc hs => exact ⟨j, _, hext _ _ g1, by rw [setRow_other _ _ _ _ (by intro hh; rw [hh, e2] at g2; cases g2)]; exact g2, .iter _ _ hc hs⟩
      · rename_i hk
        obtain ⟨j, o', g1, g2, g3⟩ := h.obj x _ hx hl (hTx' o hx rfl)
        have hjc := g3.cls
        by_cases hblk : j.blk = i'.blk
        · -- the same block of the run: the row ends ahead of what is written
          obtain ⟨hc1, hc2⟩ := h.inj _ _ _ _ g1 hφ hblk
          rw [hblk, e2] at g2
          injection g2 with g2
          subst g2
          cases g3 with
          | row cells2 _ c2 st2 _ _ q1 q2 q3 q4 q5 q6 q7 _ q8 =>
            have hcc : c2 = cls := by rw [← q1, hc1, e3]
            subst hcc
            have hle := s.all _ _ _ _ hk hx
            refine ⟨j, _, hext _ _ g1, by rw [hblk]; exact setRow_heap _ _ _ _ _ _ e2, .row _ _ _ _ _ fz q1 q2 q3 ?_ ?_ ?_ q7 _ q8⟩
            · simp; omega
            · simp; omega
            · show VRels _ _ (((C.toList.take (i'.sh + off + len * es) ++ xs' ++ C.toList.drop (i'.sh + off + len * es + xs'.length)).toArray.toList.drop j.sh).take cells2.length)
              rw [List.toList_toArray, splice_before _ _ _ _ _ (by omega) (by omega)]
              exact q6.mono hext
        · exact ⟨j, o', hext _ _ g1, by rw [setRow_other _ _ _ _ hblk]; exact g2, g3.mono hext fun k hk => ⟨k, hk, Nat.le_refl _⟩⟩
  · split at hx
    · injection hx with hx; subst hx; exact ⟨b, i', hφ, rfl, rfl⟩
    · exact ⟨x, j, hx, rfl, rfl⟩
  · rw [setRow_other _ _ _ _ (by
      rintro rfl
      have := hk b i' hφ rfl
      rw [e3, hbit] at this
      cases this)]
/-- an append that makes a new row -/
theorem Post.grow {P : Program} {φ : Emb} {T : Nat → Prop} {A A' : AS} {w : World} {b off len n es : Nat} {xs cells : List Value} {e cls st : Nat} {K : List Nat} (hi : Inv A) (s : AppSpec A A' off len n es xs cells e cls st K)
    (hb : A.heap.get b = some (.row cells e cls st true)) (h : Rel P φ T A w) (hfr : φ A.next = none) (C' : Array Value) (hes : P.cellsOf e = es)
    (hv : VRels φ ((cells.drop off).take (len * es) ++ xs) (C'.toList.take ((cells.drop off).take (len * es) ++ xs).length)) (hlC : ((cells.drop off).take (len * es) ++ xs).length ≤ C'.size) :
    Post P φ T A A' w (w.alloc (.cells C' e)) (fun x => if x = A.next then some ⟨w.heap.size, 0, C'.size, es, cls, st + off⟩ else φ x) := by
  have hnx : A'.next = A.next + 1 := by
    rcases s.wr.next with ⟨_, h1⟩ | ⟨_, _, _, _, _, h2⟩
    · exact h1
    · have := (hi.lt _ _ h2).1; omega
  have hcl : cls < A.next := (hi.lt _ _ hb).2
  have hext := ext_new (i := ⟨w.heap.size, 0, C'.size, es, cls, st + off⟩) hfr
  have hsz : (w.alloc (.cells C' e)).heap.size = w.heap.size + 1 := by unfold World.alloc; exact Array.size_push ..
  refine ⟨hext, fun x hx => ?_, ⟨fun x j hx => ?_, fun b₁ b₂ i₁ i₂ h₁ h₂ he => ?_, fun x o hx hl hTx => ?_, fun x j hx => by
    have hx' : (if x = A.next then some (⟨w.heap.size, 0, C'.size, es, cls, st + off⟩ : Inf) else φ x) = some j := hx
    split at hx'
    · trivial
    · exact h.al _ _ hx', h.glob.mono hext, fun x j hx hcl => by
    have hx' : (if x = A.next then some (⟨w.heap.size, 0, C'.size, es, cls, st + off⟩ : Inf) else φ x) = some j := hx
    split at hx'
    · injection hx' with hx'; subst hx'; rfl
    · exact h.root _ _ hx' hcl⟩, fun x j hx hlt => ?_, by rw [hsz]; omega, fun k hk _ => heap_push_lt hk, rfl, rfl, rfl⟩
  · show (if x = A.next then _ else _) = _
    rw [if_neg (by omega)]
  · rw [hsz]
    split at hx
    · injection hx with hx; subst hx; show w.heap.size < _; omega
    · have := h.blk _ _ hx; omega
  · split at h₁ <;> split at h₂
    · injection h₁ with h₁; injection h₂ with h₂; subst h₁; subst h₂; exact ⟨rfl, rfl⟩
    · injection h₁ with h₁; subst h₁; have := h.blk _ _ h₂; simp only at he; omega
    · injection h₂ with h₂; subst h₂; have := h.blk _ _ h₁; simp only at he; omega
    · exact h.inj _ _ _ _ h₁ h₂ he
  · rw [s.wr.heap] at hx
    rw [s.fze]
    split at hx
    · rename_i he; subst he
      injection hx with hx; subst hx
      refine ⟨⟨w.heap.size, 0, C'.size, es, cls, st + off⟩, _, if_pos rfl, heap_push_eq, .row _ _ _ _ _ (0, 0) rfl rfl hes.symm (by simp) (by rw [Nat.zero_add]; exact hlC) ?_ (.inl rfl) _ (.inl ⟨rfl, Nat.dvd_zero _⟩)⟩
      show VRels _ _ ((C'.toList.drop 0).take _)
      rw [List.drop_zero]
      exact hv.mono hext
    · rename_i hne
      have hTx' : ∀ o', A.heap.get x = some o' → clsOf x o' = clsOf x o → T (clsOf x o) := by
        intro o' ho' hc
        rcases hTx with ht | ⟨h1, _⟩
        · exact ht
        · have := (hi.lt _ _ ho').2; rw [hc] at this; omega
      have key : ∀ o', A.heap.get x = some o' → live o' = true → clsOf x o' = clsOf x o → o' = o → ∃ i o', (if x = A.next then some (⟨w.heap.size, 0, C'.size, es, cls, st + off⟩ : Inf) else φ x) = some i ∧ (w.alloc (.cells C' e)).heap[i.blk]? = some o' ∧ ORel P (fun x => if x = A.next then some ⟨w.heap.size, 0, C'.size, es, cls, st + off⟩ else φ x) (A.fz.get (clsOf x o)) x i o o' := by
        rintro o' ho' hlo hc rfl
        obtain ⟨j, o2, g1, g2, g3⟩ := h.obj x _ ho' hlo (hTx' _ ho' rfl)
        exact ⟨j, o2, hext _ _ g1, by rw [heap_push_lt (h.blk _ _ g1)]; exact g2, g3.mono hext fun k hk => ⟨k, hk, Nat.le_refl _⟩⟩
      split at hx
      · obtain ⟨y, hy, rfl⟩ := map_dead hx
        cases y with
        | row a1 a2 a3 a4 a5 => cases hl
        | map es' k => exact key _ hy rfl rfl rfl
        | iter ss p => exact key _ hy rfl rfl rfl
      · exact key _ hx hl rfl rfl
  · split at hx
    · injection hx with hx; subst hx; simp only at hlt; omega
    · exact ⟨x, j, hx, rfl, rfl⟩
end Go.EvL

namespace Go.EvL
open Go
theorem undef_rel (φ : Emb) : VRel φ undef undef := .tuple _ _ .nil
inductive DRel (φ : Emb) : Deferred → Deferred → Prop
  | mk (g : FuncId) (cap cap' args args' : Array Value) (hc : VRels φ cap.toList cap'.toList) (ha : VRels φ args.toList args'.toList) : DRel φ ⟨.fn (.func g) cap, args⟩ ⟨.fn (.func g) cap', args'⟩
inductive DRels (φ : Emb) : List Deferred → List Deferred → Prop
  | nil : DRels φ [] []
  | cons (d d' : Deferred) (l l' : List Deferred) (h : DRel φ d d') (hs : DRels φ l l') : DRels φ (d :: l) (d' :: l')
theorem DRel.mono {φ φ' : Emb} (he : Ext φ φ') {d d' : Deferred} (h : DRel φ d d') : DRel φ' d d' := by
  cases h with | mk g cap cap' args args' hc ha => exact .mk g cap cap' args args' (hc.mono he) (ha.mono he)
theorem DRels.mono {φ φ' : Emb} (he : Ext φ φ') {d d' : List Deferred} (h : DRels φ d d') : DRels φ' d d' := by
  induction h with
  | nil => exact .nil
  | cons d d' l l' h _ ih => exact .cons d d' l l' (h.mono he) ih
/-- a frame stands for an activation -/
structure FRel (φ : Emb) (f : Fr) (a : Act) : Prop where
  size : a.tmps.size = f.n
  few : f.n ≤ 1000000
  tmps : ∀ t, VRel φ ((f.tmps.get t).getD undef) (a.tmps.getD t undef)
  defers : DRels φ f.defers a.defers
theorem FRel.mono {φ φ' : Emb} (he : Ext φ φ') {f : Fr} {a : Act} (h : FRel φ f a) : FRel φ' f a := ⟨h.size, h.few, fun t => (h.tmps t).mono he, h.defers.mono he⟩
theorem FRel.eval {φ : Emb} {f : Fr} {a : Act} (h : FRel φ f a) {x : Operand} {v : Value} (hx : f.eval x = some v) : VRel φ v (a.eval x) := by
  cases x with
  | tmp t =>
    have hx' : someV (f.tmps.get t) = some v := hx
    have ht := h.tmps t
    cases hg : f.tmps.get t with
    | none => rw [hg] at hx' ht; injection hx' with hx'; subst hx'; exact ht
    | some u => rw [hg] at hx' ht; injection hx' with hx'; subst hx'; exact ht
  | const u =>
    have hx' : constV u = some v := hx
    unfold constV at hx'
    obtain ⟨hp, he⟩ := boolSome hx'
    injection he with he
    subst he
    exact plain_self φ _ _ hp
  | global g => cases hx
  | func g =>
    have hx' : some (Value.func (.func g) #[] #[]) = some v := hx
    injection hx' with hx'
    subst hx'
    exact .func g _ _ _ _ .nil .nil
theorem FRel.evalG {P : Program} {φ : Emb} {f : Fr} {a : Act} {T : Nat → Prop} {A : AS} {w : World} (h : FRel φ f a) (hr : Rel P φ T A w) {x : Operand} {v : Value} (hx : evalG P f x = some v) : VRel φ v (a.eval x) := by
  unfold Go.EvL.evalG at hx
  split at hx
  · rename_i g
    obtain ⟨h1, h2⟩ := boolSome hx
    injection h2 with h2
    subst h2
    obtain ⟨i, e1, e2, e3⟩ := hr.glob g (Nat.le_of_ble_eq_true h1)
    have := VR.ptr (φ := φ) g 0 i e1
    rw [e2, e3] at this
    exact this
  · exact h.eval hx
inductive NRel (φ : Emb) (w : World) : ANext → Result Next → Prop
  | val (v v' : Value) (h : VRel φ v v') : NRel φ w (.val v) (.ok (.value v') w)
  | skip : NRel φ w (.val undef) (.ok .skip w)
  | enter (g : FuncId) (args args' : Array Value) (h : VRels φ args.toList args'.toList) : NRel φ w (.enter g args) (.ok (.enter g args') w)
  | dfr (d d' : Deferred) (h : DRel φ d d') : NRel φ w (.dfr d) (.ok (.defer d') w)
  | recover : NRel φ w .recover (.ok .recover w)
  | panic (v v' : Value) (h : VRel φ v v') : NRel φ w (.panic v) (.halt (.panic v') w)
def Foot (A A' : AS) (T : Nat → Prop) : Prop := ∀ c, c < A.next → (A'.r.testBit c = true ∨ A'.w.testBit c = true) → T c
def Fresh (A A' : AS) (φ : Emb) : Prop := ∀ b, A.next ≤ b → b < A'.next → φ b = none
/-- an operation of the evaluator stands for the operation of any run -/
structure Sound (P : Program) (f : Fr) (A : AS) (o : Oper) (nx : ANext) (A' : AS) : Prop where
  fr : AFr A A'
  run : ∀ (φ : Emb) (T : Nat → Prop) (w : World) (a : Act), FRel φ f a → Rel P φ T A w → Foot A A' T → Fresh A A' φ →
    ∃ φ' w', Post P φ T A A' w w' φ' ∧ NRel φ' w' nx ((execOp a.eval o).run P w)
theorem sound_same {P : Program} {f : Fr} {A : AS} {o : Oper} {nx : ANext} (hi : Inv A) (h : ∀ (φ : Emb) (w : World) (a : Act), FRel φ f a → NRel φ w nx ((execOp a.eval o).run P w)) : Sound P f A o nx A :=
  ⟨.refl hi, fun φ _ w a hf hr _ _ => ⟨φ, w, .refl hr rfl rfl rfl rfl rfl rfl rfl, h φ w a hf⟩⟩
theorem sound_sameR {P : Program} {f : Fr} {A : AS} {o : Oper} {nx : ANext} (hi : Inv A) (h : ∀ (φ : Emb) (T : Nat → Prop) (w : World) (a : Act), FRel φ f a → Rel P φ T A w → NRel φ w nx ((execOp a.eval o).run P w)) : Sound P f A o nx A :=
  ⟨.refl hi, fun φ T w a hf hr _ _ => ⟨φ, w, .refl hr rfl rfl rfl rfl rfl rfl rfl, h φ T w a hf hr⟩⟩
theorem valR_some {s A' : AS} {x : Option Value} {nx : ANext} (h : valR s x = some (nx, A')) : ∃ v, x = some v ∧ nx = .val v ∧ A' = s := by
  cases x with
  | none => cases h
  | some v => have h' : some (ANext.val v, s) = some (nx, A') := h; injection h' with h'; injection h' with h1 h2; exact ⟨v, rfl, h1.symm, h2.symm⟩
section
variable {P : Program} {f : Fr} {A A' : AS} {nx : ANext} {d : Option Tmp} {ty : TypeId} {pos : String} {af : Array Edge} {gd : Option (Nat × Bool)}
theorem move_sound (hi : Inv A) (x : Operand) (h : evalOp P f ⟨d, .move x, ty, pos, af, gd⟩ A = some (nx, A')) : Sound P f A ⟨d, .move x, ty, pos, af, gd⟩ nx A' := by
  have h' : valR A (f.eval x) = some (nx, A') := h
  obtain ⟨v, hx, rfl, rfl⟩ := valR_some h'
  exact sound_same hi fun φ w a hf => .val _ _ (hf.eval hx)
theorem assign_sound (hi : Inv A) (x : Operand) (h : evalOp P f ⟨d, .assign x, ty, pos, af, gd⟩ A = some (nx, A')) : Sound P f A ⟨d, .assign x, ty, pos, af, gd⟩ nx A' := by
  have h' : valR A (f.eval x) = some (nx, A') := h
  obtain ⟨v, hx, rfl, rfl⟩ := valR_some h'
  exact sound_same hi fun φ w a hf => .val _ _ (hf.eval hx)
theorem pick_sound (hi : Inv A) (c x y : Operand) (h : evalOp P f ⟨d, .pick c x y, ty, pos, af, gd⟩ A = some (nx, A')) : Sound P f A ⟨d, .pick c x y, ty, pos, af, gd⟩ nx A' := by
  have h' : pickA f (f.eval c) x y A = some (nx, A') := h
  unfold pickA at h'
  split at h'
  · rename_i hc
    obtain ⟨v, hx, rfl, rfl⟩ := valR_some h'
    refine sound_same hi fun φ w a hf => ?_
    have hcc := hf.eval hc
    have e : (execOp a.eval ⟨d, .pick c x y, ty, pos, af, gd⟩).run P w = .ok (.value (a.eval x)) w := by
      generalize hq : a.eval c = q at hcc
      cases hcc
      simp only [execOp, hq]
      rfl
    rw [e]
    exact .val _ _ (hf.eval hx)
  · rename_i hc
    obtain ⟨v, hx, rfl, rfl⟩ := valR_some h'
    refine sound_same hi fun φ w a hf => ?_
    have hcc := hf.eval hc
    have e : (execOp a.eval ⟨d, .pick c x y, ty, pos, af, gd⟩).run P w = .ok (.value (a.eval y)) w := by
      generalize hq : a.eval c = q at hcc
      cases hcc
      simp only [execOp, hq]
      rfl
    rw [e]
    exact .val _ _ (hf.eval hx)
  · cases h'
theorem extract_sound (hi : Inv A) (x : Operand) (i : Nat) (h : evalOp P f ⟨d, .extract x i, ty, pos, af, gd⟩ A = some (nx, A')) : Sound P f A ⟨d, .extract x i, ty, pos, af, gd⟩ nx A' := by
  have h' : extractA (f.eval x) i A = some (nx, A') := h
  unfold extractA at h'
  split at h'
  · rename_i vs hc
    obtain ⟨v, hx, rfl, rfl⟩ := valR_some h'
    refine sound_same hi fun φ w a hf => ?_
    have hcc := hf.eval hc
    generalize hq : a.eval x = q at hcc
    cases hcc with
    | tuple _ vs' hv =>
      obtain ⟨v', h1, h2⟩ := VRels.get i hv hx
      have e : (execOp a.eval ⟨d, .extract x i, ty, pos, af, gd⟩).run P w = .ok (.value v') w := by
        simp only [execOp, hq, Instr.extract]
        rw [show vs'[i]? = some v' by simpa using h1]
        rfl
      rw [e]
      exact .val _ _ h2
  · cases h'
theorem pure_sound (hi : Inv A) (o : Oper) (hs : ∀ cs b, o.op ≠ .select cs b) (h : purely P f o A = some (nx, A')) : Sound P f A o nx A' := by
  unfold purely at h
  obtain ⟨hp, h⟩ := boolSome h
  unfold valOfNext at h
  split at h
  · rename_i v hv
    obtain ⟨hpv, h⟩ := boolSome h
    injection h with h
    injection h with h1 h2
    subst h1
    subst h2
    refine sound_same hi fun φ w a hf => ?_
    have hc : execOp a.eval o = execOp (fun x => (f.eval x).getD undef) o := by
      refine execOp_congr o hs fun x hx => ?_
      rw [List.all_eq_true] at hp
      have hpx := hp x (by simpa using hx)
      unfold plainAt at hpx
      split at hpx
      · rename_i u hu
        rw [hu]
        exact plain_eq φ _ _ _ hpx (hf.eval hu)
      · cases hpx
    rw [hc, pureRun_ok P _ hv w]
    exact .val _ _ (plain_self φ _ _ hpv)
  · cases h
end
end Go.EvL
