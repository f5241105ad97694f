/- An evaluator for closed calls, and its soundness. No statement is proved here. -/
import GoSem.Step
import Derived.Control
import Derived.Orders
set_option linter.unusedSimpArgs false
set_option linter.unusedVariables false
set_option linter.defProp false
namespace Go.EvL
open Go
inductive Tr (α:Type) where
 | nil
 | node (v:Option α) (l r:Tr α)
noncomputable def fq {β:Type} (n:Nat) (k:Nat→β):β:=Nat.rec (k 0) (fun m _=>k (Nat.succ m)) n
noncomputable def dO {α β:Type} (t:Tr α) (k:Tr α→β):β:=Tr.rec (motive:=fun _=>β) (k .nil) (fun v l r _ _=>k (.node v l r)) t
noncomputable def jo {α β:Type} (l:List α) (k:List α→β):β:=
 List.rec (motive:=fun _=>(List α→β)→β) (fun k=>k []) (fun a _ ih k=>ih fun l=>k (a :: l)) l k
noncomputable def Tr.get {α:Type} (t:Tr α):Nat→Option α:=
 Tr.rec (motive:=fun _=>Nat→Option α) (fun _=>none) (fun v _ _ gl gr n=>Nat.rec v (fun m _=>Nat.rec (gl (Nat.div m 2)) (fun _ _=>gr (Nat.div m 2)) (Nat.mod m 2)) n) t
noncomputable def zK {α:Type} (a:α) (ih:Tr α→Nat→Tr α) (n:Nat):Tr α:=
 Nat.rec (.node (some a) .nil .nil) (fun m _=>Nat.rec (dO (ih .nil (Nat.div m 2)) fun l=>.node none l .nil) (fun _ _=>dO (ih .nil (Nat.div m 2)) fun r=>.node none .nil r) (Nat.mod m 2)) n
noncomputable def uk {α:Type} (a:α) (ih:Tr α→Nat→Tr α) (n:Nat) (v:Option α) (l r:Tr α):Tr α:=
 Nat.rec (.node (some a) l r) (fun m _=>Nat.rec (dO (ih l (Nat.div m 2)) fun l=>.node v l r) (fun _ _=>dO (ih r (Nat.div m 2)) fun r=>.node v l r) (Nat.mod m 2)) n
noncomputable def Tr.setF {α:Type} (a:α) (f:Nat):Tr α→Nat→Tr α:=
 Nat.rec (motive:=fun _=>Tr α→Nat→Tr α) (fun t _=>t) (fun _ ih t n=>
  Tr.rec (motive:=fun _=>Tr α) (zK a ih n) (fun v l r _ _=>uk a ih n v l r) t) f
noncomputable def Tr.set {α:Type} (a:α) (_:Nat) (t:Tr α) (n:Nat):Tr α:=Tr.setF a (Nat.succ n) t n
noncomputable def uh (l:List UInt8):List UInt8→Bool:=
 List.rec (motive:=fun _=>List UInt8→Bool) (fun r=>List.rec true (fun _ _ _=>false) r)
  (fun a _ ih r=>List.rec false (fun b r' _=>Bool.rec false (ih r') (Nat.beq a.toNat b.toNat)) r) l
noncomputable def yk (a b:Nat):Option Value:=fq (Nat.add a b) fun c=>Bool.rec none (some (.int .i64 (.ofNat c))) (Nat.ble c 9223372036854775807)
noncomputable def zY (a b:Nat):Option Value:=Bool.rec none (fq (Nat.sub a b) fun c=>Bool.rec none (some (.int .i64 (.ofNat c))) (Nat.ble c 9223372036854775807)) (Nat.ble b a)
noncomputable def ri (b:Bool):Option Value:=Bool.rec (some (.bool false)) (some (.bool true)) b
noncomputable def kV (op:BinOp) (a b:Nat):Option Value:=
 match op with
 | .eql=>ri (Nat.beq a b)
 | .neq=>ri (!(Nat.beq a b))
 | .lss=>ri (Nat.ble (Nat.succ a) b)
 | .leq=>ri (Nat.ble a b)
 | .gtr=>ri (Nat.ble (Nat.succ b) a)
 | .geq=>ri (Nat.ble b a)
 | _=>none
noncomputable def yU (op:BinOp) (a b:Nat):Option Value:=
 match op with
 | .add=>yk a b
 | .sub=>zY a b
 | o=>kV o a b
noncomputable def ze (op:BinOp) (a b:ByteArray):Option Value:=
 match op with
 | .eql=>ri (uh a.data.toList b.data.toList)
 | .neq=>ri (!(uh a.data.toList b.data.toList))
 | _=>none
noncomputable def ur (op:BinOp) (k k':IntKind) (a b:Nat):Option Value:=
 match k with
 | .i64=>match k' with | .i64=>yU op a b | _=>none
 | .u8=>match k' with | .u8=>kV op a b | _=>none
 | .i32=>match k' with | .i32=>kV op a b | _=>none
 | _=>none
noncomputable def ui (op:BinOp) (x y:Value):Option Value:=
 match x with
 | .int k (.ofNat a)=>match y with
  | .int k' (.ofNat b)=>ur op k k' a b
  | _=>none
 | .string a=>match y with
  | .string b=>ze op a b
  | _=>none
 | _=>none
inductive fW where
 | row (cells:List Value) (elem cls st:Nat) (ok:Bool)
 | map (es:List MapEntry) (clock:Nat)
 | iter (s:ByteArray) (pos:Nat)
structure AS where
 heap:Tr fW
 next:Nat
 mem:Tr (List Nat)
 fz:Tr Nat
 r:Nat
 w:Nat
structure Fr where
 tmps:Tr Value
 n:Nat
 defers:List Deferred
noncomputable def yQ (v:Value):Bool:=
 match v with
 | .bool _ | .int _ _ | .string _ | .pointer none | .slice none 0 0 | .map none | .nilFunc | .nilIface=>true
 | _=>false
noncomputable def yH (ih:Value→Bool) (v:Value):Bool:=
 match v with
 | .bool _ | .int _ _ | .string _ | .pointer none | .slice none 0 0 | .map none | .nilFunc | .nilIface=>true
 | .func (.func _) first cap=>first.toList.isEmpty && cap.toList.isEmpty
 | .iface _ v=>ih v
 | .agg cs=>cs.toList.all ih
 | .tuple cs=>cs.toList.all ih
 | _=>false
noncomputable def plain (n:Nat):Value→Bool:=Nat.rec (motive:=fun _=>Value→Bool) yQ (fun _ ih v=>yH ih v) n
noncomputable def bx {α:Type} (P:Program) (s:Sem α):Option α:=
 Sem.rec (motive:=fun _=>Option α) (fun a=>some a) (fun _ _ _ _=>none) (fun _ _ _ _ _=>none) (fun _ _ _=>none) (fun _ _ _=>none) (fun _ _ _ _=>none) (fun _ _ _=>none) (fun _ _ _=>none) (fun _ _ _ _=>none) (fun _ _ _=>none) (fun _ _ _=>none) (fun _ ih=>ih P) (fun _ _ ih=>ih) (fun _=>none) s
noncomputable def nj (v:Value):Option Value:=Bool.rec none (some v) (plain 50 v)
noncomputable def JZ (o:Option Value):Option Value:=Option.rec (some undef) (fun v=>some v) o
noncomputable def Fr.eval (f:Fr) (x:Operand):Option Value:=
 Operand.rec (motive:=fun _=>Option Value) (fun t=>JZ (f.tmps.get t)) (fun v=>nj v) (fun _=>none) (fun g=>some (.func (.func g) #[] #[])) x
noncomputable def evalG (P:Program) (f:Fr) (x:Operand):Option Value:=match x with
 | .global g=>Bool.rec none (some (.pointer (some ⟨g,0,none⟩))) (Nat.ble (Nat.succ g) P.globals.size)
 | x=>f.eval x
inductive dX where
 | val (v:Value) | enter (f:FuncId) (args:Array Value) | dfr (d:Deferred) | recover | panic (v:Value)
inductive j4 where
 | ret (v:Value) | panic (v:Value)
inductive eZ where
 | normal | exit (id:Nat) | goto (l:Nat) | ret | panic (v:Value)
noncomputable def cE (s:AS) (c:Nat):AS:=AS.rec (fun h n m z r w=>fq (Nat.lor r (Nat.shiftLeft 1 c)) fun r=>⟨h,n,m,z,r,w⟩) s
noncomputable def wS (s:AS) (c:Nat):AS:=AS.rec (fun h n m z r w=>fq (Nat.lor w (Nat.shiftLeft 1 c)) fun w=>⟨h,n,m,z,r,w⟩) s
noncomputable def AS.put (s:AS) (b:Nat) (o:fW):AS:=AS.rec (fun h n m z r w=>dO (Tr.set o 40 h b) fun h=>⟨h,n,m,z,r,w⟩) s
noncomputable def AS.new (s:AS) (o:Nat→fW):AS:=AS.rec (fun h n m z r w=>dO (Tr.set (o n) 40 h n) fun h=>fq (Nat.lor w (Nat.shiftLeft 1 n)) fun w=>fq (Nat.add n 1) fun n=>⟨h,n,m,z,r,w⟩) s
noncomputable def newRow (s:AS) (cells:List Value) (elem:Nat):AS:=jo cells fun cells=>s.new fun b=>.row cells elem b 0 true
noncomputable def MY (s:AS) (cells:List Value) (off n cls:Nat):Option (List Value × AS):=
 jo ((cells.drop off).take n) fun xs=>Bool.rec none (some (xs,cE s cls)) (Nat.beq xs.length n)
noncomputable def ld (s:AS) (b off n:Nat):Option (List Value × AS):=
 match s.heap.get b with
 | some (.row cells _ cls _ true)=>MY s cells off n cls
 | _=>none
noncomputable def kU (s:AS) (b:Nat):AS:=
 match s.heap.get b with
 | some (.row cells e c st _)=>s.put b (.row cells e c st false)
 | _=>s
noncomputable def kill (s:AS) (l:List Nat):AS:=List.rec (motive:=fun _=>AS→AS) (fun s=>s) (fun b _ ih s=>ih (kU s b)) l s
noncomputable def dm (s:AS) (c:Nat):List Nat:=(s.mem.get c).getD [c]
noncomputable def vw (s:AS) (c:Nat) (l:List Nat):AS:=AS.rec (fun h n m z r w=>dO (Tr.set l 40 m c) fun m=>⟨h,n,m,z,r,w⟩) s
noncomputable def mX (s:AS) (b cls:Nat):AS:=
 match s.mem.get cls with
 | none=>s
 | some l=>vw (kill s (l.filter fun m=>!(Nat.beq m b))) cls [b]
noncomputable def nE (v:Value):Bool:=match v with
 | .agg _ | .tuple _=>false
 | _=>true
noncomputable def wJ (s:AS) (cls k:Nat):Bool:=
 match s.fz.get cls with
 | none=>true
 | some h=>Nat.ble h k
noncomputable def FI (s:AS) (b off:Nat) (vs cells:List Value) (e cls st:Nat):Option AS:=
 Bool.rec none (jo (cells.take off ++ (vs ++ cells.drop (Nat.add off vs.length))) fun cs=>some (wS ((mX s b cls).put b (.row cs e cls st true)) cls))
  (Nat.ble (Nat.add off vs.length) cells.length && (wJ s cls (Nat.add st off) && vs.all nE))
noncomputable def FQ (s:AS) (b off:Nat) (vs:List Value):Option AS:=
 match s.heap.get b with
 | some (.row cells e cls st true)=>FI s b off vs cells e cls st
 | _=>none
noncomputable def jl:Option TypeDesc→Bool
 | some (.struct _) | some (.array _ _)=>true
 | _=>false
noncomputable def dM (P:Program) (t:TypeId):Option Nat:=(P.info? t).map (·.size)
noncomputable def jg:Value→Option Nat
 | .int _ (.ofNat n)=>some n
 | _=>none
abbrev iG:=Option (dX × AS)
noncomputable def ou (s:AS) (o:Option Value):iG:=Option.rec none (fun v=>some (.val v,s)) o
noncomputable def fP (s:AS) (en m:Nat):Bool:=
 match s.heap.get m with
 | some (.row c _ _ st' _)=>Nat.ble (Nat.succ en) (Nat.add st' c.length)
 | _=>true
noncomputable def pm (s:AS) (cells:List Value) (e cls st:Nat) (ms:List Nat) (n:Nat):iG:=
 AS.rec (fun h b m z r w=>jo cells fun cells=>dO (Tr.set (.row cells e cls st true) 40 h b) fun h=>dO (Tr.set (b :: ms) 40 m cls) fun m=>fq (Nat.add b 1) fun b'=>
  some (.val (.slice (some ⟨b,0,none⟩) n n),wS (cE ⟨h,b',m,z,r,w⟩ cls) cls)) s
noncomputable def uE (s:AS) (off len n es e cls st:Nat) (cells xs:List Value):iG:=
 jo ((cells.drop off).take (Nat.mul len es)) fun old=>
 fq (Nat.add (Nat.add st off) (Nat.mul len es)) fun en=>
 Bool.rec none
  (jo ((dm s cls).filter (fP s en)) fun long=>
   pm (kill s long) (old ++ xs) e cls (Nat.add st off) ((dm s cls).filter fun m=>!(fP s en m)) (Nat.add len n))
  (Nat.beq old.length (Nat.mul len es) && (wJ s cls en && (Nat.beq (Nat.mod off es) 0 && xs.all nE)))
noncomputable def Nr (s:AS) (off len n es e cls:Nat) (cells xs:List Value):iG:=
 jo ((cells.drop off).take (Nat.mul len es)) fun old=>
 Bool.rec none (some (.val (.slice (some ⟨s.next,0,none⟩) (Nat.add len n) (Nat.add len n)),newRow (cE s cls) (old ++ xs) e)) (Nat.beq old.length (Nat.mul len es))
noncomputable def qX (e:TypeId) (s:AS) (base:Option Addr) (len n es:Nat) (xs:List Value):iG:=
 match base with
 | none=>Bool.rec none (some (.val (.slice (some ⟨s.next,0,none⟩) n n),newRow s xs e)) (Nat.beq len 0)
 | some ⟨b,off,none⟩=>match s.heap.get b with
  | some (.row cells e' cls st true)=>Bool.rec none (uE s off len n es e cls st cells xs) (Nat.beq e' e)
  | _=>none
 | some ⟨b,off,some 0⟩=>match s.heap.get b with
  | some (.row cells _ cls _ true)=>Nr s off len n es e cls cells xs
  | _=>none
 | _=>none
noncomputable def xd (i:TypeInfo) (es len n:Nat) (xs:List Value):Bool:=
 match i.zero with
 | some z=>!(Nat.beq es 0) && (Nat.beq xs.length (Nat.mul n es) && (Nat.ble (Nat.mul (Nat.add len n) i.bytes) 140737488355328 && (Nat.beq z.cells.size es && (Nat.ble (Nat.add len n) 1073741824 && xs.all nE))))
 | none=>false
noncomputable def jq (P:Program) (e:TypeId) (s:AS) (v:Value) (xs:List Value) (n:Nat):iG:=
 match v with
 | .slice base len _=>match P.info? e with
  | some i=>Nat.rec (some (.val v,s)) (fun _ _=>Bool.rec none (qX e s base len n i.size xs) (xd i i.size len n xs)) n
  | none=>none
 | _=>none
noncomputable def gC (P:Program) (e:TypeId) (t:Option TypeDesc) (s:AS) (x:Value):Option (List Value × Nat × AS):=
 match x,t with
 | .string b,some .string=>match dM P e with
  | some 1=>some (b.data.toList.map (fun c=>.int .u8 (.ofNat c.toNat)),b.size,s)
  | _=>none
 | .slice none 0 _,some (.slice _)=>some ([],0,s)
 | .slice (some ⟨b,off,none⟩) n _,some (.slice _)=>match dM P e with
  | some es=>Nat.rec (some ([],0,s)) (fun _ _=>(ld s b off (Nat.mul n es)).map fun (xs,s)=>(xs,n,s)) n
  | none=>none
 | _,_=>none
noncomputable def kR (f:Fr) (x:Operand):Bool:=match f.eval x with | some v=>plain 50 v | none=>false
noncomputable def jZ (s:AS) (n:Option Next):iG:=
 match n with
 | some (.value v)=>Bool.rec none (some (.val v,s)) (plain 50 v)
 | _=>none
noncomputable def fG (P:Program) (f:Fr) (o:Oper) (s:AS):iG:=
 Bool.rec none (jZ s (bx P (execOp (fun x=>(f.eval x).getD undef) o))) (o.op.operands.toList.all (kR f))
noncomputable def j8 (P:Program) (t:TypeId):Option (Array Field):=match P.underlying t with
 | some (.struct fs)=>some fs
 | _=>none
noncomputable def xi (P:Program) (t:TypeId) (cs:List Value) (off:Nat):Option Value:=
 match P.underlying t with
 | some d=>Bool.rec cs[off]? ((dM P t).map fun n=>.agg ((cs.drop off).take n).toArray) (jl (some d))
 | none=>none
noncomputable def v8 (P:Program) (f:FuncId) (args:List Value) (s:AS):iG:=
 match P.funcs[f]? with
 | none=>none
 | some fn=>match fn.body with
  | some _=>some (.enter f args.toArray,s)
  | none=>Bool.rec
   (Bool.rec none (jZ s (bx P (callFunc f args.toArray))) (args.all (plain 50)))
   (match args with | [v]=>some (.val v,s) | _=>none) (fn.name == "internal/abi.NoEscape")
noncomputable def BH (d:TypeDesc) (k:Value):Bool:=match d,k with
 | .int _,.int _ _=>true
 | .string,.string _=>true
 | .bool,.bool _=>true
 | _,_=>false
noncomputable def EK (P:Program) (kt:TypeId) (k:Value) (es:List MapEntry):Option (Option (Nat × Value)):=
 match P.underlying kt with
 | some d=>Bool.rec none (Instr.findNow d k es 0) (BH d k)
 | none=>none
noncomputable def gE (P:Program) (t:TypeId):Option Value:=match (P.info? t).bind (·.zero) with
 | some z=>nj z
 | none=>none
noncomputable def qW (f:Fr) (l:List Operand):Option (List Value):=
 List.rec (motive:=fun _=>Option (List Value)) (some []) (fun x _ ih=>match f.eval x with
  | some v=>match ih with | some vs=>some (v :: vs) | none=>none
  | none=>none) l
noncomputable def jT (f:Fr) (l:List (Nat × Operand)):Option (List (Nat × Value)):=
 List.rec (motive:=fun _=>Option (List (Nat × Value))) (some []) (fun x _ ih=>match f.eval x.2 with
  | some v=>match ih with | some vs=>some ((x.1,v) :: vs) | none=>none
  | none=>none) l
noncomputable def tM (s:AS) (e:TypeId) (v:Option Value):iG:=match v with
 | some v=>some (.val (.pointer (some ⟨s.next,0,none⟩)),newRow s v.cells.toList e)
 | none=>none
noncomputable def mY (P:Program) (f:Fr) (t:TypeId) (parts:Array (Nat × Operand)) (s:AS):iG:=
 match gE P t,P.underlying t,jT f parts.toList with
 | some z,some (.struct fs),some ps=>Bool.rec none ((Instr.fill (fun i=>(fs[i]?).bind fun fl=>(dM P fl.type).map fun n=>(fl.offset,n)) z.cells ps).map fun cs=>(.val (.agg cs),s)) (Nat.ble (Nat.succ t) P.types.size)
 | some z,some (.array _ e),some ps=>(dM P e).bind fun n=>(Instr.fill (fun i=>some (i * n,n)) z.cells ps).map fun cs=>(.val (.agg cs),s)
 | _,_,_=>none
noncomputable def fH (P:Program) (f:Fr) (t:TypeId) (len:Nat) (parts:Array (Nat × Operand)) (s:AS):iG:=
 match P.underlying t with
 | some (.slice e)=>match gE P e,dM P e,jT f parts.toList with
  | some z,some n,some ps=>if Nat.ble (Nat.mul len n) 1048576 && Nat.beq z.cells.toList.length n then
    (Instr.fill (fun i=>some (i * n,n)) (List.replicate len z.cells.toList).flatten.toArray ps).map fun cs=>(.val (.slice (some ⟨s.next,0,none⟩) len len),newRow s cs.toList e) else none
  | _,_,_=>none
 | _=>none
noncomputable def uC (r:Option (List Value × AS)):iG:=match r with
 | some ([v],s)=>some (.val v,s)
 | _=>none
noncomputable def uu (r:Option (List Value × AS)):iG:=match r with
 | some (xs,s)=>some (.val (.agg xs.toArray),s)
 | _=>none
noncomputable def mn (P:Program) (t:TypeId) (d:TypeDesc) (b off:Nat) (s:AS):iG:=
 Bool.rec (uC (ld s b off 1)) (match dM P t with | some n=>uu (ld s b off n) | none=>none) (jl (some d))
noncomputable def nC (P:Program) (t:TypeId) (a:Option Value) (s:AS):iG:=
 match a with
 | some (.pointer (some ⟨b,off,none⟩))=>match P.underlying t with
  | some d=>mn P t d b off s
  | none=>none
 | _=>none
noncomputable def DT (o:Option AS):iG:=match o with | some s=>some (.val undef,s) | none=>none
noncomputable def nP (P:Program) (t:TypeId) (a x:Option Value) (s:AS):iG:=
 match a with
 | some (.pointer (some ⟨b,off,none⟩))=>match x with
  | some v=>match dM P t with
   | some n=>Bool.rec none (DT (FQ s b off v.cells.toList)) (Nat.beq v.cells.size n)
   | none=>none
  | none=>none
 | _=>none
noncomputable def jY (P:Program) (f:Fr) (o:Oper) (x:Option Value) (s:AS):iG:=
 match x with
 | some (.pointer (some a))=>some (.val (.pointer (some a)),s)
 | some (.func (.func g) x y)=>some (.val (.func (.func g) x y),s)
 | _=>fG P f o s
noncomputable def vG (P:Program) (t:TypeId) (x:Option Value) (s:AS):iG:=
 match x with
 | some v=>match P.underlying t with
  | some (.interface _)=>none
  | some _=>some (.val (.iface t v),s)
  | none=>none
 | none=>none
noncomputable def uB (f:Fr) (fn:Fn) (first cap:Array Operand) (s:AS):iG:=
 match fn with
 | .func g=>match qW f first.toList with
  | some a=>match qW f cap.toList with
   | some b=>some (.val (.func (.func g) a.toArray b.toArray),s)
   | none=>none
  | none=>none
 | _=>none
noncomputable def iE (f:Fr) (x:Option Operand) (d:Nat):Option Nat:=match x with
 | none=>some d
 | some l=>match f.eval l with | some v=>jg v | none=>none
noncomputable def mC (b off l h m cap n:Nat) (s:AS):iG:=
 Bool.rec none (some (.val (.slice (some ⟨b,Nat.add off (Nat.mul l n),none⟩) (Nat.sub h l) (Nat.sub m l)),s)) (Nat.ble l h && (Nat.ble h m && Nat.ble m cap))
noncomputable def te (P:Program) (s:AS) (b n:Nat):Option Nat:=
 match s.heap.get b with
 | some (.row _ e c _ true)=>match dM P e with
  | some m=>Bool.rec none (some c) (Nat.beq m n)
  | none=>none
 | _=>none
noncomputable def sliceAt (P:Program) (b off l h m cap n:Nat) (s:AS):iG:=match te P s b n with
 | some c=>mC b off l h m cap n (cE s c)
 | none=>none
noncomputable def sliceX (b off l h m cap n:Nat) (s:AS):iG:=
 Bool.rec none (some (.val (.slice (some ⟨b,Nat.add off (Nat.mul l n),some 0⟩) (Nat.sub h l) (Nat.sub h l)),s)) (Nat.ble l h && (Nat.beq h m && Nat.ble m cap))
noncomputable def kj (P:Program) (b off l h m cap n:Nat) (s:AS):iG:=match te P s b n with
 | some c=>Bool.rec (mC b off l h m cap n (cE s c)) (sliceX b off l h m cap n (cE s c)) (Nat.beq h m)
 | none=>none
noncomputable def qZ (b:ByteArray) (l h:Nat) (s:AS):iG:=
 Bool.rec none (jo ((b.data.toList.drop l).take (Nat.sub h l)) fun xs=>some (.val (.string ⟨⟨xs⟩⟩),s)) (Nat.ble l h && Nat.ble h b.data.toList.length)
noncomputable def fy (P:Program) (f:Fr) (o:Oper) (t:TypeId) (x:Option Value) (lo hi mx:Option Operand) (s:AS):iG:=
 match x with
 | some (.slice (some ⟨b,off,none⟩) len cap)=>match P.underlying t with
  | some (.slice e)=>match iE f lo 0,iE f hi len,iE f mx cap,dM P e with
   | some l,some h,some m,some n=>Option.rec (sliceAt P b off l h m cap n s) (fun _=>kj P b off l h m cap n s) mx
   | _,_,_,_=>none
  | _=>none
 | some (.slice none 0 0)=>match P.underlying t,iE f lo 0,iE f hi 0,iE f mx 0 with
  | some (.slice e),some 0,some 0,some 0=>match dM P e with
   | some _=>some (.val (.slice none 0 0),s)
   | none=>none
  | _,_,_,_=>fG P f o s
 | some (.string b)=>match P.underlying t with
  | some .string=>match iE f lo 0,iE f hi b.data.toList.length,mx with
   | some l,some h,none=>qZ b l h s
   | _,_,_=>none
  | _=>none
 | _=>fG P f o s
noncomputable def iC (P:Program) (t:TypeId) (x:Option Value) (i:Nat) (s:AS):iG:=
 match x with
 | some (.pointer (some ⟨b,off,none⟩))=>match j8 P t with
  | some fs=>match fs[i]? with
   | some fl=>match dM P fl.type with
    | some (_ + 1)=>some (.val (.pointer (some ⟨b,Nat.add off fl.offset,none⟩)),s)
    | _=>none
   | none=>none
  | none=>none
 | _=>none
noncomputable def q9 (P:Program) (t:TypeId) (x:Option Value) (i:Nat) (s:AS):iG:=
 match x with
 | some (.agg cs)=>match j8 P t with
  | some fs=>match fs[i]? with
   | some fl=>ou s (xi P fl.type cs.toList fl.offset)
   | none=>none
  | none=>none
 | _=>none
noncomputable def qq (P:Program) (b off len i:Nat) (e:TypeId) (s:AS):iG:=
 match dM P e with
 | some n=>Bool.rec none (some (.val (.pointer (some ⟨b,Nat.add off (Nat.mul i n),none⟩)),s)) (Nat.ble (Nat.succ i) len)
 | none=>none
noncomputable def fL (P:Program) (t:TypeId) (x ix:Option Value) (s:AS):iG:=
 match x,P.underlying t,ix.bind jg with
 | some (.slice (some ⟨b,off,none⟩) len _),some (.slice e),some i=>qq P b off len i e s
 | some (.slice (some ⟨b,off,some 0⟩) len _),some (.slice e),some i=>qq P b off len i e s
 | some (.pointer (some ⟨b,off,none⟩)),some (.array len e),some i=>qq P b off len i e s
 | _,_,_=>none
noncomputable def Ew (s:AS) (o:Option UInt8):iG:=match o with
 | some c=>fq c.toNat fun n=>some (.val (.int .u8 (.ofNat n)),s)
 | none=>none
noncomputable def qT (P:Program) (f:Fr) (o:Oper) (t:TypeId) (x ix:Option Value) (s:AS):iG:=
 match x with
 | some (.string b)=>match P.underlying t with
  | some .string=>match ix.bind jg with
   | some i=>Ew s b.data.toList[i]?
   | none=>none
  | _=>none
 | _=>fG P f o s
noncomputable def lN (x:Option Value) (i:Nat) (s:AS):iG:=match x with
 | some (.tuple vs)=>ou s vs.toList[i]?
 | _=>none
noncomputable def okV (ok:Bool) (v:Value) (b:Bool):Value:=Bool.rec v (.tuple #[v,.bool b]) ok
noncomputable def rT (P:Program) (t:TypeId) (x k:Option Value) (ok:Bool) (s:AS):iG:=
 match P.underlying t,x,k with
 | some (.map kt et),some (.map (some b)),some kv=>match s.heap.get b with
  | some (.map es _)=>if plain 50 kv then match EK P kt kv es with
    | some (some (_,v))=>some (.val (okV ok v true),cE s b)
    | some none=>match gE P et with
     | some z=>some (.val (okV ok z false),cE s b)
     | none=>none
    | none=>none
   else none
  | _=>none
 | _,_,_=>none
noncomputable def kw (P:Program) (t:TypeId) (m k x:Option Value) (s:AS):iG:=
 match P.underlying t,m,k,x with
 | some (.map kt _),some (.map (some b)),some kv,some v=>match s.heap.get b with
  | some (.map es clock)=>if plain 50 kv then match EK P kt kv es with
    | some none=>some (.val undef,wS (cE (s.put b (.map (es ++ [{ key:=kv,val:=v,born:=clock }]) (clock + 1))) b) b)
    | _=>none
   else none
  | _=>none
 | _,_,_,_=>none
noncomputable def uA (P:Program) (t:TypeId) (x:Option Value) (s:AS):iG:=
 match P.underlying t,x with
 | some .string,some (.string b)=>some (.val (.pointer (some ⟨s.next,0,none⟩)),s.new fun _=>.iter b 0)
 | _,_=>none
noncomputable def DK (b:Nat) (st:ByteArray) (pos:Nat) (s:AS):iG:=
 Bool.rec (some (.val (.tuple #[.bool false]),cE s b))
  (some (.val (.tuple #[.bool true,.int .i64 (.ofNat pos),.int .i32 (Utf8.decode st pos).1]),wS (cE (s.put b (.iter st (Nat.add pos (Utf8.decode st pos).2))) b) b)) (Nat.ble (Nat.succ pos) st.size)
noncomputable def Be (it:Option Value) (isS:Bool) (s:AS):iG:=
 match it,isS with
 | some (.pointer (some ⟨b,0,none⟩)),true=>match s.heap.get b with
  | some (.iter st pos)=>DK b st pos s
  | _=>none
 | _,_=>none
noncomputable def AO (op:BinOp) (b:Bool) (s:AS):iG:=match op with
 | .eql=>some (.val (.bool b),s)
 | .neq=>some (.val (.bool (!b)),s)
 | _=>none
noncomputable def yz (P:Program) (op:BinOp) (e:TypeId) (a b:Addr) (s:AS):iG:=match dM P e with
 | some (_ + 1)=>Bool.rec none (AO op (Nat.beq a.off b.off) s) (Nat.beq a.block b.block)
 | _=>none
noncomputable def zB (P:Program) (f:Fr) (o:Oper) (op:BinOp) (t:TypeId) (x y:Value) (s:AS):iG:=
 match x,y,P.underlying t with
 | .pointer (some _),.pointer none,some (.pointer _)=>AO op false s
 | .iface _ _,.nilIface,some (.interface _)=>AO op false s
 | .slice (some _) _ _,.slice none _ _,some (.slice _)=>AO op false s
 | .pointer (some ⟨a,i,none⟩),.pointer (some ⟨b,j,none⟩),some (.pointer e)=>yz P op e ⟨a,i,none⟩ ⟨b,j,none⟩ s
 | _,_,_=>fG P f o s
noncomputable def GU (P:Program) (f:Fr) (o:Oper) (op:BinOp) (t:TypeId) (x y:Option Value) (s:AS):iG:=
 match x with
 | some a=>match y with
  | some b=>match ui op a b with
   | some v=>some (.val v,s)
   | none=>zB P f o op t a b s
  | none=>none
 | none=>none
noncomputable def xx (P:Program) (f:Fr) (o:Oper) (_ dst:TypeId) (x:Option Value) (s:AS):iG:=
 match x with
 | some (.slice _ _ _)=>none
 | some (.pointer _)=>none
 | some (.string _)=>match P.underlying dst with
  | some (.slice _)=>none
  | _=>fG P f o s
 | _=>fG P f o s
noncomputable def yO (b:Nat) (s:AS):iG:=match s.heap.get b with
 | some (.map es _)=>fq es.length fun n=>some (.val (.int .i64 (.ofNat n)),cE s b)
 | _=>none
noncomputable def CX (P:Program) (f:Fr) (o:Oper) (t:Option TypeDesc) (x:Option Value) (s:AS):iG:=match t,x with
 | some (.slice _),some (.slice _ n _)=>some (.val (.int .i64 (.ofNat n)),s)
 | some .string,some (.string b)=>fq b.data.toList.length fun n=>some (.val (.int .i64 (.ofNat n)),s)
 | some (.map _ _),some (.map (some b))=>yO b s
 | _,_=>fG P f o s
noncomputable def FP (P:Program) (t0 t1:Option TypeDesc) (v x:Option Value) (s:AS):iG:=
 match t0,v,x with
 | some (.slice e),some v,some x=>match gC P e t1 s x with
  | some (xs,n,s)=>jq P e s v xs n
  | none=>none
 | _,_,_=>none
noncomputable def QH (base:Option Addr) (m:Nat) (xs:List Value) (s:AS):iG:=
 Nat.rec (some (.val (.int .i64 (.ofNat 0)),s)) (fun k _=>match base with
  | some ⟨b,off,none⟩=>match FQ s b off xs with
   | some s=>some (.val (.int .i64 (.ofNat (Nat.add k 1))),s)
   | none=>none
  | _=>none) m
noncomputable def tu (P:Program) (t0 t1:Option TypeDesc) (v x:Option Value) (s:AS):iG:=
 match t0,v,x with
 | some (.slice e),some (.slice base len _),some x=>match gC P e t1 s x,P.info? e with
  | some (xs,m,s),some i=>Bool.rec none (QH base m xs s) (Nat.ble m len && (Nat.beq xs.length (Nat.mul m i.size) && xs.all nE))
  | _,_=>none
 | _,_,_=>none
noncomputable def lT (P:Program) (f:Fr) (o:Oper) (b:Builtin) (args:List Operand) (tys:List TypeId) (s:AS):iG:=
 match b with
 | .len=>CX P f o ((tys[0]?).bind P.underlying) ((args[0]?).bind f.eval) s
 | .append=>match args,tys with
  | [x,y],[t,u]=>FP P (P.underlying t) (P.underlying u) (f.eval x) (f.eval y) s
  | _,_=>none
 | .copy=>match args,tys with
  | [x,y],[t,u]=>tu P (P.underlying t) (P.underlying u) (f.eval x) (f.eval y) s
  | _,_=>none
 | .recover=>some (.recover,s)
 | .unsafeSliceData=>none
 | .unsafeString=>none
 | _=>fG P f o s
noncomputable def Ax (P:Program) (f:Option Value) (as:Option (List Value)) (s:AS):iG:=
 match f,as with
 | some (.func (.func g) first cap),some as=>v8 P g (first.toList ++ (as ++ cap.toList)) s
 | _,_=>none
noncomputable def um (P:Program) (f:Fr) (o:Oper) (c:Call) (s:AS):iG:=
 match c.callee with
 | .value x=>Ax P (f.eval x) (qW f c.args.toList) s
 | .builtin b=>lT P f o b c.args.toList c.argTypes.toList s
 | .invoke ..=>none
noncomputable def ux (f:Fr) (c:Option Value) (a b:Operand) (s:AS):iG:=match c with
 | some (.bool true)=>ou s (f.eval a)
 | some (.bool false)=>ou s (f.eval b)
 | _=>none
noncomputable def qm (mx hi:Option Operand) (r:iG):iG:=match mx,hi with
 | some _,none=>none
 | _,_=>r
noncomputable def mO (z:List Value) (m n:Nat):List Value:=(List.range n).map fun k=>z.getD (Nat.mod k m) undef
noncomputable def zz (e:TypeId) (l c:Nat) (i:TypeInfo) (z:Value) (s:AS):iG:=
 Bool.rec none (some (.val (.slice (some ⟨s.next,0,none⟩) l c),newRow s (mO z.cells.toList i.size (Nat.mul c i.size)) e))
  (Nat.ble l c && (Nat.ble (Nat.mul i.bytes c) 281474976710656 && (Nat.ble c 1073741824 && (plain 50 z && Nat.beq z.cells.toList.length i.size))))
noncomputable def wg (P:Program) (t:TypeId) (l c:Option Value) (s:AS):iG:=match P.underlying t,l.bind jg,c.bind jg with
 | some (.slice e),some l,some c=>match P.info? e with
  | some i=>match i.zero with
   | some z=>zz e l c i z s
   | none=>none
  | none=>none
 | _,_,_=>none
noncomputable def bQ (P:Program) (f:Fr) (o:Oper) (s:AS):iG:=
 Op.rec (motive:=fun _=>iG)
  (fun x=>ou s (f.eval x)) (fun x=>ou s (f.eval x)) (fun c a b=>ux f (f.eval c) a b s)
  (fun e=>tM s e (gE P e)) (fun e x=>tM s e (f.eval x)) (fun t ps=>mY P f t ps s) (fun t n ps=>fH P f t n ps s) (fun _ _ _ _=>none)
  (fun t a=>nC P t (evalG P f a) s) (fun t a x=>nP P t (f.eval a) (f.eval x) s) (fun _=>none) (fun _=>none) (fun x=>jY P f o (f.eval x) s)
  (fun op t x y _=>GU P f o op t (f.eval x) (f.eval y) s) (fun _ _ _=>fG P f o s) (fun a b x=>xx P f o a b (f.eval x) s) (fun _ _=>none) (fun t x=>vG P t (f.eval x) s)
  (fun fn a b=>uB f fn a b s) (fun _ r=>match r with | none=>some (.val (.map (some s.next)),s.new fun _=>.map [] 0) | some _=>none) (fun _ _=>none) (fun t l c=>wg P t (f.eval l) (f.eval c) s)
  (fun t x lo hi mx=>qm mx hi (fy P f o t (f.eval x) lo hi mx s)) (fun t x i=>iC P t (evalG P f x) i s) (fun t x i=>q9 P t (f.eval x) i s) (fun t x i=>fL P t (evalG P f x) (f.eval i) s) (fun t x i=>qT P f o t (f.eval x) (f.eval i) s)
  (fun t x k ok=>rT P t (f.eval x) (f.eval k) ok s) (fun t m k x=>kw P t (f.eval m) (f.eval k) (f.eval x) s) (fun _ _ _=>none) (fun _ _ _ _=>none)
  (fun t x=>uA P t (f.eval x) s) (fun it b=>Be (f.eval it) b s) (fun _=>none) (fun _ _ _ _=>none) (fun t i=>lN (f.eval t) i s)
  (fun c=>um P f o c s) (fun _=>none) (fun _=>none) (fun _=>none) (fun _ _=>none) (fun _ _ _=>none) (fun _ _=>none) o.op
noncomputable def Fr.put (f:Fr) (d:Option Tmp) (v:Value):Option Fr:=
 Option.rec (some f) (fun d=>Fr.rec (fun t n ds=>Bool.rec none (dO (Tr.set v 40 t d) fun t=>some ⟨t,n,ds⟩) (Nat.ble (Nat.succ d) n)) f) d
noncomputable def Fo (v:Value) (want:Bool):Option Bool:=match v with
 | .bool b=>some (b == want)
 | .tuple _=>some false
 | _=>none
noncomputable def vB (ops:List Oper) (f:Fr) (j:Nat) (want:Bool):Option Bool:=
 match (ops[j]?).bind (·.dst) with
 | some d=>Fo ((f.tmps.get d).getD undef) want
 | none=>none
noncomputable def jO (ops:List Oper) (f:Fr) (g:Option (Nat × Bool)):Option Bool:=
 Option.rec (some true) (fun p=>vB ops f p.1 p.2) g
inductive St where
 | on (f:Fr) (s:AS)
 | up (v:Value) (f:Fr) (s:AS)
 | no
abbrev dZ:=FuncId→Array Value→AS→Option (j4 × AS)
noncomputable def kZ (f:Option Fr) (s:AS):St:=Option.rec .no (fun f=>.on f s) f
noncomputable def lO (f:Fr) (d:Option Tmp) (r:Option (j4 × AS)):St:=match r with
 | none=>.no
 | some (.ret v,s)=>kZ (f.put d v) s
 | some (.panic v,s)=>.up v f s
noncomputable def zA (call:dZ) (f:Fr) (d:Option Tmp) (r:iG):St:=match r with
 | none=>.no
 | some (.val v,s)=>kZ (f.put d v) s
 | some (.enter g args,s)=>lO f d (call g args s)
 | some (.dfr x,s)=>kZ ((f.put d undef).map fun f=>{ f with defers:=x :: f.defers }) s
 | some (.recover,_)=>.no
 | some (.panic v,s)=>.up v f s
noncomputable def io (P:Program) (call:dZ) (ops:List Oper) (f:Fr) (o:Oper) (s:AS):St:=
 match jO ops f o.guard with
 | some true=>zA call f o.dst (bQ P f o s)
 | some false=>kZ (f.put o.dst undef) s
 | none=>.no
noncomputable def OW (r:St) (k:Fr→AS→St):St:=St.rec (motive:=fun _=>St) (fun f s=>k f s) (fun v f s=>.up v f s) .no r
noncomputable def kA (P:Program) (call:dZ) (ops:List Oper) (l:List Oper):Fr→AS→St:=
 List.rec (motive:=fun _=>Fr→AS→St) (fun f s=>.on f s) (fun o _ ih f s=>OW (io P call ops f o s) ih) l
noncomputable def cU (s:AS):AS:=AS.rec (fun h n m z _ _=>⟨h,n,m,z,0,0⟩) s
noncomputable def j6 (s s':AS):AS:=AS.rec (fun h n m z r w=>fq (Nat.lor r s.r) fun r=>fq (Nat.lor w s.w) fun w=>⟨h,n,m,z,r,w⟩) s'
noncomputable def mP (t:Tr Value) (l:List Tmp):Tr Value:=
 List.rec (motive:=fun _=>Tr Value) .nil (fun x _ ih=>Option.rec ih (fun v=>dO ih fun ih=>Tr.set v 40 ih x) (t.get x)) l
noncomputable def hZ (l:List Tmp) (f:Fr):Fr:=Fr.rec (fun t n _=>dO (mP t l) fun t=>⟨t,n,[]⟩) f
noncomputable def bP (l:List Tmp):Nat:=List.rec (motive:=fun _=>Nat) 0 (fun x _ ih=>Nat.lor ih (Nat.shiftLeft 1 x)) l
noncomputable def j7 (bs:Tr Nat) (l:List Edge):Nat:=
 List.rec (motive:=fun _=>Nat) 0 (fun e _ ih=>Bool.rec ih (Nat.lor ih (Nat.lor (Nat.shiftLeft 1 e.on) ((bs.get e.on).getD 0))) (Region.binds .any e)) l
noncomputable def lE (j:Nat) (l:List Edge):Bool:=l.all fun e=>!(Region.binds .any e) || Nat.ble (Nat.succ e.on) j
noncomputable def uz (r w r' w':Nat):Bool:=Nat.beq (Nat.land w (Nat.lor r' w')) 0 && Nat.beq (Nat.land w' r) 0
structure Fp where
 j:Nat
 r:Nat
 w:Nat
noncomputable def my (b r w:Nat) (acc:List Fp):Bool:=acc.all fun p=>uz p.r p.w r w || b.testBit p.j
noncomputable def jw (f:Fr) (d:Option Tmp) (g:Fr):Option Fr:=match g.defers with
 | []=>f.put d (match d with | some t=>(g.tmps.get t).getD undef | none=>undef)
 | _=>none
noncomputable def nD (l:List Tmp):Bool:=l.all fun t=>Nat.ble t 1000000
noncomputable def eO (n c l:Nat):Nat:=Nat.lor (Nat.shiftLeft c n) l
abbrev Tg:=Nat→Tr Nat→List Fp→Fr→AS→St
noncomputable def Jc (o:Oper) (l:List Tmp) (s:AS) (j:Nat) (bs:Tr Nat) (acc:List Fp) (k:Tg) (f':Fr) (s':AS):St:=
 fq (j7 bs o.after.toList) fun b=>fq (eO f'.n s'.r (bP l)) fun r=>fq (eO f'.n s'.w (bP o.dst.toList)) fun w=>
  Bool.rec .no (fq (Nat.add j 1) fun j'=>dO (Tr.set b 40 bs j) fun bs=>k j' bs (⟨j,r,w⟩ :: acc) f' (j6 s s')) (lE j o.after.toList && (Nat.ble (Nat.succ j) 100000 && (nD l && my b r w acc)))
noncomputable def lA (o:Oper) (l:List Tmp) (f:Fr) (s:AS) (j:Nat) (bs:Tr Nat) (acc:List Fp) (r:St) (k:Tg):St:=
 match r with
 | .on g s'=>match jw f o.dst g with
  | some f'=>Jc o l s j bs acc k f' s'
  | none=>.no
 | _=>.no
noncomputable def jv (P:Program) (call:dZ) (ops:Array Oper) (l:List Oper):Tg:=
 List.rec (motive:=fun _=>Tg) (fun _ _ _ f s=>.on f s)
  (fun o _ ih j bs acc f s=>jo (o.looksAt ops) fun ls=>lA o ls f s j bs acc (io P call ops.toList (hZ ls f) o (cU s)) ih) l
abbrev Ex:=Option (eZ × Fr × AS)
noncomputable def CH (r:St):Ex:=match r with
 | .on f s=>some (.normal,f,s)
 | .up v f s=>some (.panic v,f,s)
 | .no=>none
noncomputable def Ec (r:Ex) (k:Fr→AS→Ex):Ex:=match r with
 | some (.normal,f,s)=>k f s
 | r=>r
noncomputable def AW (body:Fr→AS→Ex) (n:Nat):Fr→AS→Ex:=
 Nat.rec (motive:=fun _=>Fr→AS→Ex) (fun _ _=>none) (fun _ ih f s=>Ec (body f s) ih) n
def tY:Nat:=18446744073709551616
noncomputable def AY (v:Option Value) (a b:Ex):Ex:=match v with
 | some (.bool true)=>a
 | some (.bool false)=>b
 | _=>none
noncomputable def vd (id:Nat) (r:Ex):Ex:=match r with
 | some (.exit i,f,s)=>Bool.rec (some (.exit i,f,s)) (some (.normal,f,s)) (Nat.beq i id)
 | r=>r
noncomputable def dU (P:Program) (call:dZ) (c:Code):Fr→AS→Ex:=
 Code.rec (motive:=fun _=>Fr→AS→Ex)
  (fun f s=>some (.normal,f,s))
  (fun _ ops draw f s=>Bool.rec (CH (kA P call ops.toList ops.toList f s)) (CH (jv P call ops ops.toList 0 .nil [] f s)) draw)
  (fun _ _ ia ib f s=>Ec (ia f s) ib)
  (fun c _ _ ia ib f s=>AY (f.eval c) (ia f s) (ib f s))
  (fun id _ ic f s=>vd id (ic f s))
  (fun _ ic f s=>AW ic tY f s)
  (fun _ _ _ _ _ _ _ _=>none)
  (fun id f s=>some (.exit id,f,s))
  (fun _ _ _ _=>none)
  (fun _ f s=>some (.normal,f,s))
  (fun _ _ _=>none)
  (fun f s=>some (.ret,f,s))
  (fun _ _ _=>none) c
noncomputable def pZ (l:List Value):Nat→Tr Value→Tr Value:=
 List.rec (motive:=fun _=>Nat→Tr Value→Tr Value) (fun _ t=>t) (fun v _ ih i t=>dO (Tr.set v 40 t i) fun t=>ih (Nat.add i 1) t) l
noncomputable def wz (fn:Func) (args:Array Value):Fr:=⟨pZ args.toList 0 .nil,fn.ntmps,[]⟩
noncomputable def lX (P:Program) (a:Option Value) (t:TypeId) (s:AS):Option (Value × AS):=
 match nC P t a s with
 | some (.val v,s)=>some (v,s)
 | _=>none
noncomputable def jE (P:Program) (f:Fr) (l:List ResultVar):AS→Option (List Value × AS):=
 List.rec (motive:=fun _=>AS→Option (List Value × AS)) (fun s=>some ([],s))
  (fun rv _ ih s=>match rv with
   | .tmp t=>match ih s with
    | some (vs,s)=>some ((f.tmps.get t).getD undef :: vs,s)
    | none=>none
   | .cell a t=>match lX P (f.tmps.get a) t s with
    | some (v,s)=>match ih s with
     | some (vs,s)=>some (v :: vs,s)
     | none=>none
    | none=>none) l
noncomputable def finish (P:Program) (fn:Func) (f:Fr) (s:AS):Option (j4 × AS):=
 match jE P f fn.results.toList s with
 | some ([v],s)=>some (.ret v,s)
 | some (vs,s)=>some (.ret (.tuple vs.toArray),s)
 | none=>none
structure Dd where
 f:Fr
 s:AS
 u:Option Value
noncomputable def S4 (r:St) (u:Option Value) (k:Fr→AS→Option Value→Option Dd):Option Dd:=match r with
 | .on f s=>k f s u
 | _=>none
noncomputable def Oj (P:Program) (call:dZ) (ops:List Oper) (o:Oper) (f:Fr) (s:AS) (u:Option Value) (k:Fr→AS→Option Value→Option Dd):Option Dd:=
 match bQ P f o s with
 | some (.recover,s)=>match o.guard with
  | none=>S4 (kZ (f.put o.dst (u.getD .nilIface)) s) none k
  | some _=>none
 | _=>S4 (io P call ops f o s) u k
noncomputable def rK (P:Program) (call:dZ) (ops:List Oper) (l:List Oper):Fr→AS→Option Value→Option Dd:=
 List.rec (motive:=fun _=>Fr→AS→Option Value→Option Dd) (fun f s u=>some ⟨f,s,u⟩) (fun o _ ih f s u=>Oj P call ops o f s u ih) l
noncomputable def PP (r:Ex) (u:Option Value):Option (AS × Option Value):=match r with
 | some (.normal,f,s) | some (.ret,f,s)=>match f.defers with | []=>some (s,u) | _=>none
 | _=>none
noncomputable def zW (P:Program) (call:dZ) (fn:Func) (args:Array Value) (s:AS) (u:Option Value):Option (AS × Option Value):=
 match fn.body with
 | some (.seq (.region _ ops false) c)=>match rK P call ops.toList ops.toList (wz fn args) s u with
  | some ⟨f,s,u⟩=>PP (dU P call c f s) u
  | none=>none
 | _=>none
noncomputable def gP (P:Program) (call:dZ) (d:Deferred) (s:AS) (u:Option Value):Option (AS × Option Value):=
 match d.target with
 | .fn (.func g) cap=>match P.funcs[g]? with
  | some fn=>Bool.rec none (zW P call fn (d.args ++ cap) s u) (Nat.ble fn.ntmps 1000000 && (Nat.ble (d.args ++ cap).toList.length fn.ntmps && fn.results.toList.isEmpty))
  | none=>none
 | _=>none
noncomputable def nX (P:Program) (fn:Func) (f:Fr) (s:AS) (u:Option Value):Option (j4 × AS):=match u with
 | none=>finish P fn f s
 | some v=>some (.panic v,s)
noncomputable def rz (P:Program) (call:dZ) (fn:Func) (f:Fr) (l:List Deferred):AS→Option Value→Option (j4 × AS):=
 List.rec (motive:=fun _=>AS→Option Value→Option (j4 × AS)) (fun s u=>nX P fn f s u)
  (fun d _ ih s u=>match gP P call d s u with
   | some (s,u')=>ih s u'
   | none=>none) l
noncomputable def zD (P:Program) (call:dZ) (fn:Func) (r:Ex):Option (j4 × AS):=match r with
 | some (.normal,f,s) | some (.ret,f,s)=>rz P call fn f f.defers s none
 | some (.panic v,f,s)=>rz P call fn f f.defers s (some v)
 | _=>none
noncomputable def Cc (P:Program) (call:dZ) (fn:Func) (args:Array Value) (s:AS):Option (j4 × AS):=
 match fn.body with
 | some c=>Bool.rec none (zD P call fn (dU P call c (wz fn args) s)) (Nat.ble fn.ntmps 1000000 && Nat.ble args.toList.length fn.ntmps)
 | none=>none
structure IZ where
 keys:Nat→Option (Nat × Nat)
 sorted:Nat→Option Nat
 iter:Nat→Bool
noncomputable def yD (it t:Nat) (args:List Value) (s:AS):Option (j4 × AS):=match args with
 | [.map (some b)]=>some (.ret (.func (.func it) #[] #[.pointer (some ⟨s.next,0,none⟩)]),newRow s [.map (some b)] t)
 | _=>none
noncomputable def gV (a:List UInt8):List UInt8→Bool:=
 List.rec (motive:=fun _=>List UInt8→Bool) (fun m=>List.rec false (fun _ _ _=>true) m)
  (fun x _ ih m=>List.rec false (fun y m' _=>Bool.rec (Bool.rec false (ih m') (Nat.beq x.toNat y.toNat)) true (Nat.ble (Nat.succ x.toNat) y.toNat)) m) a
noncomputable def fZ (k k2:ByteArray):List Value:=Bool.rec [.string k2,.string k] [.string k,.string k2] (gV k.data.toList k2.data.toList)
noncomputable def y6 (t clock:Nat) (es:List MapEntry) (s:AS):Option (j4 × AS):=match es with
 | []=>some (.ret (.slice none 0 0),s)
 | [⟨.string k,_,born⟩]=>Bool.rec none (some (.ret (.slice (some ⟨s.next,0,none⟩) 1 1),newRow s [.string k] t)) (Nat.ble (Nat.succ born) clock && Nat.ble k.size 1048576)
 | [⟨.string k,_,born⟩,⟨.string k2,_,born2⟩]=>Bool.rec none (some (.ret (.slice (some ⟨s.next,0,none⟩) 2 2),newRow s (fZ k k2) t))
  (Nat.ble (Nat.succ born) born2 && (Nat.ble (Nat.succ born2) clock && (Nat.ble k.size 1048576 && (Nat.ble k2.size 1048576 && (gV k.data.toList k2.data.toList || gV k2.data.toList k.data.toList)))))
 | _=>none
noncomputable def AV (t b:Nat) (r:Option fW) (s:AS):Option (j4 × AS):=match r with
 | some (.map es clock)=>y6 t clock es (cE s b)
 | _=>none
noncomputable def A6 (t p:Nat) (s:AS):Option (j4 × AS):=match s.heap.get p with
 | some (.row [.map (some b)] _ c _ true)=>Bool.rec none (AV t b (s.heap.get b) (cE s c)) (Nat.beq c p)
 | _=>none
noncomputable def sC (orc:IZ) (t:Nat) (args:List Value) (s:AS):Option (j4 × AS):=match args with
 | [.func (.func it) first cap]=>match first.toList,cap.toList with
  | [],[.pointer (some ⟨p,0,none⟩)]=>Bool.rec none (A6 t p s) (orc.iter it)
  | _,_=>none
 | _=>none
noncomputable def ud (orc:IZ) (g:FuncId) (args:Array Value) (s:AS):Option (Option (j4 × AS)):=match orc.keys g with
 | some (it,t)=>some (yD it t args.toList s)
 | none=>match orc.sorted g with
  | some t=>some (sC orc t args.toList s)
  | none=>none
noncomputable def sy (P:Program) (ih:dZ) (g:FuncId) (args:Array Value) (s:AS):Option (j4 × AS):=match P.funcs[g]? with
 | none=>none
 | some fn=>Cc P ih fn args s
noncomputable def lU (P:Program) (orc:IZ) (n:Nat):dZ:=
 Nat.rec (motive:=fun _=>dZ) (fun _ _ _=>none)
  (fun _ ih g args s=>match ud orc g args s with
   | some r=>r
   | none=>sy P ih g args s) n
noncomputable def start:AS:=⟨.nil,0,.nil,.nil,0,0⟩
theorem ci {β:Type} (n:Nat) (k:Nat→β):fq n k=k n:=by cases n<;>rfl
theorem dh {α β:Type} (t:Tr α) (k:Tr α→β):dO t k=k t:=by cases t<;>rfl
theorem cA {α β:Type} (l:List α):∀k:List α→β,jo l k=k l:=by
 induction l with
 | nil=>intro k; rfl
 | cons a l ih=>intro k; exact ih fun l=>k (a :: l)
theorem sq {β:Type} (a b:β) (n:Nat):(Nat.rec a (fun _ _=>b) n:β)=if n=0 then a else b:=by
 cases n with
 | zero=>rfl
 | succ n=>simp
theorem Tr.get_nil {α:Type} (n:Nat):(Tr.nil:Tr α).get n=none:=rfl
theorem Tr.get_zero {α:Type} (v:Option α) (l r:Tr α):(Tr.node v l r).get 0=v:=rfl
theorem Tr.get_succ {α:Type} (v:Option α) (l r:Tr α) (m:Nat):(Tr.node v l r).get (m + 1)=if m % 2=0 then l.get (m / 2) else r.get (m / 2):=by
 show (Nat.rec _ _ (Nat.mod m 2):Option α)=_;exact sq _ _ _
theorem A5 {α:Type} (a:α) (ih:Tr α→Nat→Tr α):zK a ih 0=.node (some a) .nil .nil:=rfl
theorem Ay {α:Type} (a:α) (ih:Tr α→Nat→Tr α) (m:Nat):zK a ih (m + 1)=if m % 2=0 then .node none (ih .nil (m / 2)) .nil else .node none .nil (ih .nil (m / 2)):=by
 show (Nat.rec _ _ (Nat.mod m 2):Tr α)=_;simp only [dh];exact sq _ _ _
theorem zr {α:Type} (a:α) (ih:Tr α→Nat→Tr α) (v:Option α) (l r:Tr α):uk a ih 0 v l r=.node (some a) l r:=rfl
theorem ye {α:Type} (a:α) (ih:Tr α→Nat→Tr α) (v:Option α) (l r:Tr α) (m:Nat):uk a ih (m + 1) v l r=if m % 2=0 then .node v (ih l (m / 2)) r else .node v l (ih r (m / 2)):=by
 show (Nat.rec _ _ (Nat.mod m 2):Tr α)=_;simp only [dh];exact sq _ _ _
theorem Tr.set_nil {α:Type} (a:α) (f n:Nat):Tr.setF a (f + 1) .nil n=zK a (Tr.setF a f) n:=rfl
theorem Tr.set_node {α:Type} (a:α) (f n:Nat) (v:Option α) (l r:Tr α):Tr.setF a (f + 1) (.node v l r) n=uk a (Tr.setF a f) n v l r:=rfl
theorem Tr.get_set' {α:Type} (a:α):∀(f:Nat) (t:Tr α) (n m:Nat),n + 1 < 2 ^ f→(Tr.setF a f t n).get m=if m=n then some a else t.get m:=by
 intro f
 induction f with
 | zero=>intro t n m h; simp at h
 | succ f ih=>
  intro t n m h;have hp : 2 ^ (f + 1)=2 * 2 ^ f:=by rw [Nat.pow_succ]; omega
  cases t with
  | nil=>
   rw [Tr.set_nil];cases n with
   | zero=>
    rw [A5];cases m with
    | zero=>rfl
    | succ m=>rw [Tr.get_succ]; simp [Tr.get_nil]
   | succ n=>
    have hb:n / 2 + 1 < 2 ^ f:=by omega
    rw [Ay];cases m with
    | zero=>split<;>simp [Tr.get_zero,Tr.get_nil]
    | succ m=>
     split
     ·rw [Tr.get_succ,ih _ _ _ hb,Tr.get_nil,Tr.get_nil];split<;>split<;>(try split)<;>simp_all<;>omega
     ·rw [Tr.get_succ,ih _ _ _ hb,Tr.get_nil,Tr.get_nil];split<;>(try split)<;>(try split)<;>simp_all<;>omega
  | node v l r=>
   rw [Tr.set_node];cases n with
   | zero=>
    rw [zr];cases m with
    | zero=>rfl
    | succ m=>rw [Tr.get_succ,Tr.get_succ]; simp
   | succ n=>
    have hb:n / 2 + 1 < 2 ^ f:=by omega
    rw [ye];cases m with
    | zero=>split<;>simp [Tr.get_zero]
    | succ m=>
     rw [Tr.get_succ];split
     ·rw [Tr.get_succ,ih _ _ _ hb];by_cases hm:m % 2=0
      ·rw [if_pos hm,if_pos hm];by_cases he:m / 2=n / 2
       ·rw [if_pos he,if_pos (by omega)]
       ·rw [if_neg he,if_neg (by omega)]
      ·rw [if_neg hm,if_neg hm,if_neg (by omega)]
     ·rw [Tr.get_succ,ih _ _ _ hb];by_cases hm:m % 2=0
      ·rw [if_pos hm,if_pos hm,if_neg (by omega)]
      ·rw [if_neg hm,if_neg hm];by_cases he:m / 2=n / 2
       ·rw [if_pos he,if_pos (by omega)]
       ·rw [if_neg he,if_neg (by omega)]
def kC (_:Nat):Prop:=True
theorem Tr.get_set {α:Type} (a:α) (t:Tr α) (n m:Nat) (_:kC n):(Tr.set a 40 t n).get m=if m=n then some a else t.get m:=Tr.get_set' a (n + 1) t n m (Nat.lt_two_pow_self)
structure ua where
 blk:Nat
 sh:Nat
 sz:Nat
 es:Nat
 cls:Nat
 st:Nat
abbrev dI:=Nat→Option ua
inductive VR (φ:dI):Value × Value ⊕ List Value × List Value→Prop
 | bool (b:Bool):VR φ (.inl (.bool b,.bool b))
 | int (k:IntKind) (n:Int):VR φ (.inl (.int k n,.int k n))
 | string (s:ByteArray):VR φ (.inl (.string s,.string s))
 | nilPtr:VR φ (.inl (.pointer none,.pointer none))
 | ptr (b off:Nat) (i:ua) (h:φ b=some i):VR φ (.inl (.pointer (some ⟨b,off,none⟩),.pointer (some ⟨i.blk,i.sh + off,none⟩)))
 | nilSlice:VR φ (.inl (.slice none 0 0,.slice none 0 0))
 | slice (b off len cap cap':Nat) (a':Addr) (i:ua) (h:φ b=some i) (hl:len≤cap) (hc:cap≤cap') (ha:cap'=0∨a'=⟨i.blk,i.sh + off,none⟩) (hr:off + cap' * i.es≤i.sz) :
   VR φ (.inl (.slice (some ⟨b,off,none⟩) len cap,.slice (some a') len cap'))
 | sliceX (b off len:Nat) (a':Addr) (i:ua) (h:φ b=some i) (ha:len=0∨a'=⟨i.blk,i.sh + off,none⟩):VR φ (.inl (.slice (some ⟨b,off,some 0⟩) len len,.slice (some a') len len))
 | nilMap:VR φ (.inl (.map none,.map none))
 | map (b:Nat) (i:ua) (h:φ b=some i):VR φ (.inl (.map (some b),.map (some i.blk)))
 | func (g:FuncId) (xs ys xs' ys':Array Value) (h:VR φ (.inr (xs.toList,xs'.toList))) (h':VR φ (.inr (ys.toList,ys'.toList))):VR φ (.inl (.func (.func g) xs ys,.func (.func g) xs' ys'))
 | nilFunc:VR φ (.inl (.nilFunc,.nilFunc))
 | nilIface:VR φ (.inl (.nilIface,.nilIface))
 | iface (t:TypeId) (v v':Value) (h:VR φ (.inl (v,v'))):VR φ (.inl (.iface t v,.iface t v'))
 | agg (xs xs':Array Value) (h:VR φ (.inr (xs.toList,xs'.toList))):VR φ (.inl (.agg xs,.agg xs'))
 | tuple (xs xs':Array Value) (h:VR φ (.inr (xs.toList,xs'.toList))):VR φ (.inl (.tuple xs,.tuple xs'))
 | nil:VR φ (.inr ([],[]))
 | cons (v v':Value) (l l':List Value) (h:VR φ (.inl (v,v'))) (hs:VR φ (.inr (l,l'))):VR φ (.inr (v :: l,v' :: l'))
abbrev eR (φ:dI) (v v':Value):Prop:=VR φ (.inl (v,v'))
abbrev bu (φ:dI) (l l':List Value):Prop:=VR φ (.inr (l,l'))
def BR (φ φ':dI):Prop:=∀b i,φ b=some i→φ' b=some i
theorem VR.mono {φ φ':dI} (he:BR φ φ') {x:Value × Value ⊕ List Value × List Value} (h:VR φ x):VR φ' x:=by
 induction h with
 | bool b=>exact .bool b
 | int k n=>exact .int k n
 | string s=>exact .string s
 | nilPtr=>exact .nilPtr
 | ptr b off i h=>exact .ptr b off i (he _ _ h)
 | nilSlice=>exact .nilSlice
 | slice b off len cap cap' a' i h hl hc ha hr=>exact .slice b off len cap cap' a' i (he _ _ h) hl hc ha hr
 | sliceX b off len a' i h ha=>exact .sliceX b off len a' i (he _ _ h) ha
 | nilMap=>exact .nilMap
 | map b i h=>exact .map b i (he _ _ h)
 | func g xs ys xs' ys' _ _ h h'=>exact .func g xs ys xs' ys' h h'
 | nilFunc=>exact .nilFunc
 | nilIface=>exact .nilIface
 | iface t v v' _ h=>exact .iface t v v' h
 | agg xs xs' _ h=>exact .agg xs xs' h
 | tuple xs xs' _ h=>exact .tuple xs xs' h
 | nil=>exact .nil
 | cons v v' l l' _ _ h hs=>exact .cons v v' l l' h hs
theorem bu.length {φ:dI} : ∀{l l':List Value},bu φ l l'→l.length=l'.length:=by
 intro l
 induction l with
 | nil=>intro l' h; cases h; rfl
 | cons v l ih=>intro l' h; cases h with | cons _ v' _ l'' h hs=>simp [ih hs]
theorem bu.get {φ:dI} : ∀{l l':List Value} (i:Nat) {v:Value},bu φ l l'→l[i]?=some v→∃v',l'[i]?=some v'∧eR φ v v':=by
 intro l
 induction l with
 | nil=>intro l' i v h hv; simp at hv
 | cons a l ih=>
  intro l' i v h hv;cases h with
  | cons _ a' _ l'' h hs=>
   cases i with
   | zero=>simp at hv; subst hv; exact⟨a',by simp,h⟩
   | succ i=>simp at hv; obtain⟨v',h1,h2⟩:=ih i hs hv; exact⟨v',by simpa using h1,h2⟩
theorem bu.of_get {φ:dI} : ∀{l l':List Value},l.length=l'.length→(∀(i:Nat) (v:Value),l[i]?=some v→∃v',l'[i]?=some v'∧eR φ v v')→bu φ l l':=by
 intro l
 induction l with
 | nil=>intro l' h _; cases l' with | nil=>exact .nil | cons=>simp at h
 | cons a l ih=>
  intro l' h hg;cases l' with
  | nil=>simp at h
  | cons a' l'=>
   obtain⟨v',h1,h2⟩:=hg 0 a (by simp);simp at h1;subst h1;refine .cons _ _ _ _ h2 (ih (by simpa using h) fun i v hv=>?_);obtain⟨v',h1,h2⟩:=hg (i + 1) v (by simpa using hv);exact⟨v',by simpa using h1,h2⟩
theorem bu.append {φ:dI} : ∀{l l' r r':List Value},bu φ l l'→bu φ r r'→bu φ (l ++ r) (l' ++ r'):=by
 intro l
 induction l with
 | nil=>intro l' r r' h hr; cases h; exact hr
 | cons a l ih=>intro l' r r' h hr; cases h with | cons _ a' _ l'' h hs=>exact .cons _ _ _ _ h (ih hs hr)
theorem bu.take {φ:dI} : ∀(n:Nat) {l l':List Value},bu φ l l'→bu φ (l.take n) (l'.take n):=by
 intro n
 induction n with
 | zero=>intro l l' _; exact .nil
 | succ n ih=>intro l l' h; cases h with | nil=>exact .nil | cons v v' l l' h hs=>exact .cons _ _ _ _ h (ih hs)
theorem bu.drop {φ:dI} : ∀(n:Nat) {l l':List Value},bu φ l l'→bu φ (l.drop n) (l'.drop n):=by
 intro n
 induction n with
 | zero=>intro l l' h; exact h
 | succ n ih=>intro l l' h; cases h with | nil=>exact .nil | cons v v' l l' h hs=>exact ih hs
theorem wa (v:Value):plain 0 v=yQ v:=rfl
theorem uV (n:Nat) (v:Value):plain (n + 1) v=yH (plain n) v:=rfl
theorem pB {φ:dI}{p:Value→Bool} (hp:∀v,p v=true→eR φ v v):∀l:List Value,l.all p=true→bu φ l l:=by
 intro l
 induction l with
 | nil=>intro _; exact .nil
 | cons a l ih=>intro h; simp only [List.all_cons,Bool.and_eq_true] at h; exact .cons _ _ _ _ (hp _ h.1) (ih h.2)
theorem zS {φ:dI}{p:Value→Bool} (hp:∀v v',p v=true→eR φ v v'→v'=v):∀l l':List Value,l.all p=true→bu φ l l'→l'=l:=by
 intro l
 induction l with
 | nil=>intro l' _ h; cases h; rfl
 | cons a l ih=>
  intro l' h hr;simp only [List.all_cons,Bool.and_eq_true] at h;cases hr with
  | cons _ a' _ l'' h1 hs=>rw [hp _ _ h.1 h1,ih _ h.2 hs]
theorem dN (φ:dI):∀(n:Nat) (v:Value),plain n v=true→eR φ v v:=by
 intro n
 induction n with
 | zero=>
  intro v h;rw [wa] at h;unfold yQ at h;split at h<;>first | (cases h; done) | exact .bool _ | exact .int _ _ | exact .string _ | exact .nilPtr | exact .nilSlice | exact .nilMap | exact .nilFunc | exact .nilIface | cases h
 | succ n ih=>
  intro v h;rw [uV] at h;unfold yH at h;split at h<;>first
   | (cases h; done)
   | exact .bool _ | exact .int _ _ | exact .string _ | exact .nilPtr | exact .nilSlice | exact .nilMap | exact .nilFunc | exact .nilIface
   | exact .iface _ _ _ (ih _ h) | exact .agg _ _ (pB ih _ h) | exact .tuple _ _ (pB ih _ h)
   | (simp only [Bool.and_eq_true,List.isEmpty_iff] at h; exact .func _ _ _ _ _ (by rw [h.1]; exact .nil) (by rw [h.2]; exact .nil))
   | cases h
theorem ij (φ:dI):∀(n:Nat) (v v':Value),plain n v=true→eR φ v v'→v'=v:=by
 intro n
 induction n with
 | zero=>
  intro v v' h hr;rw [wa] at h;unfold yQ at h;split at h<;>first | (cases h; done) | (cases hr; rfl)
 | succ n ih=>
  intro v v' h hr;rw [uV] at h;unfold yH at h;split at h
  all_goals first
   | (cases h; done)
   | (cases hr; rfl)
   | (cases hr with | iface _ _ _ hh=>rw [ih _ _ h hh])
   | (cases hr with | agg _ xs' hh=>rw [Array.toList_inj.1 (zS ih _ _ h hh)])
   | (cases hr with | tuple _ xs' hh=>rw [Array.toList_inj.1 (zS ih _ _ h hh)])
   | (simp only [Bool.and_eq_true,List.isEmpty_iff] at h; cases hr with
     | func _ _ _ xs' ys' h1 h2=>
      rw [h.1] at h1;rw [h.2] at h2;generalize hx:xs'.toList=X at h1;generalize hy:ys'.toList=Y at h2;cases h1;cases h2;rw [Array.toList_inj.1 (hx.trans h.1.symm),Array.toList_inj.1 (hy.trans h.2.symm)])
   | cases h
theorem kq {α:Type} (P:Program) (s:Sem α):∀{a:α},bx P s=some a→∀w,s.run P w=.ok a w:=by
 induction s with
 | pure a=>intro b h w; injection h with h; subst h; rfl
 | program k ih=>intro b h w; exact ih P h w
 | mark m k ih=>intro b h w; exact ih h w
 | _=>intro b h; first | cases h | (intro w; cases h)
theorem aH (s:AS) (c:Nat):cE s c=⟨s.heap,s.next,s.mem,s.fz,s.r ||| (1 <<< c),s.w⟩:=by
 cases s; unfold cE; simp only [ci]; rfl
theorem gU (s:AS) (c:Nat):wS s c=⟨s.heap,s.next,s.mem,s.fz,s.r,s.w ||| (1 <<< c)⟩:=by
 cases s; unfold wS; simp only [ci]; rfl
theorem iU (s:AS) (b:Nat) (o:fW):s.put b o=⟨Tr.set o 40 s.heap b,s.next,s.mem,s.fz,s.r,s.w⟩:=by
 cases s; unfold AS.put; simp only [dh]
theorem jL (s:AS) (o:Nat→fW):s.new o=⟨Tr.set (o s.next) 40 s.heap s.next,s.next + 1,s.mem,s.fz,s.r,s.w ||| (1 <<< s.next)⟩:=by
 cases s; unfold AS.new; simp only [dh,ci]; rfl
theorem fC (s:AS) (cells:List Value) (e:Nat):newRow s cells e=s.new fun b=>.row cells e b 0 true:=cA _ _
theorem sf (s:AS) (c:Nat) (l:List Nat):vw s c l=⟨s.heap,s.next,Tr.set l 40 s.mem c,s.fz,s.r,s.w⟩:=by
 cases s; unfold vw; simp only [dh]
theorem dC (a c x:Nat):(a ||| (1 <<< c)).testBit x=(a.testBit x || decide (c=x)):=by
 rw [Nat.testBit_or,Nat.one_shiftLeft,Nat.testBit_two_pow]
theorem iF {a c x:Nat} (h:(a ||| (1 <<< c)).testBit x=true):a.testBit x=true∨c=x:=by
 rw [dC,Bool.or_eq_true,decide_eq_true_iff] at h; exact h
theorem wt {a c x n:Nat} (h:(a ||| (1 <<< c)).testBit x=true) (hc:c < n):a.testBit x=true∨x < n:=by
 rcases iF h with h | rfl
 ·exact .inl h
 ·exact .inr hc
def dE (b:Nat):fW→Nat
 | .row _ _ c _ _=>c
 | _=>b
structure cT (A:AS):Prop where
 lt:∀b o,A.heap.get b=some o→b < A.next∧dE b o < A.next
 mem:∀b cells e c st,A.heap.get b=some (.row cells e c st true)→b∈dm A c
 memc:∀c l x cells e c' st ok,A.mem.get c=some l→x∈l→A.heap.get x=some (.row cells e c' st ok)→c'=c
 root:∀b cells e c st ok,A.heap.get b=some (.row cells e c st ok)→∃cells' e' st' ok',A.heap.get c=some (.row cells' e' c st' ok')
 ml:∀c l x,A.mem.get c=some l→x∈l→x < A.next
 old:∀c l,A.mem.get c=some l→c < A.next
 fz:∀c k,A.fz.get c=some k→c < A.next
structure mR (A A':AS):Prop where
 next:A.next≤A'.next
 r:∀c,A.r.testBit c=true→A'.r.testBit c=true
 w:∀c,A.w.testBit c=true→A'.w.testBit c=true
 old:∀b o,A.heap.get b=some o→A'.w.testBit (dE b o)=false→A'.heap.get b=some o
 new:∀b o,A'.heap.get b=some o→A'.w.testBit (dE b o)=false→A.heap.get b=some o
 fz:∀c,A'.w.testBit c=false→A'.fz.get c=A.fz.get c
 mem:∀c,A'.w.testBit c=false→A'.mem.get c=A.mem.get c
 rb:∀c,A'.r.testBit c=true→A.r.testBit c=true∨c < A'.next
 wb:∀c,A'.w.testBit c=true→A.w.testBit c=true∨c < A'.next
 inv:cT A'
theorem mR.refl {A:AS} (h:cT A):mR A A:=
 ⟨Nat.le_refl _,fun _ h=>h,fun _ h=>h,fun _ _ h _=>h,fun _ _ h _=>h,fun _ _=>rfl,fun _ _=>rfl,fun _ h=>.inl h,fun _ h=>.inl h,h⟩
theorem sa {a b:Bool} (h:a=true→b=true) (hb:b=false):a=false:=by cases a<;>simp_all
theorem mR.trans {A B C:AS} (h:mR A B) (k:mR B C):mR A C where
 next:=Nat.le_trans h.next k.next
 r:=fun c hc=>k.r c (h.r c hc)
 w:=fun c hc=>k.w c (h.w c hc)
 old:=fun b o hb hw=>k.old b o (h.old b o hb (sa (k.w _) hw)) hw
 new:=fun b o hb hw=>h.new b o (k.new b o hb hw) (sa (k.w _) hw)
 fz:=fun c hc=>(k.fz c hc).trans (h.fz c (sa (k.w _) hc))
 mem:=fun c hc=>(k.mem c hc).trans (h.mem c (sa (k.w _) hc))
 rb:=fun c hc=>(k.rb c hc).elim (fun h1=>(h.rb c h1).imp id fun x=>Nat.lt_of_lt_of_le x k.next) .inr
 wb:=fun c hc=>(k.wb c hc).elim (fun h1=>(h.wb c h1).imp id fun x=>Nat.lt_of_lt_of_le x k.next) .inr
 inv:=k.inv
theorem iZ {A:AS} (h:cT A) {c:Nat} (hc:c < A.next):mR A (cE A c):=by
 rw [aH];exact⟨Nat.le_refl _,fun x hx=>by rw [dC,hx]; rfl,fun _ h=>h,fun _ _ h _=>h,fun _ _ h _=>h,fun _ _=>rfl,fun _ _=>rfl,
  fun x hx=>wt hx hc,fun _ h=>.inl h,⟨h.lt,h.mem,h.memc,h.root,h.ml,h.old,h.fz⟩⟩
theorem tK {n:Nat} (_:n≤n):kC n:=trivial
theorem C7 {A:AS} (h:cT A) (hn:A.next + 1≤A.next + 1) (o:Nat→fW) (ho:dE A.next (o A.next)=A.next):mR A (A.new o):=by
 have hf:kC A.next:=tK (by omega);have hnone:A.heap.get A.next=none:=by
  cases hg:A.heap.get A.next with
  | none=>rfl
  | some x=>have:=(h.lt _ _ hg).1; omega
 rw [jL];refine⟨by show A.next≤A.next + 1; omega,fun _ h=>h,fun x hx=>by rw [dC,hx]; rfl,fun b x hb _=>?_,fun b x hb hw=>?_,fun _ _=>rfl,fun _ _=>rfl,fun _ h=>.inl h,fun x hx=>?_,⟨fun b x hb=>?_,fun b cells e c st hb=>?_,fun c l x cells e c' st ok hl hx hg=>?_,fun b cells e c st ok hb=>?_,fun c l x hl hx=>?_,fun c l hl=>?_,fun c l hl=>?_⟩⟩
 ·rw [Tr.get_set _ _ _ _ hf,if_neg (by rintro rfl; rw [hnone] at hb; cases hb)]; exact hb
 ·rw [Tr.get_set _ _ _ _ hf] at hb;split at hb
  ·rename_i he; subst he; injection hb with hb; subst hb; rw [ho,dC] at hw; simp at hw
  ·exact hb
 ·rw [dC,Bool.or_eq_true,decide_eq_true_iff] at hx;rcases hx with hx | rfl
  ·exact .inl hx
  ·exact .inr (by show A.next < A.next + 1; omega)
 ·rw [Tr.get_set _ _ _ _ hf] at hb;show b < A.next + 1∧dE b x < A.next + 1;split at hb
  ·rename_i he; subst he; injection hb with hb; subst hb; rw [ho]; omega
  ·have:=h.lt _ _ hb; omega
 ·rw [Tr.get_set _ _ _ _ hf] at hb;show b∈(A.mem.get c).getD [c];split at hb
  ·rename_i he; subst he;injection hb with hb;rw [hb] at ho;have:c=A.next:=ho;subst this;cases hm:A.mem.get A.next with
   | none=>simp
   | some l=>have:=h.old _ _ hm; omega
  ·exact h.mem _ _ _ _ _ hb
 ·rw [Tr.get_set _ _ _ _ hf] at hg;split at hg
  ·rename_i he; subst he; have:=h.ml _ _ _ hl hx; omega
  ·exact h.memc _ _ _ _ _ _ _ _ hl hx hg
 ·rw [Tr.get_set _ _ _ _ hf] at hb;rw [Tr.get_set _ _ _ _ hf];split at hb
  ·rename_i he; subst he;injection hb with hb;rw [hb] at ho;have:c=A.next:=ho;subst this;rw [if_pos rfl,hb];exact⟨_,_,_,_,rfl⟩
  ·obtain⟨a1,a2,a3,a4,h4⟩:=h.root _ _ _ _ _ _ hb;rw [if_neg (by have:=(h.lt _ _ h4).1; omega)];exact⟨a1,a2,a3,a4,h4⟩
 ·have:=h.ml _ _ _ hl hx; show x < A.next + 1; omega
 ·have:=h.old _ _ hl; show c < A.next + 1; omega
 ·have:=h.fz _ _ hl; show c < A.next + 1; omega
theorem gO {A:AS} (h:cT A) (hn:A.next + 1≤A.next + 1) (cells:List Value) (e:Nat):mR A (newRow A cells e):=by
 rw [fC]; exact C7 h hn _ rfl
theorem Iv {A:AS} (h:cT A) (hn:A.next≤A.next) {b:Nat}{o o':fW} (hb:A.heap.get b=some o) (hc:dE b o=b) (hc':dE b o'=b) (hr:∀cells e c st ok,o'≠.row cells e c st ok) (hro:∀cells e c st ok,o≠.row cells e c st ok) :
  mR A (wS (cE (A.put b o') b) b):=by
 have hl:=(h.lt _ _ hb).1;have hf:kC b:=tK (by omega);rw [iU,aH,gU];refine⟨Nat.le_refl _,fun x hx=>by rw [dC,hx]; rfl,fun x hx=>by rw [dC,hx]; rfl,fun b' x hb' hw=>?_,fun b' x hb' hw=>?_,fun _ _=>rfl,fun _ _=>rfl,fun x hx=>?_,fun x hx=>?_,⟨fun b' x hb'=>?_,fun b' cells e c st hb'=>?_,fun c l x cells e c' st ok hl hx hg=>?_,fun b' cells e c st ok hb'=>?_,h.ml,h.old,h.fz⟩⟩
 ·rw [Tr.get_set _ _ _ _ hf];split
  ·rename_i he; subst he;rw [hb'] at hb; injection hb with hb; subst hb;rw [hc,dC] at hw; simp at hw
  ·exact hb'
 ·rw [Tr.get_set _ _ _ _ hf] at hb';split at hb'
  ·rename_i he; subst he; injection hb' with hb'; subst hb'; rw [hc',dC] at hw; simp at hw
  ·exact hb'
 ·exact wt hx hl
 ·exact wt hx hl
 ·rw [Tr.get_set _ _ _ _ hf] at hb';split at hb'
  ·rename_i he; subst he; injection hb' with hb'; subst hb'; exact⟨hl,by rw [hc']; exact hl⟩
  ·exact h.lt _ _ hb'
 ·rw [Tr.get_set _ _ _ _ hf] at hb';split at hb'
  ·injection hb' with hb'; exact absurd hb' (hr _ _ _ _ _)
  ·exact h.mem _ _ _ _ _ hb'
 ·rw [Tr.get_set _ _ _ _ hf] at hg;split at hg
  ·injection hg with hg; exact absurd hg (hr _ _ _ _ _)
  ·exact h.memc _ _ _ _ _ _ _ _ hl hx hg
 ·rw [Tr.get_set _ _ _ _ hf] at hb';rw [Tr.get_set _ _ _ _ hf];split at hb'
  ·injection hb' with hb'; exact absurd hb' (hr _ _ _ _ _)
  ·obtain⟨a1,a2,a3,a4,h4⟩:=h.root _ _ _ _ _ _ hb';split
   ·rename_i he; subst he; rw [hb] at h4; injection h4 with h4; exact absurd h4 (hro _ _ _ _ _)
   ·exact⟨a1,a2,a3,a4,h4⟩
def jx:fW→fW
 | .row cells e c st _=>.row cells e c st false
 | o=>o
def Bd (A:AS):Prop:=A.next≤A.next∧∀b o,A.heap.get b=some o→b < A.next
theorem cT.bd {A:AS} (h:cT A) (hn:A.next≤A.next):Bd A:=⟨hn,fun b o hb=>(h.lt b o hb).1⟩
theorem G0 {A:AS} (h:Bd A) (b:Nat):(∀x,(kU A b).heap.get x=if x=b then (A.heap.get x).map jx else A.heap.get x)∧(kU A b).next=A.next∧(kU A b).mem=A.mem∧(kU A b).fz=A.fz∧(kU A b).r=A.r∧(kU A b).w=A.w:=by
 unfold kU;split
 ·rename_i cells e c st ok hb;have hf:kC b:=tK (by have:=h.2 _ _ hb; have:=h.1; omega);rw [iU];refine⟨fun x=>?_,rfl,rfl,rfl,rfl,rfl⟩;rw [Tr.get_set _ _ _ _ hf];split
  ·rename_i he; subst he; rw [hb]; rfl
  ·rfl
 ·rename_i hb;refine⟨fun x=>?_,rfl,rfl,rfl,rfl,rfl⟩;split
  ·rename_i he; subst he;cases ho:A.heap.get x with
   | none=>rfl
   | some o=>
    cases o with
    | row cells e c st ok=>exact absurd ho (hb _ _ _ _ _)
    | map es k=>rfl
    | iter s p=>rfl
  ·rfl
theorem H9 (o:fW):jx (jx o)=jx o:=by cases o<;>rfl
theorem Au:∀(l:List Nat) {A:AS},Bd A→(∀x,(kill A l).heap.get x=if x∈l then (A.heap.get x).map jx else A.heap.get x)∧(kill A l).next=A.next∧(kill A l).mem=A.mem∧(kill A l).fz=A.fz∧(kill A l).r=A.r∧(kill A l).w=A.w:=by
 intro l
 induction l with
 | nil=>intro A _; exact⟨fun x=>by simp; rfl,rfl,rfl,rfl,rfl,rfl⟩
 | cons b l ih=>
  intro A h;obtain⟨h1,h2,h3,h4,h5,h6⟩:=G0 h b;have hB:Bd (kU A b):=by
   refine⟨by rw [h2]; exact h.1,fun x o hx=>?_⟩;rw [h1] at hx;rw [h2];split at hx
   ·cases hg:A.heap.get x with
    | none=>rw [hg] at hx; cases hx
    | some o'=>exact h.2 _ _ hg
   ·exact h.2 _ _ hx
  obtain⟨k1,k2,k3,k4,k5,k6⟩:=ih hB;have he:kill A (b :: l)=kill (kU A b) l:=rfl;rw [he];refine⟨fun x=>?_,k2.trans h2,k3.trans h3,k4.trans h4,k5.trans h5,k6.trans h6⟩;rw [k1,h1];by_cases hx:x=b
  ·subst hx;rw [if_pos rfl,if_pos (List.mem_cons_self)];split
   ·rw [Option.map_map]; congr 1; funext o; exact H9 o
   ·rfl
  ·rw [if_neg hx];by_cases hl:x∈l
   ·rw [if_pos hl,if_pos (List.mem_cons_of_mem _ hl)]
   ·rw [if_neg hl,if_neg (by simp [hx,hl])]
theorem uO (b:Nat) (o:fW):dE b (jx o)=dE b o:=by cases o<;>rfl
structure Wr (A A':AS) (b cls:Nat) (cs:List Value) (e st:Nat) (K:List Nat):Prop where
 next:(b=A.next∧A'.next=A.next + 1)∨(A'.next=A.next∧∃cs' e' st' ok',A.heap.get b=some (.row cs' e' cls st' ok'))
 root:∃cs' e' st' ok',A.heap.get cls=some (.row cs' e' cls st' ok')
 heap:∀x,A'.heap.get x=if x=b then some (.row cs e cls st true) else if x∈K then (A.heap.get x).map jx else A.heap.get x
 kill:∀x∈K,x∈dm A cls
 memo:∀c,c≠cls→A'.mem.get c=A.mem.get c
 memb:b∈dm A' cls
 memk:∀x cs' e' st',x≠b→x ∉ K→A.heap.get x=some (.row cs' e' cls st' true)→x∈dm A' cls
 meml:∀l x,A'.mem.get cls=some l→x∈l→x=b∨x∈dm A cls
 fzo:∀c,c≠cls→A'.fz.get c=A.fz.get c
 r:A'.r=A.r∨A'.r=A.r ||| (1 <<< cls)
 w:A'.w=A.w ||| (1 <<< cls)
theorem cT.memr {A:AS} (h:cT A) {cls x:Nat}{cells:List Value}{e c st:Nat}{ok:Bool} (hr:∃cs' e' st' ok',A.heap.get cls=some (.row cs' e' cls st' ok')) (hx:x∈dm A cls) (hg:A.heap.get x=some (.row cells e c st ok)):c=cls:=by
 unfold dm at hx;cases hm:A.mem.get cls with
 | none=>
  rw [hm] at hx;simp at hx;subst hx;obtain⟨_,_,_,_,h4⟩:=hr;rw [hg] at h4;injection h4 with h4;injection h4
 | some l=>rw [hm] at hx; exact h.memc _ _ _ _ _ _ _ _ hm hx hg
theorem cT.meml {A:AS} (h:cT A) {cls x:Nat} (hr:∃cs' e' st' ok',A.heap.get cls=some (.row cs' e' cls st' ok')) (hx:x∈dm A cls):x < A.next:=by
 unfold dm at hx;cases hm:A.mem.get cls with
 | none=>
  rw [hm] at hx;simp at hx;subst hx;obtain⟨_,_,_,_,h4⟩:=hr;exact (h.lt _ _ h4).1
 | some l=>rw [hm] at hx; exact h.ml _ _ _ hm hx
theorem fQ {o:Option fW}{x:fW} (h:o.map jx=some x):∃y,o=some y∧x=jx y:=by
 cases o with
 | none=>cases h
 | some y=>injection h with h; exact⟨y,rfl,h.symm⟩
theorem Wr.fr {A A':AS}{b cls:Nat}{cs:List Value}{e st:Nat}{K:List Nat} (h:cT A) (k:Wr A A' b cls cs e st K):mR A A':=by
 have hcl:cls < A.next:=by obtain⟨_,_,_,_,h4⟩:=k.root; exact (h.lt _ _ h4).1
 have hle:A.next≤A'.next:=by rcases k.next with ⟨_,h1⟩ | ⟨h1,_⟩<;>omega
 have hb:b < A'.next:=by
  rcases k.next with ⟨h0,h1⟩ | ⟨h1,_,_,_,_,h2⟩
  ·omega
  ·rw [h1]; exact (h.lt _ _ h2).1
 have hbit:A'.w.testBit cls=true:=by rw [k.w,dC]; simp
 refine⟨hle,?_,?_,?_,?_,?_,?_,?_,?_,⟨?_,?_,?_,?_,?_,?_,?_⟩⟩
 ·intro c hc;rcases k.r with hr | hr
  ·rw [hr]; exact hc
  ·rw [hr,dC,hc]; rfl
 ·intro c hc; rw [k.w,dC,hc]; rfl
 ·intro x o hx hw;rw [k.heap];have hne:x≠b:=by
   rintro rfl;rcases k.next with ⟨h0,_⟩ | ⟨_,_,_,_,_,h2⟩
   ·have:=(h.lt _ _ hx).1; omega
   ·rw [hx] at h2; injection h2 with h2; subst h2; rw [show dE x (fW.row _ _ cls _ _)=cls from rfl,hbit] at hw; cases hw
  rw [if_neg hne];split
  ·rename_i hk;cases o with
   | row cells e' c st' ok=>
    have:c=cls:=h.memr k.root (k.kill _ hk) hx;subst this;rw [show dE x (fW.row cells e' c st' ok)=c from rfl,hbit] at hw; cases hw
   | map es q=>rw [hx]; rfl
   | iter s p=>rw [hx]; rfl
  ·exact hx
 ·intro x o hx hw;rw [k.heap] at hx;split at hx
  ·injection hx with hx; subst hx; rw [show dE x (fW.row _ _ cls _ _)=cls from rfl,hbit] at hw; cases hw
  ·split at hx
   ·rename_i hk;obtain⟨y,hy,rfl⟩:=fQ hx;cases y with
    | row cells e' c st' ok=>
     have:c=cls:=h.memr k.root (k.kill _ hk) hy;subst this;rw [show dE x (jx (fW.row cells e' c st' ok))=c from rfl,hbit] at hw; cases hw
    | map es q=>exact hy
    | iter s p=>exact hy
   ·exact hx
 ·intro c hc; exact k.fzo c (by rintro rfl; rw [hbit] at hc; cases hc)
 ·intro c hc; exact k.memo c (by rintro rfl; rw [hbit] at hc; cases hc)
 ·intro c hc;rcases k.r with hr | hr
  ·rw [hr] at hc; exact .inl hc
  ·rw [hr] at hc; exact wt hc (by omega)
 ·intro c hc; rw [k.w] at hc; exact wt hc (by omega)
 ·intro x o hx;rw [k.heap] at hx;split at hx
  ·rename_i he; subst he; injection hx with hx; subst hx; exact⟨hb,by show cls < _; omega⟩
  ·split at hx
   ·obtain⟨y,hy,rfl⟩:=fQ hx;rw [uO];have:=h.lt _ _ hy;omega
   ·have:=h.lt _ _ hx; omega
 ·intro x cells e' c st' hx;rw [k.heap] at hx;split at hx
  ·rename_i he; subst he; injection hx with hx; injection hx with _ _ h3; subst h3; exact k.memb
  ·rename_i hne;split at hx
   ·obtain⟨y,hy,hd⟩:=fQ hx;cases y<;>simp [jx] at hd
   ·rename_i hk;by_cases hc:c=cls
    ·subst hc; exact k.memk _ _ _ _ hne hk hx
    ·have:=h.mem _ _ _ _ _ hx;unfold dm at this ⊢;rw [k.memo c hc]; exact this
 ·intro c l x cells e' c' st' ok hl hx hg;by_cases hc:c=cls
  ·subst hc;rw [k.heap] at hg;split at hg
   ·injection hg with hg; injection hg with _ _ h3; exact h3.symm
   ·rename_i hne;have hm:x∈dm A c:=(k.meml _ _ hl hx).resolve_left hne;split at hg
    ·obtain⟨y,hy,hd⟩:=fQ hg;cases y with
     | row cells2 e2 c2 st2 ok2=>simp [jx] at hd; rw [hd.2.2.1]; exact h.memr k.root hm hy
     | map es q=>simp [jx] at hd
     | iter s p=>simp [jx] at hd
    ·exact h.memr k.root hm hg
  ·rw [k.memo c hc] at hl;rw [k.heap] at hg;split at hg
   ·rename_i he;subst he;injection hg with hg; injection hg with _ _ h3;subst h3;rcases k.next with ⟨h0,_⟩ | ⟨_,_,_,_,_,h2⟩
    ·have:=h.ml _ _ _ hl hx; omega
    ·exact absurd (h.memc _ _ _ _ _ _ _ _ hl hx h2).symm hc
   ·split at hg
    ·obtain⟨y,hy,hd⟩:=fQ hg;cases y with
     | row cells2 e2 c2 st2 ok2=>simp [jx] at hd; rw [hd.2.2.1]; exact h.memc _ _ _ _ _ _ _ _ hl hx hy
     | map es q=>simp [jx] at hd
     | iter s p=>simp [jx] at hd
    ·exact h.memc _ _ _ _ _ _ _ _ hl hx hg
 ·intro x cells e' c st' ok hx;have hroot:∀c0,(∃cells' e' st' ok',A.heap.get c0=some (.row cells' e' c0 st' ok'))→∃cells' e' st' ok',A'.heap.get c0=some (.row cells' e' c0 st' ok'):=by
   rintro c0 ⟨a1,a2,a3,a4,h4⟩;rw [k.heap];split
   ·rename_i he; subst he;rcases k.next with ⟨h0,_⟩ | ⟨_,_,_,_,_,h2⟩
    ·have:=(h.lt _ _ h4).1; omega
    ·rw [h4] at h2; injection h2 with h2; injection h2 with _ _ h3; subst h3; exact⟨_,_,_,_,rfl⟩
   ·split
    ·rw [h4]; exact⟨_,_,_,_,rfl⟩
    ·exact⟨_,_,_,_,h4⟩
  rw [k.heap] at hx;split at hx
  ·injection hx with hx; injection hx with _ _ h3; subst h3; exact hroot _ k.root
  ·split at hx
   ·obtain⟨y,hy,hd⟩:=fQ hx;cases y with
    | row cells2 e2 c2 st2 ok2=>simp [jx] at hd; rw [hd.2.2.1]; exact hroot _ (h.root _ _ _ _ _ _ hy)
    | map es q=>simp [jx] at hd
    | iter s p=>simp [jx] at hd
   ·exact hroot _ (h.root _ _ _ _ _ _ hx)
 ·intro c l x hl hx;by_cases hc:c=cls
  ·subst hc;rcases k.meml _ _ hl hx with rfl | hm
   ·exact hb
   ·have:=h.meml k.root hm; omega
  ·rw [k.memo c hc] at hl;have:=h.ml _ _ _ hl hx; omega
 ·intro c l hl;by_cases hc:c=cls
  ·subst hc; omega
  ·rw [k.memo c hc] at hl; have:=h.old _ _ hl; omega
 ·intro c l hl;by_cases hc:c=cls
  ·subst hc; omega
  ·rw [k.fzo c hc] at hl; have:=h.fz _ _ hl; omega
theorem iv {β:Type}{a b c:β}{t:Bool} (h:(Bool.rec a b t:β)=c):(t=false∧a=c)∨(t=true∧b=c):=by cases t; exact .inl ⟨rfl,h⟩; exact .inr ⟨rfl,h⟩
theorem aI {β:Type}{b:Option β}{c:β}{t:Bool} (h:(Bool.rec none b t:Option β)=some c):t=true∧b=some c:=by
 cases t
 ·cases h
 ·exact⟨rfl,h⟩
structure HE (A A':AS) (b off:Nat) (vs cells:List Value) (e cls st:Nat) (K:List Nat):Prop where
 row:A.heap.get b=some (.row cells e cls st true)
 len:off + vs.length≤cells.length
 fz:wJ A cls (st + off)=true
 one:vs.all nE=true
 wr:Wr A A' b cls (cells.take off ++ (vs ++ cells.drop (off + vs.length))) e st K
 fze:A'.fz=A.fz
 all:∀x cs' e' st',x≠b→A.heap.get x=some (.row cs' e' cls st' true)→x∈K
theorem wu {A A':AS}{b off:Nat}{vs:List Value} (hi:cT A) (hn:A.next≤A.next) (h:FQ A b off vs=some A'):∃cells e cls st K,HE A A' b off vs cells e cls st K:=by
 unfold FQ at h;split at h
 ·rename_i cells e cls st hb;unfold FI at h;obtain⟨hc,h⟩:=aI h;rw [cA] at h;injection h with h;simp only [Bool.and_eq_true] at hc;obtain⟨hlen,hfz,hone⟩:=hc;have hlen':off + vs.length≤cells.length:=Nat.le_of_ble_eq_true hlen;have hroot:=hi.root _ _ _ _ _ _ hb;have hbl:=(hi.lt _ _ hb).1;have hcl:cls < A.next:=(hi.lt _ _ hb).2;have hf:kC b:=tK (by omega);have hfc:kC cls:=tK (by omega);have hmb:=hi.mem _ _ _ _ _ hb;cases hm:A.mem.get cls with
  | none=>
   have hone1:∀x cs' e' st',A.heap.get x=some (.row cs' e' cls st' true)→x=cls:=by
    intro x cs' e' st' hx;have:=hi.mem _ _ _ _ _ hx;unfold dm at this;rw [hm] at this;simpa using this
   have hbc:b=cls:=hone1 _ _ _ _ hb;refine⟨cells,e,cls,st,[],⟨hb,hlen',hfz,hone,?_,?_,?_⟩⟩
   ·have ha:mX A b cls=A:=by unfold mX; rw [hm]
    rw [ha,iU,gU] at h;subst h;refine⟨.inr ⟨rfl,_,_,_,_,hb⟩,hroot,fun x=>?_,fun x hx=>(by cases hx),fun c _=>rfl,?_,?_,?_,fun c _=>rfl,.inl rfl,rfl⟩
    ·rw [Tr.get_set _ _ _ _ hf]; simp
    ·exact hmb
    ·intro x cs' e' st' hne _ hx; exact hi.mem _ _ _ _ _ hx
    ·intro l x hl hx; rw [show ((_:AS).mem.get cls)=A.mem.get cls from rfl,hm] at hl; cases hl
   ·rw [← h]; unfold mX; rw [hm]; rw [iU,gU]
   ·intro x cs' e' st' hne hx; exact absurd ((hone1 _ _ _ _ hx).trans hbc.symm) hne
  | some l=>
   have ha:mX A b cls=vw (kill A (l.filter fun m=>!(Nat.beq m b))) cls [b]:=by unfold mX; rw [hm]
   obtain⟨k1,k2,k3,k4,k5,k6⟩:=Au (l.filter fun m=>!(Nat.beq m b)) (hi.bd hn);rw [ha,sf,iU,gU] at h;have hK:∀x,x∈(l.filter fun m=>!(Nat.beq m b))↔x∈l∧x≠b:=by
    intro x;rw [List.mem_filter];constructor
    ·rintro⟨h1,h2⟩;refine⟨h1,?_⟩;rintro rfl;simp at h2
    ·rintro⟨h1,h2⟩;refine⟨h1,?_⟩;cases hbq:Nat.beq x b with
     | false=>rfl
     | true=>exact absurd (Nat.eq_of_beq_eq_true hbq) h2
   refine⟨cells,e,cls,st,l.filter fun m=>!(Nat.beq m b),⟨hb,hlen',hfz,hone,?_,?_,?_⟩⟩
   ·subst h;refine⟨.inr ⟨k2,_,_,_,_,hb⟩,hroot,fun x=>?_,fun x hx=>?_,fun c hc=>?_,?_,?_,?_,fun c _=>by rw [show ((_:AS).fz)=(kill A (l.filter fun m=>!(Nat.beq m b))).fz from rfl,k4],.inl k5,by show (kill A _).w ||| _=_; rw [k6]⟩
    ·rw [Tr.get_set _ _ _ _ hf];split
     ·rfl
     ·exact k1 x
    ·unfold dm; rw [hm]; exact ((hK x).1 hx).1
    ·show (Tr.set [b] 40 (kill A _).mem cls).get c=_;rw [Tr.get_set _ _ _ _ hfc,if_neg hc,k3]
    ·show b∈((Tr.set [b] 40 (kill A _).mem cls).get cls).getD [cls];rw [Tr.get_set _ _ _ _ hfc,if_pos rfl];simp
    ·intro x cs' e' st' hne hk hx;have:=hi.mem _ _ _ _ _ hx;unfold dm at this;rw [hm] at this;exact absurd ((hK x).2 ⟨this,hne⟩) hk
    ·intro l' x hl hx;rw [show ((_:AS).mem.get cls)=(Tr.set [b] 40 (kill A (l.filter fun m=>!(Nat.beq m b))).mem cls).get cls from rfl,Tr.get_set _ _ _ _ hfc,if_pos rfl] at hl;injection hl with hl;subst hl;simp at hx;exact .inl hx
   ·subst h; exact k4
   ·intro x cs' e' st' hne hx;have:=hi.mem _ _ _ _ _ hx;unfold dm at this;rw [hm] at this;exact (hK x).2 ⟨this,hne⟩
 ·cases h
structure yB (A A':AS) (off len n es:Nat) (xs cells:List Value) (e cls st:Nat) (K:List Nat):Prop where
 old:((cells.drop off).take (len * es)).length=len * es
 fz:wJ A cls (st + off + len * es)=true
 one:xs.all nE=true
 al:es ∣ off
 wr:Wr A A' A.next cls ((cells.drop off).take (len * es) ++ xs) e (st + off) K
 fze:A'.fz=A.fz
 all:∀x cs' e' st',x ∉ K→A.heap.get x=some (.row cs' e' cls st' true)→st' + cs'.length≤st + off + len * es
 bit:A'.r=A.r ||| (1 <<< cls)
 only:∀x∈K,∀cs' e' c' st' ok',A.heap.get x=some (.row cs' e' c' st' ok')→st + off + len * es < st' + cs'.length
theorem B9 {A A':AS}{b off len n es e cls st:Nat}{cells xs:List Value}{nx:dX} (hi:cT A) (hn:A.next + 1≤A.next + 1) (hb:A.heap.get b=some (.row cells e cls st true))
  (h:uE A off len n es e cls st cells xs=some (nx,A')):nx=.val (.slice (some ⟨A.next,0,none⟩) (len + n) (len + n))∧∃K,yB A A' off len n es xs cells e cls st K:=by
 unfold uE at h;rw [cA,ci] at h;obtain⟨hc,h⟩:=aI h;rw [cA] at h;simp only [Bool.and_eq_true] at hc;obtain⟨hold,hfz,hal,hone⟩:=hc;have hold':((cells.drop off).take (len * es)).length=len * es:=Nat.eq_of_beq_eq_true hold;obtain⟨k1,k2,k3,k4,k5,k6⟩:=Au ((dm A cls).filter (fP A (st + off + len * es))) (hi.bd (by omega));have hroot:=hi.root _ _ _ _ _ _ hb;have hcl:cls < A.next:=(hi.lt _ _ hb).2;have hfc:kC cls:=tK (by omega);have hfn:kC A.next:=tK (by omega);have hp:pm (kill A ((dm A cls).filter (fP A (st + off + len * es)))) ((cells.drop off).take (len * es) ++ xs) e cls (st + off) ((dm A cls).filter fun m=>!(fP A (st + off + len * es) m)) (len + n) =
   some (.val (.slice (some ⟨A.next,0,none⟩) (len + n) (len + n)),⟨Tr.set (.row ((cells.drop off).take (len * es) ++ xs) e cls (st + off) true) 40 (kill A ((dm A cls).filter (fP A (st + off + len * es)))).heap A.next,A.next + 1,
    Tr.set (A.next :: (dm A cls).filter fun m=>!(fP A (st + off + len * es) m)) 40 A.mem cls,A.fz,A.r ||| (1 <<< cls),A.w ||| (1 <<< cls)⟩):=by
  generalize hk:kill A ((dm A cls).filter (fP A (st + off + len * es)))=B at *;cases B;simp only at k2 k3 k4 k5 k6;subst k2 k3 k4 k5 k6;unfold pm;simp only [cA,dh,ci,aH,gU]
 rw [show Nat.add (Nat.add st off) (Nat.mul len es)=st + off + len * es from rfl,show Nat.mul len es=len * es from rfl,show Nat.add st off=st + off from rfl,show Nat.add len n=len + n from rfl,hp] at h;injection h with h;injection h with h1 h2;refine⟨h1.symm,(dm A cls).filter (fP A (st + off + len * es)),⟨hold',hfz,hone,Nat.dvd_of_mod_eq_zero (Nat.eq_of_beq_eq_true hal),?_,?_,?_,?_,?_⟩⟩
 ·subst h2;refine⟨.inl ⟨rfl,rfl⟩,hroot,fun x=>?_,fun x hx=>(List.mem_filter.1 hx).1,fun c hc=>?_,?_,?_,?_,fun c _=>rfl,.inr rfl,rfl⟩
  ·show (Tr.set _ 40 _ A.next).get x=_;rw [Tr.get_set _ _ _ _ hfn];split
   ·rfl
   ·exact k1 x
  ·show (Tr.set _ 40 A.mem cls).get c=_;rw [Tr.get_set _ _ _ _ hfc,if_neg hc]
  ·show A.next∈((Tr.set _ 40 A.mem cls).get cls).getD [cls];rw [Tr.get_set _ _ _ _ hfc,if_pos rfl];simp
  ·intro x cs' e' st' hne hk hx;show x∈((Tr.set _ 40 A.mem cls).get cls).getD [cls];rw [Tr.get_set _ _ _ _ hfc,if_pos rfl];have hmx:=hi.mem _ _ _ _ _ hx;simp only [Option.getD_some,List.mem_cons,List.mem_filter];right;refine⟨hmx,?_⟩;cases ht:fP A (st + off + len * es) x with
   | false=>rfl
   | true=>exact absurd (List.mem_filter.2 ⟨hmx,ht⟩) hk
  ·intro l x hl hx;rw [show ((_:AS).mem.get cls)=(Tr.set _ 40 A.mem cls).get cls from rfl,Tr.get_set _ _ _ _ hfc,if_pos rfl] at hl;injection hl with hl;subst hl;simp only [List.mem_cons,List.mem_filter] at hx;exact hx.imp id And.left
 ·subst h2; rfl
 ·intro x cs' e' st' hk hx;have hmx:=hi.mem _ _ _ _ _ hx;cases ht:fP A (st + off + len * es) x with
  | true=>exact absurd (List.mem_filter.2 ⟨hmx,ht⟩) hk
  | false=>
   unfold fP at ht;rw [hx] at ht;have ht':Nat.ble (st + off + len * es).succ (st' + cs'.length)=false:=ht;have h3:¬ (st + off + len * es).succ≤st' + cs'.length:=by
    intro hle;rw [Nat.ble_eq_true_of_le hle] at ht';cases ht'
   omega
 ·subst h2; rfl
 ·intro x hx cs' e' c' st' ok' hg;have ht:=(List.mem_filter.1 hx).2;unfold fP at ht;rw [hg] at ht;exact Nat.lt_of_succ_le (Nat.le_of_ble_eq_true ht)
end Go.EvL
