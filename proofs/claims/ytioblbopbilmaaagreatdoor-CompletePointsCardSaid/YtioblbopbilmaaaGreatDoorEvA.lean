/- An evaluator for closed calls, and its soundness. No statement is proved here. -/
import GoSem.Step
import Derived.Control
import Derived.Orders
import Derived.Lib.FrozenHead
import Derived.Tactics
import Derived.WalkKit
set_option linter.unusedSimpArgs false
set_option linter.unusedVariables false
set_option linter.defProp false
namespace Go.EvL
open Go
inductive Tr (α:Type) where
 | nil
 | node (v:Option α) (l r:Tr α)
noncomputable def dH {β:Type} (n:Nat) (k:Nat→β):β:=Nat.rec (k 0) (fun m _=>k (Nat.succ m)) n
noncomputable def cG {α β:Type} (t:Tr α) (k:Tr α→β):β:=Tr.rec (motive:=fun _=>β) (k .nil) (fun v l r _ _=>k (.node v l r)) t
noncomputable def eW {α β:Type} (l:List α) (k:List α→β):β:=
 List.rec (motive:=fun _=>(List α→β)→β) (fun k=>k []) (fun a _ ih k=>ih fun l=>k (a :: l)) l k
noncomputable def Tr.get {α:Type} (t:Tr α):Nat→Option α:=
 Tr.rec (motive:=fun _=>Nat→Option α) (fun _=>none) (fun v _ _ gl gr n=>Nat.rec v (fun m _=>Nat.rec (gl (Nat.div m 2)) (fun _ _=>gr (Nat.div m 2)) (Nat.mod m 2)) n) t
noncomputable def wu {α:Type} (a:α) (ih:Tr α→Nat→Tr α) (n:Nat):Tr α:=
 Nat.rec (.node (some a) .nil .nil) (fun m _=>Nat.rec (cG (ih .nil (Nat.div m 2)) fun l=>.node none l .nil) (fun _ _=>cG (ih .nil (Nat.div m 2)) fun r=>.node none .nil r) (Nat.mod m 2)) n
noncomputable def rm {α:Type} (a:α) (ih:Tr α→Nat→Tr α) (n:Nat) (v:Option α) (l r:Tr α):Tr α:=
 Nat.rec (.node (some a) l r) (fun m _=>Nat.rec (cG (ih l (Nat.div m 2)) fun l=>.node v l r) (fun _ _=>cG (ih r (Nat.div m 2)) fun r=>.node v l r) (Nat.mod m 2)) n
noncomputable def Tr.setF {α:Type} (a:α) (f:Nat):Tr α→Nat→Tr α:=
 Nat.rec (motive:=fun _=>Tr α→Nat→Tr α) (fun t _=>t) (fun _ ih t n=>
  Tr.rec (motive:=fun _=>Tr α) (wu a ih n) (fun v l r _ _=>rm a ih n v l r) t) f
noncomputable def Tr.set {α:Type} (a:α) (_:Nat) (t:Tr α) (n:Nat):Tr α:=Tr.setF a (Nat.succ n) t n
noncomputable def ru (l:List UInt8):List UInt8→Bool:=
 List.rec (motive:=fun _=>List UInt8→Bool) (fun r=>List.rec true (fun _ _ _=>false) r)
  (fun a _ ih r=>List.rec false (fun b r' _=>Bool.rec false (ih r') (Nat.beq a.toNat b.toNat)) r) l
noncomputable def vM (a b:Nat):Option Value:=dH (Nat.add a b) fun c=>Bool.rec none (some (.int .i64 (.ofNat c))) (Nat.ble c 9223372036854775807)
noncomputable def wh (a b:Nat):Option Value:=Bool.rec none (dH (Nat.sub a b) fun c=>Bool.rec none (some (.int .i64 (.ofNat c))) (Nat.ble c 9223372036854775807)) (Nat.ble b a)
noncomputable def oK (b:Bool):Option Value:=Bool.rec (some (.bool false)) (some (.bool true)) b
noncomputable def jc (op:BinOp) (a b:Nat):Option Value:=
 match op with
 | .eql=>oK (Nat.beq a b)
 | .neq=>oK (!(Nat.beq a b))
 | .lss=>oK (Nat.ble (Nat.succ a) b)
 | .leq=>oK (Nat.ble a b)
 | .gtr=>oK (Nat.ble (Nat.succ b) a)
 | .geq=>oK (Nat.ble b a)
 | _=>none
noncomputable def vH (op:BinOp) (a b:Nat):Option Value:=
 match op with
 | .add=>vM a b
 | .sub=>wh a b
 | o=>jc o a b
noncomputable def wK (op:BinOp) (a b:ByteArray):Option Value:=
 match op with
 | .eql=>oK (ru a.data.toList b.data.toList)
 | .neq=>oK (!(ru a.data.toList b.data.toList))
 | _=>none
noncomputable def sV (op:BinOp) (k k':IntKind) (a b:Nat):Option Value:=
 match k with
 | .i64=>match k' with | .i64=>vH op a b | _=>none
 | .u8=>match k' with | .u8=>jc op a b | _=>none
 | .i32=>match k' with | .i32=>jc op a b | _=>none
 | _=>none
noncomputable def mr (op:BinOp) (x y:Value):Option Value:=
 match x with
 | .int k (.ofNat a)=>match y with
  | .int k' (.ofNat b)=>sV op k k' a b
  | _=>none
 | .string a=>match y with
  | .string b=>wK op a b
  | _=>none
 | _=>none
inductive eD where
 | row (cells:List Value) (elem cls st:Nat) (ok:Bool)
 | map (es:List MapEntry) (clock:Nat)
 | iter (s:ByteArray) (pos:Nat)
structure AS where
 heap:Tr eD
 next:Nat
 mem:Tr (List Nat)
 fz:Tr Nat
 r:Nat
 w:Nat
structure Fr where
 tmps:Tr Value
 n:Nat
 defers:List Deferred
noncomputable def wj (v:Value):Bool:=
 match v with
 | .bool _ | .int _ _ | .string _ | .pointer none | .slice none 0 0 | .map none | .nilFunc | .nilIface=>true
 | _=>false
noncomputable def wn (ih:Value→Bool) (v:Value):Bool:=
 match v with
 | .bool _ | .int _ _ | .string _ | .pointer none | .slice none 0 0 | .map none | .nilFunc | .nilIface=>true
 | .func (.func _) first cap=>first.toList.isEmpty && cap.toList.isEmpty
 | .iface _ v=>ih v
 | .agg cs=>cs.toList.all ih
 | .tuple cs=>cs.toList.all ih
 | _=>false
noncomputable def plain (n:Nat):Value→Bool:=Nat.rec (motive:=fun _=>Value→Bool) wj (fun _ ih v=>wn ih v) n
noncomputable def cF {α:Type} (P:Program) (s:Sem α):Option α:=
 Sem.rec (motive:=fun _=>Option α) (fun a=>some a) (fun _ _ _ _=>none) (fun _ _ _ _ _=>none) (fun _ _ _=>none) (fun _ _ _=>none) (fun _ _ _ _=>none) (fun _ _ _=>none) (fun _ _ _=>none) (fun _ _ _ _=>none) (fun _ _ _=>none) (fun _ _ _=>none) (fun _ ih=>ih P) (fun _ _ ih=>ih) (fun _=>none) s
noncomputable def lA (v:Value):Option Value:=Bool.rec none (some v) (plain 50 v)
noncomputable def Ie (o:Option Value):Option Value:=Option.rec (some undef) (fun v=>some v) o
noncomputable def Fr.eval (f:Fr) (x:Operand):Option Value:=
 Operand.rec (motive:=fun _=>Option Value) (fun t=>Ie (f.tmps.get t)) (fun v=>lA v) (fun _=>none) (fun g=>some (.func (.func g) #[] #[])) x
noncomputable def evalG (P:Program) (f:Fr) (x:Operand):Option Value:=match x with
 | .global g=>Bool.rec none (some (.pointer (some ⟨g,0,none⟩))) (Nat.ble (Nat.succ g) P.globals.size)
 | x=>f.eval x
inductive cu where
 | val (v:Value) | enter (f:FuncId) (args:Array Value) | dfr (d:Deferred) | recover | panic (v:Value)
inductive fR where
 | ret (v:Value) | panic (v:Value)
inductive dF where
 | normal | exit (id:Nat) | goto (l:Nat) | ret | panic (v:Value)
noncomputable def bO (s:AS) (c:Nat):AS:=AS.rec (fun h n m z r w=>dH (Nat.lor r (Nat.shiftLeft 1 c)) fun r=>⟨h,n,m,z,r,w⟩) s
noncomputable def lF (s:AS) (c:Nat):AS:=AS.rec (fun h n m z r w=>dH (Nat.lor w (Nat.shiftLeft 1 c)) fun w=>⟨h,n,m,z,r,w⟩) s
noncomputable def AS.put (s:AS) (b:Nat) (o:eD):AS:=AS.rec (fun h n m z r w=>cG (Tr.set o 40 h b) fun h=>⟨h,n,m,z,r,w⟩) s
noncomputable def AS.new (s:AS) (o:Nat→eD):AS:=AS.rec (fun h n m z r w=>cG (Tr.set (o n) 40 h n) fun h=>dH (Nat.lor w (Nat.shiftLeft 1 n)) fun w=>dH (Nat.add n 1) fun n=>⟨h,n,m,z,r,w⟩) s
noncomputable def newRow (s:AS) (cells:List Value) (elem:Nat):AS:=eW cells fun cells=>s.new fun b=>.row cells elem b 0 true
noncomputable def Ku (s:AS) (cells:List Value) (off n cls:Nat):Option (List Value × AS):=
 eW ((cells.drop off).take n) fun xs=>Bool.rec none (some (xs,bO s cls)) (Nat.beq xs.length n)
noncomputable def ld (s:AS) (b off n:Nat):Option (List Value × AS):=
 match s.heap.get b with
 | some (.row cells _ cls _ true)=>Ku s cells off n cls
 | _=>none
noncomputable def jm (s:AS) (b:Nat):AS:=
 match s.heap.get b with
 | some (.row cells e c st _)=>s.put b (.row cells e c st false)
 | _=>s
noncomputable def kill (s:AS) (l:List Nat):AS:=List.rec (motive:=fun _=>AS→AS) (fun s=>s) (fun b _ ih s=>ih (jm s b)) l s
noncomputable def co (s:AS) (c:Nat):List Nat:=(s.mem.get c).getD [c]
noncomputable def tV (s:AS) (c:Nat) (l:List Nat):AS:=AS.rec (fun h n m z r w=>cG (Tr.set l 40 m c) fun m=>⟨h,n,m,z,r,w⟩) s
noncomputable def nb (s:AS) (c:Nat) (k:Nat):AS:=AS.rec (fun h n m z r w=>cG (Tr.set k 40 z c) fun z=>⟨h,n,m,z,r,w⟩) s
noncomputable def lD (s:AS) (b cls:Nat):AS:=
 match s.mem.get cls with
 | none=>s
 | some l=>tV (kill s (l.filter fun m=>!(Nat.beq m b))) cls [b]
noncomputable def nF (v:Value):Bool:=match v with
 | .agg _ | .tuple _=>false
 | _=>true
noncomputable def um (s:AS) (cls k:Nat):Bool:=
 match s.fz.get cls with
 | none=>true
 | some h=>Nat.ble h k
noncomputable def jr (s:AS) (cls:Nat):Bool:=
 match s.fz.get cls with
 | none=>true
 | some h=>Nat.ble h 18446744073709551616
noncomputable def D9 (s:AS) (b off:Nat) (vs cells:List Value) (e cls st:Nat):Option AS:=
 Bool.rec none (eW (cells.take off ++ (vs ++ cells.drop (Nat.add off vs.length))) fun cs=>some (lF ((lD s b cls).put b (.row cs e cls st true)) cls))
  (Nat.ble (Nat.add off vs.length) cells.length && (um s cls (Nat.add st off) && vs.all nF))
noncomputable def Ea (s:AS) (b off:Nat) (vs:List Value):Option AS:=
 match s.heap.get b with
 | some (.row cells e cls st true)=>D9 s b off vs cells e cls st
 | _=>none
noncomputable def jI:Option TypeDesc→Bool
 | some (.struct _) | some (.array _ _)=>true
 | _=>false
noncomputable def bP (P:Program) (t:TypeId):Option Nat:=(P.info? t).map (·.size)
noncomputable def gG:Value→Option Nat
 | .int _ (.ofNat n)=>some n
 | _=>none
abbrev eI:=Option (cu × AS)
noncomputable def lK (s:AS) (o:Option Value):eI:=Option.rec none (fun v=>some (.val v,s)) o
noncomputable def ek (s:AS) (en m:Nat):Bool:=
 match s.heap.get m with
 | some (.row c _ _ st' _)=>Nat.ble (Nat.succ en) (Nat.add st' c.length)
 | _=>true
noncomputable def my (s:AS) (cells:List Value) (e cls st:Nat) (ms:List Nat) (n:Nat):eI:=
 AS.rec (fun h b m z r w=>eW cells fun cells=>cG (Tr.set (.row cells e cls st true) 40 h b) fun h=>cG (Tr.set (b :: ms) 40 m cls) fun m=>dH (Nat.add b 1) fun b'=>
  some (.val (.slice (some ⟨b,0,none⟩) n n),lF (bO ⟨h,b',m,z,r,w⟩ cls) cls)) s
noncomputable def sE (s:AS) (off len n es e cls st:Nat) (cells xs:List Value):eI:=
 eW ((cells.drop off).take (Nat.mul len es)) fun old=>
 dH (Nat.add (Nat.add st off) (Nat.mul len es)) fun en=>
 Bool.rec none
  (eW ((co s cls).filter (ek s en)) fun long=>
   my (kill s long) (old ++ xs) e cls (Nat.add st off) ((co s cls).filter fun m=>!(ek s en m)) (Nat.add len n))
  (Nat.beq old.length (Nat.mul len es) && (um s cls en && (Nat.beq (Nat.mod off es) 0 && xs.all nF)))
noncomputable def Jr (s:AS) (off len n es e cls:Nat) (cells xs:List Value):eI:=
 eW ((cells.drop off).take (Nat.mul len es)) fun old=>
 Bool.rec none (some (.val (.slice (some ⟨s.next,0,none⟩) (Nat.add len n) (Nat.add len n)),newRow (bO s cls) (old ++ xs) e)) (Nat.beq old.length (Nat.mul len es))
noncomputable def oY (e:TypeId) (s:AS) (base:Option Addr) (len n es:Nat) (xs:List Value):eI:=
 match base with
 | none=>Bool.rec none (some (.val (.slice (some ⟨s.next,0,none⟩) n n),newRow s xs e)) (Nat.beq len 0)
 | some ⟨b,off,none⟩=>match s.heap.get b with
  | some (.row cells e' cls st true)=>Bool.rec none (sE s off len n es e cls st cells xs) (Nat.beq e' e)
  | _=>none
 | some ⟨b,off,some 0⟩=>match s.heap.get b with
  | some (.row cells _ cls _ true)=>Jr s off len n es e cls cells xs
  | _=>none
 | _=>none
noncomputable def uT (i:TypeInfo) (es len n:Nat) (xs:List Value):Bool:=
 match i.zero with
 | some z=>!(Nat.beq es 0) && (Nat.beq xs.length (Nat.mul n es) && (Nat.ble (Nat.mul (Nat.add len n) i.bytes) 140737488355328 && (Nat.beq z.cells.size es && (Nat.ble (Nat.add len n) 1073741824 && xs.all nF))))
 | none=>false
noncomputable def gZ (P:Program) (e:TypeId) (s:AS) (v:Value) (xs:List Value) (n:Nat):eI:=
 match v with
 | .slice base len _=>match P.info? e with
  | some i=>Nat.rec (some (.val v,s)) (fun _ _=>Bool.rec none (oY e s base len n i.size xs) (uT i i.size len n xs)) n
  | none=>none
 | _=>none
noncomputable def dB (P:Program) (e:TypeId) (t:Option TypeDesc) (s:AS) (x:Value):Option (List Value × Nat × AS):=
 match x,t with
 | .string b,some .string=>match bP P e with
  | some 1=>some (b.data.toList.map (fun c=>.int .u8 (.ofNat c.toNat)),b.size,s)
  | _=>none
 | .slice none 0 _,some (.slice _)=>some ([],0,s)
 | .slice (some ⟨b,off,none⟩) n _,some (.slice _)=>match bP P e with
  | some es=>Nat.rec (some ([],0,s)) (fun _ _=>(ld s b off (Nat.mul n es)).map fun (xs,s)=>(xs,n,s)) n
  | none=>none
 | _,_=>none
noncomputable def dc (l:List Value):Option (List UInt8):=
 List.rec (motive:=fun _=>Option (List UInt8)) (some []) (fun v _ ih=>match v with
  | .int .u8 n=>ih.map (UInt8.ofNat n.toNat :: ·)
  | _=>none) l
noncomputable def jl (f:Fr) (x:Operand):Bool:=match f.eval x with | some v=>plain 50 v | none=>false
noncomputable def gF (s:AS) (n:Option Next):eI:=
 match n with
 | some (.value v)=>Bool.rec none (some (.val v,s)) (plain 50 v)
 | _=>none
noncomputable def dA (P:Program) (f:Fr) (o:Oper) (s:AS):eI:=
 Bool.rec none (gF s (cF P (execOp (fun x=>(f.eval x).getD undef) o))) (o.op.operands.toList.all (jl f))
noncomputable def gh (P:Program) (t:TypeId):Option (Array Field):=match P.underlying t with
 | some (.struct fs)=>some fs
 | _=>none
noncomputable def uY (P:Program) (t:TypeId) (cs:List Value) (off:Nat):Option Value:=
 match P.underlying t with
 | some d=>Bool.rec cs[off]? ((bP P t).map fun n=>.agg ((cs.drop off).take n).toArray) (jI (some d))
 | none=>none
noncomputable def mf (P:Program) (f:FuncId) (args:List Value) (s:AS):eI:=
 match P.funcs[f]? with
 | none=>none
 | some fn=>match fn.body with
  | some _=>some (.enter f args.toArray,s)
  | none=>Bool.rec
   (Bool.rec none (gF s (cF P (callFunc f args.toArray))) (args.all (plain 50)))
   (match args with | [v]=>some (.val v,s) | _=>none) (fn.name == "internal/abi.NoEscape")
noncomputable def y6 (d:TypeDesc) (k:Value):Bool:=match d,k with
 | .int _,.int _ _=>true
 | .string,.string _=>true
 | .bool,.bool _=>true
 | _,_=>false
noncomputable def D6 (P:Program) (kt:TypeId) (k:Value) (es:List MapEntry):Option (Option (Nat × Value)):=
 match P.underlying kt with
 | some d=>Bool.rec none (Instr.findNow d k es 0) (y6 d k)
 | none=>none
noncomputable def dR (P:Program) (t:TypeId):Option Value:=match (P.info? t).bind (·.zero) with
 | some z=>lA z
 | none=>none
noncomputable def iq (f:Fr) (l:List Operand):Option (List Value):=
 List.rec (motive:=fun _=>Option (List Value)) (some []) (fun x _ ih=>match f.eval x with
  | some v=>match ih with | some vs=>some (v :: vs) | none=>none
  | none=>none) l
noncomputable def iH (f:Fr) (l:List (Nat × Operand)):Option (List (Nat × Value)):=
 List.rec (motive:=fun _=>Option (List (Nat × Value))) (some []) (fun x _ ih=>match f.eval x.2 with
  | some v=>match ih with | some vs=>some ((x.1,v) :: vs) | none=>none
  | none=>none) l
noncomputable def qY (s:AS) (e:TypeId) (v:Option Value):eI:=match v with
 | some v=>some (.val (.pointer (some ⟨s.next,0,none⟩)),newRow s v.cells.toList e)
 | none=>none
noncomputable def lG (P:Program) (f:Fr) (t:TypeId) (parts:Array (Nat × Operand)) (s:AS):eI:=
 match dR P t,P.underlying t,iH f parts.toList with
 | some z,some (.struct fs),some ps=>Bool.rec none ((Instr.fill (fun i=>(fs[i]?).bind fun fl=>(bP P fl.type).map fun n=>(fl.offset,n)) z.cells ps).map fun cs=>(.val (.agg cs),s)) (Nat.ble (Nat.succ t) P.types.size)
 | some z,some (.array _ e),some ps=>(bP P e).bind fun n=>(Instr.fill (fun i=>some (i * n,n)) z.cells ps).map fun cs=>(.val (.agg cs),s)
 | _,_,_=>none
noncomputable def ei (P:Program) (f:Fr) (t:TypeId) (len:Nat) (parts:Array (Nat × Operand)) (s:AS):eI:=
 match P.underlying t with
 | some (.slice e)=>match dR P e,bP P e,iH f parts.toList with
  | some z,some n,some ps=>if Nat.ble (Nat.mul len n) 1048576 && Nat.beq z.cells.toList.length n then
    (Instr.fill (fun i=>some (i * n,n)) (List.replicate len z.cells.toList).flatten.toArray ps).map fun cs=>(.val (.slice (some ⟨s.next,0,none⟩) len len),newRow s cs.toList e) else none
  | _,_,_=>none
 | _=>none
noncomputable def tM (r:Option (List Value × AS)):eI:=match r with
 | some ([v],s)=>some (.val v,s)
 | _=>none
noncomputable def tP (r:Option (List Value × AS)):eI:=match r with
 | some (xs,s)=>some (.val (.agg xs.toArray),s)
 | _=>none
noncomputable def kY (P:Program) (t:TypeId) (d:TypeDesc) (b off:Nat) (s:AS):eI:=
 Bool.rec (tM (ld s b off 1)) (match bP P t with | some n=>tP (ld s b off n) | none=>none) (jI (some d))
noncomputable def m7 (P:Program) (t:TypeId) (a:Option Value) (s:AS):eI:=
 match a with
 | some (.pointer (some ⟨b,off,none⟩))=>match P.underlying t with
  | some d=>kY P t d b off s
  | none=>none
 | _=>none
noncomputable def B7 (o:Option AS):eI:=match o with | some s=>some (.val undef,s) | none=>none
noncomputable def mc (P:Program) (t:TypeId) (a x:Option Value) (s:AS):eI:=
 match a with
 | some (.pointer (some ⟨b,off,none⟩))=>match x with
  | some v=>match bP P t with
   | some n=>Bool.rec none (B7 (Ea s b off v.cells.toList)) (Nat.beq v.cells.size n)
   | none=>none
  | none=>none
 | _=>none
noncomputable def iI (P:Program) (f:Fr) (o:Oper) (x:Option Value) (s:AS):eI:=
 match x with
 | some (.pointer (some a))=>some (.val (.pointer (some a)),s)
 | some (.func (.func g) x y)=>some (.val (.func (.func g) x y),s)
 | _=>dA P f o s
noncomputable def nH (P:Program) (t:TypeId) (x:Option Value) (s:AS):eI:=
 match x with
 | some v=>match P.underlying t with
  | some (.interface _)=>none
  | some _=>some (.val (.iface t v),s)
  | none=>none
 | none=>none
noncomputable def s6 (f:Fr) (fn:Fn) (first cap:Array Operand) (s:AS):eI:=
 match fn with
 | .func g=>match iq f first.toList with
  | some a=>match iq f cap.toList with
   | some b=>some (.val (.func (.func g) a.toArray b.toArray),s)
   | none=>none
  | none=>none
 | _=>none
noncomputable def fH (f:Fr) (x:Option Operand) (d:Nat):Option Nat:=match x with
 | none=>some d
 | some l=>match f.eval l with | some v=>gG v | none=>none
noncomputable def kI (b off l h m cap n:Nat) (s:AS):eI:=
 Bool.rec none (some (.val (.slice (some ⟨b,Nat.add off (Nat.mul l n),none⟩) (Nat.sub h l) (Nat.sub m l)),s)) (Nat.ble l h && (Nat.ble h m && Nat.ble m cap))
noncomputable def o7 (P:Program) (s:AS) (b n:Nat):Option Nat:=
 match s.heap.get b with
 | some (.row _ e c _ true)=>match bP P e with
  | some m=>Bool.rec none (some c) (Nat.beq m n)
  | none=>none
 | _=>none
noncomputable def sliceAt (P:Program) (b off l h m cap n:Nat) (s:AS):eI:=match o7 P s b n with
 | some c=>kI b off l h m cap n (bO s c)
 | none=>none
noncomputable def sliceX (b off l h m cap n:Nat) (s:AS):eI:=
 Bool.rec none (some (.val (.slice (some ⟨b,Nat.add off (Nat.mul l n),some 0⟩) (Nat.sub h l) (Nat.sub h l)),s)) (Nat.ble l h && (Nat.beq h m && Nat.ble m cap))
noncomputable def ga (P:Program) (b off l h m cap n:Nat) (s:AS):eI:=match o7 P s b n with
 | some c=>Bool.rec (kI b off l h m cap n (bO s c)) (sliceX b off l h m cap n (bO s c)) (Nat.beq h m)
 | none=>none
noncomputable def ou (b:ByteArray) (l h:Nat) (s:AS):eI:=
 Bool.rec none (eW ((b.data.toList.drop l).take (Nat.sub h l)) fun xs=>some (.val (.string ⟨⟨xs⟩⟩),s)) (Nat.ble l h && Nat.ble h b.data.toList.length)
noncomputable def dz (P:Program) (f:Fr) (o:Oper) (t:TypeId) (x:Option Value) (lo hi mx:Option Operand) (s:AS):eI:=
 match x with
 | some (.slice (some ⟨b,off,none⟩) len cap)=>match P.underlying t with
  | some (.slice e)=>match fH f lo 0,fH f hi len,fH f mx cap,bP P e with
   | some l,some h,some m,some n=>Option.rec (sliceAt P b off l h m cap n s) (fun _=>ga P b off l h m cap n s) mx
   | _,_,_,_=>none
  | _=>none
 | some (.slice none 0 0)=>match P.underlying t,fH f lo 0,fH f hi 0,fH f mx 0 with
  | some (.slice e),some 0,some 0,some 0=>match bP P e with
   | some _=>some (.val (.slice none 0 0),s)
   | none=>none
  | _,_,_,_=>dA P f o s
 | some (.string b)=>match P.underlying t with
  | some .string=>match fH f lo 0,fH f hi b.data.toList.length,mx with
   | some l,some h,none=>ou b l h s
   | _,_,_=>none
  | _=>none
 | _=>dA P f o s
noncomputable def fK (P:Program) (t:TypeId) (x:Option Value) (i:Nat) (s:AS):eI:=
 match x with
 | some (.pointer (some ⟨b,off,none⟩))=>match gh P t with
  | some fs=>match fs[i]? with
   | some fl=>match bP P fl.type with
    | some (_ + 1)=>some (.val (.pointer (some ⟨b,Nat.add off fl.offset,none⟩)),s)
    | _=>none
   | none=>none
  | none=>none
 | _=>none
noncomputable def nj (P:Program) (t:TypeId) (x:Option Value) (i:Nat) (s:AS):eI:=
 match x with
 | some (.agg cs)=>match gh P t with
  | some fs=>match fs[i]? with
   | some fl=>lK s (uY P fl.type cs.toList fl.offset)
   | none=>none
  | none=>none
 | _=>none
noncomputable def nJ (P:Program) (b off len i:Nat) (e:TypeId) (s:AS):eI:=
 match bP P e with
 | some n=>Bool.rec none (some (.val (.pointer (some ⟨b,Nat.add off (Nat.mul i n),none⟩)),s)) (Nat.ble (Nat.succ i) len)
 | none=>none
noncomputable def ew (P:Program) (t:TypeId) (x ix:Option Value) (s:AS):eI:=
 match x,P.underlying t,ix.bind gG with
 | some (.slice (some ⟨b,off,none⟩) len _),some (.slice e),some i=>nJ P b off len i e s
 | some (.slice (some ⟨b,off,some 0⟩) len _),some (.slice e),some i=>nJ P b off len i e s
 | some (.pointer (some ⟨b,off,none⟩)),some (.array len e),some i=>nJ P b off len i e s
 | _,_,_=>none
noncomputable def Ch (s:AS) (o:Option UInt8):eI:=match o with
 | some c=>dH c.toNat fun n=>some (.val (.int .u8 (.ofNat n)),s)
 | none=>none
noncomputable def nD (P:Program) (f:Fr) (o:Oper) (t:TypeId) (x ix:Option Value) (s:AS):eI:=
 match x with
 | some (.string b)=>match P.underlying t with
  | some .string=>match ix.bind gG with
   | some i=>Ch s b.data.toList[i]?
   | none=>none
  | _=>none
 | _=>dA P f o s
noncomputable def jY (x:Option Value) (i:Nat) (s:AS):eI:=match x with
 | some (.tuple vs)=>lK s vs.toList[i]?
 | _=>none
noncomputable def UL (ok:Bool) (v:Value) (b:Bool):Value:=Bool.rec v (.tuple #[v,.bool b]) ok
noncomputable def ot (P:Program) (t:TypeId) (x k:Option Value) (ok:Bool) (s:AS):eI:=
 match P.underlying t,x,k with
 | some (.map kt et),some (.map (some b)),some kv=>match s.heap.get b with
  | some (.map es _)=>if plain 50 kv then match D6 P kt kv es with
    | some (some (_,v))=>some (.val (UL ok v true),bO s b)
    | some none=>match dR P et with
     | some z=>some (.val (UL ok z false),bO s b)
     | none=>none
    | none=>none
   else none
  | _=>none
 | _,_,_=>none
noncomputable def iW (P:Program) (t:TypeId) (m k x:Option Value) (s:AS):eI:=
 match P.underlying t,m,k,x with
 | some (.map kt _),some (.map (some b)),some kv,some v=>match s.heap.get b with
  | some (.map es clock)=>if plain 50 kv then match D6 P kt kv es with
    | some none=>some (.val undef,lF (bO (s.put b (.map (es ++ [{ key:=kv,val:=v,born:=clock }]) (clock + 1))) b) b)
    | _=>none
   else none
  | _=>none
 | _,_,_,_=>none
noncomputable def rS (P:Program) (t:TypeId) (x:Option Value) (s:AS):eI:=
 match P.underlying t,x with
 | some .string,some (.string b)=>some (.val (.pointer (some ⟨s.next,0,none⟩)),s.new fun _=>.iter b 0)
 | _,_=>none
noncomputable def Al (b:Nat) (st:ByteArray) (pos:Nat) (s:AS):eI:=
 Bool.rec (some (.val (.tuple #[.bool false]),bO s b))
  (some (.val (.tuple #[.bool true,.int .i64 (.ofNat pos),.int .i32 (Utf8.decode st pos).1]),lF (bO (s.put b (.iter st (Nat.add pos (Utf8.decode st pos).2))) b) b)) (Nat.ble (Nat.succ pos) st.size)
noncomputable def xX (it:Option Value) (isS:Bool) (s:AS):eI:=
 match it,isS with
 | some (.pointer (some ⟨b,0,none⟩)),true=>match s.heap.get b with
  | some (.iter st pos)=>Al b st pos s
  | _=>none
 | _,_=>none
noncomputable def l6 (P:Program) (x:Option Value) (asserted:TypeId) (ok:Bool) (s:AS):eI:=
 match x,P.underlying asserted,ok with
 | _,some (.interface _),_=>none
 | some (.iface t v),some _,true=>Bool.rec (match dR P asserted with | some z=>some (.val (.tuple #[z,.bool false]),s) | none=>none) (some (.val (.tuple #[v,.bool true]),s)) (Nat.beq t asserted)
 | _,_,_=>none
noncomputable def u5 (op:BinOp) (b:Bool) (s:AS):eI:=match op with
 | .eql=>some (.val (.bool b),s)
 | .neq=>some (.val (.bool (!b)),s)
 | _=>none
noncomputable def rt (P:Program) (op:BinOp) (e:TypeId) (a b:Addr) (s:AS):eI:=match bP P e with
 | some (_ + 1)=>Bool.rec none (u5 op (Nat.beq a.off b.off) s) (Nat.beq a.block b.block)
 | _=>none
noncomputable def kF (P:Program) (f:Fr) (o:Oper) (op:BinOp) (t:TypeId) (x y:Value) (s:AS):eI:=
 match x,y,P.underlying t with
 | .pointer (some _),.pointer none,some (.pointer _)=>u5 op false s
 | .iface _ _,.nilIface,some (.interface _)=>u5 op false s
 | .slice (some _) _ _,.slice none _ _,some (.slice _)=>u5 op false s
 | .pointer (some ⟨a,i,none⟩),.pointer (some ⟨b,j,none⟩),some (.pointer e)=>rt P op e ⟨a,i,none⟩ ⟨b,j,none⟩ s
 | _,_,_=>dA P f o s
noncomputable def uk (P:Program) (f:Fr) (o:Oper) (op:BinOp) (t:TypeId) (x y:Option Value) (s:AS):eI:=
 match x with
 | some a=>match y with
  | some b=>match mr op a b with
   | some v=>some (.val v,s)
   | none=>kF P f o op t a b s
  | none=>none
 | none=>none
noncomputable def sJ (b off n:Nat) (s:AS):eI:=
 Nat.rec (some (.val (.string ⟨#[]⟩),s)) (fun _ _=>match ld s b off n with
    | some (xs,s)=>match dc xs with
     | some l=>eW l fun l=>some (.val (.string ⟨⟨l⟩⟩),s)
     | none=>none
    | none=>none) n
noncomputable def nU (P:Program) (t:TypeId) (b off:Nat) (s:AS):eI:=match bP P t with
 | some (_ + 1)=>match s.heap.get b with
  | some (.row cells _ c _ true)=>Bool.rec none (some (.val (.pointer (some ⟨b,off,none⟩)),bO s c)) (Nat.ble (Nat.succ off) cells.length)
  | _=>none
 | _=>none
noncomputable def CC (P:Program) (e u r:Nat):Bool:=match P.underlying e with
 | some (.struct fs)=>!P.stoodInHeld e && fs.toList.any fun f=>Nat.beq f.offset r && Nat.beq f.type u
 | _=>false
noncomputable def C2 (P:Program) (e u off len:Nat):Bool:=match bP P e with
 | some (m + 1)=>CC P e u (Nat.mod off (m + 1)) && Nat.ble (Nat.mul (Nat.add (Nat.div off (m + 1)) 1) (m + 1)) len
 | _=>false
noncomputable def pE (P:Program) (e u off n len:Nat):Bool:=
 Bool.rec (C2 P e u off len) true (Nat.beq e u && (Nat.beq (Nat.mod off (n + 1)) 0 && Nat.ble (Nat.add off (n + 1)) len))
noncomputable def kK (P:Program) (u:TypeId) (b off:Nat) (s:AS):eI:=match bP P u with
 | some (n + 1)=>match s.heap.get b with
  | some (.row cells e c _ true)=>Bool.rec none (some (.val (.pointer (some ⟨b,off,none⟩)),bO s c)) (pE P e u off n cells.length && jr s c)
  | _=>none
 | _=>none
noncomputable def mI (P:Program) (f:Fr) (o:Oper) (src dst:TypeId) (a:Option Addr) (s:AS):eI:=match a with
 | some ⟨b,off,none⟩=>match P.underlying src,P.underlying dst with
  | some (.pointer t),some .unsafePointer=>nU P t b off s
  | some .unsafePointer,some (.pointer u)=>kK P u b off s
  | _,_=>none
 | _=>dA P f o s
noncomputable def om (e:TypeId) (b:ByteArray) (s:AS):eI:=
 dH b.data.toList.length fun n=>Bool.rec none (some (.val (.slice (some ⟨s.next,0,none⟩) n n),lF (bO (nb (newRow s (b.data.toList.map fun c=>.int .u8 (.ofNat c.toNat)) e) s.next 18446744073709551616) s.next) s.next)) (Nat.ble n 1073741824)
noncomputable def l7 (P:Program) (f:Fr) (o:Oper) (src dst:TypeId) (x:Option Value) (s:AS):eI:=
 match x with
 | some (.slice (some ⟨b,off,none⟩) n _)=>match P.underlying src,P.underlying dst with
  | some (.slice e),some .string=>match P.underlying e with
   | some (.int .u8)=>sJ b off n s
   | _=>none
  | _,_=>none
 | some (.pointer a)=>mI P f o src dst a s
 | some (.string b)=>match P.underlying dst with
  | some (.slice e)=>match P.underlying src,P.underlying e,bP P e with
   | some .string,some (.int .u8),some 1=>om e b s
   | _,_,_=>none
  | _=>dA P f o s
 | _=>dA P f o s
noncomputable def vt (b:Nat) (s:AS):eI:=match s.heap.get b with
 | some (.map es _)=>dH es.length fun n=>some (.val (.int .i64 (.ofNat n)),bO s b)
 | _=>none
noncomputable def BG (P:Program) (f:Fr) (o:Oper) (t:Option TypeDesc) (x:Option Value) (s:AS):eI:=match t,x with
 | some (.slice _),some (.slice _ n _)=>some (.val (.int .i64 (.ofNat n)),s)
 | some .string,some (.string b)=>dH b.data.toList.length fun n=>some (.val (.int .i64 (.ofNat n)),s)
 | some (.map _ _),some (.map (some b))=>vt b s
 | _,_=>dA P f o s
noncomputable def Ez (P:Program) (t0 t1:Option TypeDesc) (v x:Option Value) (s:AS):eI:=
 match t0,v,x with
 | some (.slice e),some v,some x=>match dB P e t1 s x with
  | some (xs,n,s)=>gZ P e s v xs n
  | none=>none
 | _,_,_=>none
noncomputable def Mr (base:Option Addr) (m:Nat) (xs:List Value) (s:AS):eI:=
 Nat.rec (some (.val (.int .i64 (.ofNat 0)),s)) (fun k _=>match base with
  | some ⟨b,off,none⟩=>match Ea s b off xs with
   | some s=>some (.val (.int .i64 (.ofNat (Nat.add k 1))),s)
   | none=>none
  | _=>none) m
noncomputable def qH (P:Program) (t0 t1:Option TypeDesc) (v x:Option Value) (s:AS):eI:=
 match t0,v,x with
 | some (.slice e),some (.slice base len _),some x=>match dB P e t1 s x,P.info? e with
  | some (xs,m,s),some i=>Bool.rec none (Mr base m xs s) (Nat.ble m len && (Nat.beq xs.length (Nat.mul m i.size) && xs.all nF))
  | _,_=>none
 | _,_,_=>none
noncomputable def xw (P:Program) (f:Fr) (o:Oper) (x:Option Value) (s:AS):eI:=match x with
 | some (.slice (some ⟨b,off,none⟩) (_ + 1) _)=>some (.val (.pointer (some ⟨b,off,none⟩)),s)
 | _=>dA P f o s
noncomputable def tL (cells:List Value) (cls st off n:Nat) (s:AS):eI:=
 match dc ((cells.drop off).take n) with
 | some l=>eW l fun l=>Bool.rec none (some (.val (.string ⟨⟨l⟩⟩),lF (bO (nb s cls (max ((s.fz.get cls).getD 0) (st + off + n))) cls) cls)) (Nat.beq l.length n)
 | none=>none
noncomputable def oW (P:Program) (tys:List TypeId) (r:Option eD) (off n:Nat) (s:AS):eI:=match r,tys with
 | some (.row cells e cls st true),[pt,_]=>match P.underlying pt,bP P e with
  | some (.pointer e'),some 1=>Bool.rec none (tL cells cls st off n s) (Nat.beq e e' && (Nat.ble n 1073741824 && jr s cls))
  | _,_=>none
 | _,_=>none
noncomputable def yt (P:Program) (f:Fr) (o:Oper) (tys:List TypeId) (x y:Option Value) (s:AS):eI:=
 match x,y with
 | some (.pointer (some ⟨b,off,none⟩)),some (.int .i64 (.ofNat (n + 1)))=>oW P tys (s.heap.get b) off (n + 1) s
 | _,_=>dA P f o s
noncomputable def jU (P:Program) (f:Fr) (o:Oper) (b:Builtin) (args:List Operand) (tys:List TypeId) (s:AS):eI:=
 match b with
 | .len=>BG P f o ((tys[0]?).bind P.underlying) ((args[0]?).bind f.eval) s
 | .append=>match args,tys with
  | [x,y],[t,u]=>Ez P (P.underlying t) (P.underlying u) (f.eval x) (f.eval y) s
  | _,_=>none
 | .copy=>match args,tys with
  | [x,y],[t,u]=>qH P (P.underlying t) (P.underlying u) (f.eval x) (f.eval y) s
  | _,_=>none
 | .recover=>some (.recover,s)
 | .unsafeSliceData=>match args with
  | [x]=>xw P f o (f.eval x) s
  | _=>none
 | .unsafeString=>match args with
  | [x,y]=>yt P f o tys (f.eval x) (f.eval y) s
  | _=>none
 | _=>dA P f o s
noncomputable def tf (P:Program) (f:Option Value) (as:Option (List Value)) (s:AS):eI:=
 match f,as with
 | some (.func (.func g) first cap),some as=>mf P g (first.toList ++ (as ++ cap.toList)) s
 | _,_=>none
noncomputable def rD (P:Program) (f:Fr) (o:Oper) (c:Call) (s:AS):eI:=
 match c.callee with
 | .value x=>tf P (f.eval x) (iq f c.args.toList) s
 | .builtin b=>jU P f o b c.args.toList c.argTypes.toList s
 | .invoke ..=>none
noncomputable def nO (f:Fr) (c:Call) (s:AS):eI:=match c.callee with
 | .value x=>match f.eval x,iq f c.args.toList with
  | some (.func (.func g) first cap),some as=>some (.dfr { target:=.fn (.func g) cap,args:=(first.toList ++ as).toArray },s)
  | _,_=>none
 | _=>none
noncomputable def qj (x:Option Value) (s:AS):eI:=match x with
 | some (.iface t v)=>some (.panic (.iface t v),s)
 | _=>none
noncomputable def tc (f:Fr) (c:Option Value) (a b:Operand) (s:AS):eI:=match c with
 | some (.bool true)=>lK s (f.eval a)
 | some (.bool false)=>lK s (f.eval b)
 | _=>none
noncomputable def mi (mx hi:Option Operand) (r:eI):eI:=match mx,hi with
 | some _,none=>none
 | _,_=>r
noncomputable def lq (z:List Value) (m n:Nat):List Value:=(List.range n).map fun k=>z.getD (Nat.mod k m) undef
noncomputable def vE (e:TypeId) (l c:Nat) (i:TypeInfo) (z:Value) (s:AS):eI:=
 Bool.rec none (some (.val (.slice (some ⟨s.next,0,none⟩) l c),newRow s (lq z.cells.toList i.size (Nat.mul c i.size)) e))
  (Nat.ble l c && (Nat.ble (Nat.mul i.bytes c) 281474976710656 && (Nat.ble c 1073741824 && (plain 50 z && Nat.beq z.cells.toList.length i.size))))
noncomputable def rQ (P:Program) (t:TypeId) (l c:Option Value) (s:AS):eI:=match P.underlying t,l.bind gG,c.bind gG with
 | some (.slice e),some l,some c=>match P.info? e with
  | some i=>match i.zero with
   | some z=>vE e l c i z s
   | none=>none
  | none=>none
 | _,_,_=>none
noncomputable def aU (P:Program) (f:Fr) (o:Oper) (s:AS):eI:=
 Op.rec (motive:=fun _=>eI)
  (fun x=>lK s (f.eval x)) (fun x=>lK s (f.eval x)) (fun c a b=>tc f (f.eval c) a b s)
  (fun e=>qY s e (dR P e)) (fun e x=>qY s e (f.eval x)) (fun t ps=>lG P f t ps s) (fun t n ps=>ei P f t n ps s) (fun _ _ _ _=>none)
  (fun t a=>m7 P t (evalG P f a) s) (fun t a x=>mc P t (f.eval a) (f.eval x) s) (fun _=>none) (fun _=>none) (fun x=>iI P f o (f.eval x) s)
  (fun op t x y _=>uk P f o op t (f.eval x) (f.eval y) s) (fun _ _ _=>dA P f o s) (fun a b x=>l7 P f o a b (f.eval x) s) (fun _ _=>none) (fun t x=>nH P t (f.eval x) s)
  (fun fn a b=>s6 f fn a b s) (fun _ r=>match r with | none=>some (.val (.map (some s.next)),s.new fun _=>.map [] 0) | some _=>none) (fun _ _=>none) (fun t l c=>rQ P t (f.eval l) (f.eval c) s)
  (fun t x lo hi mx=>mi mx hi (dz P f o t (f.eval x) lo hi mx s)) (fun t x i=>fK P t (evalG P f x) i s) (fun t x i=>nj P t (f.eval x) i s) (fun t x i=>ew P t (evalG P f x) (f.eval i) s) (fun t x i=>nD P f o t (f.eval x) (f.eval i) s)
  (fun t x k ok=>ot P t (f.eval x) (f.eval k) ok s) (fun t m k x=>iW P t (f.eval m) (f.eval k) (f.eval x) s) (fun _ _ _=>none) (fun _ _ _ _=>none)
  (fun t x=>rS P t (f.eval x) s) (fun it b=>xX (f.eval it) b s) (fun _=>none) (fun x _ a ok=>l6 P (f.eval x) a ok s) (fun t i=>jY (f.eval t) i s)
  (fun c=>rD P f o c s) (fun _=>none) (fun c=>nO f c s) (fun x=>qj (f.eval x) s) (fun _ _=>none) (fun _ _ _=>none) (fun _ _=>none) o.op
noncomputable def Fr.put (f:Fr) (d:Option Tmp) (v:Value):Option Fr:=
 Option.rec (some f) (fun d=>Fr.rec (fun t n ds=>Bool.rec none (cG (Tr.set v 40 t d) fun t=>some ⟨t,n,ds⟩) (Nat.ble (Nat.succ d) n)) f) d
noncomputable def CU (v:Value) (want:Bool):Option Bool:=match v with
 | .bool b=>some (b == want)
 | .tuple _=>some false
 | _=>none
noncomputable def t7 (ops:List Oper) (f:Fr) (j:Nat) (want:Bool):Option Bool:=
 match (ops[j]?).bind (·.dst) with
 | some d=>CU ((f.tmps.get d).getD undef) want
 | none=>none
noncomputable def fV (ops:List Oper) (f:Fr) (g:Option (Nat × Bool)):Option Bool:=
 Option.rec (some true) (fun p=>t7 ops f p.1 p.2) g
inductive St where
 | on (f:Fr) (s:AS)
 | up (v:Value) (f:Fr) (s:AS)
 | no
abbrev cV:=FuncId→Array Value→AS→Option (fR × AS)
noncomputable def jB (f:Option Fr) (s:AS):St:=Option.rec .no (fun f=>.on f s) f
noncomputable def jP (f:Fr) (d:Option Tmp) (r:Option (fR × AS)):St:=match r with
 | none=>.no
 | some (.ret v,s)=>jB (f.put d v) s
 | some (.panic v,s)=>.up v f s
noncomputable def rx (call:cV) (f:Fr) (d:Option Tmp) (r:eI):St:=match r with
 | none=>.no
 | some (.val v,s)=>jB (f.put d v) s
 | some (.enter g args,s)=>jP f d (call g args s)
 | some (.dfr x,s)=>jB ((f.put d undef).map fun f=>{ f with defers:=x :: f.defers }) s
 | some (.recover,_)=>.no
 | some (.panic v,s)=>.up v f s
noncomputable def fp (P:Program) (call:cV) (ops:List Oper) (f:Fr) (o:Oper) (s:AS):St:=
 match fV ops f o.guard with
 | some true=>rx call f o.dst (aU P f o s)
 | some false=>jB (f.put o.dst undef) s
 | none=>.no
noncomputable def LK (r:St) (k:Fr→AS→St):St:=St.rec (motive:=fun _=>St) (fun f s=>k f s) (fun v f s=>.up v f s) .no r
noncomputable def iL (P:Program) (call:cV) (ops:List Oper) (l:List Oper):Fr→AS→St:=
 List.rec (motive:=fun _=>Fr→AS→St) (fun f s=>.on f s) (fun o _ ih f s=>LK (fp P call ops f o s) ih) l
noncomputable def bY (s:AS):AS:=AS.rec (fun h n m z _ _=>⟨h,n,m,z,0,0⟩) s
noncomputable def g8 (s s':AS):AS:=AS.rec (fun h n m z r w=>dH (Nat.lor r s.r) fun r=>dH (Nat.lor w s.w) fun w=>⟨h,n,m,z,r,w⟩) s'
noncomputable def l8 (t:Tr Value) (l:List Tmp):Tr Value:=
 List.rec (motive:=fun _=>Tr Value) .nil (fun x _ ih=>Option.rec ih (fun v=>cG ih fun ih=>Tr.set v 40 ih x) (t.get x)) l
noncomputable def fk (l:List Tmp) (f:Fr):Fr:=Fr.rec (fun t n _=>cG (l8 t l) fun t=>⟨t,n,[]⟩) f
noncomputable def bj (l:List Tmp):Nat:=List.rec (motive:=fun _=>Nat) 0 (fun x _ ih=>Nat.lor ih (Nat.shiftLeft 1 x)) l
noncomputable def du (bs:Tr Nat) (l:List Edge):Nat:=
 List.rec (motive:=fun _=>Nat) 0 (fun e _ ih=>Bool.rec ih (Nat.lor ih (Nat.lor (Nat.shiftLeft 1 e.on) ((bs.get e.on).getD 0))) (Region.binds .any e)) l
noncomputable def fy (j:Nat) (l:List Edge):Bool:=l.all fun e=>!(Region.binds .any e) || Nat.ble (Nat.succ e.on) j
noncomputable def tC (r w r' w':Nat):Bool:=Nat.beq (Nat.land w (Nat.lor r' w')) 0 && Nat.beq (Nat.land w' r) 0
structure Fp where
 j:Nat
 r:Nat
 w:Nat
noncomputable def kE (b r w:Nat) (acc:List Fp):Bool:=acc.all fun p=>tC p.r p.w r w || b.testBit p.j
noncomputable def gU (f:Fr) (d:Option Tmp) (g:Fr):Option Fr:=match g.defers with
 | []=>f.put d (match d with | some t=>(g.tmps.get t).getD undef | none=>undef)
 | _=>none
noncomputable def lz (l:List Tmp):Bool:=l.all fun t=>Nat.ble t 1000000
noncomputable def dC (n c l:Nat):Nat:=Nat.lor (Nat.shiftLeft c n) l
abbrev QT:=Nat→Tr Nat→List Fp→Fr→AS→St
noncomputable def FB (o:Oper) (l:List Tmp) (s:AS) (j:Nat) (bs:Tr Nat) (acc:List Fp) (k:QT) (f':Fr) (s':AS):St:=
 dH (du bs o.after.toList) fun b=>dH (dC f'.n s'.r (bj l)) fun r=>dH (dC f'.n s'.w (bj o.dst.toList)) fun w=>
  Bool.rec .no (dH (Nat.add j 1) fun j'=>cG (Tr.set b 40 bs j) fun bs=>k j' bs (⟨j,r,w⟩ :: acc) f' (g8 s s')) (fy j o.after.toList && (Nat.ble (Nat.succ j) 100000 && (lz l && kE b r w acc)))
noncomputable def ko (o:Oper) (l:List Tmp) (f:Fr) (s:AS) (j:Nat) (bs:Tr Nat) (acc:List Fp) (r:St) (k:QT):St:=
 match r with
 | .on g s'=>match gU f o.dst g with
  | some f'=>FB o l s j bs acc k f' s'
  | none=>.no
 | _=>.no
noncomputable def gW (P:Program) (call:cV) (ops:Array Oper) (l:List Oper):QT:=
 List.rec (motive:=fun _=>QT) (fun _ _ _ f s=>.on f s)
  (fun o _ ih j bs acc f s=>eW (o.looksAt ops) fun ls=>ko o ls f s j bs acc (fp P call ops.toList (fk ls f) o (bY s)) ih) l
abbrev Ex:=Option (dF × Fr × AS)
noncomputable def zF (r:St):Ex:=match r with
 | .on f s=>some (.normal,f,s)
 | .up v f s=>some (.panic v,f,s)
 | .no=>none
noncomputable def Ba (r:Ex) (k:Fr→AS→Ex):Ex:=match r with
 | some (.normal,f,s)=>k f s
 | r=>r
noncomputable def yA (body:Fr→AS→Ex) (n:Nat):Fr→AS→Ex:=
 Nat.rec (motive:=fun _=>Fr→AS→Ex) (fun _ _=>none) (fun _ ih f s=>Ba (body f s) ih) n
def rH:Nat:=18446744073709551616
noncomputable def yw (v:Option Value) (a b:Ex):Ex:=match v with
 | some (.bool true)=>a
 | some (.bool false)=>b
 | _=>none
noncomputable def sB (id:Nat) (r:Ex):Ex:=match r with
 | some (.exit i,f,s)=>Bool.rec (some (.exit i,f,s)) (some (.normal,f,s)) (Nat.beq i id)
 | r=>r
noncomputable def cU (P:Program) (call:cV) (c:Code):Fr→AS→Ex:=
 Code.rec (motive:=fun _=>Fr→AS→Ex)
  (fun f s=>some (.normal,f,s))
  (fun _ ops draw f s=>Bool.rec (zF (iL P call ops.toList ops.toList f s)) (zF (gW P call ops ops.toList 0 .nil [] f s)) draw)
  (fun _ _ ia ib f s=>Ba (ia f s) ib)
  (fun c _ _ ia ib f s=>yw (f.eval c) (ia f s) (ib f s))
  (fun id _ ic f s=>sB id (ic f s))
  (fun _ ic f s=>yA ic rH f s)
  (fun _ _ _ _ _ _ _ _=>none)
  (fun id f s=>some (.exit id,f,s))
  (fun _ _ _ _=>none)
  (fun _ f s=>some (.normal,f,s))
  (fun _ _ _=>none)
  (fun f s=>some (.ret,f,s))
  (fun _ _ _=>none) c
noncomputable def nI (l:List Value):Nat→Tr Value→Tr Value:=
 List.rec (motive:=fun _=>Nat→Tr Value→Tr Value) (fun _ t=>t) (fun v _ ih i t=>cG (Tr.set v 40 t i) fun t=>ih (Nat.add i 1) t) l
noncomputable def kX (fn:Func) (args:Array Value):Fr:=⟨nI args.toList 0 .nil,fn.ntmps,[]⟩
noncomputable def kM (P:Program) (a:Option Value) (t:TypeId) (s:AS):Option (Value × AS):=
 match m7 P t a s with
 | some (.val v,s)=>some (v,s)
 | _=>none
noncomputable def i9 (P:Program) (f:Fr) (l:List ResultVar):AS→Option (List Value × AS):=
 List.rec (motive:=fun _=>AS→Option (List Value × AS)) (fun s=>some ([],s))
  (fun rv _ ih s=>match rv with
   | .tmp t=>match ih s with
    | some (vs,s)=>some ((f.tmps.get t).getD undef :: vs,s)
    | none=>none
   | .cell a t=>match kM P (f.tmps.get a) t s with
    | some (v,s)=>match ih s with
     | some (vs,s)=>some (v :: vs,s)
     | none=>none
    | none=>none) l
noncomputable def finish (P:Program) (fn:Func) (f:Fr) (s:AS):Option (fR × AS):=
 match i9 P f fn.results.toList s with
 | some ([v],s)=>some (.ret v,s)
 | some (vs,s)=>some (.ret (.tuple vs.toArray),s)
 | none=>none
structure Dd where
 f:Fr
 s:AS
 u:Option Value
noncomputable def Qi (r:St) (u:Option Value) (k:Fr→AS→Option Value→Option Dd):Option Dd:=match r with
 | .on f s=>k f s u
 | _=>none
noncomputable def JL (P:Program) (call:cV) (ops:List Oper) (o:Oper) (f:Fr) (s:AS) (u:Option Value) (k:Fr→AS→Option Value→Option Dd):Option Dd:=
 match aU P f o s with
 | some (.recover,s)=>match o.guard with
  | none=>Qi (jB (f.put o.dst (u.getD .nilIface)) s) none k
  | some _=>none
 | _=>Qi (fp P call ops f o s) u k
noncomputable def ow (P:Program) (call:cV) (ops:List Oper) (l:List Oper):Fr→AS→Option Value→Option Dd:=
 List.rec (motive:=fun _=>Fr→AS→Option Value→Option Dd) (fun f s u=>some ⟨f,s,u⟩) (fun o _ ih f s u=>JL P call ops o f s u ih) l
noncomputable def O1 (r:Ex) (u:Option Value):Option (AS × Option Value):=match r with
 | some (.normal,f,s) | some (.ret,f,s)=>match f.defers with | []=>some (s,u) | _=>none
 | _=>none
noncomputable def wx (P:Program) (call:cV) (fn:Func) (args:Array Value) (s:AS) (u:Option Value):Option (AS × Option Value):=
 match fn.body with
 | some (.seq (.region _ ops false) c)=>match ow P call ops.toList ops.toList (kX fn args) s u with
  | some ⟨f,s,u⟩=>O1 (cU P call c f s) u
  | none=>none
 | _=>none
noncomputable def f8 (P:Program) (call:cV) (d:Deferred) (s:AS) (u:Option Value):Option (AS × Option Value):=
 match d.target with
 | .fn (.func g) cap=>match P.funcs[g]? with
  | some fn=>Bool.rec none (wx P call fn (d.args ++ cap) s u) (Nat.ble fn.ntmps 1000000 && (Nat.ble (d.args ++ cap).toList.length fn.ntmps && fn.results.toList.isEmpty))
  | none=>none
 | _=>none
noncomputable def lQ (P:Program) (fn:Func) (f:Fr) (s:AS) (u:Option Value):Option (fR × AS):=match u with
 | none=>finish P fn f s
 | some v=>some (.panic v,s)
noncomputable def jp (P:Program) (call:cV) (fn:Func) (f:Fr) (l:List Deferred):AS→Option Value→Option (fR × AS):=
 List.rec (motive:=fun _=>AS→Option Value→Option (fR × AS)) (fun s u=>lQ P fn f s u)
  (fun d _ ih s u=>match f8 P call d s u with
   | some (s,u')=>ih s u'
   | none=>none) l
noncomputable def wc (P:Program) (call:cV) (fn:Func) (r:Ex):Option (fR × AS):=match r with
 | some (.normal,f,s) | some (.ret,f,s)=>jp P call fn f f.defers s none
 | some (.panic v,f,s)=>jp P call fn f f.defers s (some v)
 | _=>none
noncomputable def Bg (P:Program) (call:cV) (fn:Func) (args:Array Value) (s:AS):Option (fR × AS):=
 match fn.body with
 | some c=>Bool.rec none (wc P call fn (cU P call c (kX fn args) s)) (Nat.ble fn.ntmps 1000000 && Nat.ble args.toList.length fn.ntmps)
 | none=>none
structure IE where
 keys:Nat→Option (Nat × Nat)
 sorted:Nat→Option Nat
 iter:Nat→Bool
 look:Nat→Option (Nat × (ByteArray→ByteArray→Option (ByteArray × Bool)))
 tab:Nat→List Value→Option Value
def LZ:IE:=⟨fun _=>none,fun _=>none,fun _=>false,fun _=>none,fun _ _=>none⟩
noncomputable def IR (it t:Nat) (args:List Value) (s:AS):Option (fR × AS):=match args with
 | [.map (some b)]=>some (.ret (.func (.func it) #[] #[.pointer (some ⟨s.next,0,none⟩)]),newRow s [.map (some b)] t)
 | _=>none
noncomputable def vS (a:List UInt8):List UInt8→Bool:=
 List.rec (motive:=fun _=>List UInt8→Bool) (fun m=>List.rec false (fun _ _ _=>true) m)
  (fun x _ ih m=>List.rec false (fun y m' _=>Bool.rec (Bool.rec false (ih m') (Nat.beq x.toNat y.toNat)) true (Nat.ble (Nat.succ x.toNat) y.toNat)) m) a
noncomputable def Ek (k k2:ByteArray):List Value:=Bool.rec [.string k2,.string k] [.string k,.string k2] (vS k.data.toList k2.data.toList)
noncomputable def DJ (t clock:Nat) (es:List MapEntry) (s:AS):Option (fR × AS):=match es with
 | []=>some (.ret (.slice none 0 0),s)
 | [⟨.string k,_,born⟩]=>Bool.rec none (some (.ret (.slice (some ⟨s.next,0,none⟩) 1 1),newRow s [.string k] t)) (Nat.ble (Nat.succ born) clock && Nat.ble k.size 1048576)
 | [⟨.string k,_,born⟩,⟨.string k2,_,born2⟩]=>Bool.rec none (some (.ret (.slice (some ⟨s.next,0,none⟩) 2 2),newRow s (Ek k k2) t))
  (Nat.ble (Nat.succ born) born2 && (Nat.ble (Nat.succ born2) clock && (Nat.ble k.size 1048576 && (Nat.ble k2.size 1048576 && (vS k.data.toList k2.data.toList || vS k2.data.toList k.data.toList)))))
 | _=>none
noncomputable def FD (t b:Nat) (r:Option eD) (s:AS):Option (fR × AS):=match r with
 | some (.map es clock)=>DJ t clock es (bO s b)
 | _=>none
noncomputable def EO (t p:Nat) (s:AS):Option (fR × AS):=match s.heap.get p with
 | some (.row [.map (some b)] _ c _ true)=>Bool.rec none (FD t b (s.heap.get b) (bO s c)) (Nat.beq c p)
 | _=>none
noncomputable def Dy (orc:IE) (t:Nat) (args:List Value) (s:AS):Option (fR × AS):=match args with
 | [.func (.func it) first cap]=>match first.toList,cap.toList with
  | [],[.pointer (some ⟨p,0,none⟩)]=>Bool.rec none (EO t p s) (orc.iter it)
  | _,_=>none
 | _=>none
noncomputable def Lb (f:ByteArray→Option (ByteArray × Bool)) (r:Option (List Value × AS)):Option (fR × AS):=match r with
 | some ([.string e],s)=>match f e with
  | some (v,ok)=>some (.ret (.tuple #[.string v,.bool ok]),s)
  | none=>none
 | _=>none
noncomputable def Mi (f:ByteArray→Option (ByteArray × Bool)) (r:Option (List Value × AS)):Option (fR × AS):=match r with
 | some ([.slice (some ⟨b,o,none⟩) len _],s)=>Bool.rec none (Lb f (ld s b o 1)) (Nat.beq len 1)
 | _=>none
noncomputable def Jl (off:Nat) (f:ByteArray→ByteArray→Option (ByteArray × Bool)) (args:List Value) (s:AS):Option (fR × AS):=match args with
 | [.pointer (some ⟨b,o,none⟩),.string n]=>Mi (f n) (ld s b (Nat.add o off) 1)
 | _=>none
noncomputable def we (orc:IE) (g:FuncId) (args:Array Value) (s:AS):Option (Option (fR × AS)):=match orc.tab g args.toList with
 | some v=>some (some (.ret v,s))
 | none=>match orc.keys g with
  | some (it,t)=>some (IR it t args.toList s)
  | none=>match orc.sorted g with
   | some t=>some (Dy orc t args.toList s)
   | none=>match orc.look g with
    | some (off,f)=>some (Jl off f args.toList s)
    | none=>none
noncomputable def pL (P:Program) (ih:cV) (g:FuncId) (args:Array Value) (s:AS):Option (fR × AS):=match P.funcs[g]? with
 | none=>none
 | some fn=>Bg P ih fn args s
noncomputable def jW (P:Program) (orc:IE) (n:Nat):cV:=
 Nat.rec (motive:=fun _=>cV) (fun _ _ _=>none)
  (fun _ ih g args s=>match we orc g args s with
   | some r=>r
   | none=>pL P ih g args s) n
noncomputable def start:AS:=⟨.nil,0,.nil,.nil,0,0⟩
theorem bp {β:Type} (n:Nat) (k:Nat→β):dH n k=k n:=by cases n<;>rfl
theorem bX {α β:Type} (t:Tr α) (k:Tr α→β):cG t k=k t:=by cases t<;>rfl
theorem bg {α β:Type} (l:List α):∀k:List α→β,eW l k=k l:=by
 induction l with
 | nil=>intro k; rfl
 | cons a l ih=>intro k; exact ih fun l=>k (a :: l)
theorem pS {β:Type} (a b:β) (n:Nat):(Nat.rec a (fun _ _=>b) n:β)=if n=0 then a else b:=by
 cases n with
 | zero=>rfl
 | succ n=>simp
theorem Tr.get_nil {α:Type} (n:Nat):(Tr.nil:Tr α).get n=none:=rfl
theorem Tr.get_zero {α:Type} (v:Option α) (l r:Tr α):(Tr.node v l r).get 0=v:=rfl
theorem Tr.get_succ {α:Type} (v:Option α) (l r:Tr α) (m:Nat):(Tr.node v l r).get (m + 1)=if m % 2=0 then l.get (m / 2) else r.get (m / 2):=by
 show (Nat.rec _ _ (Nat.mod m 2):Option α)=_;exact pS _ _ _
theorem ym {α:Type} (a:α) (ih:Tr α→Nat→Tr α):wu a ih 0=.node (some a) .nil .nil:=rfl
theorem xl {α:Type} (a:α) (ih:Tr α→Nat→Tr α) (m:Nat):wu a ih (m + 1)=if m % 2=0 then .node none (ih .nil (m / 2)) .nil else .node none .nil (ih .nil (m / 2)):=by
 show (Nat.rec _ _ (Nat.mod m 2):Tr α)=_;simp only [bX];exact pS _ _ _
theorem vF {α:Type} (a:α) (ih:Tr α→Nat→Tr α) (v:Option α) (l r:Tr α):rm a ih 0 v l r=.node (some a) l r:=rfl
theorem w9 {α:Type} (a:α) (ih:Tr α→Nat→Tr α) (v:Option α) (l r:Tr α) (m:Nat):rm a ih (m + 1) v l r=if m % 2=0 then .node v (ih l (m / 2)) r else .node v l (ih r (m / 2)):=by
 show (Nat.rec _ _ (Nat.mod m 2):Tr α)=_;simp only [bX];exact pS _ _ _
theorem Tr.set_nil {α:Type} (a:α) (f n:Nat):Tr.setF a (f + 1) .nil n=wu a (Tr.setF a f) n:=rfl
theorem Tr.set_node {α:Type} (a:α) (f n:Nat) (v:Option α) (l r:Tr α):Tr.setF a (f + 1) (.node v l r) n=rm a (Tr.setF a f) n v l r:=rfl
theorem Tr.get_set' {α:Type} (a:α):∀(f:Nat) (t:Tr α) (n m:Nat),n + 1 < 2 ^ f→(Tr.setF a f t n).get m=if m=n then some a else t.get m:=by
 intro f
 induction f with
 | zero=>intro t n m h; simp at h
 | succ f ih=>
  intro t n m h;have hp : 2 ^ (f + 1)=2 * 2 ^ f:=by rw [Nat.pow_succ]; omega
  cases t with
  | nil=>
   rw [Tr.set_nil];cases n with
   | zero=>
    rw [ym];cases m with
    | zero=>rfl
    | succ m=>rw [Tr.get_succ]; simp [Tr.get_nil]
   | succ n=>
    have hb:n / 2 + 1 < 2 ^ f:=by omega
    rw [xl];cases m with
    | zero=>split<;>simp [Tr.get_zero,Tr.get_nil]
    | succ m=>
     split
     ·rw [Tr.get_succ,ih _ _ _ hb,Tr.get_nil,Tr.get_nil];split<;>split<;>(try split)<;>simp_all<;>omega
     ·rw [Tr.get_succ,ih _ _ _ hb,Tr.get_nil,Tr.get_nil];split<;>(try split)<;>(try split)<;>simp_all<;>omega
  | node v l r=>
   rw [Tr.set_node];cases n with
   | zero=>
    rw [vF];cases m with
    | zero=>rfl
    | succ m=>rw [Tr.get_succ,Tr.get_succ]; simp
   | succ n=>
    have hb:n / 2 + 1 < 2 ^ f:=by omega
    rw [w9];cases m with
    | zero=>split<;>simp [Tr.get_zero]
    | succ m=>
     rw [Tr.get_succ];split
     ·rw [Tr.get_succ,ih _ _ _ hb];by_cases hm:m % 2=0
      ·rw [if_pos hm,if_pos hm];by_cases he:m / 2=n / 2
       ·rw [if_pos he,if_pos (by omega)]
       ·rw [if_neg he,if_neg (by omega)]
      ·rw [if_neg hm,if_neg hm,if_neg (by omega)]
     ·rw [Tr.get_succ,ih _ _ _ hb];by_cases hm:m % 2=0
      ·rw [if_pos hm,if_pos hm,if_neg (by omega)]
      ·rw [if_neg hm,if_neg hm];by_cases he:m / 2=n / 2
       ·rw [if_pos he,if_pos (by omega)]
       ·rw [if_neg he,if_neg (by omega)]
def ir (_:Nat):Prop:=True
theorem Tr.get_set {α:Type} (a:α) (t:Tr α) (n m:Nat) (_:ir n):(Tr.set a 40 t n).get m=if m=n then some a else t.get m:=Tr.get_set' a (n + 1) t n m (Nat.lt_two_pow_self)
structure tI where
 blk:Nat
 sh:Nat
 sz:Nat
 es:Nat
 cls:Nat
 st:Nat
abbrev cK:=Nat→Option tI
inductive VR (φ:cK):Value × Value ⊕ List Value × List Value→Prop
 | bool (b:Bool):VR φ (.inl (.bool b,.bool b))
 | int (k:IntKind) (n:Int):VR φ (.inl (.int k n,.int k n))
 | string (s:ByteArray):VR φ (.inl (.string s,.string s))
 | nilPtr:VR φ (.inl (.pointer none,.pointer none))
 | ptr (b off:Nat) (i:tI) (h:φ b=some i):VR φ (.inl (.pointer (some ⟨b,off,none⟩),.pointer (some ⟨i.blk,i.sh + off,none⟩)))
 | nilSlice:VR φ (.inl (.slice none 0 0,.slice none 0 0))
 | slice (b off len cap cap':Nat) (a':Addr) (i:tI) (h:φ b=some i) (hl:len≤cap) (hc:cap≤cap') (ha:cap'=0∨a'=⟨i.blk,i.sh + off,none⟩) (hr:off + cap' * i.es≤i.sz) :
   VR φ (.inl (.slice (some ⟨b,off,none⟩) len cap,.slice (some a') len cap'))
 | sliceX (b off len:Nat) (a':Addr) (i:tI) (h:φ b=some i) (ha:len=0∨a'=⟨i.blk,i.sh + off,none⟩):VR φ (.inl (.slice (some ⟨b,off,some 0⟩) len len,.slice (some a') len len))
 | nilMap:VR φ (.inl (.map none,.map none))
 | map (b:Nat) (i:tI) (h:φ b=some i):VR φ (.inl (.map (some b),.map (some i.blk)))
 | func (g:FuncId) (xs ys xs' ys':Array Value) (h:VR φ (.inr (xs.toList,xs'.toList))) (h':VR φ (.inr (ys.toList,ys'.toList))):VR φ (.inl (.func (.func g) xs ys,.func (.func g) xs' ys'))
 | nilFunc:VR φ (.inl (.nilFunc,.nilFunc))
 | nilIface:VR φ (.inl (.nilIface,.nilIface))
 | iface (t:TypeId) (v v':Value) (h:VR φ (.inl (v,v'))):VR φ (.inl (.iface t v,.iface t v'))
 | agg (xs xs':Array Value) (h:VR φ (.inr (xs.toList,xs'.toList))):VR φ (.inl (.agg xs,.agg xs'))
 | tuple (xs xs':Array Value) (h:VR φ (.inr (xs.toList,xs'.toList))):VR φ (.inl (.tuple xs,.tuple xs'))
 | nil:VR φ (.inr ([],[]))
 | cons (v v':Value) (l l':List Value) (h:VR φ (.inl (v,v'))) (hs:VR φ (.inr (l,l'))):VR φ (.inr (v :: l,v' :: l'))
abbrev dE (φ:cK) (v v':Value):Prop:=VR φ (.inl (v,v'))
abbrev b8 (φ:cK) (l l':List Value):Prop:=VR φ (.inr (l,l'))
def El (φ φ':cK):Prop:=∀b i,φ b=some i→φ' b=some i
theorem VR.mono {φ φ':cK} (he:El φ φ') {x:Value × Value ⊕ List Value × List Value} (h:VR φ x):VR φ' x:=by
 induction h with
 | bool b=>exact .bool b
 | int k n=>exact .int k n
 | string s=>exact .string s
 | nilPtr=>exact .nilPtr
 | ptr b off i h=>exact .ptr b off i (he _ _ h)
 | nilSlice=>exact .nilSlice
 | slice b off len cap cap' a' i h hl hc ha hr=>exact .slice b off len cap cap' a' i (he _ _ h) hl hc ha hr
 | sliceX b off len a' i h ha=>exact .sliceX b off len a' i (he _ _ h) ha
 | nilMap=>exact .nilMap
 | map b i h=>exact .map b i (he _ _ h)
 | func g xs ys xs' ys' _ _ h h'=>exact .func g xs ys xs' ys' h h'
 | nilFunc=>exact .nilFunc
 | nilIface=>exact .nilIface
 | iface t v v' _ h=>exact .iface t v v' h
 | agg xs xs' _ h=>exact .agg xs xs' h
 | tuple xs xs' _ h=>exact .tuple xs xs' h
 | nil=>exact .nil
 | cons v v' l l' _ _ h hs=>exact .cons v v' l l' h hs
theorem b8.length {φ:cK} : ∀{l l':List Value},b8 φ l l'→l.length=l'.length:=by
 intro l
 induction l with
 | nil=>intro l' h; cases h; rfl
 | cons v l ih=>intro l' h; cases h with | cons _ v' _ l'' h hs=>simp [ih hs]
theorem b8.get {φ:cK} : ∀{l l':List Value} (i:Nat) {v:Value},b8 φ l l'→l[i]?=some v→∃v',l'[i]?=some v'∧dE φ v v':=by
 intro l
 induction l with
 | nil=>intro l' i v h hv; simp at hv
 | cons a l ih=>
  intro l' i v h hv;cases h with
  | cons _ a' _ l'' h hs=>
   cases i with
   | zero=>simp at hv; subst hv; exact⟨a',by simp,h⟩
   | succ i=>simp at hv; obtain⟨v',h1,h2⟩:=ih i hs hv; exact⟨v',by simpa using h1,h2⟩
theorem b8.of_get {φ:cK} : ∀{l l':List Value},l.length=l'.length→(∀(i:Nat) (v:Value),l[i]?=some v→∃v',l'[i]?=some v'∧dE φ v v')→b8 φ l l':=by
 intro l
 induction l with
 | nil=>intro l' h _; cases l' with | nil=>exact .nil | cons=>simp at h
 | cons a l ih=>
  intro l' h hg;cases l' with
  | nil=>simp at h
  | cons a' l'=>
   obtain⟨v',h1,h2⟩:=hg 0 a (by simp);simp at h1;subst h1;refine .cons _ _ _ _ h2 (ih (by simpa using h) fun i v hv=>?_);obtain⟨v',h1,h2⟩:=hg (i + 1) v (by simpa using hv);exact⟨v',by simpa using h1,h2⟩
theorem b8.append {φ:cK} : ∀{l l' r r':List Value},b8 φ l l'→b8 φ r r'→b8 φ (l ++ r) (l' ++ r'):=by
 intro l
 induction l with
 | nil=>intro l' r r' h hr; cases h; exact hr
 | cons a l ih=>intro l' r r' h hr; cases h with | cons _ a' _ l'' h hs=>exact .cons _ _ _ _ h (ih hs hr)
theorem b8.take {φ:cK} : ∀(n:Nat) {l l':List Value},b8 φ l l'→b8 φ (l.take n) (l'.take n):=by
 intro n
 induction n with
 | zero=>intro l l' _; exact .nil
 | succ n ih=>intro l l' h; cases h with | nil=>exact .nil | cons v v' l l' h hs=>exact .cons _ _ _ _ h (ih hs)
theorem b8.drop {φ:cK} : ∀(n:Nat) {l l':List Value},b8 φ l l'→b8 φ (l.drop n) (l'.drop n):=by
 intro n
 induction n with
 | zero=>intro l l' h; exact h
 | succ n ih=>intro l l' h; cases h with | nil=>exact .nil | cons v v' l l' h hs=>exact ih hs
theorem tr (v:Value):plain 0 v=wj v:=rfl
theorem sQ (n:Nat) (v:Value):plain (n + 1) v=wn (plain n) v:=rfl
theorem mP {φ:cK}{p:Value→Bool} (hp:∀v,p v=true→dE φ v v):∀l:List Value,l.all p=true→b8 φ l l:=by
 intro l
 induction l with
 | nil=>intro _; exact .nil
 | cons a l ih=>intro h; simp only [List.all_cons,Bool.and_eq_true] at h; exact .cons _ _ _ _ (hp _ h.1) (ih h.2)
theorem pd {φ:cK}{p:Value→Bool} (hp:∀v v',p v=true→dE φ v v'→v'=v):∀l l':List Value,l.all p=true→b8 φ l l'→l'=l:=by
 intro l
 induction l with
 | nil=>intro l' _ h; cases h; rfl
 | cons a l ih=>
  intro l' h hr;simp only [List.all_cons,Bool.and_eq_true] at h;cases hr with
  | cons _ a' _ l'' h1 hs=>rw [hp _ _ h.1 h1,ih _ h.2 hs]
theorem cy (φ:cK):∀(n:Nat) (v:Value),plain n v=true→dE φ v v:=by
 intro n
 induction n with
 | zero=>
  intro v h;rw [tr] at h;unfold wj at h;split at h<;>first | (cases h; done) | exact .bool _ | exact .int _ _ | exact .string _ | exact .nilPtr | exact .nilSlice | exact .nilMap | exact .nilFunc | exact .nilIface | cases h
 | succ n ih=>
  intro v h;rw [sQ] at h;unfold wn at h;split at h<;>first
   | (cases h; done)
   | exact .bool _ | exact .int _ _ | exact .string _ | exact .nilPtr | exact .nilSlice | exact .nilMap | exact .nilFunc | exact .nilIface
   | exact .iface _ _ _ (ih _ h) | exact .agg _ _ (mP ih _ h) | exact .tuple _ _ (mP ih _ h)
   | (simp only [Bool.and_eq_true,List.isEmpty_iff] at h; exact .func _ _ _ _ _ (by rw [h.1]; exact .nil) (by rw [h.2]; exact .nil))
   | cases h
theorem cN (φ:cK):∀(n:Nat) (v v':Value),plain n v=true→dE φ v v'→v'=v:=by
 intro n
 induction n with
 | zero=>
  intro v v' h hr;rw [tr] at h;unfold wj at h;split at h<;>first | (cases h; done) | (cases hr; rfl)
 | succ n ih=>
  intro v v' h hr;rw [sQ] at h;unfold wn at h;split at h
  all_goals first
   | (cases h; done)
   | (cases hr; rfl)
   | (cases hr with | iface _ _ _ hh=>rw [ih _ _ h hh])
   | (cases hr with | agg _ xs' hh=>rw [Array.toList_inj.1 (pd ih _ _ h hh)])
   | (cases hr with | tuple _ xs' hh=>rw [Array.toList_inj.1 (pd ih _ _ h hh)])
   | (simp only [Bool.and_eq_true,List.isEmpty_iff] at h; cases hr with
     | func _ _ _ xs' ys' h1 h2=>
      rw [h.1] at h1;rw [h.2] at h2;generalize hx:xs'.toList=X at h1;generalize hy:ys'.toList=Y at h2;cases h1;cases h2;rw [Array.toList_inj.1 (hx.trans h.1.symm),Array.toList_inj.1 (hy.trans h.2.symm)])
   | cases h
theorem gJ {α:Type} (P:Program) (s:Sem α):∀{a:α},cF P s=some a→∀w,s.run P w=.ok a w:=by
 induction s with
 | pure a=>intro b h w; injection h with h; subst h; rfl
 | program k ih=>intro b h w; exact ih P h w
 | mark m k ih=>intro b h w; exact ih h w
 | _=>intro b h; first | cases h | (intro w; cases h)
theorem aB (s:AS) (c:Nat):bO s c=⟨s.heap,s.next,s.mem,s.fz,s.r ||| (1 <<< c),s.w⟩:=by
 cases s; unfold bO; simp only [bp]; rfl
theorem dq (s:AS) (c:Nat):lF s c=⟨s.heap,s.next,s.mem,s.fz,s.r,s.w ||| (1 <<< c)⟩:=by
 cases s; unfold lF; simp only [bp]; rfl
theorem gq (s:AS) (b:Nat) (o:eD):s.put b o=⟨Tr.set o 40 s.heap b,s.next,s.mem,s.fz,s.r,s.w⟩:=by
 cases s; unfold AS.put; simp only [bX]
theorem gb (s:AS) (o:Nat→eD):s.new o=⟨Tr.set (o s.next) 40 s.heap s.next,s.next + 1,s.mem,s.fz,s.r,s.w ||| (1 <<< s.next)⟩:=by
 cases s; unfold AS.new; simp only [bX,bp]; rfl
theorem dk (s:AS) (cells:List Value) (e:Nat):newRow s cells e=s.new fun b=>.row cells e b 0 true:=bg _ _
theorem qm (s:AS) (c:Nat) (l:List Nat):tV s c l=⟨s.heap,s.next,Tr.set l 40 s.mem c,s.fz,s.r,s.w⟩:=by
 cases s; unfold tV; simp only [bX]
theorem jR (s:AS) (c k:Nat):nb s c k=⟨s.heap,s.next,s.mem,Tr.set k 40 s.fz c,s.r,s.w⟩:=by
 cases s; unfold nb; simp only [bX]
theorem cg (a c x:Nat):(a ||| (1 <<< c)).testBit x=(a.testBit x || decide (c=x)):=by
 rw [Nat.testBit_or,Nat.one_shiftLeft,Nat.testBit_two_pow]
theorem dX {a c x:Nat} (h:(a ||| (1 <<< c)).testBit x=true):a.testBit x=true∨c=x:=by
 rw [cg,Bool.or_eq_true,decide_eq_true_iff] at h; exact h
theorem nk {a c x n:Nat} (h:(a ||| (1 <<< c)).testBit x=true) (hc:c < n):a.testBit x=true∨x < n:=by
 rcases dX h with h | rfl
 ·exact .inl h
 ·exact .inr hc
def cm (b:Nat):eD→Nat
 | .row _ _ c _ _=>c
 | _=>b
structure bE (A:AS):Prop where
 lt:∀b o,A.heap.get b=some o→b < A.next∧cm b o < A.next
 mem:∀b cells e c st,A.heap.get b=some (.row cells e c st true)→b∈co A c
 memc:∀c l x cells e c' st ok,A.mem.get c=some l→x∈l→A.heap.get x=some (.row cells e c' st ok)→c'=c
 root:∀b cells e c st ok,A.heap.get b=some (.row cells e c st ok)→∃cells' e' st' ok',A.heap.get c=some (.row cells' e' c st' ok')
 ml:∀c l x,A.mem.get c=some l→x∈l→x < A.next
 old:∀c l,A.mem.get c=some l→c < A.next
 fz:∀c k,A.fz.get c=some k→c < A.next
structure kW (A A':AS):Prop where
 next:A.next≤A'.next
 r:∀c,A.r.testBit c=true→A'.r.testBit c=true
 w:∀c,A.w.testBit c=true→A'.w.testBit c=true
 old:∀b o,A.heap.get b=some o→A'.w.testBit (cm b o)=false→A'.heap.get b=some o
 new:∀b o,A'.heap.get b=some o→A'.w.testBit (cm b o)=false→A.heap.get b=some o
 fz:∀c,A'.w.testBit c=false→A'.fz.get c=A.fz.get c
 mem:∀c,A'.w.testBit c=false→A'.mem.get c=A.mem.get c
 rb:∀c,A'.r.testBit c=true→A.r.testBit c=true∨c < A'.next
 wb:∀c,A'.w.testBit c=true→A.w.testBit c=true∨c < A'.next
 inv:bE A'
theorem kW.refl {A:AS} (h:bE A):kW A A:=
 ⟨Nat.le_refl _,fun _ h=>h,fun _ h=>h,fun _ _ h _=>h,fun _ _ h _=>h,fun _ _=>rfl,fun _ _=>rfl,fun _ h=>.inl h,fun _ h=>.inl h,h⟩
theorem pK {a b:Bool} (h:a=true→b=true) (hb:b=false):a=false:=by cases a<;>simp_all
theorem kW.trans {A B C:AS} (h:kW A B) (k:kW B C):kW A C where
 next:=Nat.le_trans h.next k.next
 r:=fun c hc=>k.r c (h.r c hc)
 w:=fun c hc=>k.w c (h.w c hc)
 old:=fun b o hb hw=>k.old b o (h.old b o hb (pK (k.w _) hw)) hw
 new:=fun b o hb hw=>h.new b o (k.new b o hb hw) (pK (k.w _) hw)
 fz:=fun c hc=>(k.fz c hc).trans (h.fz c (pK (k.w _) hc))
 mem:=fun c hc=>(k.mem c hc).trans (h.mem c (pK (k.w _) hc))
 rb:=fun c hc=>(k.rb c hc).elim (fun h1=>(h.rb c h1).imp id fun x=>Nat.lt_of_lt_of_le x k.next) .inr
 wb:=fun c hc=>(k.wb c hc).elim (fun h1=>(h.wb c h1).imp id fun x=>Nat.lt_of_lt_of_le x k.next) .inr
 inv:=k.inv
theorem fd {A:AS} (h:bE A) {c:Nat} (hc:c < A.next):kW A (bO A c):=by
 rw [aB];exact⟨Nat.le_refl _,fun x hx=>by rw [cg,hx]; rfl,fun _ h=>h,fun _ _ h _=>h,fun _ _ h _=>h,fun _ _=>rfl,fun _ _=>rfl,
  fun x hx=>nk hx hc,fun _ h=>.inl h,⟨h.lt,h.mem,h.memc,h.root,h.ml,h.old,h.fz⟩⟩
theorem lT {n:Nat} (_:n≤n):ir n:=trivial
theorem Ab {A:AS} (h:bE A) (hn:A.next + 1≤A.next + 1) (o:Nat→eD) (ho:cm A.next (o A.next)=A.next):kW A (A.new o):=by
 have hf:ir A.next:=lT (by omega);have hnone:A.heap.get A.next=none:=by
  cases hg:A.heap.get A.next with
  | none=>rfl
  | some x=>have:=(h.lt _ _ hg).1; omega
 rw [gb];refine⟨by show A.next≤A.next + 1; omega,fun _ h=>h,fun x hx=>by rw [cg,hx]; rfl,fun b x hb _=>?_,fun b x hb hw=>?_,fun _ _=>rfl,fun _ _=>rfl,fun _ h=>.inl h,fun x hx=>?_,⟨fun b x hb=>?_,fun b cells e c st hb=>?_,fun c l x cells e c' st ok hl hx hg=>?_,fun b cells e c st ok hb=>?_,fun c l x hl hx=>?_,fun c l hl=>?_,fun c l hl=>?_⟩⟩
 ·rw [Tr.get_set _ _ _ _ hf,if_neg (by rintro rfl; rw [hnone] at hb; cases hb)]; exact hb
 ·rw [Tr.get_set _ _ _ _ hf] at hb;split at hb
  ·rename_i he; subst he; injection hb with hb; subst hb; rw [ho,cg] at hw; simp at hw
  ·exact hb
 ·rw [cg,Bool.or_eq_true,decide_eq_true_iff] at hx;rcases hx with hx | rfl
  ·exact .inl hx
  ·exact .inr (by show A.next < A.next + 1; omega)
 ·rw [Tr.get_set _ _ _ _ hf] at hb;show b < A.next + 1∧cm b x < A.next + 1;split at hb
  ·rename_i he; subst he; injection hb with hb; subst hb; rw [ho]; omega
  ·have:=h.lt _ _ hb; omega
 ·rw [Tr.get_set _ _ _ _ hf] at hb;show b∈(A.mem.get c).getD [c];split at hb
  ·rename_i he; subst he;injection hb with hb;rw [hb] at ho;have:c=A.next:=ho;subst this;cases hm:A.mem.get A.next with
   | none=>simp
   | some l=>have:=h.old _ _ hm; omega
  ·exact h.mem _ _ _ _ _ hb
 ·rw [Tr.get_set _ _ _ _ hf] at hg;split at hg
  ·rename_i he; subst he; have:=h.ml _ _ _ hl hx; omega
  ·exact h.memc _ _ _ _ _ _ _ _ hl hx hg
 ·rw [Tr.get_set _ _ _ _ hf] at hb;rw [Tr.get_set _ _ _ _ hf];split at hb
  ·rename_i he; subst he;injection hb with hb;rw [hb] at ho;have:c=A.next:=ho;subst this;rw [if_pos rfl,hb];exact⟨_,_,_,_,rfl⟩
  ·obtain⟨a1,a2,a3,a4,h4⟩:=h.root _ _ _ _ _ _ hb;rw [if_neg (by have:=(h.lt _ _ h4).1; omega)];exact⟨a1,a2,a3,a4,h4⟩
 ·have:=h.ml _ _ _ hl hx; show x < A.next + 1; omega
 ·have:=h.old _ _ hl; show c < A.next + 1; omega
 ·have:=h.fz _ _ hl; show c < A.next + 1; omega
theorem gC {A:AS} (h:bE A) (hn:A.next + 1≤A.next + 1) (cells:List Value) (e:Nat):kW A (newRow A cells e):=by
 rw [dk]; exact Ab h hn _ rfl
theorem EQ {A:AS} (h:bE A) (hn:A.next≤A.next) {b:Nat}{o o':eD} (hb:A.heap.get b=some o) (hc:cm b o=b) (hc':cm b o'=b) (hr:∀cells e c st ok,o'≠.row cells e c st ok) (hro:∀cells e c st ok,o≠.row cells e c st ok) :
  kW A (lF (bO (A.put b o') b) b):=by
 have hl:=(h.lt _ _ hb).1;have hf:ir b:=lT (by omega);rw [gq,aB,dq];refine⟨Nat.le_refl _,fun x hx=>by rw [cg,hx]; rfl,fun x hx=>by rw [cg,hx]; rfl,fun b' x hb' hw=>?_,fun b' x hb' hw=>?_,fun _ _=>rfl,fun _ _=>rfl,fun x hx=>?_,fun x hx=>?_,⟨fun b' x hb'=>?_,fun b' cells e c st hb'=>?_,fun c l x cells e c' st ok hl hx hg=>?_,fun b' cells e c st ok hb'=>?_,h.ml,h.old,h.fz⟩⟩
 ·rw [Tr.get_set _ _ _ _ hf];split
  ·rename_i he; subst he;rw [hb'] at hb; injection hb with hb; subst hb;rw [hc,cg] at hw; simp at hw
  ·exact hb'
 ·rw [Tr.get_set _ _ _ _ hf] at hb';split at hb'
  ·rename_i he; subst he; injection hb' with hb'; subst hb'; rw [hc',cg] at hw; simp at hw
  ·exact hb'
 ·exact nk hx hl
 ·exact nk hx hl
 ·rw [Tr.get_set _ _ _ _ hf] at hb';split at hb'
  ·rename_i he; subst he; injection hb' with hb'; subst hb'; exact⟨hl,by rw [hc']; exact hl⟩
  ·exact h.lt _ _ hb'
 ·rw [Tr.get_set _ _ _ _ hf] at hb';split at hb'
  ·injection hb' with hb'; exact absurd hb' (hr _ _ _ _ _)
  ·exact h.mem _ _ _ _ _ hb'
 ·rw [Tr.get_set _ _ _ _ hf] at hg;split at hg
  ·injection hg with hg; exact absurd hg (hr _ _ _ _ _)
  ·exact h.memc _ _ _ _ _ _ _ _ hl hx hg
 ·rw [Tr.get_set _ _ _ _ hf] at hb';rw [Tr.get_set _ _ _ _ hf];split at hb'
  ·injection hb' with hb'; exact absurd hb' (hr _ _ _ _ _)
  ·obtain⟨a1,a2,a3,a4,h4⟩:=h.root _ _ _ _ _ _ hb';split
   ·rename_i he; subst he; rw [hb] at h4; injection h4 with h4; exact absurd h4 (hro _ _ _ _ _)
   ·exact⟨a1,a2,a3,a4,h4⟩
def i5:eD→eD
 | .row cells e c st _=>.row cells e c st false
 | o=>o
def Bd (A:AS):Prop:=A.next≤A.next∧∀b o,A.heap.get b=some o→b < A.next
theorem bE.bd {A:AS} (h:bE A) (hn:A.next≤A.next):Bd A:=⟨hn,fun b o hb=>(h.lt b o hb).1⟩
theorem Ei {A:AS} (h:Bd A) (b:Nat):(∀x,(jm A b).heap.get x=if x=b then (A.heap.get x).map i5 else A.heap.get x)∧(jm A b).next=A.next∧(jm A b).mem=A.mem∧(jm A b).fz=A.fz∧(jm A b).r=A.r∧(jm A b).w=A.w:=by
 unfold jm;split
 ·rename_i cells e c st ok hb;have hf:ir b:=lT (by have:=h.2 _ _ hb; have:=h.1; omega);rw [gq];refine⟨fun x=>?_,rfl,rfl,rfl,rfl,rfl⟩;rw [Tr.get_set _ _ _ _ hf];split
  ·rename_i he; subst he; rw [hb]; rfl
  ·rfl
 ·rename_i hb;refine⟨fun x=>?_,rfl,rfl,rfl,rfl,rfl⟩;split
  ·rename_i he; subst he;cases ho:A.heap.get x with
   | none=>rfl
   | some o=>
    cases o with
    | row cells e c st ok=>exact absurd ho (hb _ _ _ _ _)
    | map es k=>rfl
    | iter s p=>rfl
  ·rfl
theorem Er (o:eD):i5 (i5 o)=i5 o:=by cases o<;>rfl
theorem yh:∀(l:List Nat) {A:AS},Bd A→(∀x,(kill A l).heap.get x=if x∈l then (A.heap.get x).map i5 else A.heap.get x)∧(kill A l).next=A.next∧(kill A l).mem=A.mem∧(kill A l).fz=A.fz∧(kill A l).r=A.r∧(kill A l).w=A.w:=by
 intro l
 induction l with
 | nil=>intro A _; exact⟨fun x=>by simp; rfl,rfl,rfl,rfl,rfl,rfl⟩
 | cons b l ih=>
  intro A h;obtain⟨h1,h2,h3,h4,h5,h6⟩:=Ei h b;have hB:Bd (jm A b):=by
   refine⟨by rw [h2]; exact h.1,fun x o hx=>?_⟩;rw [h1] at hx;rw [h2];split at hx
   ·cases hg:A.heap.get x with
    | none=>rw [hg] at hx; cases hx
    | some o'=>exact h.2 _ _ hg
   ·exact h.2 _ _ hx
  obtain⟨k1,k2,k3,k4,k5,k6⟩:=ih hB;have he:kill A (b :: l)=kill (jm A b) l:=rfl;rw [he];refine⟨fun x=>?_,k2.trans h2,k3.trans h3,k4.trans h4,k5.trans h5,k6.trans h6⟩;rw [k1,h1];by_cases hx:x=b
  ·subst hx;rw [if_pos rfl,if_pos (List.mem_cons_self)];split
   ·rw [Option.map_map]; congr 1; funext o; exact Er o
   ·rfl
  ·rw [if_neg hx];by_cases hl:x∈l
   ·rw [if_pos hl,if_pos (List.mem_cons_of_mem _ hl)]
   ·rw [if_neg hl,if_neg (by simp [hx,hl])]
theorem sf (b:Nat) (o:eD):cm b (i5 o)=cm b o:=by cases o<;>rfl
structure Wr (A A':AS) (b cls:Nat) (cs:List Value) (e st:Nat) (K:List Nat):Prop where
 next:(b=A.next∧A'.next=A.next + 1)∨(A'.next=A.next∧∃cs' e' st' ok',A.heap.get b=some (.row cs' e' cls st' ok'))
 root:∃cs' e' st' ok',A.heap.get cls=some (.row cs' e' cls st' ok')
 heap:∀x,A'.heap.get x=if x=b then some (.row cs e cls st true) else if x∈K then (A.heap.get x).map i5 else A.heap.get x
 kill:∀x∈K,x∈co A cls
 memo:∀c,c≠cls→A'.mem.get c=A.mem.get c
 memb:b∈co A' cls
 memk:∀x cs' e' st',x≠b→x ∉ K→A.heap.get x=some (.row cs' e' cls st' true)→x∈co A' cls
 meml:∀l x,A'.mem.get cls=some l→x∈l→x=b∨x∈co A cls
 fzo:∀c,c≠cls→A'.fz.get c=A.fz.get c
 r:A'.r=A.r∨A'.r=A.r ||| (1 <<< cls)
 w:A'.w=A.w ||| (1 <<< cls)
theorem bE.memr {A:AS} (h:bE A) {cls x:Nat}{cells:List Value}{e c st:Nat}{ok:Bool} (hr:∃cs' e' st' ok',A.heap.get cls=some (.row cs' e' cls st' ok')) (hx:x∈co A cls) (hg:A.heap.get x=some (.row cells e c st ok)):c=cls:=by
 unfold co at hx;cases hm:A.mem.get cls with
 | none=>
  rw [hm] at hx;simp at hx;subst hx;obtain⟨_,_,_,_,h4⟩:=hr;rw [hg] at h4;injection h4 with h4;injection h4
 | some l=>rw [hm] at hx; exact h.memc _ _ _ _ _ _ _ _ hm hx hg
theorem bE.meml {A:AS} (h:bE A) {cls x:Nat} (hr:∃cs' e' st' ok',A.heap.get cls=some (.row cs' e' cls st' ok')) (hx:x∈co A cls):x < A.next:=by
 unfold co at hx;cases hm:A.mem.get cls with
 | none=>
  rw [hm] at hx;simp at hx;subst hx;obtain⟨_,_,_,_,h4⟩:=hr;exact (h.lt _ _ h4).1
 | some l=>rw [hm] at hx; exact h.ml _ _ _ hm hx
theorem eC {o:Option eD}{x:eD} (h:o.map i5=some x):∃y,o=some y∧x=i5 y:=by
 cases o with
 | none=>cases h
 | some y=>injection h with h; exact⟨y,rfl,h.symm⟩
theorem Wr.fr {A A':AS}{b cls:Nat}{cs:List Value}{e st:Nat}{K:List Nat} (h:bE A) (k:Wr A A' b cls cs e st K):kW A A':=by
 have hcl:cls < A.next:=by obtain⟨_,_,_,_,h4⟩:=k.root; exact (h.lt _ _ h4).1
 have hle:A.next≤A'.next:=by rcases k.next with ⟨_,h1⟩ | ⟨h1,_⟩<;>omega
 have hb:b < A'.next:=by
  rcases k.next with ⟨h0,h1⟩ | ⟨h1,_,_,_,_,h2⟩
  ·omega
  ·rw [h1]; exact (h.lt _ _ h2).1
 have hbit:A'.w.testBit cls=true:=by rw [k.w,cg]; simp
 refine⟨hle,?_,?_,?_,?_,?_,?_,?_,?_,⟨?_,?_,?_,?_,?_,?_,?_⟩⟩
 ·intro c hc;rcases k.r with hr | hr
  ·rw [hr]; exact hc
  ·rw [hr,cg,hc]; rfl
 ·intro c hc; rw [k.w,cg,hc]; rfl
 ·intro x o hx hw;rw [k.heap];have hne:x≠b:=by
   rintro rfl;rcases k.next with ⟨h0,_⟩ | ⟨_,_,_,_,_,h2⟩
   ·have:=(h.lt _ _ hx).1; omega
   ·rw [hx] at h2; injection h2 with h2; subst h2; rw [show cm x (eD.row _ _ cls _ _)=cls from rfl,hbit] at hw; cases hw
  rw [if_neg hne];split
  ·rename_i hk;cases o with
   | row cells e' c st' ok=>
    have:c=cls:=h.memr k.root (k.kill _ hk) hx;subst this;rw [show cm x (eD.row cells e' c st' ok)=c from rfl,hbit] at hw; cases hw
   | map es q=>rw [hx]; rfl
   | iter s p=>rw [hx]; rfl
  ·exact hx
 ·intro x o hx hw;rw [k.heap] at hx;split at hx
  ·injection hx with hx; subst hx; rw [show cm x (eD.row _ _ cls _ _)=cls from rfl,hbit] at hw; cases hw
  ·split at hx
   ·rename_i hk;obtain⟨y,hy,rfl⟩:=eC hx;cases y with
    | row cells e' c st' ok=>
     have:c=cls:=h.memr k.root (k.kill _ hk) hy;subst this;rw [show cm x (i5 (eD.row cells e' c st' ok))=c from rfl,hbit] at hw; cases hw
    | map es q=>exact hy
    | iter s p=>exact hy
   ·exact hx
 ·intro c hc; exact k.fzo c (by rintro rfl; rw [hbit] at hc; cases hc)
 ·intro c hc; exact k.memo c (by rintro rfl; rw [hbit] at hc; cases hc)
 ·intro c hc;rcases k.r with hr | hr
  ·rw [hr] at hc; exact .inl hc
  ·rw [hr] at hc; exact nk hc (by omega)
 ·intro c hc; rw [k.w] at hc; exact nk hc (by omega)
 ·intro x o hx;rw [k.heap] at hx;split at hx
  ·rename_i he; subst he; injection hx with hx; subst hx; exact⟨hb,by show cls < _; omega⟩
  ·split at hx
   ·obtain⟨y,hy,rfl⟩:=eC hx;rw [sf];have:=h.lt _ _ hy;omega
   ·have:=h.lt _ _ hx; omega
 ·intro x cells e' c st' hx;rw [k.heap] at hx;split at hx
  ·rename_i he; subst he; injection hx with hx; injection hx with _ _ h3; subst h3; exact k.memb
  ·rename_i hne;split at hx
   ·obtain⟨y,hy,hd⟩:=eC hx;cases y<;>simp [i5] at hd
   ·rename_i hk;by_cases hc:c=cls
    ·subst hc; exact k.memk _ _ _ _ hne hk hx
    ·have:=h.mem _ _ _ _ _ hx;unfold co at this ⊢;rw [k.memo c hc]; exact this
 ·intro c l x cells e' c' st' ok hl hx hg;by_cases hc:c=cls
  ·subst hc;rw [k.heap] at hg;split at hg
   ·injection hg with hg; injection hg with _ _ h3; exact h3.symm
   ·rename_i hne;have hm:x∈co A c:=(k.meml _ _ hl hx).resolve_left hne;split at hg
    ·obtain⟨y,hy,hd⟩:=eC hg;cases y with
     | row cells2 e2 c2 st2 ok2=>simp [i5] at hd; rw [hd.2.2.1]; exact h.memr k.root hm hy
     | map es q=>simp [i5] at hd
     | iter s p=>simp [i5] at hd
    ·exact h.memr k.root hm hg
  ·rw [k.memo c hc] at hl;rw [k.heap] at hg;split at hg
   ·rename_i he;subst he;injection hg with hg; injection hg with _ _ h3;subst h3;rcases k.next with ⟨h0,_⟩ | ⟨_,_,_,_,_,h2⟩
    ·have:=h.ml _ _ _ hl hx; omega
    ·exact absurd (h.memc _ _ _ _ _ _ _ _ hl hx h2).symm hc
   ·split at hg
    ·obtain⟨y,hy,hd⟩:=eC hg;cases y with
     | row cells2 e2 c2 st2 ok2=>simp [i5] at hd; rw [hd.2.2.1]; exact h.memc _ _ _ _ _ _ _ _ hl hx hy
     | map es q=>simp [i5] at hd
     | iter s p=>simp [i5] at hd
    ·exact h.memc _ _ _ _ _ _ _ _ hl hx hg
 ·intro x cells e' c st' ok hx;have hroot:∀c0,(∃cells' e' st' ok',A.heap.get c0=some (.row cells' e' c0 st' ok'))→∃cells' e' st' ok',A'.heap.get c0=some (.row cells' e' c0 st' ok'):=by
   rintro c0 ⟨a1,a2,a3,a4,h4⟩;rw [k.heap];split
   ·rename_i he; subst he;rcases k.next with ⟨h0,_⟩ | ⟨_,_,_,_,_,h2⟩
    ·have:=(h.lt _ _ h4).1; omega
    ·rw [h4] at h2; injection h2 with h2; injection h2 with _ _ h3; subst h3; exact⟨_,_,_,_,rfl⟩
   ·split
    ·rw [h4]; exact⟨_,_,_,_,rfl⟩
    ·exact⟨_,_,_,_,h4⟩
  rw [k.heap] at hx;split at hx
  ·injection hx with hx; injection hx with _ _ h3; subst h3; exact hroot _ k.root
  ·split at hx
   ·obtain⟨y,hy,hd⟩:=eC hx;cases y with
    | row cells2 e2 c2 st2 ok2=>simp [i5] at hd; rw [hd.2.2.1]; exact hroot _ (h.root _ _ _ _ _ _ hy)
    | map es q=>simp [i5] at hd
    | iter s p=>simp [i5] at hd
   ·exact hroot _ (h.root _ _ _ _ _ _ hx)
 ·intro c l x hl hx;by_cases hc:c=cls
  ·subst hc;rcases k.meml _ _ hl hx with rfl | hm
   ·exact hb
   ·have:=h.meml k.root hm; omega
  ·rw [k.memo c hc] at hl;have:=h.ml _ _ _ hl hx; omega
 ·intro c l hl;by_cases hc:c=cls
  ·subst hc; omega
  ·rw [k.memo c hc] at hl; have:=h.old _ _ hl; omega
 ·intro c l hl;by_cases hc:c=cls
  ·subst hc; omega
  ·rw [k.fzo c hc] at hl; have:=h.fz _ _ hl; omega
theorem eo {β:Type}{a b c:β}{t:Bool} (h:(Bool.rec a b t:β)=c):(t=false∧a=c)∨(t=true∧b=c):=by cases t; exact .inl ⟨rfl,h⟩; exact .inr ⟨rfl,h⟩
theorem aC {β:Type}{b:Option β}{c:β}{t:Bool} (h:(Bool.rec none b t:Option β)=some c):t=true∧b=some c:=by
 cases t
 ·cases h
 ·exact⟨rfl,h⟩
structure GH (A A':AS) (b off:Nat) (vs cells:List Value) (e cls st:Nat) (K:List Nat):Prop where
 row:A.heap.get b=some (.row cells e cls st true)
 len:off + vs.length≤cells.length
 fz:um A cls (st + off)=true
 one:vs.all nF=true
 wr:Wr A A' b cls (cells.take off ++ (vs ++ cells.drop (off + vs.length))) e st K
 fze:A'.fz=A.fz
 all:∀x cs' e' st',x≠b→A.heap.get x=some (.row cs' e' cls st' true)→x∈K
theorem tH {A A':AS}{b off:Nat}{vs:List Value} (hi:bE A) (hn:A.next≤A.next) (h:Ea A b off vs=some A'):∃cells e cls st K,GH A A' b off vs cells e cls st K:=by
 unfold Ea at h;split at h
 ·rename_i cells e cls st hb;unfold D9 at h;obtain⟨hc,h⟩:=aC h;rw [bg] at h;injection h with h;simp only [Bool.and_eq_true] at hc;obtain⟨hlen,hfz,hone⟩:=hc;have hlen':off + vs.length≤cells.length:=Nat.le_of_ble_eq_true hlen;have hroot:=hi.root _ _ _ _ _ _ hb;have hbl:=(hi.lt _ _ hb).1;have hcl:cls < A.next:=(hi.lt _ _ hb).2;have hf:ir b:=lT (by omega);have hfc:ir cls:=lT (by omega);have hmb:=hi.mem _ _ _ _ _ hb;cases hm:A.mem.get cls with
  | none=>
   have hone1:∀x cs' e' st',A.heap.get x=some (.row cs' e' cls st' true)→x=cls:=by
    intro x cs' e' st' hx;have:=hi.mem _ _ _ _ _ hx;unfold co at this;rw [hm] at this;simpa using this
   have hbc:b=cls:=hone1 _ _ _ _ hb;refine⟨cells,e,cls,st,[],⟨hb,hlen',hfz,hone,?_,?_,?_⟩⟩
   ·have ha:lD A b cls=A:=by unfold lD; rw [hm]
    rw [ha,gq,dq] at h;subst h;refine⟨.inr ⟨rfl,_,_,_,_,hb⟩,hroot,fun x=>?_,fun x hx=>(by cases hx),fun c _=>rfl,?_,?_,?_,fun c _=>rfl,.inl rfl,rfl⟩
    ·rw [Tr.get_set _ _ _ _ hf]; simp
    ·exact hmb
    ·intro x cs' e' st' hne _ hx; exact hi.mem _ _ _ _ _ hx
    ·intro l x hl hx; rw [show ((_:AS).mem.get cls)=A.mem.get cls from rfl,hm] at hl; cases hl
   ·rw [← h]; unfold lD; rw [hm]; rw [gq,dq]
   ·intro x cs' e' st' hne hx; exact absurd ((hone1 _ _ _ _ hx).trans hbc.symm) hne
  | some l=>
   have ha:lD A b cls=tV (kill A (l.filter fun m=>!(Nat.beq m b))) cls [b]:=by unfold lD; rw [hm]
   obtain⟨k1,k2,k3,k4,k5,k6⟩:=yh (l.filter fun m=>!(Nat.beq m b)) (hi.bd hn);rw [ha,qm,gq,dq] at h;have hK:∀x,x∈(l.filter fun m=>!(Nat.beq m b))↔x∈l∧x≠b:=by
    intro x;rw [List.mem_filter];constructor
    ·rintro⟨h1,h2⟩;refine⟨h1,?_⟩;rintro rfl;simp at h2
    ·rintro⟨h1,h2⟩;refine⟨h1,?_⟩;cases hbq:Nat.beq x b with
     | false=>rfl
     | true=>exact absurd (Nat.eq_of_beq_eq_true hbq) h2
   refine⟨cells,e,cls,st,l.filter fun m=>!(Nat.beq m b),⟨hb,hlen',hfz,hone,?_,?_,?_⟩⟩
   ·subst h;refine⟨.inr ⟨k2,_,_,_,_,hb⟩,hroot,fun x=>?_,fun x hx=>?_,fun c hc=>?_,?_,?_,?_,fun c _=>by rw [show ((_:AS).fz)=(kill A (l.filter fun m=>!(Nat.beq m b))).fz from rfl,k4],.inl k5,by show (kill A _).w ||| _=_; rw [k6]⟩
    ·rw [Tr.get_set _ _ _ _ hf];split
     ·rfl
     ·exact k1 x
    ·unfold co; rw [hm]; exact ((hK x).1 hx).1
    ·show (Tr.set [b] 40 (kill A _).mem cls).get c=_;rw [Tr.get_set _ _ _ _ hfc,if_neg hc,k3]
    ·show b∈((Tr.set [b] 40 (kill A _).mem cls).get cls).getD [cls];rw [Tr.get_set _ _ _ _ hfc,if_pos rfl];simp
    ·intro x cs' e' st' hne hk hx;have:=hi.mem _ _ _ _ _ hx;unfold co at this;rw [hm] at this;exact absurd ((hK x).2 ⟨this,hne⟩) hk
    ·intro l' x hl hx;rw [show ((_:AS).mem.get cls)=(Tr.set [b] 40 (kill A (l.filter fun m=>!(Nat.beq m b))).mem cls).get cls from rfl,Tr.get_set _ _ _ _ hfc,if_pos rfl] at hl;injection hl with hl;subst hl;simp at hx;exact .inl hx
   ·subst h; exact k4
   ·intro x cs' e' st' hne hx;have:=hi.mem _ _ _ _ _ hx;unfold co at this;rw [hm] at this;exact (hK x).2 ⟨this,hne⟩
 ·cases h
structure wW (A A':AS) (off len n es:Nat) (xs cells:List Value) (e cls st:Nat) (K:List Nat):Prop where
 old:((cells.drop off).take (len * es)).length=len * es
 fz:um A cls (st + off + len * es)=true
 one:xs.all nF=true
 al:es ∣ off
 wr:Wr A A' A.next cls ((cells.drop off).take (len * es) ++ xs) e (st + off) K
 fze:A'.fz=A.fz
 all:∀x cs' e' st',x ∉ K→A.heap.get x=some (.row cs' e' cls st' true)→st' + cs'.length≤st + off + len * es
 bit:A'.r=A.r ||| (1 <<< cls)
 only:∀x∈K,∀cs' e' c' st' ok',A.heap.get x=some (.row cs' e' c' st' ok')→st + off + len * es < st' + cs'.length
theorem xk {A A':AS}{b off len n es e cls st:Nat}{cells xs:List Value}{nx:cu} (hi:bE A) (hn:A.next + 1≤A.next + 1) (hb:A.heap.get b=some (.row cells e cls st true))
  (h:sE A off len n es e cls st cells xs=some (nx,A')):nx=.val (.slice (some ⟨A.next,0,none⟩) (len + n) (len + n))∧∃K,wW A A' off len n es xs cells e cls st K:=by
 unfold sE at h;rw [bg,bp] at h;obtain⟨hc,h⟩:=aC h;rw [bg] at h;simp only [Bool.and_eq_true] at hc;obtain⟨hold,hfz,hal,hone⟩:=hc;have hold':((cells.drop off).take (len * es)).length=len * es:=Nat.eq_of_beq_eq_true hold;obtain⟨k1,k2,k3,k4,k5,k6⟩:=yh ((co A cls).filter (ek A (st + off + len * es))) (hi.bd (by omega));have hroot:=hi.root _ _ _ _ _ _ hb;have hcl:cls < A.next:=(hi.lt _ _ hb).2;have hfc:ir cls:=lT (by omega);have hfn:ir A.next:=lT (by omega);have hp:my (kill A ((co A cls).filter (ek A (st + off + len * es)))) ((cells.drop off).take (len * es) ++ xs) e cls (st + off) ((co A cls).filter fun m=>!(ek A (st + off + len * es) m)) (len + n) =
   some (.val (.slice (some ⟨A.next,0,none⟩) (len + n) (len + n)),⟨Tr.set (.row ((cells.drop off).take (len * es) ++ xs) e cls (st + off) true) 40 (kill A ((co A cls).filter (ek A (st + off + len * es)))).heap A.next,A.next + 1,
    Tr.set (A.next :: (co A cls).filter fun m=>!(ek A (st + off + len * es) m)) 40 A.mem cls,A.fz,A.r ||| (1 <<< cls),A.w ||| (1 <<< cls)⟩):=by
  generalize hk:kill A ((co A cls).filter (ek A (st + off + len * es)))=B at *;cases B;simp only at k2 k3 k4 k5 k6;subst k2 k3 k4 k5 k6;unfold my;simp only [bg,bX,bp,aB,dq]
 rw [show Nat.add (Nat.add st off) (Nat.mul len es)=st + off + len * es from rfl,show Nat.mul len es=len * es from rfl,show Nat.add st off=st + off from rfl,show Nat.add len n=len + n from rfl,hp] at h;injection h with h;injection h with h1 h2;refine⟨h1.symm,(co A cls).filter (ek A (st + off + len * es)),⟨hold',hfz,hone,Nat.dvd_of_mod_eq_zero (Nat.eq_of_beq_eq_true hal),?_,?_,?_,?_,?_⟩⟩
 ·subst h2;refine⟨.inl ⟨rfl,rfl⟩,hroot,fun x=>?_,fun x hx=>(List.mem_filter.1 hx).1,fun c hc=>?_,?_,?_,?_,fun c _=>rfl,.inr rfl,rfl⟩
  ·show (Tr.set _ 40 _ A.next).get x=_;rw [Tr.get_set _ _ _ _ hfn];split
   ·rfl
   ·exact k1 x
  ·show (Tr.set _ 40 A.mem cls).get c=_;rw [Tr.get_set _ _ _ _ hfc,if_neg hc]
  ·show A.next∈((Tr.set _ 40 A.mem cls).get cls).getD [cls];rw [Tr.get_set _ _ _ _ hfc,if_pos rfl];simp
  ·intro x cs' e' st' hne hk hx;show x∈((Tr.set _ 40 A.mem cls).get cls).getD [cls];rw [Tr.get_set _ _ _ _ hfc,if_pos rfl];have hmx:=hi.mem _ _ _ _ _ hx;simp only [Option.getD_some,List.mem_cons,List.mem_filter];right;refine⟨hmx,?_⟩;cases ht:ek A (st + off + len * es) x with
   | false=>rfl
   | true=>exact absurd (List.mem_filter.2 ⟨hmx,ht⟩) hk
  ·intro l x hl hx;rw [show ((_:AS).mem.get cls)=(Tr.set _ 40 A.mem cls).get cls from rfl,Tr.get_set _ _ _ _ hfc,if_pos rfl] at hl;injection hl with hl;subst hl;simp only [List.mem_cons,List.mem_filter] at hx;exact hx.imp id And.left
 ·subst h2; rfl
 ·intro x cs' e' st' hk hx;have hmx:=hi.mem _ _ _ _ _ hx;cases ht:ek A (st + off + len * es) x with
  | true=>exact absurd (List.mem_filter.2 ⟨hmx,ht⟩) hk
  | false=>
   unfold ek at ht;rw [hx] at ht;have ht':Nat.ble (st + off + len * es).succ (st' + cs'.length)=false:=ht;have h3:¬ (st + off + len * es).succ≤st' + cs'.length:=by
    intro hle;rw [Nat.ble_eq_true_of_le hle] at ht';cases ht'
   omega
 ·subst h2; rfl
 ·intro x hx cs' e' c' st' ok' hg;have ht:=(List.mem_filter.1 hx).2;unfold ek at ht;rw [hg] at ht;exact Nat.lt_of_succ_le (Nat.le_of_ble_eq_true ht)
inductive pJ (φ:cK):List MapEntry→List MapEntry→Prop
 | nil:pJ φ [] []
 | cons (k v v':Value) (n:Nat) (l l':List MapEntry) (hk:plain 50 k=true) (hv:dE φ v v') (hl:pJ φ l l'):pJ φ (⟨k,v,n⟩ :: l) (⟨k,v',n⟩ :: l')
theorem pJ.mono {φ φ':cK} (he:El φ φ') {l l':List MapEntry} (h:pJ φ l l'):pJ φ' l l':=by
 induction h with
 | nil=>exact .nil
 | cons k v v' n l l' hk hv _ ih=>exact .cons k v v' n l l' hk (hv.mono he) ih
def M6 (hz:Option Nat):Prop:=∃h,hz=some h∧1180591620717411303424≤h
theorem M6.mono {hz hz':Option Nat} (hh:∀h,hz=some h→∃h',hz'=some h'∧h≤h') (h:M6 hz):M6 hz':=by
 obtain⟨k,e1,e2⟩:=h;obtain⟨k',e3,e4⟩:=hh k e1;exact⟨k',e3,Nat.le_trans e2 e4⟩
theorem Cv {A:AS}{c:Nat} (h:jr A c=true):¬ M6 (A.fz.get c):=by
 rintro⟨k,e1,e2⟩;unfold jr at h;rw [e1] at h;have:=Nat.le_of_ble_eq_true h;omega
inductive mU (P:Program) (φ:cK) (hz:Option Nat) (b:Nat) (i:tI):eD→Obj→Prop
 | row (cells:List Value) (e c st:Nat) (C:Array Value) (fz:Nat × Nat) (hc:i.cls=c) (hs:i.st=st) (he:i.es=P.cellsOf e) (hsz:i.sh + i.sz=C.size) (hl:i.sh + cells.length≤C.size)
   (hv:b8 φ cells ((C.toList.drop i.sh).take cells.length)) (hf:fz=(0,0)∨∃h,hz=some h∧fz.2 + st≤h + i.sh) (e':Nat) (hE:(e'=e∧i.es ∣ i.sh)∨M6 hz):mU P φ hz b i (.row cells e c st true) (.cells C e' fz)
 | map (es:List MapEntry) (k:Nat) (es':Array MapEntry) (hc:i.cls=b) (he:pJ φ es es'.toList):mU P φ hz b i (.map es k) (.map es' k)
 | iter (s:ByteArray) (p:Nat) (hc:i.cls=b) (hs:i.sh=0):mU P φ hz b i (.iter s p) (.stringIter s p)
def O5:eD→Bool
 | .row _ _ _ _ ok=>ok
 | _=>true
theorem mU.mono {P:Program}{φ φ':cK}{hz hz':Option Nat}{b:Nat}{i:tI}{o:eD}{o':Obj} (he:El φ φ') (hh:∀h,hz=some h→∃h',hz'=some h'∧h≤h') (h:mU P φ hz b i o o'):mU P φ' hz' b i o o':=by
 cases h with
 | row cells e c st C fz hc hs h1 hsz hl hv hf e' hE=>
  refine .row cells e c st C fz hc hs h1 hsz hl (hv.mono he) (hf.imp id ?_) e' (hE.imp id (M6.mono hh));rintro⟨h,e1,e2⟩;obtain⟨h',e3,e4⟩:=hh h e1;exact⟨h',e3,by omega⟩
 | map es k es' hc h1=>exact .map es k es' hc (h1.mono he)
 | iter s p hc hs=>exact .iter s p hc hs
theorem mU.cls {P:Program}{φ:cK}{hz:Option Nat}{b:Nat}{i:tI}{o:eD}{o':Obj} (h:mU P φ hz b i o o'):i.cls=cm b o:=by
 cases h with
 | row cells e c st C fz hc=>exact hc
 | map es k es' hc=>exact hc
 | iter s p hc hs=>exact hc
def H8 (P:Program) (φ:cK):Prop:=∀g,g < P.globals.size→∃i,φ g=some i∧i.blk=g∧i.sh=0
theorem H8.mono {P:Program}{φ φ':cK} (he:El φ φ') (h:H8 P φ):H8 P φ':=fun g hg=>let ⟨i,h1,h2⟩:=h g hg; ⟨i,he _ _ h1,h2⟩
structure gz (P:Program) (φ:cK) (T:Nat→Prop) (A:AS) (w:World):Prop where
 blk:∀b i,φ b=some i→i.blk < w.heap.size
 inj:∀b₁ b₂ i₁ i₂,φ b₁=some i₁→φ b₂=some i₂→i₁.blk=i₂.blk→i₁.cls=i₂.cls∧i₁.sh + i₂.st=i₂.sh + i₁.st
 obj:∀b o,A.heap.get b=some o→O5 o=true→T (cm b o)→∃i o',φ b=some i∧w.heap[i.blk]?=some o'∧mU P φ (A.fz.get (cm b o)) b i o o'
 al:∀b i,φ b=some i→True
 glob:H8 P φ
 root:∀b i,φ b=some i→i.cls=b→i.sh=0
theorem gz.sub {P:Program}{φ:cK}{T T':Nat→Prop}{A:AS}{w:World} (h:gz P φ T A w) (ht:∀c,T' c→T c):gz P φ T' A w:=
 ⟨h.blk,h.inj,fun b o hb hl hT=>h.obj b o hb hl (ht _ hT),h.al,h.glob,h.root⟩
theorem gz.heap {P:Program}{φ:cK}{T:Nat→Prop}{A A':AS}{w w':World} (h:gz P φ T A w) (h1:A'.heap=A.heap) (h2:A'.fz=A.fz) (h3:w'.heap=w.heap):gz P φ T A' w':=
 ⟨fun b i hb=>by rw [h3]; exact h.blk b i hb,h.inj,fun b o hb hl hT=>by rw [h1] at hb; rw [h2,h3]; exact h.obj b o hb hl hT,h.al,h.glob,h.root⟩
structure bG (P:Program) (φ:cK) (T:Nat→Prop) (A A':AS) (w w':World) (φ':cK):Prop where
 ext:El φ φ'
 out:∀b,b < A.next∨A'.next≤b→φ' b=φ b
 rel:gz P φ' (fun c=>T c∨(A.next≤c∧c < A'.next)) A' w'
 img:∀b i,φ' b=some i→i.blk < w.heap.size→∃b₀ i₀,φ b₀=some i₀∧i₀.blk=i.blk∧i₀.cls=i.cls
 size:w.heap.size≤w'.heap.size
 same:∀k,k < w.heap.size→(∀b i,φ b=some i→i.blk=k→A'.w.testBit i.cls=false)→w'.heap[k]?=w.heap[k]?
 os:w'.os=w.os
 tape:w'.tape=w.tape
 output:w'.output=w.output
theorem bG.refl {P:Program}{φ:cK}{T:Nat→Prop}{A A':AS}{w w':World} (h:gz P φ T A w) (h1:A'.heap=A.heap) (h2:A'.fz=A.fz) (h4:A'.next=A.next) (h3:w'.heap=w.heap) (ho:w'.os=w.os) (ht:w'.tape=w.tape) (hp:w'.output=w.output):bG P φ T A A' w w' φ where
 ext:=fun _ _ h=>h
 out:=fun _ _=>rfl
 rel:=(h.heap h1 h2 h3).sub fun c hc=>hc.elim id fun hc=>by omega
 img:=fun b i hb _=>⟨b,i,hb,rfl,rfl⟩
 size:=by rw [h3]; exact Nat.le_refl _
 same:=fun k _ _=>by rw [h3]
 os:=ho
 tape:=ht
 output:=hp
theorem bG.trans {P:Program}{φ φ' φ'':cK}{T:Nat→Prop}{A B C:AS}{w w' w'':World} (hn:A.next≤B.next) (f:kW B C) (h:bG P φ T A B w w' φ') (k:bG P φ' (fun c=>T c∨(A.next≤c∧c < B.next)) B C w' w'' φ''):bG P φ T A C w w'' φ'' where
 ext:=fun b i hb=>k.ext b i (h.ext b i hb)
 out:=fun b hb=>by
  have:=f.next;rw [k.out b (by omega),h.out b (by omega)]
 rel:=k.rel.sub fun c hc=>by
  have:=f.next;rcases hc with hc | ⟨h1,h2⟩
  ·exact .inl (.inl hc)
  ·by_cases hlt:c < B.next
   ·exact .inl (.inr ⟨h1,hlt⟩)
   ·exact .inr ⟨by omega,h2⟩
 img:=fun b i hb hlt=>by
  obtain⟨b₁,i₁,e1,e2,e3⟩:=k.img b i hb (Nat.lt_of_lt_of_le hlt h.size);obtain⟨b₀,i₀,g1,g2,g3⟩:=h.img b₁ i₁ e1 (by rw [e2]; exact hlt);exact⟨b₀,i₀,g1,g2.trans e2,g3.trans e3⟩
 size:=Nat.le_trans h.size k.size
 same:=fun x hx hw=>by
  rw [k.same x (Nat.lt_of_lt_of_le hx h.size) fun b i hb he=>by
   obtain⟨b₀,i₀,g1,g2,g3⟩:=h.img b i hb (by rw [he]; exact hx);rw [← g3];exact hw b₀ i₀ g1 (g2.trans he)]
  exact h.same x hx fun b i hb he=>pK (f.w _) (hw b i hb he)
 os:=k.os.trans h.os
 tape:=k.tape.trans h.tape
 output:=k.output.trans h.output
theorem iC {w:World}{o:Obj}{k:Nat} (h:k < w.heap.size):(w.alloc o).heap[k]?=w.heap[k]?:=by
 unfold World.alloc; rw [Array.getElem?_push]; rw [if_neg (by omega)]
theorem kB {w:World}{o:Obj} : (w.alloc o).heap[w.heap.size]?=some o:=by
 unfold World.alloc; rw [Array.getElem?_push]; rw [if_pos rfl]
theorem bG.new {P:Program}{φ:cK}{T:Nat→Prop}{A:AS}{w:World} (hi:bE A) (hn:A.next + 1≤A.next + 1) (h:gz P φ T A w) (hfr:φ A.next=none) (o:Nat→eD) (hc:cm A.next (o A.next)=A.next) (o':Obj) (sh sz es st:Nat) (hal:sh=0)
  (ho:∀φ',El φ φ'→φ' A.next=some ⟨w.heap.size,sh,sz,es,A.next,st⟩→mU P φ' (A.fz.get A.next) A.next ⟨w.heap.size,sh,sz,es,A.next,st⟩ (o A.next) o') :
  ∃φ',φ' A.next=some ⟨w.heap.size,sh,sz,es,A.next,st⟩∧bG P φ T A (A.new o) w (w.alloc o') φ':=by
 have hf:ir A.next:=lT (by omega);refine⟨fun b=>if b=A.next then some ⟨w.heap.size,sh,sz,es,A.next,st⟩ else φ b,if_pos rfl,?_⟩;have hext:El φ fun b=>if b=A.next then some ⟨w.heap.size,sh,sz,es,A.next,st⟩ else φ b:=by
  intro b i hb;show (if b=A.next then _ else _)=_;rw [if_neg (by rintro rfl; rw [hfr] at hb; cases hb)];exact hb
 have hsz:(w.alloc o').heap.size=w.heap.size + 1:=by unfold World.alloc; exact Array.size_push ..
 refine⟨hext,fun b hb=>?_,⟨fun b i hb=>?_,fun b₁ b₂ i₁ i₂ h₁ h₂ he=>?_,fun b x hb hl hT=>?_,fun b i hb=>by
  have hb':(if b=A.next then some (⟨w.heap.size,sh,sz,es,A.next,st⟩ : tI) else φ b)=some i:=hb;split at hb'
  ·trivial
  ·exact h.al _ _ hb',h.glob.mono hext,fun b i hb hcl=>by
  have hb':(if b=A.next then some (⟨w.heap.size,sh,sz,es,A.next,st⟩ : tI) else φ b)=some i:=hb;split at hb'
  ·injection hb' with hb'; subst hb'; exact hal
  ·exact h.root _ _ hb' hcl⟩,fun b i hb hlt=>?_,by rw [hsz]; omega,fun k hk _=>iC hk,rfl,rfl,rfl⟩
 ·rw [gb] at hb;have hb':b < A.next∨A.next + 1≤b:=hb;show (if b=A.next then _ else _)=_;rw [if_neg (by omega)]
 ·rw [hsz];split at hb
  ·injection hb with hb; subst hb; show w.heap.size < _; omega
  ·have:=h.blk _ _ hb; omega
 ·split at h₁<;>split at h₂
  ·injection h₁ with h₁; injection h₂ with h₂; subst h₁; subst h₂; exact⟨rfl,rfl⟩
  ·injection h₁ with h₁; subst h₁; have:=h.blk _ _ h₂; simp only at he; omega
  ·injection h₂ with h₂; subst h₂; have:=h.blk _ _ h₁; simp only at he; omega
  ·exact h.inj _ _ _ _ h₁ h₂ he
 ·rw [gb] at hb hT;rw [show (A.new o).fz=A.fz from by rw [gb]];have hb':(Tr.set (o A.next) 40 A.heap A.next).get b=some x:=hb;rw [Tr.get_set _ _ _ _ hf] at hb';split at hb'
  ·rename_i he; subst he;injection hb' with hb'; subst hb';refine⟨_,o',if_pos rfl,kB,?_⟩;rw [hc];exact ho _ hext (if_pos rfl)
  ·have hlt:=(hi.lt _ _ hb').2;have hT':T (cm b x):=by
    rcases hT with hT | ⟨h1,_⟩
    ·exact hT
    ·omega
   obtain⟨i,y,e1,e2,e3⟩:=h.obj b x hb' hl hT';exact⟨i,y,hext _ _ e1,by rw [iC (h.blk _ _ e1)]; exact e2,e3.mono hext fun h hh=>⟨h,hh,Nat.le_refl _⟩⟩
 ·split at hb
  ·injection hb with hb; subst hb; simp only at hlt; omega
  ·exact⟨b,i,hb,rfl,rfl⟩
theorem gz.cells {P:Program}{φ:cK}{T:Nat→Prop}{A:AS}{w:World} (h:gz P φ T A w) {b:Nat}{cells:List Value}{e c st:Nat} (hb:A.heap.get b=some (.row cells e c st true)) (hT:T c) :
  ∃i C fz e',φ b=some i∧w.heap[i.blk]?=some (.cells C e' fz)∧i.cls=c∧i.st=st∧i.es=P.cellsOf e∧i.sh + i.sz=C.size∧i.sh + cells.length≤C.size∧b8 φ cells ((C.toList.drop i.sh).take cells.length)∧(fz=(0,0)∨∃h,A.fz.get c=some h∧fz.2 + st≤h + i.sh)∧((e'=e∧i.es ∣ i.sh)∨M6 (A.fz.get c)):=by
 obtain⟨i,o',e1,e2,e3⟩:=h.obj b _ hb rfl hT;cases e3 with
 | row _ _ _ _ C fz hc hs he hsz hl hv hf e' hE=>exact⟨i,C,fz,e',e1,e2,hc,hs,he,hsz,hl,hv,hf,hE⟩
theorem Fy {α:Type} (C vs:List α) (sh off n:Nat) (h:off + vs.length≤n) (h2:sh + n≤C.length) :
  ((C.take (sh + off) ++ vs ++ C.drop (sh + off + vs.length)).drop sh).take n=((C.drop sh).take n).take off ++ (vs ++ ((C.drop sh).take n).drop (off + vs.length)):=by
 apply List.ext_getElem?;intro j;simp only [List.getElem?_take,List.getElem?_drop,List.getElem?_append,List.length_append,List.length_take,List.length_drop];have e1:min (sh + off) C.length=sh + off:=by omega
 have e2:min off (min n (C.length - sh))=off:=by omega
 rw [e1,e2];by_cases h1:j < n
 ·by_cases h3:j < off
  ·rw [if_pos h1,if_pos (show sh + j < sh + off + vs.length by omega),if_pos (show sh + j < sh + off by omega),if_pos (show sh + j < sh + off by omega),if_pos h3,if_pos h3,if_pos h1]
  ·rw [if_pos h1];by_cases h4:j < off + vs.length
   ·rw [if_pos (show sh + j < sh + off + vs.length by omega),if_neg (show ¬ sh + j < sh + off by omega),if_neg h3,if_pos (show j - off < vs.length by omega)];congr 1; omega
   ·rw [if_neg (show ¬ sh + j < sh + off + vs.length by omega),if_neg h3,if_neg (show ¬ j - off < vs.length by omega),if_pos (show off + vs.length + (j - off - vs.length) < n by omega)];congr 1; omega
 ·rw [if_neg h1,if_neg (show ¬ j < off by omega),if_neg (show ¬ j - off < vs.length by omega),if_neg (show ¬ off + vs.length + (j - off - vs.length) < n by omega)]
theorem ug {α:Type} (C vs:List α) (o sh n:Nat) (h:sh + n≤o) (h2:o≤C.length):((C.take o ++ vs ++ C.drop (o + vs.length)).drop sh).take n=(C.drop sh).take n:=by
 apply List.ext_getElem?;intro j;simp only [List.getElem?_take,List.getElem?_drop,List.getElem?_append,List.length_append,List.length_take];by_cases h1:j < n
 ·rw [if_pos h1,if_pos h1,if_pos (by omega),if_pos (by omega),if_pos (by omega)]
 ·rw [if_neg h1,if_neg h1]
theorem js (w:World) (g:Nat) (cs:Array Value):(w.setRow g cs).heap.size=w.heap.size:=by simp [World.setRow]
theorem FV {A:AS}{cls st off:Nat}{i:tI}{fz:Nat × Nat} (h:um A cls (st + off)=true) (hf:fz=(0,0)∨∃h,A.fz.get cls=some h∧fz.2 + st≤h + i.sh):fz.2≤i.sh + off:=by
 rcases hf with rfl | ⟨k,e1,e2⟩
 ·exact Nat.zero_le _
 ·unfold um at h;rw [e1] at h;have:=Nat.le_of_ble_eq_true h;omega
theorem bG.store {P:Program}{φ:cK}{T:Nat→Prop}{A A':AS}{w:World}{b off:Nat}{vs vs' cells:List Value}{e cls st:Nat}{K:List Nat} (hi:bE A) (s:GH A A' b off vs cells e cls st K)
  (h:gz P φ T A w) (hT:T cls) (hv:b8 φ vs vs') {i:tI} (hb:φ b=some i) :
  ∃C fz e',w.heap[i.blk]?=some (.cells C e' fz)∧fz.2≤i.sh + off∧i.sh + off + vs'.length≤C.size∧bG P φ T A A' w (w.setRow i.blk (C.toList.take (i.sh + off) ++ vs' ++ C.toList.drop (i.sh + off + vs'.length)).toArray) φ:=by
 obtain⟨i',C,fz,e',e1,e2,e3,e4,e5,e6,e7,e8,e9,e10⟩:=h.cells s.row hT;obtain rfl:i'=i:=by rw [hb] at e1; injection e1 with e1; exact e1.symm
 have hlen:=hv.length;have hsl:=s.len;refine⟨C,fz,e',e2,FV s.fz e9,by omega,?_⟩;have hnx:A'.next=A.next:=by
  rcases s.wr.next with ⟨h0,_⟩ | ⟨h1,_⟩
  ·have:=(hi.lt _ _ s.row).1; omega
  ·exact h1
 have hbit:A'.w.testBit cls=true:=by rw [s.wr.w,cg]; simp
 have hC:C.toList.length=C.size:=by simp
 refine⟨fun _ _ h=>h,fun _ _=>rfl,⟨fun b i hb=>by rw [js]; exact h.blk b i hb,h.inj,fun x o hx hl hTx=>?_,h.al,h.glob,h.root⟩,fun b i hb _=>⟨b,i,hb,rfl,rfl⟩,by rw [js]; exact Nat.le_refl _,fun k _ hk=>?_,rfl,rfl,rfl⟩
 ·rw [s.wr.heap] at hx;rw [s.fze];have hTx':T (cm x o):=hTx.elim id fun hc=>by omega
  split at hx
  ·rename_i he; subst he;injection hx with hx; subst hx;refine⟨i',_,hb,setRow_heap _ _ _ _ _ _ e2,.row _ _ _ _ _ fz e3 e4 e5 ?_ ?_ ?_ e9 e' e10⟩
   ·simp; omega
   ·simp; omega
   ·have hl1:(cells.take off ++ (vs ++ cells.drop (off + vs.length))).length=cells.length:=by simp; omega
    rw [hl1];show b8 φ _ (((C.toList.take (i'.sh + off) ++ vs' ++ C.toList.drop (i'.sh + off + vs'.length)).toArray.toList.drop i'.sh).take cells.length);rw [List.toList_toArray,Fy _ _ _ _ _ (by omega) (by omega),hlen];exact (e8.take off).append (hv.append (e8.drop _))
  ·rename_i hne;split at hx
   ·obtain⟨y,hy,rfl⟩:=eC hx;cases y with
    | row a1 a2 a3 a4 a5=>cases hl
    | map es k=>
     obtain⟨j,o',g1,g2,g3⟩:=h.obj x _ hy rfl hTx';cases g3 with
     | map _ _ es' hc hE=>exact⟨j,_,g1,by rw [setRow_other _ _ _ _ (by intro hh; rw [hh,e2] at g2; cases g2)]; exact g2,.map _ _ _ hc hE⟩
    | iter ss p=>
     obtain⟨j,o',g1,g2,g3⟩:=h.obj x _ hy rfl hTx';cases g3 with
     | iter _ _ hc hs=>exact⟨j,_,g1,by rw [setRow_other _ _ _ _ (by intro hh; rw [hh,e2] at g2; cases g2)]; exact g2,.iter _ _ hc hs⟩
   ·rename_i hk;obtain⟨j,o',g1,g2,g3⟩:=h.obj x _ hx hl hTx';have hjc:=g3.cls;have hne':cm x o≠cls:=by
     intro hc;cases o with
     | row a1 a2 a3 a4 a5=>
      cases hl;have:a3=cls:=hc;subst this;exact hk (s.all _ _ _ _ hne hx)
     | map es k=>
      have:x=cls:=hc;subst this;obtain⟨_,_,_,_,h4⟩:=s.wr.root;rw [hx] at h4; cases h4
     | iter ss p=>
      have:x=cls:=hc;subst this;obtain⟨_,_,_,_,h4⟩:=s.wr.root;rw [hx] at h4; cases h4
    refine⟨j,o',g1,?_,g3⟩;rw [setRow_other _ _ _ _ (by intro hh; exact hne' (by rw [← hjc,(h.inj _ _ _ _ g1 hb hh).1,e3]))];exact g2
 ·rw [setRow_other _ _ _ _ (by
   rintro rfl;have:=hk b i' hb rfl;rw [e3,hbit] at this;cases this)]
theorem C5 {φ:cK}{n:Nat}{i:tI} (hfr:φ n=none):El φ fun b=>if b=n then some i else φ b:=by
 intro b j hb;show (if b=n then _ else _)=_;rw [if_neg (by rintro rfl; rw [hfr] at hb; cases hb)];exact hb
theorem bG.room {P:Program}{φ:cK}{T:Nat→Prop}{A A':AS}{w:World}{b off len n es:Nat}{xs xs' cells:List Value}{e cls st:Nat}{K:List Nat} (hi:bE A) (s:wW A A' off len n es xs cells e cls st K)
  (hb:A.heap.get b=some (.row cells e cls st true)) (h:gz P φ T A w) (hT:T cls) (hfr:φ A.next=none) (hv:b8 φ xs xs') (hx:xs.length=n * es) {i:tI} (hφ:φ b=some i) {cap:Nat} (hcap:len + n≤cap) (hes:i.es=es) (hr:off + cap * i.es≤i.sz) :
  ∃C fz e',w.heap[i.blk]?=some (.cells C e' fz)∧fz.2≤i.sh + off + len * es∧i.sh + off + len * es + xs'.length≤C.size∧
   bG P φ T A A' w (w.setRow i.blk (C.toList.take (i.sh + off + len * es) ++ xs' ++ C.toList.drop (i.sh + off + len * es + xs'.length)).toArray) (fun x=>if x=A.next then some ⟨i.blk,i.sh + off,i.sz - off,i.es,i.cls,i.st + off⟩ else φ x):=by
 obtain⟨i',C,fz,e',e1,e2,e3,e4,e5,e6,e7,e8,e9,e10⟩:=h.cells hb hT;obtain rfl:i'=i:=by rw [hφ] at e1; injection e1 with e1; exact e1.symm
 have hlen:=hv.length;have hold:=s.old;rw [List.length_take,List.length_drop] at hold;have hmul:len * es + n * es≤cap * i'.es:=by rw [hes,← Nat.add_mul]; exact Nat.mul_le_mul_right _ hcap
 have hsz:i'.sh + off + len * es + xs'.length≤C.size:=by omega
 have hoff:i'.sh + off≤C.size:=by omega
 have hC:C.toList.length=C.size:=by simp
 have hlow:fz.2≤i'.sh + off + len * es:=by
  have:=FV (A:=A) (st:=st) (off:=off + len * es) (i:=i') (fz:=fz) (by rw [← Nat.add_assoc]; exact s.fz) e9;omega
 refine⟨C,fz,e',e2,hlow,hsz,?_⟩;have hnx:A'.next=A.next + 1:=by
  rcases s.wr.next with ⟨_,h1⟩ | ⟨_,_,_,_,_,h2⟩
  ·exact h1
  ·have:=(hi.lt _ _ h2).1; omega
 have hbit:A'.w.testBit cls=true:=by rw [s.wr.w,cg]; simp
 have hcl:cls < A.next:=(hi.lt _ _ hb).2;have hext:=C5 (i:=⟨i'.blk,i'.sh + off,i'.sz - off,i'.es,i'.cls,i'.st + off⟩) hfr;refine⟨hext,fun x hx=>?_,⟨fun x j hx=>?_,fun b₁ b₂ i₁ i₂ h₁ h₂ he=>?_,fun x o hx hl hTx=>?_,fun x j hx=>by
  have hx':(if x=A.next then some (⟨i'.blk,i'.sh + off,i'.sz - off,i'.es,i'.cls,i'.st + off⟩ : tI) else φ x)=some j:=hx;split at hx'
  ·trivial
  ·exact h.al _ _ hx',h.glob.mono hext,fun x j hx hcl=>by
  have hx':(if x=A.next then some (⟨i'.blk,i'.sh + off,i'.sz - off,i'.es,i'.cls,i'.st + off⟩ : tI) else φ x)=some j:=hx;split at hx'
  ·rename_i hxn; injection hx' with hx'; subst hx'; have hcc:i'.cls=x:=hcl; rw [e3] at hcc; omega
  ·exact h.root _ _ hx' hcl⟩,fun x j hx hlt=>?_,by rw [js]; exact Nat.le_refl _,fun k _ hk=>?_,rfl,rfl,rfl⟩
 ·show (if x=A.next then _ else _)=_;rw [if_neg (by omega)]
 ·rw [js];split at hx
  ·injection hx with hx; subst hx; exact h.blk _ i' hφ
  ·exact h.blk _ _ hx
 ·split at h₁<;>split at h₂
  ·injection h₁ with h₁; injection h₂ with h₂; subst h₁; subst h₂; exact⟨rfl,rfl⟩
  ·injection h₁ with h₁; subst h₁;have:=h.inj _ _ _ _ hφ h₂ he;simp only;omega
  ·injection h₂ with h₂; subst h₂;have:=h.inj _ _ _ _ h₁ hφ he;simp only;omega
  ·exact h.inj _ _ _ _ h₁ h₂ he
 ·rw [s.wr.heap] at hx;rw [s.fze];split at hx
  ·rename_i he; subst he;injection hx with hx; subst hx;refine⟨⟨i'.blk,i'.sh + off,i'.sz - off,i'.es,i'.cls,i'.st + off⟩,_,if_pos rfl,setRow_heap _ _ _ _ _ _ e2,mU.row (i:=⟨i'.blk,i'.sh + off,i'.sz - off,i'.es,i'.cls,i'.st + off⟩) _ _ _ _ _ fz e3 (by show i'.st + off=st + off; rw [e4]) e5 ?_ ?_ ?_ ?_ e' ?_⟩
   ·simp; omega
   ·simp; omega
   ·have hl1:((cells.drop off).take (len * es) ++ xs).length=len * es + xs'.length:=by rw [List.length_append,s.old,hlen]
    rw [hl1];show b8 _ _ (((C.toList.take (i'.sh + off + len * es) ++ xs' ++ C.toList.drop (i'.sh + off + len * es + xs'.length)).toArray.toList.drop (i'.sh + off)).take (len * es + xs'.length));rw [List.toList_toArray,Fy _ _ _ _ _ (Nat.le_refl _) (by omega)];have hd:((C.toList.drop (i'.sh + off)).take (len * es + xs'.length)).drop (len * es + xs'.length)=[]:=by rw [List.drop_eq_nil_iff]; simp; omega
    rw [hd,List.append_nil];refine b8.append (VR.mono hext ?_) (hv.mono hext);have e8':=(e8.drop off).take (len * es);have hEq:(((C.toList.drop i'.sh).take cells.length).drop off).take (len * es)=((C.toList.drop (i'.sh + off)).take (len * es + xs'.length)).take (len * es):=by
     rw [List.drop_take,List.take_take,List.take_take,List.drop_drop];congr 1;omega
    rw [hEq] at e8';exact e8'
   ·refine e9.imp id ?_;rintro⟨k,g1,g2⟩;exact⟨k,g1,by show fz.2 + (st + off)≤k + (i'.sh + off); omega⟩
   ·exact e10.imp (fun ⟨g1,g2⟩=>⟨g1,Nat.dvd_add g2 (by show i'.es ∣ off; rw [hes]; exact s.al)⟩) id
  ·rename_i hne;have hTx':∀o',A.heap.get x=some o'→cm x o'=cm x o→T (cm x o):=by
    intro o' ho' hc;rcases hTx with ht | ⟨h1,_⟩
    ·exact ht
    ·have:=(hi.lt _ _ ho').2; rw [hc] at this; omega
   split at hx
   ·obtain⟨y,hy,rfl⟩:=eC hx;have hT2:=hTx' y hy (by rw [sf]);cases y with
    | row a1 a2 a3 a4 a5=>cases hl
    | map es' k=>
     obtain⟨j,o',g1,g2,g3⟩:=h.obj x _ hy rfl hT2;cases g3 with
     | map _ _ es' hc hE=>exact⟨j,_,hext _ _ g1,by rw [setRow_other _ _ _ _ (by intro hh; rw [hh,e2] at g2; cases g2)]; exact g2,.map _ _ _ hc (hE.mono hext)⟩
    | iter ss p=>
     obtain⟨j,o',g1,g2,g3⟩:=h.obj x _ hy rfl hT2;cases g3 with
     | iter _ _ hc hs=>exact⟨j,_,hext _ _ g1,by rw [setRow_other _ _ _ _ (by intro hh; rw [hh,e2] at g2; cases g2)]; exact g2,.iter _ _ hc hs⟩
   ·rename_i hk;obtain⟨j,o',g1,g2,g3⟩:=h.obj x _ hx hl (hTx' o hx rfl);have hjc:=g3.cls;by_cases hblk:j.blk=i'.blk
    ·
     obtain⟨hc1,hc2⟩:=h.inj _ _ _ _ g1 hφ hblk;rw [hblk,e2] at g2;injection g2 with g2;subst g2;cases g3 with
     | row cells2 _ c2 st2 _ _ q1 q2 q3 q4 q5 q6 q7 _ q8=>
      have hcc:c2=cls:=by rw [← q1,hc1,e3]
      subst hcc;have hle:=s.all _ _ _ _ hk hx;refine⟨j,_,hext _ _ g1,by rw [hblk]; exact setRow_heap _ _ _ _ _ _ e2,.row _ _ _ _ _ fz q1 q2 q3 ?_ ?_ ?_ q7 _ q8⟩
      ·simp; omega
      ·simp; omega
      ·show b8 _ _ (((C.toList.take (i'.sh + off + len * es) ++ xs' ++ C.toList.drop (i'.sh + off + len * es + xs'.length)).toArray.toList.drop j.sh).take cells2.length);rw [List.toList_toArray,ug _ _ _ _ _ (by omega) (by omega)];exact q6.mono hext
    ·exact⟨j,o',hext _ _ g1,by rw [setRow_other _ _ _ _ hblk]; exact g2,g3.mono hext fun k hk=>⟨k,hk,Nat.le_refl _⟩⟩
 ·split at hx
  ·injection hx with hx; subst hx; exact⟨b,i',hφ,rfl,rfl⟩
  ·exact⟨x,j,hx,rfl,rfl⟩
 ·rw [setRow_other _ _ _ _ (by
   rintro rfl;have:=hk b i' hφ rfl;rw [e3,hbit] at this;cases this)]
theorem bG.grow {P:Program}{φ:cK}{T:Nat→Prop}{A A':AS}{w:World}{b off len n es:Nat}{xs cells:List Value}{e cls st:Nat}{K:List Nat} (hi:bE A) (s:wW A A' off len n es xs cells e cls st K)
  (hb:A.heap.get b=some (.row cells e cls st true)) (h:gz P φ T A w) (hfr:φ A.next=none) (C':Array Value) (hes:P.cellsOf e=es)
  (hv:b8 φ ((cells.drop off).take (len * es) ++ xs) (C'.toList.take ((cells.drop off).take (len * es) ++ xs).length)) (hlC:((cells.drop off).take (len * es) ++ xs).length≤C'.size) :
  bG P φ T A A' w (w.alloc (.cells C' e)) (fun x=>if x=A.next then some ⟨w.heap.size,0,C'.size,es,cls,st + off⟩ else φ x):=by
 have hnx:A'.next=A.next + 1:=by
  rcases s.wr.next with ⟨_,h1⟩ | ⟨_,_,_,_,_,h2⟩
  ·exact h1
  ·have:=(hi.lt _ _ h2).1; omega
 have hcl:cls < A.next:=(hi.lt _ _ hb).2;have hext:=C5 (i:=⟨w.heap.size,0,C'.size,es,cls,st + off⟩) hfr;have hsz:(w.alloc (.cells C' e)).heap.size=w.heap.size + 1:=by unfold World.alloc; exact Array.size_push ..
 refine⟨hext,fun x hx=>?_,⟨fun x j hx=>?_,fun b₁ b₂ i₁ i₂ h₁ h₂ he=>?_,fun x o hx hl hTx=>?_,fun x j hx=>by
  have hx':(if x=A.next then some (⟨w.heap.size,0,C'.size,es,cls,st + off⟩ : tI) else φ x)=some j:=hx;split at hx'
  ·trivial
  ·exact h.al _ _ hx',h.glob.mono hext,fun x j hx hcl=>by
  have hx':(if x=A.next then some (⟨w.heap.size,0,C'.size,es,cls,st + off⟩ : tI) else φ x)=some j:=hx;split at hx'
  ·injection hx' with hx'; subst hx'; rfl
  ·exact h.root _ _ hx' hcl⟩,fun x j hx hlt=>?_,by rw [hsz]; omega,fun k hk _=>iC hk,rfl,rfl,rfl⟩
 ·show (if x=A.next then _ else _)=_;rw [if_neg (by omega)]
 ·rw [hsz];split at hx
  ·injection hx with hx; subst hx; show w.heap.size < _; omega
  ·have:=h.blk _ _ hx; omega
 ·split at h₁<;>split at h₂
  ·injection h₁ with h₁; injection h₂ with h₂; subst h₁; subst h₂; exact⟨rfl,rfl⟩
  ·injection h₁ with h₁; subst h₁; have:=h.blk _ _ h₂; simp only at he; omega
  ·injection h₂ with h₂; subst h₂; have:=h.blk _ _ h₁; simp only at he; omega
  ·exact h.inj _ _ _ _ h₁ h₂ he
 ·rw [s.wr.heap] at hx;rw [s.fze];split at hx
  ·rename_i he; subst he;injection hx with hx; subst hx;refine⟨⟨w.heap.size,0,C'.size,es,cls,st + off⟩,_,if_pos rfl,kB,.row _ _ _ _ _ (0,0) rfl rfl hes.symm (by simp) (by rw [Nat.zero_add]; exact hlC) ?_ (.inl rfl) _ (.inl ⟨rfl,Nat.dvd_zero _⟩)⟩;show b8 _ _ ((C'.toList.drop 0).take _);rw [List.drop_zero];exact hv.mono hext
  ·rename_i hne;have hTx':∀o',A.heap.get x=some o'→cm x o'=cm x o→T (cm x o):=by
    intro o' ho' hc;rcases hTx with ht | ⟨h1,_⟩
    ·exact ht
    ·have:=(hi.lt _ _ ho').2; rw [hc] at this; omega
   have key:∀o',A.heap.get x=some o'→O5 o'=true→cm x o'=cm x o→o'=o→∃i o',(if x=A.next then some (⟨w.heap.size,0,C'.size,es,cls,st + off⟩ : tI) else φ x)=some i∧(w.alloc (.cells C' e)).heap[i.blk]?=some o'∧mU P (fun x=>if x=A.next then some ⟨w.heap.size,0,C'.size,es,cls,st + off⟩ else φ x) (A.fz.get (cm x o)) x i o o':=by
    rintro o' ho' hlo hc rfl;obtain⟨j,o2,g1,g2,g3⟩:=h.obj x _ ho' hlo (hTx' _ ho' rfl);exact⟨j,o2,hext _ _ g1,by rw [iC (h.blk _ _ g1)]; exact g2,g3.mono hext fun k hk=>⟨k,hk,Nat.le_refl _⟩⟩
   split at hx
   ·obtain⟨y,hy,rfl⟩:=eC hx;cases y with
    | row a1 a2 a3 a4 a5=>cases hl
    | map es' k=>exact key _ hy rfl rfl rfl
    | iter ss p=>exact key _ hy rfl rfl rfl
   ·exact key _ hx hl rfl rfl
 ·split at hx
  ·injection hx with hx; subst hx; simp only at hlt; omega
  ·exact⟨x,j,hx,rfl,rfl⟩
theorem fM (φ:cK):dE φ undef undef:=.tuple _ _ .nil
inductive yx (φ:cK):Deferred→Deferred→Prop
 | mk (g:FuncId) (cap cap' args args':Array Value) (hc:b8 φ cap.toList cap'.toList) (ha:b8 φ args.toList args'.toList):yx φ ⟨.fn (.func g) cap,args⟩ ⟨.fn (.func g) cap',args'⟩
inductive oM (φ:cK):List Deferred→List Deferred→Prop
 | nil:oM φ [] []
 | cons (d d':Deferred) (l l':List Deferred) (h:yx φ d d') (hs:oM φ l l'):oM φ (d :: l) (d' :: l')
theorem yx.mono {φ φ':cK} (he:El φ φ') {d d':Deferred} (h:yx φ d d'):yx φ' d d':=by
 cases h with | mk g cap cap' args args' hc ha=>exact .mk g cap cap' args args' (hc.mono he) (ha.mono he)
theorem oM.mono {φ φ':cK} (he:El φ φ') {d d':List Deferred} (h:oM φ d d'):oM φ' d d':=by
 induction h with
 | nil=>exact .nil
 | cons d d' l l' h _ ih=>exact .cons d d' l l' (h.mono he) ih
structure dm (φ:cK) (f:Fr) (a:Act):Prop where
 size:a.tmps.size=f.n
 few:f.n≤1000000
 tmps:∀t,dE φ ((f.tmps.get t).getD undef) (a.tmps.getD t undef)
 defers:oM φ f.defers a.defers
theorem dm.mono {φ φ':cK} (he:El φ φ') {f:Fr}{a:Act} (h:dm φ f a):dm φ' f a:=⟨h.size,h.few,fun t=>(h.tmps t).mono he,h.defers.mono he⟩
theorem dm.eval {φ:cK}{f:Fr}{a:Act} (h:dm φ f a) {x:Operand}{v:Value} (hx:f.eval x=some v):dE φ v (a.eval x):=by
 cases x with
 | tmp t=>
  have hx':Ie (f.tmps.get t)=some v:=hx;have ht:=h.tmps t;cases hg:f.tmps.get t with
  | none=>rw [hg] at hx' ht; injection hx' with hx'; subst hx'; exact ht
  | some u=>rw [hg] at hx' ht; injection hx' with hx'; subst hx'; exact ht
 | const u=>
  have hx':lA u=some v:=hx;unfold lA at hx';obtain⟨hp,he⟩:=aC hx';injection he with he;subst he;exact cy φ _ _ hp
 | global g=>cases hx
 | func g=>
  have hx':some (Value.func (.func g) #[] #[])=some v:=hx;injection hx' with hx';subst hx';exact .func g _ _ _ _ .nil .nil
theorem dm.evalG {P:Program}{φ:cK}{f:Fr}{a:Act}{T:Nat→Prop}{A:AS}{w:World} (h:dm φ f a) (hr:gz P φ T A w) {x:Operand}{v:Value} (hx:evalG P f x=some v):dE φ v (a.eval x):=by
 unfold Go.EvL.evalG at hx;split at hx
 ·rename_i g;obtain⟨h1,h2⟩:=aC hx;injection h2 with h2;subst h2;obtain⟨i,e1,e2,e3⟩:=hr.glob g (Nat.le_of_ble_eq_true h1);have:=VR.ptr (φ:=φ) g 0 i e1;rw [e2,e3] at this;exact this
 ·exact h.eval hx
inductive NRel (φ:cK) (w:World):cu→Result Next→Prop
 | val (v v':Value) (h:dE φ v v'):NRel φ w (.val v) (.ok (.value v') w)
 | skip:NRel φ w (.val undef) (.ok .skip w)
 | enter (g:FuncId) (args args':Array Value) (h:b8 φ args.toList args'.toList):NRel φ w (.enter g args) (.ok (.enter g args') w)
 | dfr (d d':Deferred) (h:yx φ d d'):NRel φ w (.dfr d) (.ok (.defer d') w)
 | recover:NRel φ w .recover (.ok .recover w)
 | panic (v v':Value) (h:dE φ v v'):NRel φ w (.panic v) (.halt (.panic v') w)
def fU (A A':AS) (T:Nat→Prop):Prop:=∀c,c < A.next→(A'.r.testBit c=true∨A'.w.testBit c=true)→T c
def fu (A A':AS) (φ:cK):Prop:=∀b,A.next≤b→b < A'.next→φ b=none
structure bQ (P:Program) (f:Fr) (A:AS) (o:Oper) (nx:cu) (A':AS):Prop where
 fr:kW A A'
 run:∀(φ:cK) (T:Nat→Prop) (w:World) (a:Act),dm φ f a→gz P φ T A w→fU A A' T→fu A A' φ→
  ∃φ' w',bG P φ T A A' w w' φ'∧NRel φ' w' nx ((execOp a.eval o).run P w)
theorem aM {P:Program}{f:Fr}{A:AS}{o:Oper}{nx:cu} (hi:bE A) (h:∀(φ:cK) (w:World) (a:Act),dm φ f a→NRel φ w nx ((execOp a.eval o).run P w)):bQ P f A o nx A:=
 ⟨.refl hi,fun φ _ w a hf hr _ _=>⟨φ,w,.refl hr rfl rfl rfl rfl rfl rfl rfl,h φ w a hf⟩⟩
theorem jw {P:Program}{f:Fr}{A:AS}{o:Oper}{nx:cu} (hi:bE A) (h:∀(φ:cK) (T:Nat→Prop) (w:World) (a:Act),dm φ f a→gz P φ T A w→NRel φ w nx ((execOp a.eval o).run P w)):bQ P f A o nx A:=
 ⟨.refl hi,fun φ T w a hf hr _ _=>⟨φ,w,.refl hr rfl rfl rfl rfl rfl rfl rfl,h φ T w a hf hr⟩⟩
theorem gL {s A':AS}{x:Option Value}{nx:cu} (h:lK s x=some (nx,A')):∃v,x=some v∧nx=.val v∧A'=s:=by
 cases x with
 | none=>cases h
 | some v=>have h':some (cu.val v,s)=some (nx,A'):=h; injection h' with h'; injection h' with h1 h2; exact⟨v,rfl,h1.symm,h2.symm⟩
section
variable {P:Program}{f:Fr}{A A':AS}{nx:cu}{d:Option Tmp}{ty:TypeId}{pos:String}{af:Array Edge}{gd:Option (Nat × Bool)}
theorem AN (hi:bE A) (x:Operand) (h:aU P f ⟨d,.move x,ty,pos,af,gd⟩ A=some (nx,A')):bQ P f A ⟨d,.move x,ty,pos,af,gd⟩ nx A':=by
 have h':lK A (f.eval x)=some (nx,A'):=h;obtain⟨v,hx,rfl,rfl⟩:=gL h';exact aM hi fun φ w a hf=>.val _ _ (hf.eval hx)
theorem vY (hi:bE A) (x:Operand) (h:aU P f ⟨d,.assign x,ty,pos,af,gd⟩ A=some (nx,A')):bQ P f A ⟨d,.assign x,ty,pos,af,gd⟩ nx A':=by
 have h':lK A (f.eval x)=some (nx,A'):=h;obtain⟨v,hx,rfl,rfl⟩:=gL h';exact aM hi fun φ w a hf=>.val _ _ (hf.eval hx)
theorem AA (hi:bE A) (c x y:Operand) (h:aU P f ⟨d,.pick c x y,ty,pos,af,gd⟩ A=some (nx,A')):bQ P f A ⟨d,.pick c x y,ty,pos,af,gd⟩ nx A':=by
 have h':tc f (f.eval c) x y A=some (nx,A'):=h;unfold tc at h';split at h'
 ·rename_i hc;obtain⟨v,hx,rfl,rfl⟩:=gL h';refine aM hi fun φ w a hf=>?_;have hcc:=hf.eval hc;have e:(execOp a.eval ⟨d,.pick c x y,ty,pos,af,gd⟩).run P w=.ok (.value (a.eval x)) w:=by
   generalize hq:a.eval c=q at hcc;cases hcc;simp only [execOp,hq];rfl
  rw [e];exact .val _ _ (hf.eval hx)
 ·rename_i hc;obtain⟨v,hx,rfl,rfl⟩:=gL h';refine aM hi fun φ w a hf=>?_;have hcc:=hf.eval hc;have e:(execOp a.eval ⟨d,.pick c x y,ty,pos,af,gd⟩).run P w=.ok (.value (a.eval y)) w:=by
   generalize hq:a.eval c=q at hcc;cases hcc;simp only [execOp,hq];rfl
  rw [e];exact .val _ _ (hf.eval hx)
 ·cases h'
theorem ui (hi:bE A) (x:Operand) (i:Nat) (h:aU P f ⟨d,.extract x i,ty,pos,af,gd⟩ A=some (nx,A')):bQ P f A ⟨d,.extract x i,ty,pos,af,gd⟩ nx A':=by
 have h':jY (f.eval x) i A=some (nx,A'):=h;unfold jY at h';split at h'
 ·rename_i vs hc;obtain⟨v,hx,rfl,rfl⟩:=gL h';refine aM hi fun φ w a hf=>?_;have hcc:=hf.eval hc;generalize hq:a.eval x=q at hcc;cases hcc with
  | tuple _ vs' hv=>
   obtain⟨v',h1,h2⟩:=b8.get i hv hx;have e:(execOp a.eval ⟨d,.extract x i,ty,pos,af,gd⟩).run P w=.ok (.value v') w:=by
    simp only [execOp,hq,Instr.extract];rw [show vs'[i]?=some v' by simpa using h1];rfl
   rw [e];exact .val _ _ h2
 ·cases h'
theorem cY (hi:bE A) (o:Oper) (hs:∀cs b,o.op≠.select cs b) (h:dA P f o A=some (nx,A')):bQ P f A o nx A':=by
 unfold dA at h;obtain⟨hp,h⟩:=aC h;unfold gF at h;split at h
 ·rename_i v hv;obtain⟨hpv,h⟩:=aC h;injection h with h;injection h with h1 h2;subst h1;subst h2;refine aM hi fun φ w a hf=>?_;have hc:execOp a.eval o=execOp (fun x=>(f.eval x).getD undef) o:=by
   refine execOp_congr o hs fun x hx=>?_;rw [List.all_eq_true] at hp;have hpx:=hp x (by simpa using hx);unfold jl at hpx;split at hpx
   ·rename_i u hu;rw [hu];exact cN φ _ _ _ hpx (hf.eval hu)
   ·cases hpx
  rw [hc,gJ P _ hv w];exact .val _ _ (cy φ _ _ hpv)
 ·cases h
end
theorem bT {P:Program}{s:Sem Value}{v:Value}{w w':World} (h:s.run P w=.ok v w'):(do pure (.value (← s)):Sem Next).run P w=.ok (.value v) w':=by
 rw [Sem.run_bind,h]; rfl
theorem RZ {P:Program}{s:Sem Unit}{w w':World} (h:s.run P w=.ok () w'):(do s; pure .skip:Sem Next).run P w=.ok .skip w':=by
 rw [Sem.run_bind,h]; rfl
theorem yv {P:Program}{t:TypeId}{i:TypeInfo} (h:P.info? t=some i) (w:World):(typeInfo t).run P w=.ok i w:=by
 simp [typeInfo,Sem.run_bind,Result.andThen,h]
theorem hH {P:Program}{t n:Nat} (h:bP P t=some n):∃i,P.info? t=some i∧i.size=n∧P.cellsOf t=n:=by
 unfold bP at h;cases hi:P.info? t with
 | none=>rw [hi] at h; cases h
 | some i=>rw [hi] at h; injection h with h; exact⟨i,rfl,h,by simp [Program.cellsOf,hi,h]⟩
theorem eF {P:Program}{t n:Nat} (h:bP P t=some n) (w:World):(sizeOf t).run P w=.ok n w:=by
 obtain⟨i,hi,hn,_⟩:=hH h;simp [sizeOf,Result.andThen,yv hi,hn]
theorem mq {P:Program}{t:TypeId}{d:TypeDesc} (h:P.underlying t=some d) (w:World):(isAgg t).run P w=.ok (jI (some d)) w:=by
 simp only [isAgg,Sem.run_bind,run_underlying h,Result.andThen];cases d<;>rfl
theorem fa {φ:cK}{v v':Value} (h:dE φ v v'):b8 φ v.cells.toList v'.cells.toList:=by
 cases h with
 | agg xs xs' h=>exact h
 | _=>all_goals exact .cons _ _ _ _ (by constructor<;>assumption) .nil
theorem K3 {φ:cK}{v v':Value} (h:dE φ v v') (ho:nF v=true):v'.oneCell'=true:=by
 cases h with
 | agg xs xs' h=>cases ho
 | tuple xs xs' h=>cases ho
 | _=>rfl
theorem pi {φ:cK} : ∀{l l':List Value},b8 φ l l'→l.all nF=true→∀v'∈l',v'.oneCell'=true:=by
 intro l
 induction l with
 | nil=>intro l' h _ v' hv; cases h; cases hv
 | cons a l ih=>
  intro l' h ho v' hv;simp only [List.all_cons,Bool.and_eq_true] at ho;cases h with
  | cons _ a' _ l'' h1 hs=>
   rcases List.mem_cons.1 hv with rfl | hv
   ·exact K3 h1 ho.1
   ·exact ih hs ho.2 _ hv
section
variable {P:Program}{f:Fr}{A A':AS}{nx:cu}{d:Option Tmp}{ty:TypeId}{pos:String}{af:Array Edge}{gd:Option (Nat × Bool)}
theorem aY (A:AS) (cells:List Value) (e:Nat):(newRow A cells e).next=A.next + 1:=by rw [dk,gb]
theorem jt {φ:cK}{T:Nat→Prop}{w:World}{cells cells':List Value}{e:Nat} (hi:bE A) (hn:(newRow A cells e).next≤(newRow A cells e).next) (h:gz P φ T A w) (hfr:fu A (newRow A cells e) φ) (hv:b8 φ cells cells') :
  ∃φ',φ' A.next=some ⟨w.heap.size,0,cells'.length,P.cellsOf e,A.next,0⟩∧bG P φ T A (newRow A cells e) w (w.alloc (.cells cells'.toArray e)) φ':=by
 rw [aY] at hn;have hlen:=hv.length;rw [dk];refine bG.new hi hn h (hfr _ (Nat.le_refl _) (by rw [aY]; omega)) _ rfl _ _ _ _ _ rfl fun φ' he _=>?_;refine .row _ _ _ _ _ (0,0) rfl rfl rfl (by simp) (by simp; omega) ?_ (.inl rfl) _ (.inl ⟨rfl,Nat.dvd_zero _⟩);show b8 φ' cells ((cells'.drop 0).take cells.length);rw [List.drop_zero,hlen,List.take_length];exact hv.mono he
theorem DY (hi:bE A) (hn:A'.next≤A'.next) (e:TypeId) (x:Operand) (h:aU P f ⟨d,.box e x,ty,pos,af,gd⟩ A=some (nx,A')):bQ P f A ⟨d,.box e x,ty,pos,af,gd⟩ nx A':=by
 have h':qY A e (f.eval x)=some (nx,A'):=h;unfold qY at h';split at h'
 ·rename_i v hx;injection h' with h';injection h' with h1 h2;subst h1;subst h2;rw [aY] at hn;refine⟨gC hi hn _ _,fun φ T w a hf hr _ hfr=>?_⟩;obtain⟨φ',e1,e2⟩:=jt hi (by rw [aY]; exact hn) hr hfr (fa (hf.eval hx));refine⟨φ',_,e2,?_⟩;exact .val _ _ (.ptr _ 0 _ e1)
 ·cases h'
theorem zero_rel {t:TypeId}{z:Value} (h:dR P t=some z):plain 50 z=true∧∀w,(zeroValue t).run P w=.ok z w:=by
 unfold dR at h;split at h
 ·rename_i z' hz;unfold lA at h;obtain⟨hp,he⟩:=aC h;injection he with he;subst he;refine⟨hp,fun w=>?_⟩;cases hi:P.info? t with
  | none=>rw [hi] at hz; cases hz
  | some i=>
   rw [hi] at hz;have hz':i.zero=some z':=hz;simp [zeroValue,Sem.run_bind,Result.andThen,yv hi,hz']
 ·cases h
theorem xP (hi:bE A) (hn:A'.next≤A'.next) (e:TypeId) (h:aU P f ⟨d,.alloc e,ty,pos,af,gd⟩ A=some (nx,A')):bQ P f A ⟨d,.alloc e,ty,pos,af,gd⟩ nx A':=by
 have h':qY A e (dR P e)=some (nx,A'):=h;unfold qY at h';split at h'
 ·rename_i v hx;obtain⟨hp,hz⟩:=zero_rel hx;injection h' with h';injection h' with h1 h2;subst h1;subst h2;rw [aY] at hn;refine⟨gC hi hn _ _,fun φ T w a hf hr _ hfr=>?_⟩;obtain⟨φ',e1,e2⟩:=jt hi (by rw [aY]; exact hn) hr hfr (fa (cy φ _ _ hp));refine⟨φ',_,e2,?_⟩;have e:(execOp a.eval ⟨d,.alloc e,ty,pos,af,gd⟩).run P w=.ok (.value (.pointer (some ⟨w.heap.size,0,none⟩))) (w.alloc (.cells v.cells.toList.toArray e)):=by
   refine bT ?_;simp only [Instr.alloc,Sem.run_bind,hz,Result.andThen];rw [Array.toArray_toList];rfl
  rw [e];exact .val _ _ (.ptr _ 0 _ e1)
 ·cases h'
theorem kU {b off n:Nat}{xs:List Value} (h:ld A b off n=some (xs,A')):∃cells e c st,A.heap.get b=some (.row cells e c st true)∧xs=(cells.drop off).take n∧xs.length=n∧A'=bO A c:=by
 unfold ld at h;split at h
 ·rename_i cells e c st hb;unfold Ku at h;rw [bg] at h;obtain⟨h1,h2⟩:=aC h;injection h2 with h2;injection h2 with h3 h4;exact⟨cells,e,c,st,hb,h3.symm,by rw [← h3]; exact Nat.eq_of_beq_eq_true h1,h4.symm⟩
 ·cases h
theorem v7 {b off n:Nat}{xs:List Value} (hi:bE A) (h:ld A b off n=some (xs,A')):kW A A':=by
 obtain⟨cells,e,c,st,hb,_,_,rfl⟩:=kU h;exact fd hi (hi.lt _ _ hb).2
theorem eB (g o j:Nat):(⟨g,o,none⟩ : Addr).add j=⟨g,o + j,none⟩:=by unfold Addr.add; split<;>simp_all
theorem qd {φ:cK}{T:Nat→Prop}{w:World}{b off n:Nat}{xs:List Value}{i:tI} (hi:bE A) (h:ld A b off n=some (xs,A')) (hr:gz P φ T A w) (hT:fU A A' T) (hφ:φ b=some i) :
  ∃xs',b8 φ xs xs'∧(∀(j:Nat) (v:Value),xs'[j]?=some v→w.cell? ((⟨i.blk,i.sh + off,none⟩ : Addr).add j)=some v)∧bG P φ T A A' w w φ:=by
 obtain⟨cells,e,c,st,hb,rfl,hl,rfl⟩:=kU h;have hTc:T c:=hT c (hi.lt _ _ hb).2 (.inl (by rw [aB,cg]; simp));obtain⟨i',C,fz,e',e1,e2,e3,e4,e5,e6,e7,e8,e9,e10⟩:=hr.cells hb hTc;obtain rfl:i'=i:=by rw [hφ] at e1; injection e1 with e1; exact e1.symm
 refine⟨_,(e8.drop off).take n,fun j v hv=>?_,by rw [aB]; exact .refl hr rfl rfl rfl rfl rfl rfl rfl⟩;rw [eB];rw [List.getElem?_take,List.getElem?_drop,List.getElem?_take,List.getElem?_drop] at hv;split at hv
 ·split at hv
  ·simp only [World.cell?,e2];rw [Array.getElem?_toList] at hv;rw [← hv];simp [Nat.add_assoc]
  ·cases hv
 ·cases hv
theorem zR (hi:bE A) (t:TypeId) (x:Operand) (h:aU P f ⟨d,.load t x,ty,pos,af,gd⟩ A=some (nx,A')):bQ P f A ⟨d,.load t x,ty,pos,af,gd⟩ nx A':=by
 have h':m7 P t (evalG P f x) A=some (nx,A'):=h;unfold m7 at h';split at h'
 ·rename_i b off hx;split at h'
  ·rename_i dd hd;unfold kY at h';rcases eo h' with ⟨ha,h1⟩ | ⟨ha,h1⟩
   ·unfold tM at h1;split at h1
    ·rename_i v s1 hl;injection h1 with h1;injection h1 with h2 h3;subst h2;subst h3;refine⟨v7 hi hl,fun φ T w a hf hr hT _=>?_⟩;have hp:=hf.evalG hr hx;generalize hq:a.eval x=q at hp;cases hp with
     | ptr _ _ i hφ=>
      obtain⟨xs',g1,g2,g3⟩:=qd hi hl hr hT hφ;refine⟨φ,w,g3,?_⟩;cases g1 with
      | cons _ v' _ l' hv hs=>
       have hc:=g2 0 v' rfl;rw [eB,Nat.add_zero] at hc;have e:(execOp a.eval ⟨d,.load t x,ty,pos,af,gd⟩).run P w=.ok (.value v') w:=by
        refine bT ?_;rw [hq];simp only [Instr.loadAt,Instr.sureAddr,loadVar,Sem.run_bind,Sem.run_pure,Result.andThen,mq hd,ha];simp [run_load,hc]
       rw [e];exact .val _ _ hv
    ·cases h1
   ·split at h1
    ·rename_i n hsz;unfold tP at h1;split at h1
     ·rename_i xs s1 hl;injection h1 with h1;injection h1 with h2 h3;subst h2;subst h3;refine⟨v7 hi hl,fun φ T w a hf hr hT _=>?_⟩;have hp:=hf.evalG hr hx;generalize hq:a.eval x=q at hp;cases hp with
      | ptr _ _ i hφ=>
       obtain⟨xs',g1,g2,g3⟩:=qd hi hl hr hT hφ;refine⟨φ,w,g3,?_⟩;have hlen:xs'.length=n:=by
        obtain⟨_,_,_,_,_,_,hl',_⟩:=kU hl;rw [← g1.length,hl']
       have e:(execOp a.eval ⟨d,.load t x,ty,pos,af,gd⟩).run P w=.ok (.value (.agg xs'.toArray)) w:=by
        refine bT ?_;rw [hq];simp only [Instr.loadAt,Instr.sureAddr,loadVar,Sem.run_bind,Sem.run_pure,Result.andThen,mq hd,ha];have:=run_loadCells_list (P:=P) w ⟨i.blk,i.sh + off,none⟩ xs' g2;rw [hlen] at this;simp [this,Sem.run_bind,Result.andThen,eF hsz]
       rw [e];exact .val _ _ (.agg _ _ g1)
     ·cases h1
    ·cases h1
  ·cases h'
 ·cases h'
end
theorem fU.wr {A A':AS}{T:Nat→Prop} (h:fU A A' T) {c:Nat} (hc:c < A.next) (hb:A'.w.testBit c=true):T c:=h c hc (.inr hb)
section
variable {P:Program}{f:Fr}{A A':AS}{nx:cu}{d:Option Tmp}{ty:TypeId}{pos:String}{af:Array Edge}{gd:Option (Nat × Bool)}
theorem xT (hi:bE A) (hn:A'.next≤A'.next) (t:TypeId) (x y:Operand) (h:aU P f ⟨d,.store t x y,ty,pos,af,gd⟩ A=some (nx,A')):bQ P f A ⟨d,.store t x y,ty,pos,af,gd⟩ nx A':=by
 have h':mc P t (f.eval x) (f.eval y) A=some (nx,A'):=h;unfold mc at h';split at h'
 ·rename_i b off hx;split at h'
  ·rename_i v hy;split at h'
   ·rename_i n hsz;obtain⟨hc,h1⟩:=aC h';unfold B7 at h1;split at h1
    ·rename_i s1 hs1;injection h1 with h1;injection h1 with h2 h3;subst h2;subst h3;have hn0:A.next≤A.next:=by
      by_cases hle:A.next≤A.next
      ·exact hle
      ·exfalso;unfold Ea at hs1;split at hs1
       ·rename_i cells e cls st hb;unfold D9 at hs1;obtain⟨_,hs1⟩:=aC hs1;rw [bg] at hs1;injection hs1 with hs1;rw [dq,gq] at hs1;have hnx:s1.next=(lD A b cls).next:=by rw [← hs1]
        unfold lD at hnx;have kn:∀(l:List Nat) (B:AS),(kill B l).next=B.next:=by
         intro l
         induction l with
         | nil=>intro B; rfl
         | cons q l ih=>
          intro B;have:(kill B (q :: l))=kill (jm B q) l:=rfl;rw [this,ih];unfold jm;split
          ·rw [gq]
          ·rfl
        split at hnx
        ·omega
        ·rw [qm] at hnx;have:=kn (List.filter (fun m=>!(Nat.beq m b)) ‹_›) A;simp only at hnx;omega
       ·cases hs1
     obtain⟨cells,e,cls,st,K,sp⟩:=tH hi hn0 hs1;refine⟨sp.wr.fr hi,fun φ T w a hf hr hT _=>?_⟩;have hp:=hf.eval hx;have hv:=fa (hf.eval hy);generalize hq:a.eval x=q at hp;generalize hu:a.eval y=u at hv;cases hp with
     | ptr _ _ i hφ=>
      have hTc:T cls:=hT.wr (hi.lt _ _ sp.row).2 (by rw [sp.wr.w,cg]; simp);obtain⟨C,fz,e',g1,g2,g3,g4⟩:=bG.store hi sp hr hTc hv hφ;refine⟨φ,_,g4,?_⟩;have hsize:u.cells.size=n:=by
       have:=hv.length;have h5:=Nat.eq_of_beq_eq_true hc;simp at this;omega
      have e:(execOp a.eval ⟨d,.store t x y,ty,pos,af,gd⟩).run P w=.ok .skip (w.setRow i.blk (C.toList.take (i.sh + off) ++ u.cells.toList ++ C.toList.drop (i.sh + off + u.cells.toList.length)).toArray):=by
       refine RZ ?_;rw [hq,hu];have hst:=run_storeCells_atF P i.blk (i.sh + off) e' fz u.cells.toList 0 C w g1 (by omega) (by omega) (pi hv sp.one);simp only [Instr.storeAt,Instr.sureAddr,storeVar,Sem.run_bind,Sem.run_pure,Result.andThen,eF hsz,hsize];simp only [Nat.add_zero] at hst;simp [hst]
      rw [e];exact .skip
    ·cases h1
   ·cases h'
  ·cases h'
 ·cases h'
theorem s8 (hi:bE A) (x:Operand) (h:aU P f ⟨d,.nilCheck x,ty,pos,af,gd⟩ A=some (nx,A')):bQ P f A ⟨d,.nilCheck x,ty,pos,af,gd⟩ nx A':=by
 have h':iI P f ⟨d,.nilCheck x,ty,pos,af,gd⟩ (f.eval x) A=some (nx,A'):=h;unfold iI at h';split at h'
 ·rename_i p hx;injection h' with h';injection h' with h1 h2;subst h1;subst h2;refine aM hi fun φ w a hf=>?_;have hp:=hf.eval hx;have e:(execOp a.eval ⟨d,.nilCheck x,ty,pos,af,gd⟩).run P w=.ok (.value (a.eval x)) w:=by
   generalize hq:a.eval x=q at hp;cases hp;simp only [execOp,hq];rfl
  rw [e];exact .val _ _ hp
 ·rename_i g y z hx;injection h' with h';injection h' with h1 h2;subst h1;subst h2;refine aM hi fun φ w a hf=>?_;have hp:=hf.eval hx;have e:(execOp a.eval ⟨d,.nilCheck x,ty,pos,af,gd⟩).run P w=.ok (.value (a.eval x)) w:=by
   generalize hq:a.eval x=q at hp;cases hp;simp only [execOp,hq];rfl
  rw [e];exact .val _ _ hp
 ·exact cY hi _ (by intro _ _ hh; cases hh) h'
theorem zb (hi:bE A) (t:TypeId) (x:Operand) (h:aU P f ⟨d,.makeInterface t x,ty,pos,af,gd⟩ A=some (nx,A')):bQ P f A ⟨d,.makeInterface t x,ty,pos,af,gd⟩ nx A':=by
 have h':nH P t (f.eval x) A=some (nx,A'):=h;unfold nH at h';split at h'
 ·rename_i v hx;split at h'
  ·cases h'
  ·rename_i dd hni hd;injection h' with h';injection h' with h1 h2;subst h1;subst h2;refine aM hi fun φ w a hf=>?_;have e:(execOp a.eval ⟨d,.makeInterface t x,ty,pos,af,gd⟩).run P w=.ok (.value (.iface t (a.eval x))) w:=by
    refine bT ?_;simp only [Instr.makeInterface,Sem.run_bind,run_underlying hd,Result.andThen];cases dd<;>first | rfl | exact absurd hd (by intro hh; exact hni _ hh)
   rw [e];exact .val _ _ (.iface t _ _ (hf.eval hx))
  ·cases h'
 ·cases h'
theorem mF {φ:cK}{a:Act} (hf:dm φ f a):∀(l:List Operand) {vs:List Value},iq f l=some vs→b8 φ vs (l.map a.eval):=by
 intro l
 induction l with
 | nil=>intro vs h; have h':some ([]:List Value)=some vs:=h; injection h' with h'; subst h'; exact .nil
 | cons x l ih=>
  intro vs h;have h':(match f.eval x with | some v=>(match iq f l with | some vs=>some (v :: vs) | none=>none) | none=>none)=some vs:=h;split at h'
  ·rename_i v hx;split at h'
   ·rename_i us hu;injection h' with h';subst h';exact .cons _ _ _ _ (hf.eval hx) (ih hu)
   ·cases h'
  ·cases h'
theorem B8 (hi:bE A) (fn:Fn) (x y:Array Operand) (h:aU P f ⟨d,.makeFunc fn x y,ty,pos,af,gd⟩ A=some (nx,A')):bQ P f A ⟨d,.makeFunc fn x y,ty,pos,af,gd⟩ nx A':=by
 have h':s6 f fn x y A=some (nx,A'):=h;unfold s6 at h';split at h'
 ·split at h'
  ·rename_i us hx;split at h'
   ·rename_i vs hy;injection h' with h';injection h' with h1 h2;subst h1;subst h2;refine aM hi fun φ w a hf=>?_;refine .val _ (.func _ (x.map a.eval) (y.map a.eval)) (.func _ _ _ _ _ ?_ ?_)
    ·rw [Array.toList_map]; exact mF hf _ hx
    ·rw [Array.toList_map]; exact mF hf _ hy
   ·cases h'
  ·cases h'
 ·cases h'
theorem rk (hi:bE A) (t:TypeId) (x:Operand) (i:Nat) (h:aU P f ⟨d,.fieldAddr t x i,ty,pos,af,gd⟩ A=some (nx,A')):bQ P f A ⟨d,.fieldAddr t x i,ty,pos,af,gd⟩ nx A':=by
 have h':fK P t (evalG P f x) i A=some (nx,A'):=h;unfold fK at h';split at h'
 ·rename_i b off hx;split at h'
  ·rename_i fs hfs;split at h'
   ·rename_i fl hfl;split at h'
    ·rename_i m hsz;injection h' with h';injection h' with h1 h2;subst h1;subst h2;refine jw hi fun φ T w a hf hr=>?_;have hp:=hf.evalG hr hx;generalize hq:a.eval x=q at hp;cases hp with
     | ptr _ _ j hφ=>
      have hu:P.underlying t=some (.struct fs):=by
       unfold gh at hfs;split at hfs
       ·rename_i hu; injection hfs with hfs; subst hfs; exact hu
       ·cases hfs
      have e:(execOp a.eval ⟨d,.fieldAddr t x i,ty,pos,af,gd⟩).run P w=.ok (.value (.pointer (some ⟨j.blk,j.sh + (off + fl.offset),none⟩))) w:=by
       refine bT ?_;rw [hq];simp only [Instr.fieldAt,Instr.sureAddr,fieldPlace,Sem.run_bind,run_underlying hu,Result.andThen,hfl,Sem.run_pure,eF hsz];simp [eB,Nat.add_assoc]
      rw [e];exact .val _ _ (.ptr _ _ j hφ)
    ·cases h'
   ·cases h'
  ·cases h'
 ·cases h'
end
section
variable {P:Program}{f:Fr}{A A':AS}{nx:cu}{d:Option Tmp}{ty:TypeId}{pos:String}{af:Array Edge}{gd:Option (Nat × Bool)}
theorem wm {t:TypeId}{fs:Array Field} (h:gh P t=some fs):P.underlying t=some (.struct fs):=by
 unfold gh at h;split at h
 ·rename_i hu; injection h with h; subst h; exact hu
 ·cases h
theorem Hd {φ:cK}{t:TypeId}{cs cs':Array Value}{off:Nat}{v:Value} (h:uY P t cs.toList off=some v) (hv:b8 φ cs.toList cs'.toList):∃v',dE φ v v'∧∀w,(part t cs' off).run P w=.ok v' w:=by
 unfold uY at h;split at h
 ·rename_i dd hd;rcases eo h with ⟨ha,h1⟩ | ⟨ha,h1⟩
  ·obtain⟨v',g1,g2⟩:=b8.get off hv h1;refine⟨v',g2,fun w=>?_⟩;simp only [part,Sem.run_bind,mq hd,Result.andThen,ha];rw [show cs'[off]?=some v' by simpa using g1];rfl
  ·cases hs:bP P t with
   | none=>rw [hs] at h1; cases h1
   | some n=>
    rw [hs] at h1;injection h1 with h1;subst h1;refine⟨.agg (cs'.extract off (off + n)),.agg _ _ ?_,fun w=>?_⟩
    ·have:=(hv.drop off).take n;simpa [List.extract_eq_take_drop] using this
    ·simp only [part,Sem.run_bind,mq hd,Result.andThen,ha];simp [eF hs,Result.andThen]
 ·cases h
theorem y5 (hi:bE A) (t:TypeId) (x:Operand) (i:Nat) (h:aU P f ⟨d,.field t x i,ty,pos,af,gd⟩ A=some (nx,A')):bQ P f A ⟨d,.field t x i,ty,pos,af,gd⟩ nx A':=by
 have h':nj P t (f.eval x) i A=some (nx,A'):=h;unfold nj at h';split at h'
 ·rename_i cs hx;split at h'
  ·rename_i fs hfs;split at h'
   ·rename_i fl hfl;obtain⟨v,hv,rfl,rfl⟩:=gL h';refine aM hi fun φ w a hf=>?_;have hp:=hf.eval hx;generalize hq:a.eval x=q at hp;cases hp with
    | agg _ cs' hcs=>
     obtain⟨v',g1,g2⟩:=Hd hv hcs;have hu:=wm hfs;have e:(execOp a.eval ⟨d,.field t x i,ty,pos,af,gd⟩).run P w=.ok (.value v') w:=by
      refine bT ?_;rw [hq];simp only [Instr.field,Sem.run_bind,run_underlying hu,Result.andThen,hfl,asAgg,Sem.run_pure];exact g2 w
     rw [e];exact .val _ _ g1
   ·cases h'
  ·cases h'
 ·cases h'
theorem gH {v:Value}{n:Nat} (h:gG v=some n):∃k,v=.int k n:=by
 unfold gG at h;split at h
 ·rename_i k m; injection h with h; subst h; exact⟨k,rfl⟩
 ·cases h
theorem mA {b off len i:Nat}{e:TypeId} (h:nJ P b off len i e A=some (nx,A')):∃n,bP P e=some n∧i < len∧nx=.val (.pointer (some ⟨b,off + i * n,none⟩))∧A'=A:=by
 unfold nJ at h;split at h
 ·rename_i n hn;obtain⟨h1,h2⟩:=aC h;injection h2 with h2;injection h2 with h3 h4;exact⟨n,hn,Nat.le_of_ble_eq_true h1,h3.symm,h4.symm⟩
 ·cases h
theorem qZ (hi:bE A) (t:TypeId) (x y:Operand) (h:aU P f ⟨d,.indexAddr t x y,ty,pos,af,gd⟩ A=some (nx,A')):bQ P f A ⟨d,.indexAddr t x y,ty,pos,af,gd⟩ nx A':=by
 have h':ew P t (evalG P f x) (f.eval y) A=some (nx,A'):=h;unfold ew at h';split at h'
 ·rename_i b off len cap e i hx hu hy;obtain⟨n,hn,hlt,rfl,rfl⟩:=mA h';refine jw hi fun φ T w a hf hrel=>?_;have hp:=hf.evalG hrel hx;cases hfy:f.eval y with
  | none=>rw [hfy] at hy; cases hy
  | some vy=>
   rw [hfy] at hy;obtain⟨k,rfl⟩:=gH hy;have hpy:=hf.eval hfy;generalize hq:a.eval x=q at hp;generalize hq2:a.eval y=q2 at hpy;cases hpy;cases hp with
   | slice _ _ _ _ cap' a' j hφ hl hc ha hr=>
    have ha':a'=⟨j.blk,j.sh + off,none⟩:=ha.resolve_left (by omega);subst ha';have e:(execOp a.eval ⟨d,.indexAddr t x y,ty,pos,af,gd⟩).run P w=.ok (.value (.pointer (some ⟨j.blk,j.sh + (off + i * n),none⟩))) w:=by
     refine bT ?_;rw [hq,hq2];have h1:(0:Int)≤(i:Int)∧(i:Int) < (len:Int):=by omega
     simp only [Instr.indexAt,asIntOf,Sem.run_bind,run_underlying hu,Result.andThen,Sem.run_pure,eF hn,h1,and_self,if_true];simp [eB,Nat.add_assoc]
    rw [e];exact .val _ _ (.ptr _ _ j hφ)
 ·rename_i b off len cap e i hx hu hy;obtain⟨n,hn,hlt,rfl,rfl⟩:=mA h';refine jw hi fun φ T w a hf hrel=>?_;have hp:=hf.evalG hrel hx;cases hfy:f.eval y with
  | none=>rw [hfy] at hy; cases hy
  | some vy=>
   rw [hfy] at hy;obtain⟨k,rfl⟩:=gH hy;have hpy:=hf.eval hfy;generalize hq:a.eval x=q at hp;generalize hq2:a.eval y=q2 at hpy;cases hpy;cases hp with
   | sliceX _ _ _ a' j hφ ha=>
    have ha':a'=⟨j.blk,j.sh + off,none⟩:=ha.resolve_left (by omega);subst ha';have e:(execOp a.eval ⟨d,.indexAddr t x y,ty,pos,af,gd⟩).run P w=.ok (.value (.pointer (some ⟨j.blk,j.sh + (off + i * n),none⟩))) w:=by
     refine bT ?_;rw [hq,hq2];have h1:(0:Int)≤(i:Int)∧(i:Int) < (len:Int):=by omega
     simp only [Instr.indexAt,asIntOf,Sem.run_bind,run_underlying hu,Result.andThen,Sem.run_pure,eF hn,h1,and_self,if_true];simp [eB,Nat.add_assoc]
    rw [e];exact .val _ _ (.ptr _ _ j hφ)
 ·rename_i b off len e i hx hu hy;obtain⟨n,hn,hlt,rfl,rfl⟩:=mA h';refine jw hi fun φ T w a hf hrel=>?_;have hp:=hf.evalG hrel hx;cases hfy:f.eval y with
  | none=>rw [hfy] at hy; cases hy
  | some vy=>
   rw [hfy] at hy;obtain⟨k,rfl⟩:=gH hy;have hpy:=hf.eval hfy;generalize hq:a.eval x=q at hp;generalize hq2:a.eval y=q2 at hpy;cases hpy;cases hp with
   | ptr _ _ j hφ=>
    have e:(execOp a.eval ⟨d,.indexAddr t x y,ty,pos,af,gd⟩).run P w=.ok (.value (.pointer (some ⟨j.blk,j.sh + (off + i * n),none⟩))) w:=by
     refine bT ?_;rw [hq,hq2];have h1:(0:Int)≤(i:Int)∧(i:Int) < (len:Int):=by omega
     simp only [Instr.indexAt,Instr.sureAddr,asIntOf,Sem.run_bind,run_underlying hu,Result.andThen,Sem.run_pure,eF hn,h1,and_self,if_true];simp [eB,Nat.add_assoc]
    rw [e];exact .val _ _ (.ptr _ _ j hφ)
 ·cases h'
theorem zx (hi:bE A) (t:TypeId) (x y:Operand) (h:aU P f ⟨d,.index t x y,ty,pos,af,gd⟩ A=some (nx,A')):bQ P f A ⟨d,.index t x y,ty,pos,af,gd⟩ nx A':=by
 have h':nD P f ⟨d,.index t x y,ty,pos,af,gd⟩ t (f.eval x) (f.eval y) A=some (nx,A'):=h;unfold nD at h';split at h'
 ·rename_i s hx;split at h'
  ·rename_i hu;split at h'
   ·rename_i i hy;unfold Ch at h';split at h'
    ·rename_i c hc;rw [bp] at h';injection h' with h';injection h' with h1 h2;subst h1;subst h2;refine aM hi fun φ w a hf=>?_;have hp:=hf.eval hx;cases hfy:f.eval y with
     | none=>rw [hfy] at hy; cases hy
     | some vy=>
      rw [hfy] at hy;obtain⟨k,rfl⟩:=gH hy;have hpy:=hf.eval hfy;generalize hq:a.eval x=q at hp;generalize hq2:a.eval y=q2 at hpy;cases hpy;cases hp;have hc':s[i]?=some c:=by
       rw [Array.getElem?_toList] at hc;exact hc
      have e:(execOp a.eval ⟨d,.index t x y,ty,pos,af,gd⟩).run P w=.ok (.value (.int .u8 c.toNat)) w:=by
       refine bT ?_;rw [hq,hq2];simp only [Instr.index,asIntOf,Sem.run_bind,run_underlying hu,Result.andThen,Sem.run_pure];simp [hc']
      rw [e];exact .val _ _ (.int _ _)
    ·cases h'
   ·cases h'
  ·cases h'
 ·exact cY hi _ (by intro _ _ hh; cases hh) h'
end
section
variable {P:Program}{f:Fr}{A A':AS}{nx:cu}{d:Option Tmp}{ty:TypeId}{pos:String}{af:Array Edge}{gd:Option (Nat × Bool)}
def Pg (x:Option Operand) (a:Act) (n:Nat) (dflt:Nat):Prop:=(x=none∧n=dflt)∨∃y k,x=some y∧a.eval y=.int k (n:Int)
theorem dy {φ:cK}{a:Act} (hf:dm φ f a) {x:Option Operand}{dflt n:Nat} (h:fH f x dflt=some n):Pg x a n dflt:=by
 unfold fH at h;split at h
 ·injection h with h; exact .inl ⟨rfl,h.symm⟩
 ·rename_i y;split at h
  ·rename_i v hv;obtain⟨k,rfl⟩:=gH h;have:=hf.eval hv;generalize hq:a.eval y=q at this;cases this;exact .inr ⟨y,k,rfl,hq⟩
  ·cases h
theorem eZ {x:Value}{k:IntKind}{n y:Nat} (hx:x=.int k (n:Int)) (hle:n≤y) (c:BoundsCode) (w:World):(Instr.sliceBound x y c).run P w=.ok n w:=by
 subst hx;have h1:(0:Int)≤(n:Int)∧(n:Int)≤(y:Int):=by omega
 simp only [Instr.sliceBound,asIntOf,Sem.run_bind,Sem.run_pure,Result.andThen,h1,and_self,if_true];simp
theorem kw {lo hi mx:Option Operand}{a:Act}{l h m len cap':Nat} (isS:Bool) (hl:Pg lo a l 0) (hh:Pg hi a h len) (hm:(mx=none∧m=cap')∨∃y k,mx=some y∧a.eval y=.int k (m:Int)) (hhi:mx=none∨hi≠none) (h1:l≤h) (h2:h≤m) (h3:m≤cap') (w:World) :
  (Instr.sliceBounds isS len cap' (lo.map a.eval) (hi.map a.eval) (mx.map a.eval)).run P w=.ok (l,h,m) w:=by
 rcases hm with ⟨rfl,rfl⟩ | ⟨y,k,rfl,hy⟩
 ·rcases hh with ⟨rfl,rfl⟩ | ⟨y2,k2,rfl,hy2⟩
  ·rcases hl with ⟨rfl,rfl⟩ | ⟨y3,k3,rfl,hy3⟩
   ·rfl
   ·simp [Instr.sliceBounds,Result.andThen,eZ hy3 h1]
  ·rcases hl with ⟨rfl,rfl⟩ | ⟨y3,k3,rfl,hy3⟩
   ·simp [Instr.sliceBounds,Result.andThen,eZ hy2 h2]
   ·simp [Instr.sliceBounds,Sem.run_bind,Result.andThen,eZ hy2 h2,eZ hy3 h1]
 ·rcases hh with ⟨rfl,rfl⟩ | ⟨y2,k2,rfl,hy2⟩
  ·exact absurd rfl (hhi.resolve_left (by simp))
  ·rcases hl with ⟨rfl,rfl⟩ | ⟨y3,k3,rfl,hy3⟩
   ·simp [Instr.sliceBounds,Sem.run_bind,Result.andThen,eZ hy h3,eZ hy2 h2]
   ·simp [Instr.sliceBounds,Sem.run_bind,Result.andThen,eZ hy h3,eZ hy2 h2,eZ hy3 h1]
theorem LP {b n c:Nat} (h:o7 P A b n=some c):(∃cells e st,A.heap.get b=some (.row cells e c st true))∧∀{φ:cK}{T:Nat→Prop}{w:World},gz P φ T A w→T c→∀{i:tI},φ b=some i→i.es=n:=by
 unfold o7 at h;split at h
 ·rename_i cells e c' st hb;split at h
  ·rename_i m hm;obtain⟨_,_,_,h3⟩:=hH hm;obtain⟨h1,h2⟩:=aC h;injection h2 with h2;subst h2;refine⟨⟨_,_,_,hb⟩,fun hr hT i hφ=>?_⟩;obtain⟨j,_,_,_,e1,_,_,_,e5,_⟩:=hr.cells hb hT;obtain rfl:j=i:=by rw [hφ] at e1; injection e1 with e1; exact e1.symm
   rw [e5,h3];exact Nat.eq_of_beq_eq_true h1
  ·cases h
 ·cases h
theorem zk (hi:bE A) (t:TypeId) (x:Operand) (lo hi' mx:Option Operand) (h:aU P f ⟨d,.slice t x lo hi' mx,ty,pos,af,gd⟩ A=some (nx,A')):bQ P f A ⟨d,.slice t x lo hi' mx,ty,pos,af,gd⟩ nx A':=by
 have hg:mi mx hi' (dz P f ⟨d,.slice t x lo hi' mx,ty,pos,af,gd⟩ t (f.eval x) lo hi' mx A)=some (nx,A'):=h;have hmx:mx=none∨hi'≠none:=by
  cases mx with
  | none=>exact .inl rfl
  | some m=>
   cases hi' with
   | none=>cases (show (none:eI)=some (nx,A') from hg)
   | some _=>exact .inr (fun hh=>by cases hh)
 have h':dz P f ⟨d,.slice t x lo hi' mx,ty,pos,af,gd⟩ t (f.eval x) lo hi' mx A=some (nx,A'):=by cases mx<;>cases hi'<;>first | exact hg | cases hg
 unfold dz at h';split at h'
 ·rename_i b off len cap hx;split at h'
  ·rename_i e hu;split at h'
   ·rename_i l hh m n el eh em hn;have key:(∃cc,o7 P A b n=some cc∧kI b off l hh m cap n (bO A cc)=some (nx,A'))∨(∃y,mx=some y∧∃cc,o7 P A b n=some cc∧sliceX b off l hh m cap n (bO A cc)=some (nx,A')):=by
     cases mx with
     | none=>
      have h2:sliceAt P b off l hh m cap n A=some (nx,A'):=h';unfold sliceAt at h2;split at h2
      ·rename_i cc hes; exact .inl ⟨cc,hes,h2⟩
      ·cases h2
     | some y=>
      have h2:ga P b off l hh m cap n A=some (nx,A'):=h';unfold ga at h2;split at h2
      ·rename_i cc hes;rcases eo h2 with ⟨_,h3⟩ | ⟨_,h3⟩
       ·exact .inl ⟨cc,hes,h3⟩
       ·exact .inr ⟨y,rfl,cc,hes,h3⟩
      ·cases h2
    clear h';rcases key with ⟨cc,hes,h'⟩ | ⟨yy,hyy,cc,hes,h'⟩
    case inr=>
     obtain⟨⟨_,_,_,hrow⟩,_⟩:=LP hes;have hcn:=(hi.lt _ _ hrow).2;unfold sliceX at h';obtain⟨hc,h1⟩:=aC h';simp only [Bool.and_eq_true] at hc;have c1:=Nat.le_of_ble_eq_true hc.1;have c2:=Nat.eq_of_beq_eq_true hc.2.1;have c3:=Nat.le_of_ble_eq_true hc.2.2;injection h1 with h1;injection h1 with h2 h3;subst h2;subst h3;refine⟨fd hi hcn,fun φ T w a hf hrel hT _=>⟨φ,w,.refl hrel (by rw [aB]) (by rw [aB]) (by rw [aB]) rfl rfl rfl rfl,?_⟩⟩;have hp:=hf.eval hx;have r1:=dy hf el;have r2:=dy hf eh;have r3:=dy hf em;generalize hq:a.eval x=q at hp;cases hp with
     | slice _ _ _ _ cap' a' j hφ hl hcp ha hr=>
      have hm1:(mx=none∧m=cap')∨∃y k,mx=some y∧a.eval y=.int k (m:Int):=by
       rcases r3 with ⟨r3,_⟩ | ⟨y,k,e1,e2⟩
       ·rw [hyy] at r3; cases r3
       ·exact .inr ⟨y,k,e1,e2⟩
      have hb:=kw (P:=P) true r1 r2 hm1 hmx c1 (by omega:hh≤m) (by omega:m≤cap') w;have e:(execOp a.eval ⟨d,.slice t x lo hi' mx,ty,pos,af,gd⟩).run P w=.ok (.value (.slice (if m=l then some a' else some (a'.add (l * n))) (hh - l) (m - l))) w:=by
       refine bT ?_;rw [hq];simp only [Instr.sliceAt,Instr.slice,Sem.run_bind,run_underlying hu,Result.andThen,hb,eF hn];rfl
      rw [e];have hml':m - l=hh - l:=by omega
      rw [hml'];by_cases hml:m=l
      ·rw [if_pos hml];exact .val _ _ (.sliceX _ _ _ _ j hφ (.inl (by show hh - l=0; omega)))
      ·rw [if_neg hml];refine .val _ _ (.sliceX _ _ _ _ j hφ (.inr ?_));have ha':a'=⟨j.blk,j.sh + off,none⟩:=ha.resolve_left (by omega);rw [ha',eB,Nat.add_assoc];rfl
    obtain⟨⟨_,_,_,hrow⟩,hes⟩:=LP hes;have hcn:=(hi.lt _ _ hrow).2;unfold kI at h';obtain⟨hc,h1⟩:=aC h';simp only [Bool.and_eq_true] at hc;have c1:=Nat.le_of_ble_eq_true hc.1;have c2:=Nat.le_of_ble_eq_true hc.2.1;have c3:=Nat.le_of_ble_eq_true hc.2.2;injection h1 with h1;injection h1 with h2 h3;subst h2;subst h3;refine⟨fd hi hcn,fun φ T w a hf hrel hT _=>⟨φ,w,.refl hrel (by rw [aB]) (by rw [aB]) (by rw [aB]) rfl rfl rfl rfl,?_⟩⟩;have hTc:T cc:=hT cc hcn (.inl (by rw [aB,cg]; simp));have hp:=hf.eval hx;have r1:=dy hf el;have r2:=dy hf eh;have r3:=dy hf em;generalize hq:a.eval x=q at hp;cases hp with
    | slice _ _ _ _ cap' a' j hφ hl hcp ha hr=>
     obtain⟨m',hm1,hm2,hm3⟩ : ∃m',((mx=none∧m'=cap')∨∃y k,mx=some y∧a.eval y=.int k (m':Int))∧m≤m'∧m'≤cap':=by
      rcases r3 with ⟨rfl,rfl⟩ | ⟨y,k,rfl,hy⟩
      ·exact⟨cap',.inl ⟨rfl,rfl⟩,hcp,Nat.le_refl _⟩
      ·exact⟨m,.inr ⟨y,k,rfl,hy⟩,Nat.le_refl _,by omega⟩
     have hb:=kw (P:=P) true r1 r2 hm1 hmx c1 (by omega:hh≤m') hm3 w;have e:(execOp a.eval ⟨d,.slice t x lo hi' mx,ty,pos,af,gd⟩).run P w=.ok (.value (.slice (if m'=l then some a' else some (a'.add (l * n))) (hh - l) (m' - l))) w:=by
      refine bT ?_;rw [hq];simp only [Instr.sliceAt,Instr.slice,Sem.run_bind,run_underlying hu,Result.andThen,hb,eF hn];rfl
     rw [e];have hmul:off + l * n + (m' - l) * j.es≤j.sz:=by
      have hjn:=hes hrel hTc hφ;rw [hjn] at hr ⊢;rw [Nat.add_assoc,← Nat.add_mul,Nat.add_sub_cancel' (by omega:l≤m')];exact Nat.le_trans (Nat.add_le_add_left (Nat.mul_le_mul_right _ hm3) _) hr
     by_cases hml:m'=l
     ·rw [if_pos hml];exact .val _ _ (.slice _ _ _ _ _ _ j hφ (show hh - l≤m - l by omega) (show m - l≤m' - l by omega) (.inl (by omega)) hmul)
     ·rw [if_neg hml];refine .val _ _ (.slice _ _ _ _ _ _ j hφ (show hh - l≤m - l by omega) (show m - l≤m' - l by omega) (.inr ?_) hmul);have ha':a'=⟨j.blk,j.sh + off,none⟩:=ha.resolve_left (by omega);rw [ha',eB,Nat.add_assoc];rfl
   ·cases h'
  ·cases h'
 ·rename_i hx;split at h'
  ·rename_i e hu el eh em;split at h'
   ·rename_i n hn;injection h' with h';injection h' with h2 h3;subst h2;subst h3;refine aM hi fun φ w a hf=>?_;have hp:=hf.eval hx;have r1:=dy hf el;have r2:=dy hf eh;have r3:=dy hf em;generalize hq:a.eval x=q at hp;cases hp;have hb:=kw (P:=P) true r1 r2 r3 hmx (Nat.le_refl _) (Nat.le_refl _) (Nat.le_refl _) w;have e:(execOp a.eval ⟨d,.slice t x lo hi' mx,ty,pos,af,gd⟩).run P w=.ok (.value (.slice none 0 0)) w:=by
     refine bT ?_;rw [hq];simp only [Instr.sliceAt,Instr.slice,Sem.run_bind,run_underlying hu,Result.andThen,hb,eF hn];rfl
    rw [e];exact .val _ _ .nilSlice
   ·cases h'
  ·exact cY hi _ (by intro _ _ hh; cases hh) h'
 ·rename_i s hx;split at h'
  ·rename_i hu;split at h'
   ·rename_i l hh el eh;unfold ou at h';obtain⟨hc,h1⟩:=aC h';rw [bg] at h1;simp only [Bool.and_eq_true] at hc;have c1:=Nat.le_of_ble_eq_true hc.1;have c2:=Nat.le_of_ble_eq_true hc.2;injection h1 with h1;injection h1 with h2 h3;subst h2;subst h3;refine aM hi fun φ w a hf=>?_;have hp:=hf.eval hx;have r1:=dy hf el;have r2:=dy hf eh;generalize hq:a.eval x=q at hp;cases hp;have hsz:s.size=s.data.toList.length:=Array.length_toList.symm;have hb:=kw (P:=P) (mx:=none) (cap':=s.size) (m:=s.size) false r1 r2 (.inl ⟨rfl,rfl⟩) (.inl rfl) c1 (by omega) (Nat.le_refl _) w;rw [← hsz] at hb;have e:(execOp a.eval ⟨d,.slice t x lo hi' none,ty,pos,af,gd⟩).run P w=.ok (.value (.string (s.extract l hh))) w:=by
     refine bT ?_;rw [hq];have hb':(Instr.sliceBounds false s.size s.size (lo.map a.eval) (hi'.map a.eval) none).run P w=.ok (l,hh,s.size) w:=hb;simp only [Instr.sliceAt,Instr.slice,Sem.run_bind,run_underlying hu,Result.andThen];simp [hb',Result.andThen]
    rw [e];have he:s.extract l hh=⟨⟨(s.data.toList.drop l).take (hh - l)⟩⟩:=by
     apply ByteArray.ext;rw [ByteArray.data_extract];apply Array.ext';simp [List.extract_eq_take_drop]
    rw [he];exact .val _ _ (.string _)
   ·cases h'
  ·cases h'
 ·exact cY hi _ (by intro _ _ hh; cases hh) h'
end
end Go.EvL
