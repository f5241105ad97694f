/- A run on values, and its soundness. No statement is proved here. -/
import Derived.Test.YtgkggocjoolciaaGreatDoorEvE
set_option linter.unusedSimpArgs false
set_option linter.unusedVariables false
set_option linter.defProp false
namespace Go.PE
open Go Go.EvL
inductive PV where
 | sc (v:Value)
 | agg (cs:List PV)
 | tup (vs:List PV)
 | lit (e n:Nat) (cs:List PV)
 | litp (cs:List PV)
 | litx (e n:Nat) (cs:List PV)
 | own (k off n fin:Nat)
 | ptr (k off fin:Nat)
 | fn (g:Nat) (first cap:List PV)
instance:Inhabited PV:=⟨.sc undef⟩
noncomputable def MQ (v:Value):Bool:=match v with
 | .agg _=>false
 | v=>plain 50 v
structure Dk where
 cells:List PV
 low:Nat
 e:Nat
structure PS where
 h:Nat→Dk
 n:Nat
 w:Nat
def PS.put (s:PS) (k:Nat) (b:Dk):PS:=⟨fun j=>if j=k then b else s.h j,s.n,min s.w k⟩
def PS.new (s:PS) (b:Dk):PS:=⟨fun j=>if j=s.n then b else s.h j,s.n + 1,s.w⟩
structure jc where
 rd:List Nat
 wr:List Nat
 li:Bool
 ca:Bool
abbrev aR:=Nat→PV
def aR.set (f:aR) (d:Nat) (v:PV):aR:=fun j=>if j=d then v else f j
def AD (f:aR) (d:Option Nat) (v:PV):aR:=match d with
 | some d=>aR.set f d v
 | none=>f
inductive lc where
 | mv (x:Operand)
 | pick (c a b:Operand)
 | alloc (e:Nat) (z:Value)
 | box (e:Nat) (x:Operand)
 | build (z:List Value) (ps:List (Nat × Nat × Operand))
 | bslice (e len:Nat) (z:List Value) (ps:List (Nat × Nat × Operand))
 | load (t:Nat) (ag:Bool) (sz:Nat) (x:Operand)
 | store (t sz:Nat) (x y:Operand)
 | faddr (off:Nat) (x:Operand)
 | fld (ag:Bool) (off sz:Nat) (x:Operand)
 | iaddr (es:Nat) (x i:Operand)
 | sidx (x i:Operand)
 | bin (op:BinOp) (t:Nat) (x y:Operand)
 | un (op:UnOp) (x:Operand)
 | len (str:Bool) (x:Operand)
 | app (e es bytes:Nat) (x y:Operand)
 | slc (e es:Nat) (x:Operand) (lo hi:Option Operand)
 | slc3 (e es:Nat) (x hi mx:Operand)
 | sslc (x:Operand) (lo hi:Option Operand)
 | mkfn (g:Nat) (first cap:List Operand)
 | ext (x:Operand) (i:Nat)
 | conv (k:IntKind) (x:Operand)
 | call (f:Operand) (args:List Operand)
 | mnx (mx:Bool) (x y:Operand)
 | nck (x:Operand)
 | mks (e es bytes:Nat) (z:List Value) (l c:Operand)
 | cpy (es:Nat) (x y:Operand)
structure PI where
 dst:Option Nat
 op:lc
 gd:Option (Nat × Bool)
inductive aW where
 | skip
 | reg (l:List PI)
 | draw (l:List (PI × List Nat × List Nat))
 | seq (a b:aW)
 | cond (c:Operand) (a b:aW)
 | block (id:Nat) (b:aW)
 | loop (b:aW)
 | exit (id:Nat)
 | ret
def bY (v:Value):PV:=match v with
 | .agg cs=>.agg (cs.toList.map .sc)
 | .func (.func g) _ _=>.fn g [] []
 | v=>.sc v
def cg (f:aR) (x:Operand):PV:=match x with
 | .tmp t=>f t
 | .const v=>bY v
 | .func g=>.fn g [] []
 | .global _=>.sc undef
def az (p:PV):List PV:=match p with
 | .agg cs=>cs
 | p=>[p]
noncomputable def cL (p:PV):Bool:=match p with
 | .sc v=>nE v
 | .agg _ | .tup _=>false
 | _=>true
def cP (p:PV):Bool:=match p with
 | .sc _ | .lit .. | .litp .. | .litx ..=>true
 | .fn _ a b=>a.isEmpty && b.isEmpty
 | _=>false
def kH (p:PV):Option Nat:=match p with
 | .sc (.int _ z)=>if 0≤z then some z.toNat else none
 | _=>none
def BU (s:PS) (p:PV) (sz:Nat):Option (List PV):=match p with
 | .ptr k off fin=>if off + sz≤fin∧(s.h k).low≤fin∧fin≤(s.h k).cells.length then some (((s.h k).cells.drop off).take sz) else none
 | .litp cs=>if sz≤cs.length then some (cs.take sz) else none
 | _=>none
def cR (ag:Bool) (cs:List PV):Option PV:=if ag then some (.agg cs) else match cs with
 | [p]=>some p
 | _=>none
noncomputable def FA (s:PS) (p:PV) (ys:List PV):Option PS:=match p with
 | .ptr k off fin=>if off + ys.length≤fin∧fin=(s.h k).cells.length∧ys.all cL=true then
   some (s.put k ⟨(s.h k).cells.take off ++ (ys ++ (s.h k).cells.drop (off + ys.length)),fin,(s.h k).e⟩) else none
 | _=>none
def i9 (v:Value):Bool:=match v with
 | .int _ _ | .string _ | .bool _=>true
 | _=>false
def KH:List PV→Option (List Value)
 | []=>some []
 | .sc v :: l=>if i9 v then (KH l).map (v :: ·) else none
 | _=>none
noncomputable def qF (P:Program) (op:BinOp) (t:Nat) (x y:Operand) (a b:Value):Option Value:=
 bx P (do eqGuard op t x y a b; binOp op t a b:Sem Value)
noncomputable def fw (P:Program) (op:BinOp) (t:Nat) (x y:Operand) (a b:PV):Option PV:=match a,b with
 | .sc v,.sc w=>if i9 v && i9 w then (match qF P op t x y v w with
  | some u=>if i9 u then some (.sc u) else none
  | none=>none) else none
 | .agg cs,.agg ds=>match KH cs,KH ds with
  | some v,some w=>match qF P op t x y (.agg v.toArray) (.agg w.toArray) with
   | some u=>if i9 u then some (.sc u) else none
   | none=>none
  | _,_=>none
 | _,_=>none
noncomputable def Vb (P:Program) (op:UnOp) (a:PV):Option PV:=match a with
 | .sc v=>if i9 v then (match bx P (Op.unary op v) with
  | some u=>if i9 u then some (.sc u) else none
  | none=>none) else none
 | _=>none
def gq (str:Bool) (p:PV):Option PV:=match str,p with
 | false,.sc (.slice none 0 0)=>some (.sc (.int .i64 0))
 | true,.sc (.string s)=>some (.sc (.int .i64 (s.data.toList.length:Int)))
 | false,.lit _ n _=>some (.sc (.int .i64 (n:Int)))
 | false,.litx _ n _=>some (.sc (.int .i64 (n:Int)))
 | false,.own _ _ n _=>some (.sc (.int .i64 (n:Int)))
 | _,_=>none
def i5 (s:PS) (es:Nat) (p:PV):Option (List PV × Nat):=match p with
 | .sc (.slice none 0 0)=>some ([],0)
 | .lit _ n cs=>if cs.length=n * es then some (cs,n) else none
 | .own k off n fin=>if off + n * es=fin∧(s.h k).low≤fin∧fin≤(s.h k).cells.length then some (((s.h k).cells.drop off).take (n * es),n) else none
 | _=>none
def As (es bytes len n:Nat) (xs:List PV):Prop:=es≠0∧xs.length=n * es∧(len + n) * bytes≤140737488355328∧len + n≤1073741824∧xs.all cL=true
noncomputable instance (es bytes len n:Nat) (xs:List PV):Decidable (As es bytes len n xs):=by unfold As; infer_instance
def TE (x:PV):Bool:=match x with
 | .sc (.slice none 0 0) | .lit .. | .own .. | .litx ..=>true
 | _=>false
noncomputable def tO (s:PS) (e es bytes:Nat) (x:PV) (ys:List PV) (n:Nat):Option (PV × PS):=
 if n=0 then (if TE x then some (x,s) else none) else
 match x with
 | .sc (.slice none 0 0)=>if As es bytes 0 n ys then some (.own s.n 0 n ys.length,s.new ⟨ys,0,e⟩) else none
 | .own k off m fin=>if As es bytes m n ys∧off + m * es=fin∧fin=(s.h k).cells.length∧(s.h k).low≤fin∧off=0∧(s.h k).e=e then
   some (.own k off (m + n) (fin + ys.length),s.put k ⟨(s.h k).cells ++ ys,(s.h k).low,e⟩) else none
 | .litx _ m cs=>if As es bytes m n ys∧cs.length=m * es then some (.own s.n 0 (m + n) (cs ++ ys).length,s.new ⟨cs ++ ys,0,e⟩) else none
 | _=>none
def lF (f:aR) (x:Option Operand) (d:Nat):Option Nat:=match x with
 | none=>some d
 | some x=>kH (cg f x)
def Jd (s:PS) (e es:Nat) (p:PV) (l h:Nat):Option PV:=match p with
 | .lit e' n cs=>if l≤h∧h≤n∧cs.length=n * es∧e'=e then some (.lit e (h - l) ((cs.drop (l * es)).take ((h - l) * es))) else none
 | .own k off n fin=>if l≤h∧h≤n∧off + n * es=fin∧(s.h k).low≤fin∧(s.h k).e=e then some (.own k (off + l * es) (h - l) (off + h * es)) else none
 | _=>none
def km (p:PV) (l h:Nat):Option PV:=match p with
 | .sc (.string s)=>if l≤h∧h≤s.data.toList.length then some (.sc (.string ⟨⟨(s.data.toList.drop l).take (h - l)⟩⟩)) else none
 | _=>none
def C6 (p:PV):Nat:=match p with
 | .lit _ n _=>n
 | .own _ _ n _=>n
 | .sc (.string s)=>s.data.toList.length
 | _=>0
def iJ (f:aR) (z:List PV):List (Nat × Nat × Operand)→Option (List PV)
 | []=>some z
 | (off,sz,x) :: l=>if (az (cg f x)).length=sz∧off + sz≤z.length then iJ f (z.take off ++ (az (cg f x) ++ z.drop (off + sz))) l else none
def IE (k:IntKind) (p:PV):Option PV:=match p with
 | .sc (.int _ z)=>some (.sc (.int k (k.wrap z)))
 | _=>none
def jM (p:PV):Option Bool:=match p with
 | .sc (.bool b)=>some b
 | _=>none
def Ik (mx:Bool) (a b:Int):Int:=if mx then (if b > a then b else a) else (if b < a then b else a)
def t8 (z:List Value) (es n:Nat):List PV:=(List.range (n * es)).map fun k=>.sc (z.getD (k % es) undef)
noncomputable def bM (P:Program) (f:aR) (s:PS) (o:lc):Option (PV × PS):=match o with
 | .mv x=>some (cg f x,s)
 | .pick c a b=>match jM (cg f c) with
  | some true=>some (cg f a,s)
  | some false=>some (cg f b,s)
  | none=>none
 | .alloc e z=>some (.ptr s.n 0 (az (bY z)).length,s.new ⟨az (bY z),0,e⟩)
 | .box e x=>some (.ptr s.n 0 (az (cg f x)).length,s.new ⟨az (cg f x),0,e⟩)
 | .build z ps=>(iJ f (z.map .sc) ps).map fun cs=>(.agg cs,s)
 | .bslice e n z ps=>(iJ f (z.map .sc) ps).map fun cs=>(.own s.n 0 n cs.length,s.new ⟨cs,0,e⟩)
 | .load _ ag sz x=>(BU s (cg f x) sz).bind fun cs=>(cR ag cs).map fun v=>(v,s)
 | .store _ sz x y=>if (az (cg f y)).length=sz then (FA s (cg f x) (az (cg f y))).map fun s=>(.sc undef,s) else none
 | .faddr off x=>match cg f x with
  | .ptr k o fin=>some (.ptr k (o + off) fin,s)
  | .litp cs=>if off≤cs.length then some (.litp (cs.drop off),s) else none
  | _=>none
 | .fld ag off sz x=>match cg f x with
  | .agg cs=>if off + sz≤cs.length then (cR ag ((cs.drop off).take sz)).map fun v=>(v,s) else none
  | _=>none
 | .iaddr es x i=>match cg f x,kH (cg f i) with
  | .own k off n fin,some j=>if j < n∧off + n * es=fin then some (.ptr k (off + j * es) fin,s) else none
  | .lit _ n cs,some j=>if j < n∧cs.length=n * es then some (.litp (cs.drop (j * es)),s) else none
  | .litx _ n cs,some j=>if j < n∧cs.length=n * es then some (.litp (cs.drop (j * es)),s) else none
  | _,_=>none
 | .sidx x i=>match cg f x,kH (cg f i) with
  | .sc (.string b),some j=>if j < b.data.toList.length then some (.sc (.int .u8 ((b.data.toList.getD j 0).toNat:Int)),s) else none
  | _,_=>none
 | .bin op t x y=>(fw P op t x y (cg f x) (cg f y)).map fun v=>(v,s)
 | .un op x=>(Vb P op (cg f x)).map fun v=>(v,s)
 | .len str x=>(gq str (cg f x)).map fun v=>(v,s)
 | .app e es bytes x y=>(i5 s es (cg f y)).bind fun q=>tO s e es bytes (cg f x) q.1 q.2
 | .slc e es x lo hi=>match lF f lo 0,lF f hi (C6 (cg f x)) with
  | some l,some h=>(Jd s e es (cg f x) l h).map fun v=>(v,s)
  | _,_=>none
 | .slc3 e es x hi mx=>match cg f x,kH (cg f hi),kH (cg f mx) with
  | .lit e' n cs,some h,some m=>if h=m∧h≤n∧cs.length=n * es∧e'=e then some (.litx e h (cs.take (h * es)),s) else none
  | .sc (.slice none 0 0),some 0,some 0=>some (.sc (.slice none 0 0),s)
  | _,_,_=>none
 | .sslc x lo hi=>match lF f lo 0,lF f hi (C6 (cg f x)) with
  | some l,some h=>(km (cg f x) l h).map fun v=>(v,s)
  | _,_=>none
 | .mkfn g a b=>some (.fn g (a.map (cg f)) (b.map (cg f)),s)
 | .ext x i=>match cg f x with
  | .tup vs=>(vs[i]?).map fun v=>(v,s)
  | _=>none
 | .conv k x=>(IE k (cg f x)).map fun v=>(v,s)
 | .call _ _=>none
 | .mnx mx x y=>match cg f x,cg f y with
  | .sc (.int k a),.sc (.int _ b)=>some (.sc (.int k (Ik mx a b)),s)
  | _,_=>none
 | .nck x=>match cg f x with
  | .ptr k o fin=>some (.ptr k o fin,s)
  | .litp cs=>some (.litp cs,s)
  | _=>none
 | .mks e es by' z l c=>match kH (cg f l),kH (cg f c) with
  | some l,some c=>if l=c∧by' * l≤281474976710656∧l≤1073741824 then some (.own s.n 0 l (t8 z es l).length,s.new ⟨t8 z es l,0,e⟩) else none
  | _,_=>none
 | .cpy es x y=>(i5 s es (cg f y)).bind fun q=>match cg f x with
  | .own k off m fin=>if q.2=0 then some (.sc (.int .i64 0),s) else if q.2≤m∧q.1.length=q.2 * es then (FA s (.ptr k off fin) q.1).map fun s=>(.sc (.int .i64 (q.2:Int)),s) else none
  | .sc (.slice none 0 0)=>if q.2=0 then some (.sc (.int .i64 0),s) else none
  | _=>none
def eE (p:PV):jc:=match p with
 | .ptr k _ _=>⟨[k],[],false,false⟩
 | .own k _ _ _=>⟨[k],[],false,false⟩
 | .litp _=>⟨[],[],true,false⟩
 | .lit ..=>⟨[],[],true,false⟩
 | .litx ..=>⟨[],[],true,false⟩
 | _=>⟨[],[],false,false⟩
def cI (f:aR) (o:lc):jc:=match o with
 | .load _ _ _ x=>eE (cg f x)
 | .store _ _ x _=>match cg f x with
  | .ptr k _ _=>⟨[k],[k],false,false⟩
  | _=>⟨[],[],false,false⟩
 | .slc _ _ x _ _=>eE (cg f x)
 | .slc3 _ _ x _ _=>eE (cg f x)
 | .app _ _ _ x y=>match cg f x with
  | .own k _ _ _=>⟨k :: (eE (cg f y)).rd,[k],(eE (cg f y)).li,false⟩
  | .litx ..=>⟨(eE (cg f y)).rd,[],true,false⟩
  | _=>eE (cg f y)
 | .call _ _=>⟨[],[],false,true⟩
 | .cpy _ x y=>match cg f x with
  | .own k _ _ _=>⟨k :: (eE (cg f y)).rd,[k],(eE (cg f y)).li,false⟩
  | _=>eE (cg f y)
 | _=>⟨[],[],false,false⟩
noncomputable def fi (x:Operand):Bool:=match x with
 | .tmp _=>true
 | .const (.agg cs)=>plain 50 (.agg cs) && cs.toList.all MQ
 | .const (.func (.func _) a b)=>a.toList.isEmpty && b.toList.isEmpty
 | .const v=>plain 50 v
 | .func _=>true
 | .global _=>false
noncomputable def KA (z:Value):Bool:=match z with
 | .agg cs=>cs.toList.all MQ
 | .func _ _ _=>false
 | v=>MQ v
noncomputable def nS (g:Nat→Option (Nat × Nat)):List (Nat × Operand)→Option (List (Nat × Nat × Operand))
 | []=>some []
 | (i,x) :: l=>match g i,fi x,nS g l with
  | some (off,sz),true,some r=>some ((off,sz,x) :: r)
  | _,_,_=>none
noncomputable def yx (x:Option Operand):Bool:=match x with
 | none=>true
 | some x=>fi x
noncomputable def gd (b:Bool) (o:lc):Option lc:=if b then some o else none
noncomputable def nc (P:Program) (b:Builtin) (args:List Operand) (tys:List TypeId):Option lc:=match b,args,tys with
 | .len,[x],[t]=>match P.underlying t with
  | some (.slice _)=>gd (fi x) (.len false x)
  | some .string=>gd (fi x) (.len true x)
  | _=>none
 | .append,[x,y],[t,u]=>match P.underlying t,P.underlying u with
  | some (.slice e),some (.slice _)=>match P.info? e with
   | some i=>match i.zero with
    | some z=>gd (fi x && fi y && Nat.beq z.cells.size i.size) (.app e i.size i.bytes x y)
    | none=>none
   | none=>none
  | _,_=>none
 | .max,[x,y],_=>gd (fi x && fi y) (.mnx true x y)
 | .min,[x,y],_=>gd (fi x && fi y) (.mnx false x y)
 | .copy,[x,y],[t,u]=>match P.underlying t,P.underlying u with
  | some (.slice e),some (.slice _)=>match dM P e with
   | some n=>gd (fi x && fi y) (.cpy n x y)
   | none=>none
  | _,_=>none
 | _,_,_=>none
noncomputable def ft (P:Program) (o:Op):Option lc:=match o with
 | .move x=>gd (fi x) (.mv x)
 | .assign x=>gd (fi x) (.mv x)
 | .pick c a b=>gd (fi c && fi a && fi b) (.pick c a b)
 | .alloc e=>match gE P e with
  | some z=>gd (KA z) (.alloc e z)
  | none=>none
 | .box e x=>gd (fi x) (.box e x)
 | .build t ps=>match gE P t,P.underlying t with
  | some z,some (.struct fs)=>match nS (fun i=>(fs[i]?).bind fun fl=>(dM P fl.type).map fun n=>(fl.offset,n)) ps.toList with
   | some l=>gd (Nat.ble (Nat.succ t) P.types.size && KA z) (.build z.cells.toList l)
   | none=>none
  | _,_=>none
 | .buildSlice t len ps=>match P.underlying t with
  | some (.slice e)=>match gE P e,dM P e with
   | some z,some n=>match nS (fun i=>some (i * n,n)) ps.toList with
    | some l=>gd (Nat.ble (Nat.mul len n) 1048576 && Nat.beq z.cells.toList.length n && KA z) (.bslice e len (List.replicate len z.cells.toList).flatten l)
    | none=>none
   | _,_=>none
  | _=>none
 | .load t a=>match P.underlying t with
  | some d=>if jl (some d) then (match dM P t with
   | some n=>gd (fi a) (.load t true n a)
   | none=>none) else gd (fi a) (.load t false 1 a)
  | none=>none
 | .store t a x=>match dM P t with
  | some n=>gd (fi a && fi x) (.store t n a x)
  | none=>none
 | .fieldAddr t x i=>match j8 P t with
  | some fs=>match fs[i]? with
   | some fl=>match dM P fl.type with
    | some (_ + 1)=>gd (fi x) (.faddr fl.offset x)
    | _=>none
   | none=>none
  | none=>none
 | .field t x i=>match j8 P t with
  | some fs=>match fs[i]? with
   | some fl=>match P.underlying fl.type with
    | some d=>if jl (some d) then (match dM P fl.type with
     | some n=>gd (fi x) (.fld true fl.offset n x)
     | none=>none) else gd (fi x) (.fld false fl.offset 1 x)
    | none=>none
   | none=>none
  | none=>none
 | .indexAddr t x i=>match P.underlying t with
  | some (.slice e)=>match dM P e with
   | some n=>gd (fi x && fi i) (.iaddr n x i)
   | none=>none
  | _=>none
 | .index t x i=>match P.underlying t with
  | some .string=>gd (fi x && fi i) (.sidx x i)
  | _=>none
 | .binOp op t x y _=>gd (fi x && fi y) (.bin op t x y)
 | .unOp op _ x=>gd (fi x) (.un op x)
 | .convert a b x=>match P.underlying a,P.underlying b with
  | some (.int _),some (.int k)=>gd (fi x) (.conv k x)
  | _,_=>none
 | .slice t x lo hi none=>match P.underlying t with
  | some (.slice e)=>match dM P e with
   | some n=>gd (fi x && yx lo && yx hi) (.slc e n x lo hi)
   | none=>none
  | some .string=>gd (fi x && yx lo && yx hi) (.sslc x lo hi)
  | _=>none
 | .slice t x none (some hi) (some mx)=>match P.underlying t with
  | some (.slice e)=>match dM P e with
   | some n=>gd (fi x && (fi hi && fi mx)) (.slc3 e n x hi mx)
   | none=>none
  | _=>none
 | .nilCheck x=>gd (fi x) (.nck x)
 | .makeSlice t l c=>match P.underlying t with
  | some (.slice e)=>match P.info? e with
   | some i=>match i.zero with
    | some z=>gd (fi l && (fi c && (KA z && (plain 50 z && Nat.beq z.cells.toList.length i.size)))) (.mks e i.size i.bytes z.cells.toList l c)
    | none=>none
   | none=>none
  | _=>none
 | .makeFunc (.func g) a b=>gd (a.toList.all fi && b.toList.all fi) (.mkfn g a.toList b.toList)
 | .extract t i=>gd (fi t) (.ext t i)
 | .call c=>match c.callee with
  | .value x=>gd (fi x && c.args.toList.all fi) (.call x c.args.toList)
  | .builtin b=>nc P b c.args.toList c.argTypes.toList
  | .invoke ..=>none
 | _=>none
noncomputable def Ct (ops:List Oper) (g:Option (Nat × Bool)):Option (Option (Nat × Bool)):=match g with
 | none=>some none
 | some (j,want)=>match (ops[j]?).bind (·.dst) with
  | some d=>some (some (d,want))
  | none=>none
noncomputable def J1 (nt:Nat) (d:Option Nat):Bool:=match d with
 | none=>true
 | some d=>Nat.ble (Nat.succ d) nt
noncomputable def Av (P:Program) (nt:Nat) (ops:List Oper) (o:Oper):Option PI:=match ft P o.op,Ct ops o.guard with
 | some p,some g=>if J1 nt o.dst then some ⟨o.dst,p,g⟩ else none
 | _,_=>none
noncomputable def pU (P:Program) (nt:Nat) (ops:List Oper):List Oper→Option (List PI)
 | []=>some []
 | o :: l=>match Av P nt ops o,pU P nt ops l with
  | some i,some r=>some (i :: r)
  | _,_=>none
noncomputable def vM (ls:List Nat) (d:Option Nat) (p:Nat × List Nat × Option Nat):Bool:=
 p.2.2.toList.all (fun t=>!(ls.contains t) && !(d.toList.contains t)) && d.toList.all (fun t=>!(p.2.1.contains t))
noncomputable def sD (nt:Nat) (ops:Array Oper):List Oper→Nat→Tr Nat→List (Nat × List Nat × Option Nat)→Option (List (List Nat × List Nat))
 | [],_,_,_=>some []
 | o :: l,j,bs,acc=>
  if lE j o.after.toList && (Nat.ble (Nat.succ j) 100000 && (nD (o.looksAt ops) && ((o.looksAt ops).all (fun t=>Nat.ble (Nat.succ t) nt) && (acc.filter fun p=>!((j7 bs o.after.toList).testBit p.1)).all (vM (o.looksAt ops) o.dst)))) then
   match sD nt ops l (j + 1) (Tr.set (j7 bs o.after.toList) 40 bs j) ((j,o.looksAt ops,o.dst) :: acc) with
   | some r=>some ((o.looksAt ops,(acc.filter fun p=>!((j7 bs o.after.toList).testBit p.1)).map (·.1)) :: r)
   | none=>none
  else none
def GV:List PI→List (List Nat × List Nat)→List (PI × List Nat × List Nat)
 | i :: l,x :: r=>(i,x.1,x.2) :: GV l r
 | _,_=>[]
noncomputable def comp (P:Program) (nt:Nat):Code→Option aW
 | .skip=>some .skip
 | .region _ ops false=>(pU P nt ops.toList ops.toList).map .reg
 | .region _ ops true=>match pU P nt ops.toList ops.toList,sD nt ops ops.toList 0 .nil [] with
  | some l,some r=>some (.draw (GV l r))
  | _,_=>none
 | .seq a b=>match comp P nt a,comp P nt b with
  | some a,some b=>some (.seq a b)
  | _,_=>none
 | .cond c a b=>match fi c,comp P nt a,comp P nt b with
  | true,some a,some b=>some (.cond c a b)
  | _,_,_=>none
 | .block id b=>(comp P nt b).map (.block id)
 | .loop b=>(comp P nt b).map .loop
 | .exit id=>some (.exit id)
 | .ret=>some .ret
 | _=>none
inductive Lp where
 | tmp (t:Nat)
 | cell (a:Nat) (ag:Bool) (sz:Nat)
noncomputable def u5 (P:Program) (r:ResultVar):Option Lp:=match r with
 | .tmp t=>some (.tmp t)
 | .cell a t=>match P.underlying t with
  | some d=>if jl (some d) then (match dM P t with
   | some n=>some (.cell a true n)
   | none=>none) else some (.cell a false 1)
  | none=>none
structure fJ where
 nt:Nat
 body:aW
 res:List Lp
 keep:Bool
noncomputable def sX (P:Program) (fn:Func) (keep:Bool):Option fJ:=match fn.body with
 | some c=>match comp P fn.ntmps c,fn.results.toList.mapM (u5 P) with
  | some b,some r=>if Nat.ble fn.ntmps 1000000 then some ⟨fn.ntmps,b,r,keep⟩ else none
  | _,_=>none
 | none=>none
inductive xf where
 | normal | exit (id:Nat) | ret
abbrev aq:=Nat→List PV→PS→Option (PV × PS)
def bw (f:aR) (g:Option (Nat × Bool)):Option Bool:=match g with
 | none=>some true
 | some (d,want)=>match f d with
  | .sc (.bool b)=>some (b == want)
  | .sc (.tuple _)=>some false
  | _=>none
def dH (call:aq) (f:aR) (s:PS) (x:Operand) (args:List Operand):Option (PV × PS):=match cg f x with
 | .fn g first cap=>call g (first ++ (args.map (cg f) ++ cap)) s
 | _=>none
noncomputable def aY (P:Program) (call:aq) (f:aR) (s:PS) (o:lc):Option (PV × PS):=match o with
 | .call x args=>dH call f s x args
 | o=>bM P f s o
noncomputable def gZ (P:Program) (call:aq) (i:PI) (f:aR) (s:PS):Option (aR × PS):=match bw f i.gd with
 | some true=>(aY P call f s i.op).map fun q=>(AD f i.dst q.1,q.2)
 | some false=>some (AD f i.dst (.sc undef),s)
 | none=>none
noncomputable def qQ (P:Program) (call:aq):List PI→aR→PS→Option (aR × PS)
 | [],f,s=>some (f,s)
 | i :: l,f,s=>(gZ P call i f s).bind fun q=>qQ P call l q.1 q.2
def dl (ls:List Nat) (f:aR):aR:=fun t=>if t∈ls then f t else .sc undef
def I0 (f:aR) (d:Option Nat) (g:aR):aR:=match d with
 | some d=>aR.set f d (g d)
 | none=>f
def pX (f:aR) (i:PI):jc:=match bw f i.gd with
 | some true=>cI f i.op
 | _=>⟨[],[],false,false⟩
def fR (pu:Nat→Bool) (f:aR) (i:PI):Bool:=match i.op with
 | .call x _=>match cg f x with
  | .fn g _ _=>pu g
  | _=>true
 | _=>true
def bZ (E:jc) (a b:Nat) (F:jc):Prop:=
 (∀k∈E.wr,k ∉ F.rd∧k ∉ F.wr)∧(∀k∈F.rd,k < a∨b≤k)∧(∀k∈F.wr,k < a∨b≤k)∧¬ (E.ca=true∧F.li=true)∧(∀k∈F.wr,k ∉ E.rd)∧(F.ca=true→E.wr=[]∧a=b∧E.ca=false)∧(E.ca=true→∀k∈F.wr,b≤k)
instance (E:jc) (a b:Nat) (F:jc):Decidable (bZ E a b F):=by unfold bZ; infer_instance
def cO (un:List Nat) (F:jc) (acc:List (Nat × jc × Nat × Nat)):Prop:=∀e∈acc,e.1∈un→bZ e.2.1 e.2.2.1 e.2.2.2 F
instance (un:List Nat) (F:jc) (acc:List (Nat × jc × Nat × Nat)):Decidable (cO un F acc):=by unfold cO; infer_instance
noncomputable def ky (P:Program) (pu:Nat→Bool) (call:aq):List (PI × List Nat × List Nat)→Nat→List (Nat × jc × Nat × Nat)→aR→PS→Option (aR × PS)
 | [],_,_,f,s=>some (f,s)
 | (i,ls,un) :: l,j,acc,f,s=>(gZ P call i (dl ls f) s).bind fun q=>
   if fR pu (dl ls f) i=true∧cO un (pX (dl ls f) i) acc then ky P pu call l (j + 1) ((j,pX (dl ls f) i,s.n,q.2.n) :: acc) (I0 f i.dst q.1) q.2 else none
abbrev kD:=Option (xf × aR × PS)
def gR (r:kD) (k:aR→PS→kD):kD:=r.bind fun q=>match q.1 with
 | .normal=>k q.2.1 q.2.2
 | x=>some (x,q.2.1,q.2.2)
def jm (id:Nat) (r:kD):kD:=r.map fun q=>match q.1 with
 | .exit i=>if i=id then (.normal,q.2.1,q.2.2) else (.exit i,q.2.1,q.2.2)
 | x=>(x,q.2.1,q.2.2)
def nW (b:Option Bool) (x y:kD):kD:=match b with
 | some true=>x
 | some false=>y
 | none=>none
def mQ (body:aR→PS→kD):Nat→aR→PS→kD
 | 0,_,_=>none
 | n + 1,f,s=>gR (body f s) (mQ body n)
noncomputable def dD (P:Program) (pu:Nat→Bool) (call:aq) (L:Nat):aW→aR→PS→kD
 | .skip,f,s=>some (.normal,f,s)
 | .reg l,f,s=>(qQ P call l f s).map fun q=>(.normal,q.1,q.2)
 | .draw l,f,s=>(ky P pu call l 0 [] f s).map fun q=>(.normal,q.1,q.2)
 | .seq a b,f,s=>gR (dD P pu call L a f s) (dD P pu call L b)
 | .cond c a b,f,s=>nW (jM (cg f c)) (dD P pu call L a f s) (dD P pu call L b f s)
 | .block id b,f,s=>jm id (dD P pu call L b f s)
 | .loop b,f,s=>mQ (dD P pu call L b) L f s
 | .exit id,f,s=>some (.exit id,f,s)
 | .ret,f,s=>some (.ret,f,s)
def ii (f:aR) (s:PS):List Lp→Option (List PV)
 | []=>some []
 | .tmp t :: l=>(ii f s l).map fun vs=>f t :: vs
 | .cell a ag sz :: l=>(BU s (f a) sz).bind fun cs=>(cR ag cs).bind fun v=>(ii f s l).map fun vs=>v :: vs
def gD (vs:List PV):PV:=match vs with
 | [v]=>v
 | vs=>.tup vs
def fx (n:Nat) (s:PS) (p:PV):Option PV:=match p with
 | .own k off m fin=>if k < n then some (.own k off m fin) else
   if (s.h k).low≤fin∧fin≤(s.h k).cells.length∧off≤fin∧(((s.h k).cells.drop off).take (fin - off)).all cP=true then some (.lit (s.h k).e m (((s.h k).cells.drop off).take (fin - off))) else none
 | .ptr k off fin=>if k < n then some (.ptr k off fin) else none
 | .fn g [] []=>some (.fn g [] [])
 | .sc v=>some (.sc v)
 | .lit e m cs=>some (.lit e m cs)
 | .litx e m cs=>some (.litx e m cs)
 | .litp cs=>some (.litp cs)
 | _=>none
def iT (n:Nat) (s:PS):List PV→Option (List PV)
 | []=>some []
 | p :: l=>(fx n s p).bind fun p=>(iT n s l).map fun l=>p :: l
def il (n:Nat) (s:PS) (p:PV):Option PV:=match p with
 | .agg cs=>(iT n s cs).map .agg
 | p=>fx n s p
def yt (n:Nat) (s:PS):List PV→Option (List PV)
 | []=>some []
 | p :: l=>(il n s p).bind fun p=>(yt n s l).map fun l=>p :: l
def frz (n:Nat) (s:PS) (p:PV):Option PV:=match p with
 | .tup vs=>(yt n s vs).map .tup
 | p=>il n s p
noncomputable def ek (fn:fJ) (s:PS) (f:aR) (s':PS):Option (PV × PS):=
 (ii f s' fn.res).bind fun vs=>if fn.keep then some (gD vs,⟨s'.h,s'.n,min s.w s'.w⟩) else if s.n≤s'.w then (frz s.n s' (gD vs)).map fun v=>(v,s) else none
def Ov (q:xf × aR × PS) (k:aR→PS→Option (PV × PS)):Option (PV × PS):=match q.1 with
 | .normal=>k q.2.1 q.2.2
 | .ret=>k q.2.1 q.2.2
 | _=>none
def br:List PV→Nat→aR
 | [],_=>fun _=>.sc undef
 | v :: l,i=>aR.set (br l (i + 1)) i v
noncomputable def oh (P:Program) (pu:Nat→Bool) (call:aq) (L:Nat) (fn:fJ) (args:List PV) (s:PS):Option (PV × PS):=
 if args.length≤fn.nt then (dD P pu call L fn.body (br args 0) ⟨s.h,s.n,s.n⟩).bind fun q=>Ov q (ek fn s) else none
def ei (Γ:Nat→Option fJ) (g:Nat):Bool:=match Γ g with
 | some fn=>!fn.keep
 | none=>true
noncomputable def dP (P:Program) (Γ:Nat→Option fJ) (ext:aq):Nat→aq
 | 0=>fun _ _ _=>none
 | n + 1=>fun g args s=>match Γ g with
  | some fn=>oh P (ei Γ) (dP P Γ ext n) n fn args s
  | none=>ext g args s
def jA (A:AS) (β:Nat→Nat) (n c:Nat):Prop:=c < A.next∧∀k,k < n→β k≠c
inductive RC (A:AS) (β:Nat→Nat) (n:Nat):Value × PV ⊕ List Value × List PV→Prop
 | sc (v:Value) (h:MQ v=true):RC A β n (.inl (v,.sc v))
 | fn (g:Nat):RC A β n (.inl (.func (.func g) #[] #[],.fn g [] []))
 | lit (b off m cap e:Nat) (cs:List PV) (cells:List Value) (c st:Nat) (hg:A.heap.get b=some (.row cells e c st true)) (hp:jA A β n c) (hl:off + cs.length≤cells.length) (hm:m≤cap)
   (h:RC A β n (.inr ((cells.drop off).take cs.length,cs))):RC A β n (.inl (.slice (some ⟨b,off,none⟩) m cap,.lit e m cs))
 | litp (b off e:Nat) (cs:List PV) (cells:List Value) (c st:Nat) (hg:A.heap.get b=some (.row cells e c st true)) (hp:jA A β n c) (hl:off + cs.length≤cells.length)
   (h:RC A β n (.inr ((cells.drop off).take cs.length,cs))):RC A β n (.inl (.pointer (some ⟨b,off,none⟩),.litp cs))
 | litx (b off m e:Nat) (cs:List PV) (cells:List Value) (c st:Nat) (hg:A.heap.get b=some (.row cells e c st true)) (hp:jA A β n c) (hl:off + cs.length≤cells.length)
   (h:RC A β n (.inr ((cells.drop off).take cs.length,cs))):RC A β n (.inl (.slice (some ⟨b,off,some 0⟩) m m,.litx e m cs))
 | agg (xs:Array Value) (cs:List PV) (h:RC A β n (.inr (xs.toList,cs))):RC A β n (.inl (.agg xs,.agg cs))
 | nil:RC A β n (.inr ([],[]))
 | cons (v:Value) (p:PV) (l:List Value) (r:List PV) (h:RC A β n (.inl (v,p))) (hs:RC A β n (.inr (l,r))):RC A β n (.inr (v :: l,p :: r))
inductive RV (A:AS) (β:Nat→Nat) (n:Nat):Value × PV ⊕ List Value × List PV→Prop
 | cl (v:Value) (p:PV) (h:RC A β n (.inl (v,p))):RV A β n (.inl (v,p))
 | fn (g:Nat) (xs ys:Array Value) (as bs:List PV) (h:RV A β n (.inr (xs.toList,as))) (h':RV A β n (.inr (ys.toList,bs))):RV A β n (.inl (.func (.func g) xs ys,.fn g as bs))
 | agg (xs:Array Value) (cs:List PV) (h:RV A β n (.inr (xs.toList,cs))):RV A β n (.inl (.agg xs,.agg cs))
 | tup (xs:Array Value) (cs:List PV) (h:RV A β n (.inr (xs.toList,cs))):RV A β n (.inl (.tuple xs,.tup cs))
 | own (b o k off m fin cap e:Nat) (cells:List Value) (st:Nat) (ok:Bool) (hk:k < n) (hg:A.heap.get b=some (.row cells e (β k) st ok)) (ho:st + o=off) (hf:fin≤st + cells.length) (hm:m≤cap) :
   RV A β n (.inl (.slice (some ⟨b,o,none⟩) m cap,.own k off m fin))
 | ptr (b o k off fin e:Nat) (cells:List Value) (st:Nat) (ok:Bool) (hk:k < n) (hg:A.heap.get b=some (.row cells e (β k) st ok)) (ho:st + o=off) (hf:fin≤st + cells.length) :
   RV A β n (.inl (.pointer (some ⟨b,o,none⟩),.ptr k off fin))
 | nil:RV A β n (.inr ([],[]))
 | cons (v:Value) (p:PV) (l:List Value) (r:List PV) (h:RV A β n (.inl (v,p))) (hs:RV A β n (.inr (l,r))):RV A β n (.inr (v :: l,p :: r))
abbrev R1 (A:AS) (β:Nat→Nat) (n:Nat) (v:Value) (p:PV):Prop:=RV A β n (.inl (v,p))
abbrev Rs (A:AS) (β:Nat→Nat) (n:Nat) (l:List Value) (r:List PV):Prop:=RV A β n (.inr (l,r))
abbrev C1 (A:AS) (β:Nat→Nat) (n:Nat) (v:Value) (p:PV):Prop:=RC A β n (.inl (v,p))
abbrev Cs (A:AS) (β:Nat→Nat) (n:Nat) (l:List Value) (r:List PV):Prop:=RC A β n (.inr (l,r))
structure Fw (A A':AS) (β β':Nat→Nat) (n n' lo:Nat):Prop where
 le:n≤n'
 next:A.next≤A'.next
 eq:∀k,k < n→β' k=β k
 new:∀k,n≤k→k < n'→A.next≤β' k
 prot:∀b cells e c st,A.heap.get b=some (.row cells e c st true)→jA A β n c→A'.heap.get b=some (.row cells e c st true)
 keep:∀b cells e st ok k,k < n→A.heap.get b=some (.row cells e (β k) st ok)→∃cells' ok',A'.heap.get b=some (.row cells' e (β k) st ok')∧cells'.length=cells.length
 w:∀c,c < A.next→A'.w.testBit c=true→A.w.testBit c=true∨∃k,lo≤k∧k < n∧β k=c
theorem Fw.refl (A:AS) (β:Nat→Nat) (n lo:Nat):Fw A A β β n n lo:=
 ⟨Nat.le_refl _,Nat.le_refl _,fun _ _=>rfl,fun _ h h'=>by omega,fun _ _ _ _ _ h _=>h,fun _ cells _ _ ok _ _ h=>⟨cells,ok,h,rfl⟩,fun _ _ h=>.inl h⟩
theorem Fw.heap {A A':AS} (β:Nat→Nat) (n:Nat) {lo:Nat} (h:A'.heap=A.heap) (hn:A'.next=A.next) (hw:A'.w=A.w):Fw A A' β β n n lo:=
 ⟨Nat.le_refl _,by omega,fun _ _=>rfl,fun _ h h'=>by omega,fun _ _ _ _ _ hh _=>by rw [h]; exact hh,fun _ cells _ _ ok _ _ hh=>⟨cells,ok,by rw [h]; exact hh,rfl⟩,fun _ _ hh=>.inl (by rw [← hw]; exact hh)⟩
theorem Fw.protN {A A':AS}{β β':Nat→Nat}{n n' lo c:Nat} (h:Fw A A' β β' n n' lo) (hp:jA A β n c):jA A' β' n' c:=
 ⟨Nat.lt_of_lt_of_le hp.1 h.next,fun k hk=>by
  by_cases hkn:k < n
  ·rw [h.eq k hkn]; exact hp.2 k hkn
  ·have:=h.new k (by omega) hk;have:=hp.1;omega⟩
theorem Fw.trans {A B C:AS}{β γ δ:Nat→Nat}{n m l lo lo':Nat} (h:Fw A B β γ n m lo) (k:Fw B C γ δ m l lo') (hlo:lo'≤lo):Fw A C β δ n l lo' where
 le:=Nat.le_trans h.le k.le
 next:=Nat.le_trans h.next k.next
 eq:=fun x hx=>(k.eq x (Nat.lt_of_lt_of_le hx h.le)).trans (h.eq x hx)
 new:=fun x hx hl=>by
  by_cases hm:x < m
  ·rw [k.eq x hm]; exact h.new x hx hm
  ·exact Nat.le_trans h.next (k.new x (by omega) hl)
 prot:=fun b cells e c st hb hp=>k.prot _ _ _ _ _ (h.prot _ _ _ _ _ hb hp) (h.protN hp)
 keep:=fun b cells e st ok x hx hb=>by
  obtain⟨c1,o1,h1,l1⟩:=h.keep b cells e st ok x hx hb;rw [← h.eq x hx] at h1;obtain⟨c2,o2,h2,l2⟩:=k.keep b c1 e st o1 x (Nat.lt_of_lt_of_le hx h.le) h1;rw [h.eq x hx] at h2;exact⟨c2,o2,h2,l2.trans l1⟩
 w:=fun c hc hw=>by
  rcases k.w c (Nat.lt_of_lt_of_le hc h.next) hw with h1 | ⟨x,hxl,hx,he⟩
  ·rcases h.w c hc h1 with h2 | ⟨y,y1,y2,y3⟩
   ·exact .inl h2
   ·exact .inr ⟨y,by omega,y2,y3⟩
  ·by_cases hxn:x < n
   ·exact .inr ⟨x,hxl,hxn,by rw [← h.eq x hxn]; exact he⟩
   ·have:=h.new x (by omega) hx; omega
theorem RC.mono {A A':AS}{β β':Nat→Nat}{n n' lo:Nat} (f:Fw A A' β β' n n' lo) {x:Value × PV ⊕ List Value × List PV} (h:RC A β n x):RC A' β' n' x:=by
 induction h with
 | sc v h=>exact .sc v h
 | fn g=>exact .fn g
 | lit b off m cap e cs cells c st hg hp hl hm _ ih=>exact .lit b off m cap e cs cells c st (f.prot _ _ _ _ _ hg hp) (f.protN hp) hl hm ih
 | litp b off e cs cells c st hg hp hl _ ih=>exact .litp b off e cs cells c st (f.prot _ _ _ _ _ hg hp) (f.protN hp) hl ih
 | litx b off m e cs cells c st hg hp hl _ ih=>exact .litx b off m e cs cells c st (f.prot _ _ _ _ _ hg hp) (f.protN hp) hl ih
 | agg xs cs _ ih=>exact .agg xs cs ih
 | nil=>exact .nil
 | cons v p l r _ _ ih ihs=>exact .cons v p l r ih ihs
theorem RV.mono {A A':AS}{β β':Nat→Nat}{n n' lo:Nat} (f:Fw A A' β β' n n' lo) {x:Value × PV ⊕ List Value × List PV} (h:RV A β n x):RV A' β' n' x:=by
 induction h with
 | cl v p h=>exact .cl v p (h.mono f)
 | fn g xs ys as bs _ _ h h'=>exact .fn g xs ys as bs h h'
 | agg xs cs _ ih=>exact .agg xs cs ih
 | tup xs cs _ ih=>exact .tup xs cs ih
 | own b o k off m fin cap e cells st ok hk hg ho hf hm=>
  obtain⟨c',o',h1,h2⟩:=f.keep b cells e st ok k hk hg;rw [← f.eq k hk] at h1;exact .own b o k off m fin cap e c' st o' (Nat.lt_of_lt_of_le hk f.le) h1 ho (by omega) hm
 | ptr b o k off fin e cells st ok hk hg ho hf=>
  obtain⟨c',o',h1,h2⟩:=f.keep b cells e st ok k hk hg;rw [← f.eq k hk] at h1;exact .ptr b o k off fin e c' st o' (Nat.lt_of_lt_of_le hk f.le) h1 ho (by omega)
 | nil=>exact .nil
 | cons v p l r _ _ ih ihs=>exact .cons v p l r ih ihs
section
variable {A:AS}{β:Nat→Nat}{n:Nat}
theorem Cs.len {l:List Value}{r:List PV} (h:Cs A β n l r):l.length=r.length:=by
 induction r generalizing l with
 | nil=>cases h; rfl
 | cons p r ih=>cases h with | cons v p l r h hs=>simp [ih hs]
theorem Rs.len {l:List Value}{r:List PV} (h:Rs A β n l r):l.length=r.length:=by
 induction r generalizing l with
 | nil=>cases h; rfl
 | cons p r ih=>cases h with | cons v p l r h hs=>simp [ih hs]
theorem Cs.drop {l:List Value}{r:List PV} (h:Cs A β n l r) (k:Nat):Cs A β n (l.drop k) (r.drop k):=by
 induction k generalizing l r with
 | zero=>exact h
 | succ k ih=>
  cases r with
  | nil=>cases h; exact .nil
  | cons p r=>cases h with | cons v p l r h hs=>exact ih hs
theorem Cs.take {l:List Value}{r:List PV} (h:Cs A β n l r) (k:Nat):Cs A β n (l.take k) (r.take k):=by
 induction k generalizing l r with
 | zero=>exact .nil
 | succ k ih=>
  cases r with
  | nil=>cases h; exact .nil
  | cons p r=>cases h with | cons v p l r h hs=>exact .cons _ _ _ _ h (ih hs)
theorem Rs.drop {l:List Value}{r:List PV} (h:Rs A β n l r) (k:Nat):Rs A β n (l.drop k) (r.drop k):=by
 induction k generalizing l r with
 | zero=>exact h
 | succ k ih=>
  cases r with
  | nil=>cases h; exact .nil
  | cons p r=>cases h with | cons v p l r h hs=>exact ih hs
theorem Rs.take {l:List Value}{r:List PV} (h:Rs A β n l r) (k:Nat):Rs A β n (l.take k) (r.take k):=by
 induction k generalizing l r with
 | zero=>exact .nil
 | succ k ih=>
  cases r with
  | nil=>cases h; exact .nil
  | cons p r=>cases h with | cons v p l r h hs=>exact .cons _ _ _ _ h (ih hs)
theorem Rs.app {l l':List Value}{r r':List PV} (h:Rs A β n l r) (h':Rs A β n l' r'):Rs A β n (l ++ l') (r ++ r'):=by
 induction r generalizing l with
 | nil=>cases h; exact h'
 | cons p r ih=>cases h with | cons v p l r h hs=>exact .cons _ _ _ _ h (ih hs)
theorem Cs.up {l:List Value}{r:List PV} (h:Cs A β n l r):Rs A β n l r:=by
 induction r generalizing l with
 | nil=>cases h; exact .nil
 | cons p r ih=>cases h with | cons v p l r h hs=>exact .cons _ _ _ _ (.cl _ _ h) (ih hs)
theorem nk:∀(l:List Value),l.all MQ=true→Cs A β n l (l.map .sc):=by
 intro l
 induction l with
 | nil=>intro _; exact .nil
 | cons v l ih=>
  intro h;rw [List.all_cons,Bool.and_eq_true] at h;exact .cons _ _ _ _ (.sc v h.1) (ih h.2)
theorem R1.cells {v:Value}{p:PV} (h:R1 A β n v p):Rs A β n v.cells.toList (az p):=by
 have one:∀{v:Value}{p:PV},R1 A β n v p→Rs A β n [v] [p]:=fun h=>.cons _ _ _ _ h .nil;cases h with
 | cl v p h=>
  cases h with
  | sc v h=>
   cases v with
   | agg xs=>cases h
   | _=>exact one (.cl _ _ (.sc _ h))
  | fn g=>exact one (.cl _ _ (.fn g))
  | lit b off m cap e cs cells c st hg hp hl hm h=>exact one (.cl _ _ (.lit b off m cap e cs cells c st hg hp hl hm h))
  | litp b off e cs cells c st hg hp hl h=>exact one (.cl _ _ (.litp b off e cs cells c st hg hp hl h))
  | litx b off m e cs cells c st hg hp hl h=>exact one (.cl _ _ (.litx b off m e cs cells c st hg hp hl h))
  | agg xs cs h=>exact Cs.up h
 | fn g xs ys as bs h h'=>exact one (.fn g xs ys as bs h h')
 | agg xs cs h=>exact h
 | tup xs cs h=>exact one (.tup xs cs h)
 | own b o k off m fin cap e cells st ok hk hg ho hf hm=>exact one (.own b o k off m fin cap e cells st ok hk hg ho hf hm)
 | ptr b o k off fin e cells st ok hk hg ho hf=>exact one (.ptr b o k off fin e cells st ok hk hg ho hf)
end
structure RB (A:AS) (β:Nat→Nat) (n c:Nat) (b:Dk):Prop where
 cur:∃x cells st,A.heap.get x=some (.row cells b.e c st true)∧st + cells.length=b.cells.length
 all:∀x cells e st ok,A.heap.get x=some (.row cells e c st ok)→e=b.e∧st + cells.length≤b.cells.length∧(b.low≤st + cells.length→ok=true∧Rs A β n cells ((b.cells.drop st).take cells.length))
 uni:∀x y cells e st ok cells' e' st' ok',A.heap.get x=some (.row cells e c st ok)→A.heap.get y=some (.row cells' e' c st' ok')→st + cells.length=b.cells.length→st' + cells'.length=b.cells.length→x=y
 low:b.low≤b.cells.length
 fz:A.fz.get c=none
 lt:c < A.next
 z:∀x cells e st ok,A.heap.get x=some (.row cells e c st ok)→st=0
structure RS (A:AS) (β:Nat→Nat) (s:PS):Prop where
 blk:∀k,k < s.n→RB A β s.n (β k) (s.h k)
 inj:∀j k,j < s.n→k < s.n→β j=β k→j=k
structure RF (A:AS) (β:Nat→Nat) (n nt:Nat) (f:Fr) (p:aR):Prop where
 num:f.n=nt
 few:nt≤1000000
 df:f.defers=[]
 tmp:∀j,R1 A β n ((f.tmps.get j).getD undef) (p j)
theorem RF.mono {A A':AS}{β β':Nat→Nat}{n n' nt lo:Nat}{f:Fr}{p:aR} (h:RF A β n nt f p) (w:Fw A A' β β' n n' lo):RF A' β' n' nt f p:=
 ⟨h.num,h.few,h.df,fun j=>(h.tmp j).mono w⟩
theorem RB.mono {A A':AS}{β β':Nat→Nat}{n n' c lo:Nat}{b:Dk} (h:RB A β n c b) (w:Fw A A' β β' n n' lo) (hin:∀x cells e st ok,A'.heap.get x=some (.row cells e c st ok)↔A.heap.get x=some (.row cells e c st ok)) (hz:A'.fz.get c=A.fz.get c):RB A' β' n' c b where
 cur:=by
  obtain⟨x,cells,st,h1,h2⟩:=h.cur;exact⟨x,cells,st,(hin _ _ _ _ _).2 h1,h2⟩
 all:=fun x cells e st ok hg=>by
  obtain⟨h1,h2,h3⟩:=h.all x cells e st ok ((hin _ _ _ _ _).1 hg);exact⟨h1,h2,fun hl=>⟨(h3 hl).1,(h3 hl).2.mono w⟩⟩
 uni:=fun x y cells e st ok cells' e' st' ok' h1 h2=>h.uni x y cells e st ok cells' e' st' ok' ((hin _ _ _ _ _).1 h1) ((hin _ _ _ _ _).1 h2)
 low:=h.low
 fz:=hz.trans h.fz
 lt:=Nat.lt_of_lt_of_le h.lt w.next
 z:=fun x cells e st ok hg=>h.z x cells e st ok ((hin _ _ _ _ _).1 hg)
theorem RS.same {A A':AS}{β:Nat→Nat}{s:PS} (h:RS A β s) (h1:A'.heap=A.heap) (h2:A'.next=A.next) (h3:A'.w=A.w) (h4:A'.fz=A.fz):RS A' β s:=
 ⟨fun k hk=>(h.blk k hk).mono (.heap (lo:=0) β s.n h1 h2 h3) (fun x cells e st ok=>by rw [h1]) (by rw [h4]),h.inj⟩
section
variable {P:Program}{A A':AS}{β:Nat→Nat}{n nt:Nat}{f:Fr}{p:aR}{s:PS}
theorem bJ (h:RF A β n nt f p) {x:Operand} (hx:fi x=true):∃v,f.eval x=some v∧R1 A β n v (cg p x):=by
 cases x with
 | tmp t=>
  refine⟨(f.tmps.get t).getD undef,?_,h.tmp t⟩;show JZ (f.tmps.get t)=_;cases f.tmps.get t<;>rfl
 | const v=>
  have hc:∀v,plain 50 v=true→f.eval (.const v)=some v:=fun v hv=>by
   show nj v=some v;unfold nj;rw [hv]
  cases v with
  | agg cs=>
   have hx':(plain 50 (.agg cs) && cs.toList.all MQ)=true:=hx;rw [Bool.and_eq_true] at hx';exact⟨_,hc _ hx'.1,.cl _ _ (.agg _ _ (nk _ hx'.2))⟩
  | func fn a b=>
   cases fn with
   | func g=>
    have hx':(a.toList.isEmpty && b.toList.isEmpty)=true:=hx;have hp:plain 50 (.func (.func g) a b)=true:=hx;rw [Bool.and_eq_true] at hx';have ha:a = #[]:=by have:=hx'.1; cases a; simp at this; subst this; rfl
    have hb:b = #[]:=by have:=hx'.2; cases b; simp at this; subst this; rfl
    subst ha; subst hb;exact⟨_,hc _ hp,.cl _ _ (.fn g)⟩
   | _=>exact absurd hx (by intro hh; cases hh)
  | _=>exact⟨_,hc _ hx,.cl _ _ (.sc _ hx)⟩
 | func g=>exact⟨_,rfl,.cl _ _ (.fn g)⟩
 | global g=>cases hx
theorem sI (h:RF A β n nt f p) {x:Operand} (hx:fi x=true):∃v,evalG P f x=some v∧R1 A β n v (cg p x):=by
 obtain⟨v,h1,h2⟩:=bJ h hx;refine⟨v,?_,h2⟩;cases x with
 | global g=>cases hx
 | _=>exact h1
theorem RF.set (h:RF A β n nt f p) {d:Option Nat} (hd:J1 nt d=true) {v:Value}{q:PV} (hv:R1 A β n v q):∃f',f.put d v=some f'∧RF A β n nt f' (AD p d q):=by
 cases d with
 | none=>exact⟨f,rfl,h⟩
 | some d=>
  obtain⟨tm,m,ds⟩:=f;have hn:m=nt:=h.num;have hd':Nat.ble (Nat.succ d) nt=true:=hd;refine⟨⟨Tr.set v 40 tm d,m,ds⟩,?_,h.num,h.few,h.df,fun j=>?_⟩
  ·show (Bool.rec none (dO (Tr.set v 40 tm d) fun t=>some (⟨t,m,ds⟩ : Fr)) (Nat.ble (Nat.succ d) m):Option Fr)=_;rw [hn,hd',dh]
  ·show R1 A β n (((Tr.set v 40 tm d).get j).getD undef) (if j=d then q else p j);rw [Tr.get_set _ _ _ _ trivial];by_cases hj:j=d
   ·rw [if_pos hj,if_pos hj]; exact hv
   ·rw [if_neg hj,if_neg hj]; exact h.tmp j
theorem R1.sc {v:Value}{u:Value} (h:R1 A β n v (.sc u)):v=u∧MQ u=true:=by
 cases h with
 | cl _ _ h=>cases h with | sc _ h=>exact⟨rfl,h⟩
theorem R1.lit {v:Value}{e m:Nat}{cs:List PV} (h:R1 A β n v (.lit e m cs)):C1 A β n v (.lit e m cs):=by
 cases h with
 | cl _ _ h=>exact h
theorem R1.litp {v:Value}{cs:List PV} (h:R1 A β n v (.litp cs)):C1 A β n v (.litp cs):=by
 cases h with
 | cl _ _ h=>exact h
theorem R1.litx {v:Value}{e m:Nat}{cs:List PV} (h:R1 A β n v (.litx e m cs)):C1 A β n v (.litx e m cs):=by
 cases h with
 | cl _ _ h=>exact h
theorem CL {b off m:Nat}{cells:List Value}{e c st:Nat} (hg:A.heap.get b=some (.row cells e c st true)) (hl:off + m≤cells.length):ld A b off m=some ((cells.drop off).take m,cE A c):=by
 unfold ld;rw [hg];show MY A cells off m c=_;unfold MY;rw [cA];have:((cells.drop off).take m).length=m:=by rw [List.length_take,List.length_drop]; omega
 rw [this,Nat.beq_refl]
theorem K3 (hs:RS A β s) {v:Value}{q:PV} (hv:R1 A β s.n v q) {sz:Nat}{cs:List PV} (h:BU s q sz=some cs) :
  ∃b o xs c,v=.pointer (some ⟨b,o,none⟩)∧ld A b o sz=some (xs,cE A c)∧Rs A β s.n xs cs∧cs.length=sz∧((∃k∈(eE q).rd,k < s.n∧β k=c)∨((eE q).li=true∧jA A β s.n c)):=by
 cases q with
 | ptr k off fin=>
  simp only [BU] at h;split at h
  ·rename_i hc;injection h with h; subst h;cases hv with
   | cl _ _ h=>cases h
   | ptr b o _ _ _ e cells st ok hk hg ho hf=>
    obtain⟨h1,h2,h3⟩:=(hs.blk k hk).all _ _ _ _ _ hg;obtain⟨rfl,h4⟩:=h3 (by omega);refine⟨b,o,_,β k,rfl,CL hg (by omega),?_,by rw [List.length_take,List.length_drop]; omega,.inl ⟨k,by simp [eE],hk,rfl⟩⟩;have:=(h4.drop o).take sz;rw [List.drop_take,List.take_take,List.drop_drop,ho] at this;rwa [Nat.min_eq_left (by omega)] at this
  ·cases h
 | litp cs'=>
  simp only [BU] at h;split at h
  ·rename_i hc;injection h with h; subst h;have hv:=hv.litp;cases hv with
   | litp b off e _ cells c st hg hp hl hh=>
    refine⟨b,off,_,c,rfl,CL hg (by omega),?_,by rw [List.length_take]; omega,.inr ⟨rfl,hp⟩⟩;have:=(Cs.up hh).take sz;rwa [List.take_take,Nat.min_eq_left (by omega)] at this
  ·cases h
 | _=>simp [BU] at h
theorem xh {t:Nat}{d:TypeDesc}{ag:Bool}{sz b o c:Nat}{xs:List Value}{cs:List PV}{q:PV} (hd:jl (some d)=ag) (hsz:if ag then dM P t=some sz else sz=1) (hl:ld A b o sz=some (xs,cE A c)) (hx:Rs A β n xs cs) (hq:cR ag cs=some q) :
  ∃v,mn P t d b o A=some (.val v,cE A c)∧R1 A β n v q:=by
 unfold mn;cases ag with
 | true=>
  rw [if_pos rfl] at hsz;rw [hd,hsz];simp only [cR,if_true] at hq;injection hq with hq; subst hq;refine⟨.agg xs.toArray,?_,.agg _ _ (by simpa using hx)⟩;show uu (ld A b o sz)=_;rw [hl]; rfl
 | false=>
  have:sz=1:=by simpa using hsz
  subst this;rw [hd];show ∃v,uC (ld A b o 1)=_∧_;simp only [cR] at hq;rw [if_neg (by simp)] at hq;split at hq
  ·injection hq with hq; subst hq;cases hx with
   | cons v _ l _ h hn=>
    cases hn;rw [hl];exact⟨v,rfl,h⟩
  ·cases hq
end
structure BS (A A':AS) (β β':Nat→Nat) (n n':Nat) (E:jc):Prop where
 r:∀c,A'.r.testBit c=true→A.r.testBit c=true∨(∃k∈E.rd,k < n∧β k=c)∨(E.li=true∧jA A β n c)∨(A.next≤c∧c < A'.next)∨(E.ca=true∧c < A'.next)
 w:∀c,A'.w.testBit c=true→A.w.testBit c=true∨(∃k∈E.wr,k < n∧β k=c)∨(A.next≤c∧c < A'.next)
 new:E.ca=false→∀c,A.next≤c→c < A'.next→(A'.r.testBit c=true→A.r.testBit c=true∨∃k,n≤k∧k < n'∧β' k=c)∧(A'.w.testBit c=true→A.w.testBit c=true∨∃k,n≤k∧k < n'∧β' k=c)
theorem BS.same (A:AS) (β:Nat→Nat) (n:Nat) (E:jc):BS A A β β n n E:=⟨fun _ h=>.inl h,fun _ h=>.inl h,fun _ _ h1 h2=>by omega⟩
theorem BS.read {A:AS}{β:Nat→Nat}{n c:Nat}{E:jc} (hi:c < A.next) (h:(∃k∈E.rd,k < n∧β k=c)∨(E.li=true∧jA A β n c)):BS A (cE A c) β β n n E:=by
 rw [aH];refine⟨fun x hx=>?_,fun _ h=>.inl h,fun _ x h1 h2=>by simp only at h2; omega⟩;rcases iF hx with hx | rfl
 ·exact .inl hx
 ·exact .inr (h.imp id .inl)
def gx (P:Program) (A:AS) (β:Nat→Nat) (s:PS) (f:Fr) (o:Oper) (q:PV) (s':PS) (E:jc):Prop:=
 ∃u A' β',dp P f A o (.val u) A'∧Fw A A' β β' s.n s'.n s'.w∧RS A' β' s'∧R1 A' β' s'.n u q∧BS A A' β β' s.n s'.n E
theorem bH {b:Bool}{o q:lc} (h:gd b o=some q):b=true∧o=q:=by
 cases b
 ·cases h
 ·exact⟨rfl,by injection h⟩
section
variable {P:Program}{A:AS}{β:Nat→Nat}{nt:Nat}{f:Fr}{p:aR}{s s':PS}{o:Oper}{q:PV}{E:jc}
theorem cF (hO:cQ P) (hi:cT A) (hs:RS A β s) {u:Value} (h:bQ P f o A=some (.val u,A)) (hq:R1 A β s.n u q):gx P A β s f o q s E:=
 ⟨u,A,β,hO f o A _ _ hi (Nat.le_refl _) h,.refl A β s.n _,hs,hq,.same A β s.n E⟩
theorem nJ (hO:cQ P) (hi:cT A) (hs:RS A β s) {u:Value}{c:Nat} (h:bQ P f o A=some (.val u,cE A c)) (hq:R1 A β s.n u q) (hc:c < A.next) (he:(∃k∈E.rd,k < s.n∧β k=c)∨(E.li=true∧jA A β s.n c)):gx P A β s f o q s E:=by
 have hw:Fw A (cE A c) β β s.n s.n s.w:=by rw [aH]; exact .heap β s.n rfl rfl rfl
 refine⟨u,cE A c,β,hO f o A _ _ hi (Nat.le_refl _) h,hw,?_,hq.mono hw,.read hc he⟩;rw [aH]; exact hs.same rfl rfl rfl rfl
theorem jQ (A:AS) (cells:List Value) (e x:Nat):(EvL.newRow A cells e).heap.get x=if x=A.next then some (.row cells e A.next 0 true) else A.heap.get x:=by
 rw [fC,jL];exact Tr.get_set _ _ _ _ trivial
theorem vo (hi:cT A) (β:Nat→Nat) (n:Nat) (cells:List Value) (e lo:Nat):Fw A (EvL.newRow A cells e) β (fun k=>if k=n then A.next else β k) n (n + 1) lo where
 le:=by omega
 next:=by rw [bz]; omega
 eq:=fun k hk=>if_neg (by omega)
 new:=fun k h1 h2=>by rw [if_pos (by omega)]; exact Nat.le_refl _
 prot:=fun b cells' e' c st hb _=>by
  rw [jQ,if_neg (by rintro rfl; have:=(hi.lt _ _ hb).1; omega)]; exact hb
 keep:=fun b cells' e' st ok k _ hb=>⟨cells',ok,by rw [jQ,if_neg (by rintro rfl; have:=(hi.lt _ _ hb).1; omega)]; exact hb,rfl⟩
 w:=fun c hc hw=>by
  rw [fC,jL] at hw;rcases iF hw with h | h
  ·exact .inl h
  ·omega
theorem tX (β:Nat→Nat) (n:Nat) (cells:List Value) (e:Nat) (E:jc):BS A (EvL.newRow A cells e) β (fun k=>if k=n then A.next else β k) n (n + 1) E:=by
 rw [fC,jL];refine⟨fun _ h=>.inl h,fun c hc=>?_,fun _ c h1 h2=>⟨fun h=>.inl h,fun hc=>?_⟩⟩
 ·rcases iF hc with h | h
  ·exact .inl h
  ·exact .inr (.inr ⟨by omega,by simp only; omega⟩)
 ·rcases iF hc with h | h
  ·exact .inl h
  ·exact .inr ⟨n,by omega,by omega,by rw [if_pos rfl]; exact h⟩
theorem zI (hi:cT A) (hs:RS A β s) {cells:List Value}{cs:List PV} (e:Nat) (h:Rs A β s.n cells cs):RS (EvL.newRow A cells e) (fun k=>if k=s.n then A.next else β k) (s.new ⟨cs,0,e⟩):=by
 have hw:=vo hi β s.n cells e s.w;have hold:∀b o',A.heap.get b=some o'→b≠A.next:=fun b o' hb=>by have:=(hi.lt _ _ hb).1; omega
 constructor
 ·intro k hk;have hk':k < s.n + 1:=hk;by_cases he:k=s.n
  ·subst he;show RB _ _ (s.n + 1) (if s.n=s.n then A.next else β s.n) (if s.n=s.n then _ else _);rw [if_pos rfl,if_pos rfl];have hrow:∀x cells' e' st ok,(EvL.newRow A cells e).heap.get x=some (.row cells' e' A.next st ok)→x=A.next∧cells'=cells∧e'=e∧st=0∧ok=true:=fun x cells' e' st ok hg=>by
    rw [jQ] at hg;split at hg
    ·rename_i hx; injection hg with hg; injection hg with h1 h2 h3 h4 h5; exact⟨hx,h1.symm,h2.symm,h4.symm,h5.symm⟩
    ·have:=(hi.lt _ _ hg).2; simp only [dE] at this; omega
   refine⟨⟨A.next,cells,0,by rw [jQ,if_pos rfl],by simp [h.len]⟩,fun x cells' e' st ok hg=>?_,fun x y cells' e' st ok cells2 e2 st2 ok2 h1 h2 _ _=>?_,Nat.zero_le _,?_,by rw [bz]; omega,fun x cells' e' st ok hg=>(hrow _ _ _ _ _ hg).2.2.2.1⟩
   ·obtain⟨_,rfl,rfl,rfl,rfl⟩:=hrow _ _ _ _ _ hg;refine⟨rfl,by simp [h.len],fun _=>⟨rfl,?_⟩⟩;rw [List.drop_zero,h.len,List.take_length];exact h.mono hw
   ·rw [(hrow _ _ _ _ _ h1).1,(hrow _ _ _ _ _ h2).1]
   ·rw [fC,jL];show A.fz.get A.next=none;cases hz:A.fz.get A.next with
    | none=>rfl
    | some k=>have:=hi.fz _ _ hz; omega
  ·have hkn:k < s.n:=by omega
   show RB _ _ (s.n + 1) (if k=s.n then A.next else β k) (if k=s.n then _ else s.h k);rw [if_neg he,if_neg he];have hb:=hs.blk k hkn;refine hb.mono hw (fun x cells' e' st ok=>?_) (by rw [fC,jL]);rw [jQ];split
   ·rename_i hx;constructor
    ·intro hh; injection hh with hh; injection hh with _ _ h3; have:=hb.lt; omega
    ·intro hh; exact absurd hx (hold _ _ hh)
   ·exact Iff.rfl
 ·intro j k hj hk he;have hj':j < s.n + 1:=hj;have hk':k < s.n + 1:=hk;have he':(if j=s.n then A.next else β j)=if k=s.n then A.next else β k:=he;split at he'<;>split at he'
  ·omega
  ·have:=(hs.blk k (by omega)).lt; omega
  ·have:=(hs.blk j (by omega)).lt; omega
  ·exact hs.inj j k (by omega) (by omega) he'
theorem EW (hO:cQ P) (hi:cT A) (hs:RS A β s) {cells:List Value}{cs:List PV}{e:Nat} (h:bQ P f o A=some (.val (.pointer (some ⟨A.next,0,none⟩)),EvL.newRow A cells e)) (hc:Rs A β s.n cells cs) :
  gx P A β s f o (.ptr s.n 0 cs.length) (s.new ⟨cs,0,e⟩) E:=by
 refine⟨_,_,_,hO f o A _ _ hi (Nat.le_refl _) h,vo hi β s.n cells e _,zI hi hs e hc,?_,tX β s.n cells e E⟩;refine .ptr A.next 0 s.n 0 cs.length e cells 0 true (by show s.n < s.n + 1; omega) ?_ rfl (by simp [hc.len]);rw [jQ,if_pos rfl,if_pos rfl]
theorem EE (hO:cQ P) (hi:cT A) (hs:RS A β s) {cells:List Value}{cs:List PV}{e m:Nat} (h:bQ P f o A=some (.val (.slice (some ⟨A.next,0,none⟩) m m),EvL.newRow A cells e)) (hc:Rs A β s.n cells cs) :
  gx P A β s f o (.own s.n 0 m cs.length) (s.new ⟨cs,0,e⟩) E:=by
 refine⟨_,_,_,hO f o A _ _ hi (Nat.le_refl _) h,vo hi β s.n cells e _,zI hi hs e hc,?_,tX β s.n cells e E⟩;refine .own A.next 0 s.n 0 m cs.length m e cells 0 true (by show s.n < s.n + 1; omega) ?_ rfl (by simp [hc.len]) (Nat.le_refl _);rw [jQ,if_pos rfl,if_pos rfl]
end
section
variable {P:Program}{A:AS}{β:Nat→Nat}{nt:Nat}{f:Fr}{p:aR}{s s':PS}{q:PV}{E:jc}{d:Option Tmp}{ty:TypeId}{pos:String}{af:Array Edge}{gu:Option (Nat × Bool)}
theorem Uf (hO:cQ P) (hi:cT A) (hs:RS A β s) (hf:RF A β s.n nt f p) {x:Operand} (hx:fi x=true):gx P A β s f ⟨d,.move x,ty,pos,af,gu⟩ (cg p x) s E:=by
 obtain⟨v,h1,h2⟩:=bJ hf hx;exact cF hO hi hs (by show ou A (f.eval x)=_; rw [h1]; rfl) h2
theorem Sy (hO:cQ P) (hi:cT A) (hs:RS A β s) (hf:RF A β s.n nt f p) {x:Operand} (hx:fi x=true):gx P A β s f ⟨d,.assign x,ty,pos,af,gu⟩ (cg p x) s E:=by
 obtain⟨v,h1,h2⟩:=bJ hf hx;exact cF hO hi hs (by show ou A (f.eval x)=_; rw [h1]; rfl) h2
theorem pd {v:Value}{x:PV}{b:Bool} (h:R1 A β s.n v x) (hb:jM x=some b):v=.bool b:=by
 cases x with
 | sc u=>
  obtain⟨rfl,_⟩:=h.sc;cases v with
  | bool c=>simp only [jM] at hb; injection hb with hb; rw [hb]
  | _=>simp [jM] at hb
 | _=>simp [jM] at hb
theorem Nt (hO:cQ P) (hi:cT A) (hs:RS A β s) (hf:RF A β s.n nt f p) {c x y:Operand} (hc:fi c=true) (hx:fi x=true) (hy:fi y=true) (h:bM P p s (.pick c x y)=some (q,s')):gx P A β s f ⟨d,.pick c x y,ty,pos,af,gu⟩ q s' E:=by
 obtain⟨vc,c1,c2⟩:=bJ hf hc;obtain⟨vx,x1,x2⟩:=bJ hf hx;obtain⟨vy,y1,y2⟩:=bJ hf hy;simp only [bM] at h;split at h
 ·rename_i hb;have:=pd c2 hb;subst this;injection h with h; injection h with h1 h2; subst h1; subst h2;exact cF hO hi hs (by show ux f (f.eval c) x y A=_; rw [c1]; show ou A (f.eval x)=_; rw [x1]; rfl) x2
 ·rename_i hb;have:=pd c2 hb;subst this;injection h with h; injection h with h1 h2; subst h1; subst h2;exact cF hO hi hs (by show ux f (f.eval c) x y A=_; rw [c1]; show ou A (f.eval y)=_; rw [y1]; rfl) y2
 ·cases h
theorem Pb (hO:cQ P) (hi:cT A) (hs:RS A β s) (hf:RF A β s.n nt f p) {e:Nat}{x:Operand} (hx:fi x=true) :
  gx P A β s f ⟨d,.box e x,ty,pos,af,gu⟩ (.ptr s.n 0 (az (cg p x)).length) (s.new ⟨az (cg p x),0,e⟩) E:=by
 obtain⟨v,h1,h2⟩:=bJ hf hx;exact EW hO hi hs (by show tM A e (f.eval x)=_; rw [h1]; rfl) h2.cells
end
theorem Ow (off:Nat):∀(vs:List Value) (k:Nat) (cs:Array Value),off + k + vs.length≤cs.size→
  ((vs.zipIdx k).foldl (fun cs (x:Value × Nat)=>cs.setIfInBounds (off + x.2) x.1) cs).toList=cs.toList.take (off + k) ++ (vs ++ cs.toList.drop (off + k + vs.length)):=by
 intro vs
 induction vs with
 | nil=>intro k cs _; simp
 | cons v vs ih=>
  intro k cs h;simp only [List.length_cons] at h;simp only [List.zipIdx_cons,List.foldl_cons];rw [ih (k + 1) _ (by rw [Array.size_setIfInBounds]; omega),Array.toList_setIfInBounds];have hlt:off + k < cs.toList.length:=by rw [Array.length_toList]; omega
  rw [List.set_eq_take_append_cons_drop,if_pos hlt];have h1:(cs.toList.take (off + k)).length=off + k:=by rw [List.length_take]; omega
  rw [show off + (k + 1)=(off + k) + 1 by omega,List.take_append,h1,List.take_of_length_le (by rw [h1]; omega),show off + k + 1 - (off + k)=1 by omega,List.take_succ_cons,List.take_zero];rw [List.drop_append,h1,List.drop_of_length_le (by rw [h1]; omega),show off + k + 1 + vs.length - (off + k)=vs.length + 1 by omega,List.drop_succ_cons,List.drop_drop];simp only [List.nil_append,List.length_cons,List.append_assoc,List.cons_append];rw [show off + k + 1 + vs.length=off + k + (vs.length + 1) by omega]
section
variable {P:Program}{A:AS}{β:Nat→Nat}{nt:Nat}{f:Fr}{p:aR}{s s':PS}{q:PV}{E:jc}{d:Option Tmp}{ty:TypeId}{pos:String}{af:Array Edge}{gu:Option (Nat × Bool)}
theorem RA {n:Nat}{z:Value} (h:KA z=true):Rs A β n z.cells.toList (az (bY z)):=by
 cases z with
 | agg cs=>exact Cs.up (nk _ h)
 | func fn a b=>cases h
 | _=>exact .cons _ _ _ _ (.cl _ _ (.sc _ h)) .nil
theorem y9 {n:Nat}{z:Value} (h:KA z=true):Rs A β n z.cells.toList (z.cells.toList.map .sc):=by
 cases z with
 | agg cs=>exact Cs.up (nk _ h)
 | func fn a b=>cases h
 | _=>exact .cons _ _ _ _ (.cl _ _ (.sc _ h)) .nil
theorem HA (hO:cQ P) (hi:cT A) (hs:RS A β s) {e:Nat}{z:Value} (hz:gE P e=some z) (ho:KA z=true) :
  gx P A β s f ⟨d,.alloc e,ty,pos,af,gu⟩ (.ptr s.n 0 (az (bY z)).length) (s.new ⟨az (bY z),0,e⟩) E:=
 EW hO hi hs (by show tM A e (gE P e)=_; rw [hz]; rfl) (RA ho)
theorem Ek {n:Nat} (hf:RF A β n nt f p) {g:Nat→Option (Nat × Nat)} : ∀(ps:List (Nat × Operand)) (l:List (Nat × Nat × Operand)) (zc:Array Value) (zp cs:List PV),Rs A β n zc.toList zp→nS g ps=some l→iJ p zp l=some cs→
  ∃vs out,jT f ps=some vs∧Instr.fill g zc vs=some out∧Rs A β n out.toList cs:=by
 intro ps
 induction ps with
 | nil=>
  intro l zc zp cs hz hp hc;simp only [nS] at hp;injection hp with hp; subst hp;simp only [iJ] at hc;injection hc with hc; subst hc;exact⟨[],zc,rfl,rfl,hz⟩
 | cons y ps ih=>
  intro l zc zp cs hz hp hc;obtain⟨i,x⟩:=y;simp only [nS] at hp;split at hp
  ·rename_i off sz r hg hx hr;injection hp with hp; subst hp;simp only [iJ] at hc;split at hc
   ·rename_i hl;obtain⟨v,h1,h2⟩:=bJ hf hx;have hcl:=h2.cells;have hlen:=hcl.len;have hzl:=hz.len;rw [Array.length_toList] at hlen hzl;have hput:Rs A β n (v.cells.zipIdx.foldl (fun cs (x:Value × Nat)=>cs.setIfInBounds (off + x.2) x.1) zc).toList (zp.take off ++ (az (cg p x) ++ zp.drop (off + sz))):=by
     rw [← Array.foldl_toList,Array.toList_zipIdx];have:=Ow off v.cells.toList 0 zc (by rw [Array.length_toList]; omega);rw [this,Nat.add_zero,Array.length_toList,hlen,hl.1];exact (hz.take off).app (hcl.app (hz.drop _))
    obtain⟨vs,out,e1,e2,e3⟩:=ih r _ _ cs hput hr hc;refine⟨(i,v) :: vs,out,?_,?_,e3⟩
    ·show (match f.eval x with | some v=>(match jT f ps with | some vs=>some ((i,v) :: vs) | none=>none) | none=>none)=_;rw [h1,e1]
    ·simp only [Instr.fill];rw [hg];simp only;rw [if_neg (by simp; omega)];exact e2
   ·cases hc
  ·cases hp
theorem Jt (hO:cQ P) (hi:cT A) (hs:RS A β s) (hf:RF A β s.n nt f p) {t:Nat}{ps:Array (Nat × Operand)}{z:Value}{fs:Array Field}{l:List (Nat × Nat × Operand)}{cs:List PV} (hz:gE P t=some z) (hu:P.underlying t=some (.struct fs))
  (hp:nS (fun i=>(fs[i]?).bind fun fl=>(dM P fl.type).map fun n=>(fl.offset,n)) ps.toList=some l) (hb:Nat.ble (Nat.succ t) P.types.size=true) (ho:KA z=true) (hc:iJ p (z.cells.toList.map .sc) l=some cs) :
  gx P A β s f ⟨d,.build t ps,ty,pos,af,gu⟩ (.agg cs) s E:=by
 obtain⟨vs,out,e1,e2,e3⟩:=Ek hf ps.toList l z.cells _ cs (y9 ho) hp hc;refine cF hO hi hs (u:=.agg out) ?_ (.agg _ _ e3);show mY P f t ps A=_;unfold mY;rw [hz,hu,e1];simp only;rw [hb,e2];rfl
theorem Qv {n:Nat}{l:List Value}{r:List PV} (h:Rs A β n l r):∀k,Rs A β n (List.replicate k l).flatten (List.replicate k r).flatten:=by
 intro k
 induction k with
 | zero=>exact .nil
 | succ k ih=>simp only [List.replicate_succ,List.flatten_cons]; exact h.app ih
theorem FY (hO:cQ P) (hi:cT A) (hs:RS A β s) (hf:RF A β s.n nt f p) {t e len n:Nat}{ps:Array (Nat × Operand)}{z:Value}{l:List (Nat × Nat × Operand)}{cs:List PV} (hu:P.underlying t=some (.slice e)) (hz:gE P e=some z) (hn:dM P e=some n)
  (hp:nS (fun i=>some (i * n,n)) ps.toList=some l) (hb:Nat.ble (Nat.mul len n) 1048576=true) (hzl:Nat.beq z.cells.toList.length n=true) (ho:KA z=true) (hc:iJ p ((List.replicate len z.cells.toList).flatten.map .sc) l=some cs) :
  gx P A β s f ⟨d,.buildSlice t len ps,ty,pos,af,gu⟩ (.own s.n 0 len cs.length) (s.new ⟨cs,0,e⟩) E:=by
 have hzz:Rs A β s.n (List.replicate len z.cells.toList).flatten ((List.replicate len z.cells.toList).flatten.map .sc):=by
  have:=Qv (A:=A) (β:=β) (n:=s.n) (y9 (z:=z) ho) len;rw [List.map_flatten,List.map_replicate];exact this
 obtain⟨vs,out,e1,e2,e3⟩:=Ek hf ps.toList l (List.replicate len z.cells.toList).flatten.toArray _ cs (by simpa using hzz) hp hc;refine EE hO hi hs (cells:=out.toList) ?_ e3;show fH P f t len ps A=_;unfold fH;rw [hu];simp only;rw [hz,hn,e1];simp only;rw [if_pos (by rw [hb,hzl]; rfl),e2];rfl
theorem Es (hO:cQ P) (hi:cT A) (hs:RS A β s) (hf:RF A β s.n nt f p) {t sz:Nat}{ag:Bool}{x:Operand}{dd:TypeDesc} (hx:fi x=true) (hd:P.underlying t=some dd) (hag:jl (some dd)=ag) (hsz:if ag then dM P t=some sz else sz=1)
  (h:bM P p s (.load t ag sz x)=some (q,s')):gx P A β s f ⟨d,.load t x,ty,pos,af,gu⟩ q s' (eE (cg p x)):=by
 obtain⟨v,h1,h2⟩:=sI (P:=P) hf hx;simp only [bM,Option.bind_eq_some_iff,Option.map_eq_some_iff] at h;obtain⟨cs,hcs,v',hv',he⟩:=h;injection he with he1 he2; subst he1; subst he2;obtain⟨b,o,xs,c,rfl,hl,hr,_,hef⟩:=K3 hs h2 hcs;obtain⟨u,k1,k2⟩:=xh hag hsz hl hr hv';refine nJ hO hi hs (u:=u) (c:=c) ?_ k2 (by
  rcases hef with ⟨k,_,hk,rfl⟩ | ⟨_,hp⟩
  ·exact (hs.blk k hk).lt
  ·exact hp.1) hef
 show nC P t (evalG P f x) A=_;rw [h1];show (match P.underlying t with | some d=>mn P t d b o A | none=>none)=_;rw [hd];exact k1
theorem Ii (hO:cQ P) (hi:cT A) (hs:RS A β s) (hf:RF A β s.n nt f p) {t i m:Nat}{x:Operand}{fs:Array Field}{fl:Field} (hx:fi x=true) (hfs:j8 P t=some fs) (hfl:fs[i]?=some fl) (hsz:dM P fl.type=some (m + 1))
  (h:bM P p s (.faddr fl.offset x)=some (q,s')):gx P A β s f ⟨d,.fieldAddr t x i,ty,pos,af,gu⟩ q s' E:=by
 obtain⟨v,h1,h2⟩:=sI (P:=P) hf hx;have key:∀b o,v=.pointer (some ⟨b,o,none⟩)→bQ P f ⟨d,.fieldAddr t x i,ty,pos,af,gu⟩ A=some (.val (.pointer (some ⟨b,o + fl.offset,none⟩)),A):=by
  rintro b o rfl;show iC P t (evalG P f x) i A=_;rw [h1];unfold iC;simp only [hfs,hfl,hsz];rfl
 simp only [bM] at h;split at h
 ·rename_i k off fin hp;injection h with h; injection h with e1 e2; subst e1; subst e2;rw [hp] at h2;cases h2 with
  | cl _ _ h=>cases h
  | ptr b o _ _ _ e cells st ok hk hg ho hf'=>
   exact cF hO hi hs (key b o rfl) (.ptr b (o + fl.offset) k _ fin e cells st ok hk hg (by omega) hf')
 ·rename_i cs hp;split at h
  ·rename_i hle;injection h with h; injection h with e1 e2; subst e1; subst e2;rw [hp] at h2;have h3:=h2.litp;cases h3 with
   | litp b off e _ cells c st hg hpr hl hh=>
    refine cF hO hi hs (key b off rfl) (.cl _ _ (.litp b (off + fl.offset) e _ cells c st hg hpr (by rw [List.length_drop]; omega) ?_));have:=Cs.drop hh fl.offset;rw [List.drop_take,List.drop_drop] at this;rw [List.length_drop];exact this
  ·cases h
 ·cases h
theorem yl {n:Nat}{ag:Bool}{xs:List Value}{cs:List PV}{v:PV} (h:Rs A β n xs cs) (hv:cR ag cs=some v):(ag=true∧R1 A β n (.agg xs.toArray) v)∨(ag=false∧∃u,xs=[u]∧R1 A β n u v):=by
 cases ag with
 | true=>
  simp only [cR,if_true] at hv;injection hv with hv; subst hv;exact .inl ⟨rfl,.agg _ _ (by simpa using h)⟩
 | false=>
  simp only [cR] at hv;rw [if_neg (by simp)] at hv;split at hv
  ·injection hv with hv; subst hv;cases h with
   | cons u _ l _ h hn=>cases hn; exact .inr ⟨rfl,u,rfl,h⟩
  ·cases hv
theorem Kk (hO:cQ P) (hi:cT A) (hs:RS A β s) (hf:RF A β s.n nt f p) {t i sz:Nat}{ag:Bool}{x:Operand}{fs:Array Field}{fl:Field}{dd:TypeDesc} (hx:fi x=true) (hfs:j8 P t=some fs) (hfl:fs[i]?=some fl) (hd:P.underlying fl.type=some dd) (hag:jl (some dd)=ag)
  (hsz:if ag then dM P fl.type=some sz else sz=1) (h:bM P p s (.fld ag fl.offset sz x)=some (q,s')):gx P A β s f ⟨d,.field t x i,ty,pos,af,gu⟩ q s' E:=by
 obtain⟨v,h1,h2⟩:=bJ hf hx;simp only [bM] at h;split at h
 ·rename_i cs hp;rw [hp] at h2;split at h
  ·rename_i hle;simp only [Option.map_eq_some_iff] at h;obtain⟨v',hv',he⟩:=h;injection he with e1 e2; subst e1; subst e2;obtain⟨xs,rfl,hxs⟩ : ∃xs,v=.agg xs∧Rs A β s.n xs.toList cs:=by
    cases h2 with
    | cl _ _ h=>cases h with | agg xs _ h=>exact⟨xs,rfl,Cs.up h⟩
    | agg xs _ h=>exact⟨xs,rfl,h⟩
   have hpart:xi P fl.type xs.toList fl.offset=Bool.rec xs.toList[fl.offset]? ((dM P fl.type).map fun n=>.agg ((xs.toList.drop fl.offset).take n).toArray) ag:=by
    unfold xi; rw [hd]; simp only [hag]
   have hev:∀u,xi P fl.type xs.toList fl.offset=some u→bQ P f ⟨d,.field t x i,ty,pos,af,gu⟩ A=some (.val u,A):=fun u hu=>by
    show q9 P t (f.eval x) i A=_;rw [h1];unfold q9;simp only [hfs,hfl,hu];rfl
   have hrs:=(hxs.drop fl.offset).take sz;rcases yl hrs hv' with ⟨rfl,hr⟩ | ⟨rfl,u,hu,hr⟩
   ·have hsz':dM P fl.type=some sz:=by simpa using hsz
    refine cF hO hi hs (hev _ ?_) hr;rw [hpart,hsz']; rfl
   ·have:sz=1:=by simpa using hsz
    subst this;refine cF hO hi hs (hev u ?_) hr;rw [hpart];show xs.toList[fl.offset]?=some u;rw [← List.head?_drop];cases hdr:xs.toList.drop fl.offset with
    | nil=>rw [hdr] at hu; cases hu
    | cons y l=>rw [hdr] at hu; simp only [List.take_succ_cons,List.take_zero] at hu; injection hu with hu; rw [hu]; rfl
  ·cases h
 ·cases h
theorem mH {n:Nat}{v:Value}{x:PV}{j:Nat} (h:R1 A β n v x) (hj:kH x=some j):jg v=some j∧∃k,v=.int k (j:Int):=by
 cases x with
 | sc u=>
  obtain⟨rfl,_⟩:=h.sc;cases v with
  | int k z=>
   simp only [kH] at hj;split at hj
   ·rename_i hz;injection hj with hj;obtain⟨m,rfl⟩:=Int.eq_ofNat_of_zero_le hz;simp only [Int.toNat_natCast] at hj;subst hj;exact⟨rfl,k,rfl⟩
   ·cases hj
  | _=>simp [kH] at hj
 | _=>simp [kH] at hj
theorem IY (hO:cQ P) (hi:cT A) (hs:RS A β s) (hf:RF A β s.n nt f p) {t e es:Nat}{x y:Operand} (hx:fi x=true) (hy:fi y=true) (hu:P.underlying t=some (.slice e)) (hsz:dM P e=some es)
  (h:bM P p s (.iaddr es x y)=some (q,s')):gx P A β s f ⟨d,.indexAddr t x y,ty,pos,af,gu⟩ q s' E:=by
 obtain⟨v,h1,h2⟩:=sI (P:=P) hf hx;obtain⟨vi,i1,i2⟩:=bJ hf hy;have key:∀b o m cap j,v=.slice (some ⟨b,o,none⟩) m cap→jg vi=some j→j < m→bQ P f ⟨d,.indexAddr t x y,ty,pos,af,gu⟩ A=some (.val (.pointer (some ⟨b,o + j * es,none⟩)),A):=by
  rintro b o m cap j rfl hj hlt;show fL P t (evalG P f x) (f.eval y) A=_;rw [h1,i1];unfold fL;rw [hu];simp only [Option.bind_some,hj];unfold qq;rw [hsz];simp only;rw [Nat.ble_eq_true_of_le (Nat.succ_le_of_lt hlt)];rfl
 have keyX:∀b o m j,v=.slice (some ⟨b,o,some 0⟩) m m→jg vi=some j→j < m→bQ P f ⟨d,.indexAddr t x y,ty,pos,af,gu⟩ A=some (.val (.pointer (some ⟨b,o + j * es,none⟩)),A):=by
  rintro b o m j rfl hj hlt;show fL P t (evalG P f x) (f.eval y) A=_;rw [h1,i1];unfold fL;rw [hu];simp only [Option.bind_some,hj];unfold qq;rw [hsz];simp only;rw [Nat.ble_eq_true_of_le (Nat.succ_le_of_lt hlt)];rfl
 simp only [bM] at h;split at h
 ·rename_i k off m fin j hp hj;split at h
  ·rename_i hc;injection h with h; injection h with e1 e2; subst e1; subst e2;rw [hp] at h2;cases h2 with
   | cl _ _ h=>cases h
   | own b o _ _ _ _ cap e' cells st ok hk hg ho hf' hm=>
    exact cF hO hi hs (key b o m cap j rfl (mH i2 hj).1 hc.1) (.ptr b (o + j * es) k _ fin e' cells st ok hk hg (by omega) hf')
  ·cases h
 ·rename_i e' m cs j hp hj;split at h
  ·rename_i hc;injection h with h; injection h with e1 e2; subst e1; subst e2;rw [hp] at h2;have h3:=h2.lit;cases h3 with
   | lit b off _ cap _ _ cells c st hg hpr hl hm hh=>
    have hle:j * es≤cs.length:=by rw [hc.2]; exact Nat.mul_le_mul_right _ (Nat.le_of_lt hc.1)
    refine cF hO hi hs (key b off m cap j rfl (mH i2 hj).1 hc.1) (.cl _ _ (.litp b (off + j * es) e' _ cells c st hg hpr (by rw [List.length_drop]; omega) ?_));have:=Cs.drop hh (j * es);rw [List.drop_take,List.drop_drop] at this;rw [List.length_drop];exact this
  ·cases h
 ·rename_i e' m cs j hp hj;split at h
  ·rename_i hc;injection h with h; injection h with e1 e2; subst e1; subst e2;rw [hp] at h2;have h3:=h2.litx;cases h3 with
   | litx b off _ _ _ cells c st hg hpr hl hh=>
    have hle:j * es≤cs.length:=by rw [hc.2]; exact Nat.mul_le_mul_right _ (Nat.le_of_lt hc.1)
    refine cF hO hi hs (keyX b off m j rfl (mH i2 hj).1 hc.1) (.cl _ _ (.litp b (off + j * es) e' _ cells c st hg hpr (by rw [List.length_drop]; omega) ?_));have:=Cs.drop hh (j * es);rw [List.drop_take,List.drop_drop] at this;rw [List.length_drop];exact this
  ·cases h
 ·cases h
theorem Og (hO:cQ P) (hi:cT A) (hs:RS A β s) (hf:RF A β s.n nt f p) {t:Nat}{x y:Operand} (hx:fi x=true) (hy:fi y=true) (hu:P.underlying t=some .string)
  (h:bM P p s (.sidx x y)=some (q,s')):gx P A β s f ⟨d,.index t x y,ty,pos,af,gu⟩ q s' E:=by
 obtain⟨v,h1,h2⟩:=bJ hf hx;obtain⟨vi,i1,i2⟩:=bJ hf hy;simp only [bM] at h;split at h
 ·rename_i b j hp hj;split at h
  ·rename_i hc;injection h with h; injection h with e1 e2; subst e1; subst e2;rw [hp] at h2;obtain⟨rfl,_⟩:=h2.sc;refine cF hO hi hs (u:=.int .u8 ((b.data.toList.getD j 0).toNat:Int)) ?_ (.cl _ _ (.sc _ rfl));show qT P f _ t (f.eval x) (f.eval y) A=_;rw [h1,i1];unfold qT;simp only [hu,Option.bind_some,(mH i2 hj).1];rw [List.getElem?_eq_getElem hc];unfold Ew;simp only [ci,List.getD_eq_getElem?_getD,List.getElem?_eq_getElem hc,Option.getD_some];rfl
  ·cases h
 ·cases h
end
end Go.PE
