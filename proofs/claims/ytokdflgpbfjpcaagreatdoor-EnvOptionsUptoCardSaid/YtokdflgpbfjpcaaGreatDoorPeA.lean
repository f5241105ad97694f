/- A run on values, and its soundness. No statement is proved here. -/
import Derived.Test.YtokdflgpbfjpcaaGreatDoorEvE
set_option linter.unusedSimpArgs false
set_option linter.unusedVariables false
set_option linter.defProp false
namespace Go.PE
open Go Go.EvL
inductive PV where
 | sc (v:Value)
 | agg (cs:List PV)
 | tup (vs:List PV)
 | lit (e n:Nat) (cs:List PV)
 | litp (cs:List PV)
 | litx (e n:Nat) (cs:List PV)
 | own (k off n fin:Nat)
 | ptr (k off fin:Nat)
 | fn (g:Nat) (first cap:List PV)
instance:Inhabited PV:=⟨.sc undef⟩
noncomputable def NR (v:Value):Bool:=match v with
 | .agg _=>false
 | v=>plain 50 v
structure Eq where
 cells:List PV
 low:Nat
 e:Nat
structure PS where
 h:Nat→Eq
 n:Nat
 w:Nat
def PS.put (s:PS) (k:Nat) (b:Eq):PS:=⟨fun j=>if j=k then b else s.h j,s.n,min s.w k⟩
def PS.new (s:PS) (b:Eq):PS:=⟨fun j=>if j=s.n then b else s.h j,s.n + 1,s.w⟩
structure jt where
 rd:List Nat
 wr:List Nat
 li:Bool
 ca:Bool
abbrev aX:=Nat→PV
def aX.set (f:aX) (d:Nat) (v:PV):aX:=fun j=>if j=d then v else f j
def BH (f:aX) (d:Option Nat) (v:PV):aX:=match d with
 | some d=>aX.set f d v
 | none=>f
inductive lM where
 | mv (x:Operand)
 | pick (c a b:Operand)
 | alloc (e:Nat) (z:Value)
 | box (e:Nat) (x:Operand)
 | build (z:List Value) (ps:List (Nat × Nat × Operand))
 | bslice (e len:Nat) (z:List Value) (ps:List (Nat × Nat × Operand))
 | load (t:Nat) (ag:Bool) (sz:Nat) (x:Operand)
 | store (t sz:Nat) (x y:Operand)
 | faddr (off:Nat) (x:Operand)
 | fld (ag:Bool) (off sz:Nat) (x:Operand)
 | iaddr (es:Nat) (x i:Operand)
 | sidx (x i:Operand)
 | bin (op:BinOp) (t:Nat) (x y:Operand)
 | un (op:UnOp) (x:Operand)
 | len (str:Bool) (x:Operand)
 | app (e es bytes:Nat) (x y:Operand)
 | slc (e es:Nat) (x:Operand) (lo hi:Option Operand)
 | slc3 (e es:Nat) (x hi mx:Operand)
 | sslc (x:Operand) (lo hi:Option Operand)
 | mkfn (g:Nat) (first cap:List Operand)
 | ext (x:Operand) (i:Nat)
 | conv (k:IntKind) (x:Operand)
 | call (f:Operand) (args:List Operand)
 | mnx (mx:Bool) (x y:Operand)
 | nck (x:Operand)
 | mks (e es bytes:Nat) (z:List Value) (l c:Operand)
 | cpy (es:Nat) (x y:Operand)
structure PI where
 dst:Option Nat
 op:lM
 gd:Option (Nat × Bool)
inductive bj where
 | skip
 | reg (l:List PI)
 | draw (l:List (PI × List Nat × List Nat))
 | seq (a b:bj)
 | cond (c:Operand) (a b:bj)
 | block (id:Nat) (b:bj)
 | loop (b:bj)
 | exit (id:Nat)
 | ret
def cI (v:Value):PV:=match v with
 | .agg cs=>.agg (cs.toList.map .sc)
 | .func (.func g) _ _=>.fn g [] []
 | v=>.sc v
def cB (f:aX) (x:Operand):PV:=match x with
 | .tmp t=>f t
 | .const v=>cI v
 | .func g=>.fn g [] []
 | .global _=>.sc undef
def aC (p:PV):List PV:=match p with
 | .agg cs=>cs
 | p=>[p]
noncomputable def db (p:PV):Bool:=match p with
 | .sc v=>ow v
 | .agg _ | .tup _=>false
 | _=>true
def dj (p:PV):Bool:=match p with
 | .sc _ | .lit .. | .litp .. | .litx ..=>true
 | .fn _ a b=>a.isEmpty && b.isEmpty
 | _=>false
def l8 (p:PV):Option Nat:=match p with
 | .sc (.int _ z)=>if 0≤z then some z.toNat else none
 | _=>none
def xr (s:PS) (p:PV) (sz:Nat):Option (List PV):=match p with
 | .ptr k off fin=>if off + sz≤fin∧(s.h k).low≤fin∧fin≤(s.h k).cells.length then some (((s.h k).cells.drop off).take sz) else none
 | .litp cs=>if sz≤cs.length then some (cs.take sz) else none
 | _=>none
def aW (ag:Bool) (cs:List PV):Option PV:=if ag then some (.agg cs) else match cs with
 | [p]=>some p
 | _=>none
noncomputable def Gb (s:PS) (p:PV) (ys:List PV):Option PS:=match p with
 | .ptr k off fin=>if off + ys.length≤fin∧fin=(s.h k).cells.length∧ys.all db=true then
   some (s.put k ⟨(s.h k).cells.take off ++ (ys ++ (s.h k).cells.drop (off + ys.length)),fin,(s.h k).e⟩) else none
 | _=>none
def iD (v:Value):Bool:=match v with
 | .int _ _ | .string _ | .bool _=>true
 | _=>false
def LO:List PV→Option (List Value)
 | []=>some []
 | .sc v :: l=>if iD v then (LO l).map (v :: ·) else none
 | _=>none
noncomputable def ry (P:Program) (op:BinOp) (t:Nat) (x y:Operand) (a b:Value):Option Value:=
 bH P (do eqGuard op t x y a b; binOp op t a b:Sem Value)
noncomputable def fJ (P:Program) (op:BinOp) (t:Nat) (x y:Operand) (a b:PV):Option PV:=match a,b with
 | .sc v,.sc w=>if iD v && iD w then (match ry P op t x y v w with
  | some u=>if iD u then some (.sc u) else none
  | none=>none) else none
 | .agg cs,.agg ds=>match LO cs,LO ds with
  | some v,some w=>match ry P op t x y (.agg v.toArray) (.agg w.toArray) with
   | some u=>if iD u then some (.sc u) else none
   | none=>none
  | _,_=>none
 | _,_=>none
noncomputable def W5 (P:Program) (op:UnOp) (a:PV):Option PV:=match a with
 | .sc v=>if iD v then (match bH P (Op.unary op v) with
  | some u=>if iD u then some (.sc u) else none
  | none=>none) else none
 | _=>none
def gB (str:Bool) (p:PV):Option PV:=match str,p with
 | false,.sc (.slice none 0 0)=>some (.sc (.int .i64 0))
 | true,.sc (.string s)=>some (.sc (.int .i64 (s.data.toList.length:Int)))
 | false,.lit _ n _=>some (.sc (.int .i64 (n:Int)))
 | false,.litx _ n _=>some (.sc (.int .i64 (n:Int)))
 | false,.own _ _ n _=>some (.sc (.int .i64 (n:Int)))
 | _,_=>none
def iy (s:PS) (es:Nat) (p:PV):Option (List PV × Nat):=match p with
 | .sc (.slice none 0 0)=>some ([],0)
 | .lit _ n cs=>if cs.length=n * es then some (cs,n) else none
 | .own k off n fin=>if off + n * es=fin∧(s.h k).low≤fin∧fin≤(s.h k).cells.length then some (((s.h k).cells.drop off).take (n * es),n) else none
 | _=>none
def C7 (es bytes len n:Nat) (xs:List PV):Prop:=es≠0∧xs.length=n * es∧(len + n) * bytes≤140737488355328∧len + n≤1073741824∧xs.all db=true
noncomputable instance (es bytes len n:Nat) (xs:List PV):Decidable (C7 es bytes len n xs):=by unfold C7; infer_instance
def UU (x:PV):Bool:=match x with
 | .sc (.slice none 0 0) | .lit .. | .own .. | .litx ..=>true
 | _=>false
noncomputable def uk (s:PS) (e es bytes:Nat) (x:PV) (ys:List PV) (n:Nat):Option (PV × PS):=
 if n=0 then (if UU x then some (x,s) else none) else
 match x with
 | .sc (.slice none 0 0)=>if C7 es bytes 0 n ys then some (.own s.n 0 n ys.length,s.new ⟨ys,0,e⟩) else none
 | .own k off m fin=>if C7 es bytes m n ys∧off + m * es=fin∧fin=(s.h k).cells.length∧(s.h k).low≤fin∧off=0∧(s.h k).e=e then
   some (.own k off (m + n) (fin + ys.length),s.put k ⟨(s.h k).cells ++ ys,(s.h k).low,e⟩) else none
 | .litx _ m cs=>if C7 es bytes m n ys∧cs.length=m * es then some (.own s.n 0 (m + n) (cs ++ ys).length,s.new ⟨cs ++ ys,0,e⟩) else none
 | _=>none
def js (f:aX) (x:Option Operand) (d:Nat):Option Nat:=match x with
 | none=>some d
 | some x=>l8 (cB f x)
def J8 (s:PS) (e es:Nat) (p:PV) (l h:Nat):Option PV:=match p with
 | .lit e' n cs=>if l≤h∧h≤n∧cs.length=n * es∧e'=e then some (.lit e (h - l) ((cs.drop (l * es)).take ((h - l) * es))) else none
 | .own k off n fin=>if l≤h∧h≤n∧off + n * es=fin∧(s.h k).low≤fin∧(s.h k).e=e then some (.own k (off + l * es) (h - l) (off + h * es)) else none
 | _=>none
def i6 (p:PV) (l h:Nat):Option PV:=match p with
 | .sc (.string s)=>if l≤h∧h≤s.data.toList.length then some (.sc (.string ⟨⟨(s.data.toList.drop l).take (h - l)⟩⟩)) else none
 | _=>none
def Dx (p:PV):Nat:=match p with
 | .lit _ n _=>n
 | .own _ _ n _=>n
 | .sc (.string s)=>s.data.toList.length
 | _=>0
def fV (f:aX) (z:List PV):List (Nat × Nat × Operand)→Option (List PV)
 | []=>some z
 | (off,sz,x) :: l=>if (aC (cB f x)).length=sz∧off + sz≤z.length then fV f (z.take off ++ (aC (cB f x) ++ z.drop (off + sz))) l else none
def Kk (k:IntKind) (p:PV):Option PV:=match p with
 | .sc (.int _ z)=>some (.sc (.int k (k.wrap z)))
 | _=>none
def jY (p:PV):Option Bool:=match p with
 | .sc (.bool b)=>some b
 | _=>none
def K8 (mx:Bool) (a b:Int):Int:=if mx then (if b > a then b else a) else (if b < a then b else a)
def tL (z:List Value) (es n:Nat):List PV:=(List.range (n * es)).map fun k=>.sc (z.getD (k % es) undef)
noncomputable def cg (P:Program) (f:aX) (s:PS) (o:lM):Option (PV × PS):=match o with
 | .mv x=>some (cB f x,s)
 | .pick c a b=>match jY (cB f c) with
  | some true=>some (cB f a,s)
  | some false=>some (cB f b,s)
  | none=>none
 | .alloc e z=>some (.ptr s.n 0 (aC (cI z)).length,s.new ⟨aC (cI z),0,e⟩)
 | .box e x=>some (.ptr s.n 0 (aC (cB f x)).length,s.new ⟨aC (cB f x),0,e⟩)
 | .build z ps=>(fV f (z.map .sc) ps).map fun cs=>(.agg cs,s)
 | .bslice e n z ps=>(fV f (z.map .sc) ps).map fun cs=>(.own s.n 0 n cs.length,s.new ⟨cs,0,e⟩)
 | .load _ ag sz x=>(xr s (cB f x) sz).bind fun cs=>(aW ag cs).map fun v=>(v,s)
 | .store _ sz x y=>if (aC (cB f y)).length=sz then (Gb s (cB f x) (aC (cB f y))).map fun s=>(.sc undef,s) else none
 | .faddr off x=>match cB f x with
  | .ptr k o fin=>some (.ptr k (o + off) fin,s)
  | .litp cs=>if off≤cs.length then some (.litp (cs.drop off),s) else none
  | _=>none
 | .fld ag off sz x=>match cB f x with
  | .agg cs=>if off + sz≤cs.length then (aW ag ((cs.drop off).take sz)).map fun v=>(v,s) else none
  | _=>none
 | .iaddr es x i=>match cB f x,l8 (cB f i) with
  | .own k off n fin,some j=>if j < n∧off + n * es=fin then some (.ptr k (off + j * es) fin,s) else none
  | .lit _ n cs,some j=>if j < n∧cs.length=n * es then some (.litp (cs.drop (j * es)),s) else none
  | .litx _ n cs,some j=>if j < n∧cs.length=n * es then some (.litp (cs.drop (j * es)),s) else none
  | _,_=>none
 | .sidx x i=>match cB f x,l8 (cB f i) with
  | .sc (.string b),some j=>if j < b.data.toList.length then some (.sc (.int .u8 ((b.data.toList.getD j 0).toNat:Int)),s) else none
  | _,_=>none
 | .bin op t x y=>(fJ P op t x y (cB f x) (cB f y)).map fun v=>(v,s)
 | .un op x=>(W5 P op (cB f x)).map fun v=>(v,s)
 | .len str x=>(gB str (cB f x)).map fun v=>(v,s)
 | .app e es bytes x y=>(iy s es (cB f y)).bind fun q=>uk s e es bytes (cB f x) q.1 q.2
 | .slc e es x lo hi=>match js f lo 0,js f hi (Dx (cB f x)) with
  | some l,some h=>(J8 s e es (cB f x) l h).map fun v=>(v,s)
  | _,_=>none
 | .slc3 e es x hi mx=>match cB f x,l8 (cB f hi),l8 (cB f mx) with
  | .lit e' n cs,some h,some m=>if h=m∧h≤n∧cs.length=n * es∧e'=e then some (.litx e h (cs.take (h * es)),s) else none
  | .sc (.slice none 0 0),some 0,some 0=>some (.sc (.slice none 0 0),s)
  | _,_,_=>none
 | .sslc x lo hi=>match js f lo 0,js f hi (Dx (cB f x)) with
  | some l,some h=>(i6 (cB f x) l h).map fun v=>(v,s)
  | _,_=>none
 | .mkfn g a b=>some (.fn g (a.map (cB f)) (b.map (cB f)),s)
 | .ext x i=>match cB f x with
  | .tup vs=>(vs[i]?).map fun v=>(v,s)
  | _=>none
 | .conv k x=>(Kk k (cB f x)).map fun v=>(v,s)
 | .call _ _=>none
 | .mnx mx x y=>match cB f x,cB f y with
  | .sc (.int k a),.sc (.int _ b)=>some (.sc (.int k (K8 mx a b)),s)
  | _,_=>none
 | .nck x=>match cB f x with
  | .ptr k o fin=>some (.ptr k o fin,s)
  | .litp cs=>some (.litp cs,s)
  | _=>none
 | .mks e es by' z l c=>match l8 (cB f l),l8 (cB f c) with
  | some l,some c=>if l=c∧by' * l≤281474976710656∧l≤1073741824 then some (.own s.n 0 l (tL z es l).length,s.new ⟨tL z es l,0,e⟩) else none
  | _,_=>none
 | .cpy es x y=>(iy s es (cB f y)).bind fun q=>match cB f x with
  | .own k off m fin=>if q.2=0 then some (.sc (.int .i64 0),s) else if q.2≤m∧q.1.length=q.2 * es then (Gb s (.ptr k off fin) q.1).map fun s=>(.sc (.int .i64 (q.2:Int)),s) else none
  | .sc (.slice none 0 0)=>if q.2=0 then some (.sc (.int .i64 0),s) else none
  | _=>none
def eS (p:PV):jt:=match p with
 | .ptr k _ _=>⟨[k],[],false,false⟩
 | .own k _ _ _=>⟨[k],[],false,false⟩
 | .litp _=>⟨[],[],true,false⟩
 | .lit ..=>⟨[],[],true,false⟩
 | .litx ..=>⟨[],[],true,false⟩
 | _=>⟨[],[],false,false⟩
def da (f:aX) (o:lM):jt:=match o with
 | .load _ _ _ x=>eS (cB f x)
 | .store _ _ x _=>match cB f x with
  | .ptr k _ _=>⟨[k],[k],false,false⟩
  | _=>⟨[],[],false,false⟩
 | .slc _ _ x _ _=>eS (cB f x)
 | .slc3 _ _ x _ _=>eS (cB f x)
 | .app _ _ _ x y=>match cB f x with
  | .own k _ _ _=>⟨k :: (eS (cB f y)).rd,[k],(eS (cB f y)).li,false⟩
  | .litx ..=>⟨(eS (cB f y)).rd,[],true,false⟩
  | _=>eS (cB f y)
 | .call _ _=>⟨[],[],false,true⟩
 | .cpy _ x y=>match cB f x with
  | .own k _ _ _=>⟨k :: (eS (cB f y)).rd,[k],(eS (cB f y)).li,false⟩
  | _=>eS (cB f y)
 | _=>⟨[],[],false,false⟩
noncomputable def fK (x:Operand):Bool:=match x with
 | .tmp _=>true
 | .const (.agg cs)=>plain 50 (.agg cs) && cs.toList.all NR
 | .const (.func (.func _) a b)=>a.toList.isEmpty && b.toList.isEmpty
 | .const v=>plain 50 v
 | .func _=>true
 | .global _=>false
noncomputable def Ly (z:Value):Bool:=match z with
 | .agg cs=>cs.toList.all NR
 | .func _ _ _=>false
 | v=>NR v
noncomputable def nS (g:Nat→Option (Nat × Nat)):List (Nat × Operand)→Option (List (Nat × Nat × Operand))
 | []=>some []
 | (i,x) :: l=>match g i,fK x,nS g l with
  | some (off,sz),true,some r=>some ((off,sz,x) :: r)
  | _,_,_=>none
noncomputable def yQ (x:Option Operand):Bool:=match x with
 | none=>true
 | some x=>fK x
noncomputable def gd (b:Bool) (o:lM):Option lM:=if b then some o else none
noncomputable def oQ (P:Program) (b:Builtin) (args:List Operand) (tys:List TypeId):Option lM:=match b,args,tys with
 | .len,[x],[t]=>match P.underlying t with
  | some (.slice _)=>gd (fK x) (.len false x)
  | some .string=>gd (fK x) (.len true x)
  | _=>none
 | .append,[x,y],[t,u]=>match P.underlying t,P.underlying u with
  | some (.slice e),some (.slice _)=>match P.info? e with
   | some i=>match i.zero with
    | some z=>gd (fK x && fK y && Nat.beq z.cells.size i.size) (.app e i.size i.bytes x y)
    | none=>none
   | none=>none
  | _,_=>none
 | .max,[x,y],_=>gd (fK x && fK y) (.mnx true x y)
 | .min,[x,y],_=>gd (fK x && fK y) (.mnx false x y)
 | .copy,[x,y],[t,u]=>match P.underlying t,P.underlying u with
  | some (.slice e),some (.slice _)=>match dY P e with
   | some n=>gd (fK x && fK y) (.cpy n x y)
   | none=>none
  | _,_=>none
 | _,_,_=>none
noncomputable def fL (P:Program) (o:Op):Option lM:=match o with
 | .move x=>gd (fK x) (.mv x)
 | .assign x=>gd (fK x) (.mv x)
 | .pick c a b=>gd (fK c && fK a && fK b) (.pick c a b)
 | .alloc e=>match i4 P e with
  | some z=>gd (Ly z) (.alloc e z)
  | none=>none
 | .box e x=>gd (fK x) (.box e x)
 | .build t ps=>match i4 P t,P.underlying t with
  | some z,some (.struct fs)=>match nS (fun i=>(fs[i]?).bind fun fl=>(dY P fl.type).map fun n=>(fl.offset,n)) ps.toList with
   | some l=>gd (Nat.ble (Nat.succ t) P.types.size && Ly z) (.build z.cells.toList l)
   | none=>none
  | _,_=>none
 | .buildSlice t len ps=>match P.underlying t with
  | some (.slice e)=>match i4 P e,dY P e with
   | some z,some n=>match nS (fun i=>some (i * n,n)) ps.toList with
    | some l=>gd (Nat.ble (Nat.mul len n) 1048576 && Nat.beq z.cells.toList.length n && Ly z) (.bslice e len (List.replicate len z.cells.toList).flatten l)
    | none=>none
   | _,_=>none
  | _=>none
 | .load t a=>match P.underlying t with
  | some d=>if jy (some d) then (match dY P t with
   | some n=>gd (fK a) (.load t true n a)
   | none=>none) else gd (fK a) (.load t false 1 a)
  | none=>none
 | .store t a x=>match dY P t with
  | some n=>gd (fK a && fK x) (.store t n a x)
  | none=>none
 | .fieldAddr t x i=>match jh P t with
  | some fs=>match fs[i]? with
   | some fl=>match dY P fl.type with
    | some (_ + 1)=>gd (fK x) (.faddr fl.offset x)
    | _=>none
   | none=>none
  | none=>none
 | .field t x i=>match jh P t with
  | some fs=>match fs[i]? with
   | some fl=>match P.underlying fl.type with
    | some d=>if jy (some d) then (match dY P fl.type with
     | some n=>gd (fK x) (.fld true fl.offset n x)
     | none=>none) else gd (fK x) (.fld false fl.offset 1 x)
    | none=>none
   | none=>none
  | none=>none
 | .indexAddr t x i=>match P.underlying t with
  | some (.slice e)=>match dY P e with
   | some n=>gd (fK x && fK i) (.iaddr n x i)
   | none=>none
  | _=>none
 | .index t x i=>match P.underlying t with
  | some .string=>gd (fK x && fK i) (.sidx x i)
  | _=>none
 | .binOp op t x y _=>gd (fK x && fK y) (.bin op t x y)
 | .unOp op _ x=>gd (fK x) (.un op x)
 | .convert a b x=>match P.underlying a,P.underlying b with
  | some (.int _),some (.int k)=>gd (fK x) (.conv k x)
  | _,_=>none
 | .slice t x lo hi none=>match P.underlying t with
  | some (.slice e)=>match dY P e with
   | some n=>gd (fK x && yQ lo && yQ hi) (.slc e n x lo hi)
   | none=>none
  | some .string=>gd (fK x && yQ lo && yQ hi) (.sslc x lo hi)
  | _=>none
 | .slice t x none (some hi) (some mx)=>match P.underlying t with
  | some (.slice e)=>match dY P e with
   | some n=>gd (fK x && (fK hi && fK mx)) (.slc3 e n x hi mx)
   | none=>none
  | _=>none
 | .nilCheck x=>gd (fK x) (.nck x)
 | .makeSlice t l c=>match P.underlying t with
  | some (.slice e)=>match P.info? e with
   | some i=>match i.zero with
    | some z=>gd (fK l && (fK c && (Ly z && (plain 50 z && Nat.beq z.cells.toList.length i.size)))) (.mks e i.size i.bytes z.cells.toList l c)
    | none=>none
   | none=>none
  | _=>none
 | .makeFunc (.func g) a b=>gd (a.toList.all fK && b.toList.all fK) (.mkfn g a.toList b.toList)
 | .extract t i=>gd (fK t) (.ext t i)
 | .call c=>match c.callee with
  | .value x=>gd (fK x && c.args.toList.all fK) (.call x c.args.toList)
  | .builtin b=>oQ P b c.args.toList c.argTypes.toList
  | .invoke ..=>none
 | _=>none
noncomputable def DK (ops:List Oper) (g:Option (Nat × Bool)):Option (Option (Nat × Bool)):=match g with
 | none=>some none
 | some (j,want)=>match (ops[j]?).bind (·.dst) with
  | some d=>some (some (d,want))
  | none=>none
noncomputable def JF (nt:Nat) (d:Option Nat):Bool:=match d with
 | none=>true
 | some d=>Nat.ble (Nat.succ d) nt
noncomputable def Bt (P:Program) (nt:Nat) (ops:List Oper) (o:Oper):Option PI:=match fL P o.op,DK ops o.guard with
 | some p,some g=>if JF nt o.dst then some ⟨o.dst,p,g⟩ else none
 | _,_=>none
noncomputable def qK (P:Program) (nt:Nat) (ops:List Oper):List Oper→Option (List PI)
 | []=>some []
 | o :: l=>match Bt P nt ops o,qK P nt ops l with
  | some i,some r=>some (i :: r)
  | _,_=>none
noncomputable def vm (ls:List Nat) (d:Option Nat) (p:Nat × List Nat × Option Nat):Bool:=
 p.2.2.toList.all (fun t=>!(ls.contains t) && !(d.toList.contains t)) && d.toList.all (fun t=>!(p.2.1.contains t))
noncomputable def tf (nt:Nat) (ops:Array Oper):List Oper→Nat→Tr Nat→List (Nat × List Nat × Option Nat)→Option (List (List Nat × List Nat))
 | [],_,_,_=>some []
 | o :: l,j,bs,acc=>
  if mn j o.after.toList && (Nat.ble (Nat.succ j) 100000 && (nV (o.looksAt ops) && ((o.looksAt ops).all (fun t=>Nat.ble (Nat.succ t) nt) && (acc.filter fun p=>!((jl bs o.after.toList).testBit p.1)).all (vm (o.looksAt ops) o.dst)))) then
   match tf nt ops l (j + 1) (Tr.set (jl bs o.after.toList) 40 bs j) ((j,o.looksAt ops,o.dst) :: acc) with
   | some r=>some ((o.looksAt ops,(acc.filter fun p=>!((jl bs o.after.toList).testBit p.1)).map (·.1)) :: r)
   | none=>none
  else none
def Hg:List PI→List (List Nat × List Nat)→List (PI × List Nat × List Nat)
 | i :: l,x :: r=>(i,x.1,x.2) :: Hg l r
 | _,_=>[]
noncomputable def comp (P:Program) (nt:Nat):Code→Option bj
 | .skip=>some .skip
 | .region _ ops false=>(qK P nt ops.toList ops.toList).map .reg
 | .region _ ops true=>match qK P nt ops.toList ops.toList,tf nt ops ops.toList 0 .nil [] with
  | some l,some r=>some (.draw (Hg l r))
  | _,_=>none
 | .seq a b=>match comp P nt a,comp P nt b with
  | some a,some b=>some (.seq a b)
  | _,_=>none
 | .cond c a b=>match fK c,comp P nt a,comp P nt b with
  | true,some a,some b=>some (.cond c a b)
  | _,_,_=>none
 | .block id b=>(comp P nt b).map (.block id)
 | .loop b=>(comp P nt b).map .loop
 | .exit id=>some (.exit id)
 | .ret=>some .ret
 | _=>none
inductive LU where
 | tmp (t:Nat)
 | cell (a:Nat) (ag:Bool) (sz:Nat)
noncomputable def uI (P:Program) (r:ResultVar):Option LU:=match r with
 | .tmp t=>some (.tmp t)
 | .cell a t=>match P.underlying t with
  | some d=>if jy (some d) then (match dY P t with
   | some n=>some (.cell a true n)
   | none=>none) else some (.cell a false 1)
  | none=>none
structure gk where
 nt:Nat
 body:bj
 res:List LU
 keep:Bool
noncomputable def tI (P:Program) (fn:Func) (keep:Bool):Option gk:=match fn.body with
 | some c=>match comp P fn.ntmps c,fn.results.toList.mapM (uI P) with
  | some b,some r=>if Nat.ble fn.ntmps 1000000 then some ⟨fn.ntmps,b,r,keep⟩ else none
  | _,_=>none
 | none=>none
inductive yB where
 | normal | exit (id:Nat) | ret
abbrev ar:=Nat→List PV→PS→Option (PV × PS)
def bG (f:aX) (g:Option (Nat × Bool)):Option Bool:=match g with
 | none=>some true
 | some (d,want)=>match f d with
  | .sc (.bool b)=>some (b == want)
  | .sc (.tuple _)=>some false
  | _=>none
def cP (call:ar) (f:aX) (s:PS) (x:Operand) (args:List Operand):Option (PV × PS):=match cB f x with
 | .fn g first cap=>call g (first ++ (args.map (cB f) ++ cap)) s
 | _=>none
noncomputable def bE (P:Program) (call:ar) (f:aX) (s:PS) (o:lM):Option (PV × PS):=match o with
 | .call x args=>cP call f s x args
 | o=>cg P f s o
noncomputable def iw (P:Program) (call:ar) (i:PI) (f:aX) (s:PS):Option (aX × PS):=match bG f i.gd with
 | some true=>(bE P call f s i.op).map fun q=>(BH f i.dst q.1,q.2)
 | some false=>some (BH f i.dst (.sc undef),s)
 | none=>none
noncomputable def r6 (P:Program) (call:ar):List PI→aX→PS→Option (aX × PS)
 | [],f,s=>some (f,s)
 | i :: l,f,s=>(iw P call i f s).bind fun q=>r6 P call l q.1 q.2
def dI (ls:List Nat) (f:aX):aX:=fun t=>if t∈ls then f t else .sc undef
def IS (f:aX) (d:Option Nat) (g:aX):aX:=match d with
 | some d=>aX.set f d (g d)
 | none=>f
def rA (f:aX) (i:PI):jt:=match bG f i.gd with
 | some true=>da f i.op
 | _=>⟨[],[],false,false⟩
def gE (pu:Nat→Bool) (f:aX) (i:PI):Bool:=match i.op with
 | .call x _=>match cB f x with
  | .fn g _ _=>pu g
  | _=>true
 | _=>true
def cd (E:jt) (a b:Nat) (F:jt):Prop:=
 (∀k∈E.wr,k ∉ F.rd∧k ∉ F.wr)∧(∀k∈F.rd,k < a∨b≤k)∧(∀k∈F.wr,k < a∨b≤k)∧¬ (E.ca=true∧F.li=true)∧(∀k∈F.wr,k ∉ E.rd)∧(F.ca=true→E.wr=[]∧a=b∧E.ca=false)∧(E.ca=true→∀k∈F.wr,b≤k)
instance (E:jt) (a b:Nat) (F:jt):Decidable (cd E a b F):=by unfold cd; infer_instance
def cZ (un:List Nat) (F:jt) (acc:List (Nat × jt × Nat × Nat)):Prop:=∀e∈acc,e.1∈un→cd e.2.1 e.2.2.1 e.2.2.2 F
instance (un:List Nat) (F:jt) (acc:List (Nat × jt × Nat × Nat)):Decidable (cZ un F acc):=by unfold cZ; infer_instance
noncomputable def kK (P:Program) (pu:Nat→Bool) (call:ar):List (PI × List Nat × List Nat)→Nat→List (Nat × jt × Nat × Nat)→aX→PS→Option (aX × PS)
 | [],_,_,f,s=>some (f,s)
 | (i,ls,un) :: l,j,acc,f,s=>(iw P call i (dI ls f) s).bind fun q=>
   if gE pu (dI ls f) i=true∧cZ un (rA (dI ls f) i) acc then kK P pu call l (j + 1) ((j,rA (dI ls f) i,s.n,q.2.n) :: acc) (IS f i.dst q.1) q.2 else none
abbrev kY:=Option (yB × aX × PS)
def im (r:kY) (k:aX→PS→kY):kY:=r.bind fun q=>match q.1 with
 | .normal=>k q.2.1 q.2.2
 | x=>some (x,q.2.1,q.2.2)
def jC (id:Nat) (r:kY):kY:=r.map fun q=>match q.1 with
 | .exit i=>if i=id then (.normal,q.2.1,q.2.2) else (.exit i,q.2.1,q.2.2)
 | x=>(x,q.2.1,q.2.2)
def nX (b:Option Bool) (x y:kY):kY:=match b with
 | some true=>x
 | some false=>y
 | none=>none
def nB (body:aX→PS→kY):Nat→aX→PS→kY
 | 0,_,_=>none
 | n + 1,f,s=>im (body f s) (nB body n)
noncomputable def dT (P:Program) (pu:Nat→Bool) (call:ar) (L:Nat):bj→aX→PS→kY
 | .skip,f,s=>some (.normal,f,s)
 | .reg l,f,s=>(r6 P call l f s).map fun q=>(.normal,q.1,q.2)
 | .draw l,f,s=>(kK P pu call l 0 [] f s).map fun q=>(.normal,q.1,q.2)
 | .seq a b,f,s=>im (dT P pu call L a f s) (dT P pu call L b)
 | .cond c a b,f,s=>nX (jY (cB f c)) (dT P pu call L a f s) (dT P pu call L b f s)
 | .block id b,f,s=>jC id (dT P pu call L b f s)
 | .loop b,f,s=>nB (dT P pu call L b) L f s
 | .exit id,f,s=>some (.exit id,f,s)
 | .ret,f,s=>some (.ret,f,s)
def cV (f:aX) (s:PS):List LU→Option (List PV)
 | []=>some []
 | .tmp t :: l=>(cV f s l).map fun vs=>f t :: vs
 | .cell a ag sz :: l=>(xr s (f a) sz).bind fun cs=>(aW ag cs).bind fun v=>(cV f s l).map fun vs=>v :: vs
def bz (vs:List PV):PV:=match vs with
 | [v]=>v
 | vs=>.tup vs
def cM (n:Nat) (s:PS) (p:PV):Option PV:=match p with
 | .own k off m fin=>if k < n then some (.own k off m fin) else
   if (s.h k).low≤fin∧fin≤(s.h k).cells.length∧off≤fin∧(((s.h k).cells.drop off).take (fin - off)).all dj=true then some (.lit (s.h k).e m (((s.h k).cells.drop off).take (fin - off))) else none
 | .ptr k off fin=>if k < n then some (.ptr k off fin) else none
 | .fn g [] []=>some (.fn g [] [])
 | .sc v=>some (.sc v)
 | .lit e m cs=>some (.lit e m cs)
 | .litx e m cs=>some (.litx e m cs)
 | .litp cs=>some (.litp cs)
 | _=>none
def iI (n:Nat) (s:PS):List PV→Option (List PV)
 | []=>some []
 | p :: l=>(cM n s p).bind fun p=>(iI n s l).map fun l=>p :: l
def cT (n:Nat) (s:PS) (p:PV):Option PV:=match p with
 | .agg cs=>(iI n s cs).map .agg
 | p=>cM n s p
def er (n:Nat) (s:PS):List PV→Option (List PV)
 | []=>some []
 | p :: l=>(cT n s p).bind fun p=>(er n s l).map fun l=>p :: l
def frz (n:Nat) (s:PS) (p:PV):Option PV:=match p with
 | .tup vs=>(er n s vs).map .tup
 | p=>cT n s p
noncomputable def b9 (fn:gk) (s:PS) (f:aX) (s':PS):Option (PV × PS):=
 (cV f s' fn.res).bind fun vs=>if fn.keep then some (bz vs,⟨s'.h,s'.n,min s.w s'.w⟩) else if s.n≤s'.w then (frz s.n s' (bz vs)).map fun v=>(v,s) else none
def OF (q:yB × aX × PS) (k:aX→PS→Option (PV × PS)):Option (PV × PS):=match q.1 with
 | .normal=>k q.2.1 q.2.2
 | .ret=>k q.2.1 q.2.2
 | _=>none
def bC:List PV→Nat→aX
 | [],_=>fun _=>.sc undef
 | v :: l,i=>aX.set (bC l (i + 1)) i v
noncomputable def oN (P:Program) (pu:Nat→Bool) (call:ar) (L:Nat) (fn:gk) (args:List PV) (s:PS):Option (PV × PS):=
 if args.length≤fn.nt then (dT P pu call L fn.body (bC args 0) ⟨s.h,s.n,s.n⟩).bind fun q=>OF q (b9 fn s) else none
def ek (Γ:Nat→Option gk) (g:Nat):Bool:=match Γ g with
 | some fn=>!fn.keep
 | none=>true
noncomputable def eb (P:Program) (Γ:Nat→Option gk) (ext:ar):Nat→ar
 | 0=>fun _ _ _=>none
 | n + 1=>fun g args s=>match Γ g with
  | some fn=>oN P (ek Γ) (eb P Γ ext n) n fn args s
  | none=>ext g args s
def jQ (A:AS) (β:Nat→Nat) (n c:Nat):Prop:=c < A.next∧∀k,k < n→β k≠c
inductive RC (A:AS) (β:Nat→Nat) (n:Nat):Value × PV ⊕ List Value × List PV→Prop
 | sc (v:Value) (h:NR v=true):RC A β n (.inl (v,.sc v))
 | fn (g:Nat):RC A β n (.inl (.func (.func g) #[] #[],.fn g [] []))
 | lit (b off m cap e:Nat) (cs:List PV) (cells:List Value) (c st:Nat) (hg:A.heap.get b=some (.row cells e c st true)) (hp:jQ A β n c) (hl:off + cs.length≤cells.length) (hm:m≤cap)
   (h:RC A β n (.inr ((cells.drop off).take cs.length,cs))):RC A β n (.inl (.slice (some ⟨b,off,none⟩) m cap,.lit e m cs))
 | litp (b off e:Nat) (cs:List PV) (cells:List Value) (c st:Nat) (hg:A.heap.get b=some (.row cells e c st true)) (hp:jQ A β n c) (hl:off + cs.length≤cells.length)
   (h:RC A β n (.inr ((cells.drop off).take cs.length,cs))):RC A β n (.inl (.pointer (some ⟨b,off,none⟩),.litp cs))
 | litx (b off m e:Nat) (cs:List PV) (cells:List Value) (c st:Nat) (hg:A.heap.get b=some (.row cells e c st true)) (hp:jQ A β n c) (hl:off + cs.length≤cells.length)
   (h:RC A β n (.inr ((cells.drop off).take cs.length,cs))):RC A β n (.inl (.slice (some ⟨b,off,some 0⟩) m m,.litx e m cs))
 | agg (xs:Array Value) (cs:List PV) (h:RC A β n (.inr (xs.toList,cs))):RC A β n (.inl (.agg xs,.agg cs))
 | nil:RC A β n (.inr ([],[]))
 | cons (v:Value) (p:PV) (l:List Value) (r:List PV) (h:RC A β n (.inl (v,p))) (hs:RC A β n (.inr (l,r))):RC A β n (.inr (v :: l,p :: r))
inductive RV (A:AS) (β:Nat→Nat) (n:Nat):Value × PV ⊕ List Value × List PV→Prop
 | cl (v:Value) (p:PV) (h:RC A β n (.inl (v,p))):RV A β n (.inl (v,p))
 | fn (g:Nat) (xs ys:Array Value) (as bs:List PV) (h:RV A β n (.inr (xs.toList,as))) (h':RV A β n (.inr (ys.toList,bs))):RV A β n (.inl (.func (.func g) xs ys,.fn g as bs))
 | agg (xs:Array Value) (cs:List PV) (h:RV A β n (.inr (xs.toList,cs))):RV A β n (.inl (.agg xs,.agg cs))
 | tup (xs:Array Value) (cs:List PV) (h:RV A β n (.inr (xs.toList,cs))):RV A β n (.inl (.tuple xs,.tup cs))
 | own (b o k off m fin cap e:Nat) (cells:List Value) (st:Nat) (ok:Bool) (hk:k < n) (hg:A.heap.get b=some (.row cells e (β k) st ok)) (ho:st + o=off) (hf:fin≤st + cells.length) (hm:m≤cap) :
   RV A β n (.inl (.slice (some ⟨b,o,none⟩) m cap,.own k off m fin))
 | ptr (b o k off fin e:Nat) (cells:List Value) (st:Nat) (ok:Bool) (hk:k < n) (hg:A.heap.get b=some (.row cells e (β k) st ok)) (ho:st + o=off) (hf:fin≤st + cells.length) :
   RV A β n (.inl (.pointer (some ⟨b,o,none⟩),.ptr k off fin))
 | nil:RV A β n (.inr ([],[]))
 | cons (v:Value) (p:PV) (l:List Value) (r:List PV) (h:RV A β n (.inl (v,p))) (hs:RV A β n (.inr (l,r))):RV A β n (.inr (v :: l,p :: r))
abbrev R1 (A:AS) (β:Nat→Nat) (n:Nat) (v:Value) (p:PV):Prop:=RV A β n (.inl (v,p))
abbrev Rs (A:AS) (β:Nat→Nat) (n:Nat) (l:List Value) (r:List PV):Prop:=RV A β n (.inr (l,r))
abbrev C1 (A:AS) (β:Nat→Nat) (n:Nat) (v:Value) (p:PV):Prop:=RC A β n (.inl (v,p))
abbrev Cs (A:AS) (β:Nat→Nat) (n:Nat) (l:List Value) (r:List PV):Prop:=RC A β n (.inr (l,r))
structure Fw (A A':AS) (β β':Nat→Nat) (n n' lo:Nat):Prop where
 le:n≤n'
 next:A.next≤A'.next
 eq:∀k,k < n→β' k=β k
 new:∀k,n≤k→k < n'→A.next≤β' k
 prot:∀b cells e c st,A.heap.get b=some (.row cells e c st true)→jQ A β n c→A'.heap.get b=some (.row cells e c st true)
 keep:∀b cells e st ok k,k < n→A.heap.get b=some (.row cells e (β k) st ok)→∃cells' ok',A'.heap.get b=some (.row cells' e (β k) st ok')∧cells'.length=cells.length
 w:∀c,c < A.next→A'.w.testBit c=true→A.w.testBit c=true∨∃k,lo≤k∧k < n∧β k=c
theorem Fw.refl (A:AS) (β:Nat→Nat) (n lo:Nat):Fw A A β β n n lo:=
 ⟨Nat.le_refl _,Nat.le_refl _,fun _ _=>rfl,fun _ h h'=>by omega,fun _ _ _ _ _ h _=>h,fun _ cells _ _ ok _ _ h=>⟨cells,ok,h,rfl⟩,fun _ _ h=>.inl h⟩
theorem Fw.heap {A A':AS} (β:Nat→Nat) (n:Nat) {lo:Nat} (h:A'.heap=A.heap) (hn:A'.next=A.next) (hw:A'.w=A.w):Fw A A' β β n n lo:=
 ⟨Nat.le_refl _,by omega,fun _ _=>rfl,fun _ h h'=>by omega,fun _ _ _ _ _ hh _=>by rw [h]; exact hh,fun _ cells _ _ ok _ _ hh=>⟨cells,ok,by rw [h]; exact hh,rfl⟩,fun _ _ hh=>.inl (by rw [← hw]; exact hh)⟩
theorem Fw.protN {A A':AS}{β β':Nat→Nat}{n n' lo c:Nat} (h:Fw A A' β β' n n' lo) (hp:jQ A β n c):jQ A' β' n' c:=
 ⟨Nat.lt_of_lt_of_le hp.1 h.next,fun k hk=>by
  by_cases hkn:k < n
  ·rw [h.eq k hkn]; exact hp.2 k hkn
  ·have:=h.new k (by omega) hk;have:=hp.1;omega⟩
theorem Fw.trans {A B C:AS}{β γ δ:Nat→Nat}{n m l lo lo':Nat} (h:Fw A B β γ n m lo) (k:Fw B C γ δ m l lo') (hlo:lo'≤lo):Fw A C β δ n l lo' where
 le:=Nat.le_trans h.le k.le
 next:=Nat.le_trans h.next k.next
 eq:=fun x hx=>(k.eq x (Nat.lt_of_lt_of_le hx h.le)).trans (h.eq x hx)
 new:=fun x hx hl=>by
  by_cases hm:x < m
  ·rw [k.eq x hm]; exact h.new x hx hm
  ·exact Nat.le_trans h.next (k.new x (by omega) hl)
 prot:=fun b cells e c st hb hp=>k.prot _ _ _ _ _ (h.prot _ _ _ _ _ hb hp) (h.protN hp)
 keep:=fun b cells e st ok x hx hb=>by
  obtain⟨c1,o1,h1,l1⟩:=h.keep b cells e st ok x hx hb;rw [← h.eq x hx] at h1;obtain⟨c2,o2,h2,l2⟩:=k.keep b c1 e st o1 x (Nat.lt_of_lt_of_le hx h.le) h1;rw [h.eq x hx] at h2;exact⟨c2,o2,h2,l2.trans l1⟩
 w:=fun c hc hw=>by
  rcases k.w c (Nat.lt_of_lt_of_le hc h.next) hw with h1 | ⟨x,hxl,hx,he⟩
  ·rcases h.w c hc h1 with h2 | ⟨y,y1,y2,y3⟩
   ·exact .inl h2
   ·exact .inr ⟨y,by omega,y2,y3⟩
  ·by_cases hxn:x < n
   ·exact .inr ⟨x,hxl,hxn,by rw [← h.eq x hxn]; exact he⟩
   ·have:=h.new x (by omega) hx; omega
theorem RC.mono {A A':AS}{β β':Nat→Nat}{n n' lo:Nat} (f:Fw A A' β β' n n' lo) {x:Value × PV ⊕ List Value × List PV} (h:RC A β n x):RC A' β' n' x:=by
 induction h with
 | sc v h=>exact .sc v h
 | fn g=>exact .fn g
 | lit b off m cap e cs cells c st hg hp hl hm _ ih=>exact .lit b off m cap e cs cells c st (f.prot _ _ _ _ _ hg hp) (f.protN hp) hl hm ih
 | litp b off e cs cells c st hg hp hl _ ih=>exact .litp b off e cs cells c st (f.prot _ _ _ _ _ hg hp) (f.protN hp) hl ih
 | litx b off m e cs cells c st hg hp hl _ ih=>exact .litx b off m e cs cells c st (f.prot _ _ _ _ _ hg hp) (f.protN hp) hl ih
 | agg xs cs _ ih=>exact .agg xs cs ih
 | nil=>exact .nil
 | cons v p l r _ _ ih ihs=>exact .cons v p l r ih ihs
theorem RV.mono {A A':AS}{β β':Nat→Nat}{n n' lo:Nat} (f:Fw A A' β β' n n' lo) {x:Value × PV ⊕ List Value × List PV} (h:RV A β n x):RV A' β' n' x:=by
 induction h with
 | cl v p h=>exact .cl v p (h.mono f)
 | fn g xs ys as bs _ _ h h'=>exact .fn g xs ys as bs h h'
 | agg xs cs _ ih=>exact .agg xs cs ih
 | tup xs cs _ ih=>exact .tup xs cs ih
 | own b o k off m fin cap e cells st ok hk hg ho hf hm=>
  obtain⟨c',o',h1,h2⟩:=f.keep b cells e st ok k hk hg;rw [← f.eq k hk] at h1;exact .own b o k off m fin cap e c' st o' (Nat.lt_of_lt_of_le hk f.le) h1 ho (by omega) hm
 | ptr b o k off fin e cells st ok hk hg ho hf=>
  obtain⟨c',o',h1,h2⟩:=f.keep b cells e st ok k hk hg;rw [← f.eq k hk] at h1;exact .ptr b o k off fin e c' st o' (Nat.lt_of_lt_of_le hk f.le) h1 ho (by omega)
 | nil=>exact .nil
 | cons v p l r _ _ ih ihs=>exact .cons v p l r ih ihs
section
variable {A:AS}{β:Nat→Nat}{n:Nat}
theorem Cs.len {l:List Value}{r:List PV} (h:Cs A β n l r):l.length=r.length:=by
 induction r generalizing l with
 | nil=>cases h; rfl
 | cons p r ih=>cases h with | cons v p l r h hs=>simp [ih hs]
theorem Rs.len {l:List Value}{r:List PV} (h:Rs A β n l r):l.length=r.length:=by
 induction r generalizing l with
 | nil=>cases h; rfl
 | cons p r ih=>cases h with | cons v p l r h hs=>simp [ih hs]
theorem Cs.drop {l:List Value}{r:List PV} (h:Cs A β n l r) (k:Nat):Cs A β n (l.drop k) (r.drop k):=by
 induction k generalizing l r with
 | zero=>exact h
 | succ k ih=>
  cases r with
  | nil=>cases h; exact .nil
  | cons p r=>cases h with | cons v p l r h hs=>exact ih hs
theorem Cs.take {l:List Value}{r:List PV} (h:Cs A β n l r) (k:Nat):Cs A β n (l.take k) (r.take k):=by
 induction k generalizing l r with
 | zero=>exact .nil
 | succ k ih=>
  cases r with
  | nil=>cases h; exact .nil
  | cons p r=>cases h with | cons v p l r h hs=>exact .cons _ _ _ _ h (ih hs)
theorem Rs.drop {l:List Value}{r:List PV} (h:Rs A β n l r) (k:Nat):Rs A β n (l.drop k) (r.drop k):=by
 induction k generalizing l r with
 | zero=>exact h
 | succ k ih=>
  cases r with
  | nil=>cases h; exact .nil
  | cons p r=>cases h with | cons v p l r h hs=>exact ih hs
theorem Rs.take {l:List Value}{r:List PV} (h:Rs A β n l r) (k:Nat):Rs A β n (l.take k) (r.take k):=by
 induction k generalizing l r with
 | zero=>exact .nil
 | succ k ih=>
  cases r with
  | nil=>cases h; exact .nil
  | cons p r=>cases h with | cons v p l r h hs=>exact .cons _ _ _ _ h (ih hs)
theorem Rs.app {l l':List Value}{r r':List PV} (h:Rs A β n l r) (h':Rs A β n l' r'):Rs A β n (l ++ l') (r ++ r'):=by
 induction r generalizing l with
 | nil=>cases h; exact h'
 | cons p r ih=>cases h with | cons v p l r h hs=>exact .cons _ _ _ _ h (ih hs)
theorem Cs.up {l:List Value}{r:List PV} (h:Cs A β n l r):Rs A β n l r:=by
 induction r generalizing l with
 | nil=>cases h; exact .nil
 | cons p r ih=>cases h with | cons v p l r h hs=>exact .cons _ _ _ _ (.cl _ _ h) (ih hs)
theorem nU:∀(l:List Value),l.all NR=true→Cs A β n l (l.map .sc):=by
 intro l
 induction l with
 | nil=>intro _; exact .nil
 | cons v l ih=>
  intro h;rw [List.all_cons,Bool.and_eq_true] at h;exact .cons _ _ _ _ (.sc v h.1) (ih h.2)
theorem R1.cells {v:Value}{p:PV} (h:R1 A β n v p):Rs A β n v.cells.toList (aC p):=by
 have one:∀{v:Value}{p:PV},R1 A β n v p→Rs A β n [v] [p]:=fun h=>.cons _ _ _ _ h .nil;cases h with
 | cl v p h=>
  cases h with
  | sc v h=>
   cases v with
   | agg xs=>cases h
   | _=>exact one (.cl _ _ (.sc _ h))
  | fn g=>exact one (.cl _ _ (.fn g))
  | lit b off m cap e cs cells c st hg hp hl hm h=>exact one (.cl _ _ (.lit b off m cap e cs cells c st hg hp hl hm h))
  | litp b off e cs cells c st hg hp hl h=>exact one (.cl _ _ (.litp b off e cs cells c st hg hp hl h))
  | litx b off m e cs cells c st hg hp hl h=>exact one (.cl _ _ (.litx b off m e cs cells c st hg hp hl h))
  | agg xs cs h=>exact Cs.up h
 | fn g xs ys as bs h h'=>exact one (.fn g xs ys as bs h h')
 | agg xs cs h=>exact h
 | tup xs cs h=>exact one (.tup xs cs h)
 | own b o k off m fin cap e cells st ok hk hg ho hf hm=>exact one (.own b o k off m fin cap e cells st ok hk hg ho hf hm)
 | ptr b o k off fin e cells st ok hk hg ho hf=>exact one (.ptr b o k off fin e cells st ok hk hg ho hf)
end
structure RB (A:AS) (β:Nat→Nat) (n c:Nat) (b:Eq):Prop where
 cur:∃x cells st,A.heap.get x=some (.row cells b.e c st true)∧st + cells.length=b.cells.length
 all:∀x cells e st ok,A.heap.get x=some (.row cells e c st ok)→e=b.e∧st + cells.length≤b.cells.length∧(b.low≤st + cells.length→ok=true∧Rs A β n cells ((b.cells.drop st).take cells.length))
 uni:∀x y cells e st ok cells' e' st' ok',A.heap.get x=some (.row cells e c st ok)→A.heap.get y=some (.row cells' e' c st' ok')→st + cells.length=b.cells.length→st' + cells'.length=b.cells.length→x=y
 low:b.low≤b.cells.length
 fz:A.fz.get c=none
 lt:c < A.next
 z:∀x cells e st ok,A.heap.get x=some (.row cells e c st ok)→st=0
structure RS (A:AS) (β:Nat→Nat) (s:PS):Prop where
 blk:∀k,k < s.n→RB A β s.n (β k) (s.h k)
 inj:∀j k,j < s.n→k < s.n→β j=β k→j=k
structure RF (A:AS) (β:Nat→Nat) (n nt:Nat) (f:Fr) (p:aX):Prop where
 num:f.n=nt
 few:nt≤1000000
 df:f.defers=[]
 tmp:∀j,R1 A β n ((f.tmps.get j).getD undef) (p j)
theorem RF.mono {A A':AS}{β β':Nat→Nat}{n n' nt lo:Nat}{f:Fr}{p:aX} (h:RF A β n nt f p) (w:Fw A A' β β' n n' lo):RF A' β' n' nt f p:=
 ⟨h.num,h.few,h.df,fun j=>(h.tmp j).mono w⟩
theorem RB.mono {A A':AS}{β β':Nat→Nat}{n n' c lo:Nat}{b:Eq} (h:RB A β n c b) (w:Fw A A' β β' n n' lo) (hin:∀x cells e st ok,A'.heap.get x=some (.row cells e c st ok)↔A.heap.get x=some (.row cells e c st ok)) (hz:A'.fz.get c=A.fz.get c):RB A' β' n' c b where
 cur:=by
  obtain⟨x,cells,st,h1,h2⟩:=h.cur;exact⟨x,cells,st,(hin _ _ _ _ _).2 h1,h2⟩
 all:=fun x cells e st ok hg=>by
  obtain⟨h1,h2,h3⟩:=h.all x cells e st ok ((hin _ _ _ _ _).1 hg);exact⟨h1,h2,fun hl=>⟨(h3 hl).1,(h3 hl).2.mono w⟩⟩
 uni:=fun x y cells e st ok cells' e' st' ok' h1 h2=>h.uni x y cells e st ok cells' e' st' ok' ((hin _ _ _ _ _).1 h1) ((hin _ _ _ _ _).1 h2)
 low:=h.low
 fz:=hz.trans h.fz
 lt:=Nat.lt_of_lt_of_le h.lt w.next
 z:=fun x cells e st ok hg=>h.z x cells e st ok ((hin _ _ _ _ _).1 hg)
theorem RS.same {A A':AS}{β:Nat→Nat}{s:PS} (h:RS A β s) (h1:A'.heap=A.heap) (h2:A'.next=A.next) (h3:A'.w=A.w) (h4:A'.fz=A.fz):RS A' β s:=
 ⟨fun k hk=>(h.blk k hk).mono (.heap (lo:=0) β s.n h1 h2 h3) (fun x cells e st ok=>by rw [h1]) (by rw [h4]),h.inj⟩
section
variable {P:Program}{A A':AS}{β:Nat→Nat}{n nt:Nat}{f:Fr}{p:aX}{s:PS}
theorem bQ (h:RF A β n nt f p) {x:Operand} (hx:fK x=true):∃v,f.eval x=some v∧R1 A β n v (cB p x):=by
 cases x with
 | tmp t=>
  refine⟨(f.tmps.get t).getD undef,?_,h.tmp t⟩;show IJ (f.tmps.get t)=_;cases f.tmps.get t<;>rfl
 | const v=>
  have hc:∀v,plain 50 v=true→f.eval (.const v)=some v:=fun v hv=>by
   show oW v=some v;unfold oW;rw [hv]
  cases v with
  | agg cs=>
   have hx':(plain 50 (.agg cs) && cs.toList.all NR)=true:=hx;rw [Bool.and_eq_true] at hx';exact⟨_,hc _ hx'.1,.cl _ _ (.agg _ _ (nU _ hx'.2))⟩
  | func fn a b=>
   cases fn with
   | func g=>
    have hx':(a.toList.isEmpty && b.toList.isEmpty)=true:=hx;have hp:plain 50 (.func (.func g) a b)=true:=hx;rw [Bool.and_eq_true] at hx';have ha:a = #[]:=by have:=hx'.1; cases a; simp at this; subst this; rfl
    have hb:b = #[]:=by have:=hx'.2; cases b; simp at this; subst this; rfl
    subst ha; subst hb;exact⟨_,hc _ hp,.cl _ _ (.fn g)⟩
   | _=>exact absurd hx (by intro hh; cases hh)
  | _=>exact⟨_,hc _ hx,.cl _ _ (.sc _ hx)⟩
 | func g=>exact⟨_,rfl,.cl _ _ (.fn g)⟩
 | global g=>cases hx
theorem sQ (h:RF A β n nt f p) {x:Operand} (hx:fK x=true):∃v,evalG P f x=some v∧R1 A β n v (cB p x):=by
 obtain⟨v,h1,h2⟩:=bQ h hx;refine⟨v,?_,h2⟩;cases x with
 | global g=>cases hx
 | _=>exact h1
theorem RF.set (h:RF A β n nt f p) {d:Option Nat} (hd:JF nt d=true) {v:Value}{q:PV} (hv:R1 A β n v q):∃f',f.put d v=some f'∧RF A β n nt f' (BH p d q):=by
 cases d with
 | none=>exact⟨f,rfl,h⟩
 | some d=>
  obtain⟨tm,m,ds⟩:=f;have hn:m=nt:=h.num;have hd':Nat.ble (Nat.succ d) nt=true:=hd;refine⟨⟨Tr.set v 40 tm d,m,ds⟩,?_,h.num,h.few,h.df,fun j=>?_⟩
  ·show (Bool.rec none (dZ (Tr.set v 40 tm d) fun t=>some (⟨t,m,ds⟩ : Fr)) (Nat.ble (Nat.succ d) m):Option Fr)=_;rw [hn,hd',dB]
  ·show R1 A β n (((Tr.set v 40 tm d).get j).getD undef) (if j=d then q else p j);rw [Tr.get_set _ _ _ _ trivial];by_cases hj:j=d
   ·rw [if_pos hj,if_pos hj]; exact hv
   ·rw [if_neg hj,if_neg hj]; exact h.tmp j
theorem R1.sc {v:Value}{u:Value} (h:R1 A β n v (.sc u)):v=u∧NR u=true:=by
 cases h with
 | cl _ _ h=>cases h with | sc _ h=>exact⟨rfl,h⟩
theorem R1.lit {v:Value}{e m:Nat}{cs:List PV} (h:R1 A β n v (.lit e m cs)):C1 A β n v (.lit e m cs):=by
 cases h with
 | cl _ _ h=>exact h
theorem R1.litp {v:Value}{cs:List PV} (h:R1 A β n v (.litp cs)):C1 A β n v (.litp cs):=by
 cases h with
 | cl _ _ h=>exact h
theorem R1.litx {v:Value}{e m:Nat}{cs:List PV} (h:R1 A β n v (.litx e m cs)):C1 A β n v (.litx e m cs):=by
 cases h with
 | cl _ _ h=>exact h
theorem Dn {b off m:Nat}{cells:List Value}{e c st:Nat} (hg:A.heap.get b=some (.row cells e c st true)) (hl:off + m≤cells.length):ld A b off m=some ((cells.drop off).take m,cS A c):=by
 unfold ld;rw [hg];show OD A cells off m c=_;unfold OD;rw [cO];have:((cells.drop off).take m).length=m:=by rw [List.length_take,List.length_drop]; omega
 rw [this,Nat.beq_refl]
theorem Iu (hs:RS A β s) {v:Value}{q:PV} (hv:R1 A β s.n v q) {sz:Nat}{cs:List PV} (h:xr s q sz=some cs) :
  ∃b o xs c,v=.pointer (some ⟨b,o,none⟩)∧ld A b o sz=some (xs,cS A c)∧Rs A β s.n xs cs∧cs.length=sz∧((∃k∈(eS q).rd,k < s.n∧β k=c)∨((eS q).li=true∧jQ A β s.n c)):=by
 cases q with
 | ptr k off fin=>
  simp only [xr] at h;split at h
  ·rename_i hc;injection h with h; subst h;cases hv with
   | cl _ _ h=>cases h
   | ptr b o _ _ _ e cells st ok hk hg ho hf=>
    obtain⟨h1,h2,h3⟩:=(hs.blk k hk).all _ _ _ _ _ hg;obtain⟨rfl,h4⟩:=h3 (by omega);refine⟨b,o,_,β k,rfl,Dn hg (by omega),?_,by rw [List.length_take,List.length_drop]; omega,.inl ⟨k,by simp [eS],hk,rfl⟩⟩;have:=(h4.drop o).take sz;rw [List.drop_take,List.take_take,List.drop_drop,ho] at this;rwa [Nat.min_eq_left (by omega)] at this
  ·cases h
 | litp cs'=>
  simp only [xr] at h;split at h
  ·rename_i hc;injection h with h; subst h;have hv:=hv.litp;cases hv with
   | litp b off e _ cells c st hg hp hl hh=>
    refine⟨b,off,_,c,rfl,Dn hg (by omega),?_,by rw [List.length_take]; omega,.inr ⟨rfl,hp⟩⟩;have:=(Cs.up hh).take sz;rwa [List.take_take,Nat.min_eq_left (by omega)] at this
  ·cases h
 | _=>simp [xr] at h
theorem xZ {t:Nat}{d:TypeDesc}{ag:Bool}{sz b o c:Nat}{xs:List Value}{cs:List PV}{q:PV} (hd:jy (some d)=ag) (hsz:if ag then dY P t=some sz else sz=1) (hl:ld A b o sz=some (xs,cS A c)) (hx:Rs A β n xs cs) (hq:aW ag cs=some q) :
  ∃v,mX P t d b o A=some (.val v,cS A c)∧R1 A β n v q:=by
 unfold mX;cases ag with
 | true=>
  rw [if_pos rfl] at hsz;rw [hd,hsz];simp only [aW,if_true] at hq;injection hq with hq; subst hq;refine⟨.agg xs.toArray,?_,.agg _ _ (by simpa using hx)⟩;show ww (ld A b o sz)=_;rw [hl]; rfl
 | false=>
  have:sz=1:=by simpa using hsz
  subst this;rw [hd];show ∃v,vA (ld A b o 1)=_∧_;simp only [aW] at hq;rw [if_neg (by simp)] at hq;split at hq
  ·injection hq with hq; subst hq;cases hx with
   | cons v _ l _ h hn=>
    cases hn;rw [hl];exact⟨v,rfl,h⟩
  ·cases hq
end
structure Cx (A A':AS) (β β':Nat→Nat) (n n':Nat) (E:jt):Prop where
 r:∀c,A'.r.testBit c=true→A.r.testBit c=true∨(∃k∈E.rd,k < n∧β k=c)∨(E.li=true∧jQ A β n c)∨(A.next≤c∧c < A'.next)∨(E.ca=true∧c < A'.next)
 w:∀c,A'.w.testBit c=true→A.w.testBit c=true∨(∃k∈E.wr,k < n∧β k=c)∨(A.next≤c∧c < A'.next)
 new:E.ca=false→∀c,A.next≤c→c < A'.next→(A'.r.testBit c=true→A.r.testBit c=true∨∃k,n≤k∧k < n'∧β' k=c)∧(A'.w.testBit c=true→A.w.testBit c=true∨∃k,n≤k∧k < n'∧β' k=c)
theorem Cx.same (A:AS) (β:Nat→Nat) (n:Nat) (E:jt):Cx A A β β n n E:=⟨fun _ h=>.inl h,fun _ h=>.inl h,fun _ _ h1 h2=>by omega⟩
theorem Cx.read {A:AS}{β:Nat→Nat}{n c:Nat}{E:jt} (hi:c < A.next) (h:(∃k∈E.rd,k < n∧β k=c)∨(E.li=true∧jQ A β n c)):Cx A (cS A c) β β n n E:=by
 rw [aO];refine⟨fun x hx=>?_,fun _ h=>.inl h,fun _ x h1 h2=>by simp only at h2; omega⟩;rcases iT hx with hx | rfl
 ·exact .inl hx
 ·exact .inr (h.imp id .inl)
def i8 (P:Program) (A:AS) (β:Nat→Nat) (s:PS) (f:Fr) (o:Oper) (q:PV) (s':PS) (E:jt):Prop:=
 ∃u A' β',dJ P f A o (.val u) A'∧Fw A A' β β' s.n s'.n s'.w∧RS A' β' s'∧R1 A' β' s'.n u q∧Cx A A' β β' s.n s'.n E
theorem bO {b:Bool}{o q:lM} (h:gd b o=some q):b=true∧o=q:=by
 cases b
 ·cases h
 ·exact⟨rfl,by injection h⟩
section
variable {P:Program}{A:AS}{β:Nat→Nat}{nt:Nat}{f:Fr}{p:aX}{s s':PS}{o:Oper}{q:PV}{E:jt}
theorem cU (hO:dm P) (hi:dn A) (hs:RS A β s) {u:Value} (h:bZ P f o A=some (.val u,A)) (hq:R1 A β s.n u q):i8 P A β s f o q s E:=
 ⟨u,A,β,hO f o A _ _ hi (Nat.le_refl _) h,.refl A β s.n _,hs,hq,.same A β s.n E⟩
theorem nQ (hO:dm P) (hi:dn A) (hs:RS A β s) {u:Value}{c:Nat} (h:bZ P f o A=some (.val u,cS A c)) (hq:R1 A β s.n u q) (hc:c < A.next) (he:(∃k∈E.rd,k < s.n∧β k=c)∨(E.li=true∧jQ A β s.n c)):i8 P A β s f o q s E:=by
 have hw:Fw A (cS A c) β β s.n s.n s.w:=by rw [aO]; exact .heap β s.n rfl rfl rfl
 refine⟨u,cS A c,β,hO f o A _ _ hi (Nat.le_refl _) h,hw,?_,hq.mono hw,.read hc he⟩;rw [aO]; exact hs.same rfl rfl rfl rfl
theorem kw (A:AS) (cells:List Value) (e x:Nat):(EvL.newRow A cells e).heap.get x=if x=A.next then some (.row cells e A.next 0 true) else A.heap.get x:=by
 rw [gh,kg];exact Tr.get_set _ _ _ _ trivial
theorem wy (hi:dn A) (β:Nat→Nat) (n:Nat) (cells:List Value) (e lo:Nat):Fw A (EvL.newRow A cells e) β (fun k=>if k=n then A.next else β k) n (n + 1) lo where
 le:=by omega
 next:=by rw [bJ]; omega
 eq:=fun k hk=>if_neg (by omega)
 new:=fun k h1 h2=>by rw [if_pos (by omega)]; exact Nat.le_refl _
 prot:=fun b cells' e' c st hb _=>by
  rw [kw,if_neg (by rintro rfl; have:=(hi.lt _ _ hb).1; omega)]; exact hb
 keep:=fun b cells' e' st ok k _ hb=>⟨cells',ok,by rw [kw,if_neg (by rintro rfl; have:=(hi.lt _ _ hb).1; omega)]; exact hb,rfl⟩
 w:=fun c hc hw=>by
  rw [gh,kg] at hw;rcases iT hw with h | h
  ·exact .inl h
  ·omega
theorem uN (β:Nat→Nat) (n:Nat) (cells:List Value) (e:Nat) (E:jt):Cx A (EvL.newRow A cells e) β (fun k=>if k=n then A.next else β k) n (n + 1) E:=by
 rw [gh,kg];refine⟨fun _ h=>.inl h,fun c hc=>?_,fun _ c h1 h2=>⟨fun h=>.inl h,fun hc=>?_⟩⟩
 ·rcases iT hc with h | h
  ·exact .inl h
  ·exact .inr (.inr ⟨by omega,by simp only; omega⟩)
 ·rcases iT hc with h | h
  ·exact .inl h
  ·exact .inr ⟨n,by omega,by omega,by rw [if_pos rfl]; exact h⟩
theorem zl (hi:dn A) (hs:RS A β s) {cells:List Value}{cs:List PV} (e:Nat) (h:Rs A β s.n cells cs):RS (EvL.newRow A cells e) (fun k=>if k=s.n then A.next else β k) (s.new ⟨cs,0,e⟩):=by
 have hw:=wy hi β s.n cells e s.w;have hold:∀b o',A.heap.get b=some o'→b≠A.next:=fun b o' hb=>by have:=(hi.lt _ _ hb).1; omega
 constructor
 ·intro k hk;have hk':k < s.n + 1:=hk;by_cases he:k=s.n
  ·subst he;show RB _ _ (s.n + 1) (if s.n=s.n then A.next else β s.n) (if s.n=s.n then _ else _);rw [if_pos rfl,if_pos rfl];have hrow:∀x cells' e' st ok,(EvL.newRow A cells e).heap.get x=some (.row cells' e' A.next st ok)→x=A.next∧cells'=cells∧e'=e∧st=0∧ok=true:=fun x cells' e' st ok hg=>by
    rw [kw] at hg;split at hg
    ·rename_i hx; injection hg with hg; injection hg with h1 h2 h3 h4 h5; exact⟨hx,h1.symm,h2.symm,h4.symm,h5.symm⟩
    ·have:=(hi.lt _ _ hg).2; simp only [dU] at this; omega
   refine⟨⟨A.next,cells,0,by rw [kw,if_pos rfl],by simp [h.len]⟩,fun x cells' e' st ok hg=>?_,fun x y cells' e' st ok cells2 e2 st2 ok2 h1 h2 _ _=>?_,Nat.zero_le _,?_,by rw [bJ]; omega,fun x cells' e' st ok hg=>(hrow _ _ _ _ _ hg).2.2.2.1⟩
   ·obtain⟨_,rfl,rfl,rfl,rfl⟩:=hrow _ _ _ _ _ hg;refine⟨rfl,by simp [h.len],fun _=>⟨rfl,?_⟩⟩;rw [List.drop_zero,h.len,List.take_length];exact h.mono hw
   ·rw [(hrow _ _ _ _ _ h1).1,(hrow _ _ _ _ _ h2).1]
   ·rw [gh,kg];show A.fz.get A.next=none;cases hz:A.fz.get A.next with
    | none=>rfl
    | some k=>have:=hi.fz _ _ hz; omega
  ·have hkn:k < s.n:=by omega
   show RB _ _ (s.n + 1) (if k=s.n then A.next else β k) (if k=s.n then _ else s.h k);rw [if_neg he,if_neg he];have hb:=hs.blk k hkn;refine hb.mono hw (fun x cells' e' st ok=>?_) (by rw [gh,kg]);rw [kw];split
   ·rename_i hx;constructor
    ·intro hh; injection hh with hh; injection hh with _ _ h3; have:=hb.lt; omega
    ·intro hh; exact absurd hx (hold _ _ hh)
   ·exact Iff.rfl
 ·intro j k hj hk he;have hj':j < s.n + 1:=hj;have hk':k < s.n + 1:=hk;have he':(if j=s.n then A.next else β j)=if k=s.n then A.next else β k:=he;split at he'<;>split at he'
  ·omega
  ·have:=(hs.blk k (by omega)).lt; omega
  ·have:=(hs.blk j (by omega)).lt; omega
  ·exact hs.inj j k (by omega) (by omega) he'
theorem FA (hO:dm P) (hi:dn A) (hs:RS A β s) {cells:List Value}{cs:List PV}{e:Nat} (h:bZ P f o A=some (.val (.pointer (some ⟨A.next,0,none⟩)),EvL.newRow A cells e)) (hc:Rs A β s.n cells cs) :
  i8 P A β s f o (.ptr s.n 0 cs.length) (s.new ⟨cs,0,e⟩) E:=by
 refine⟨_,_,_,hO f o A _ _ hi (Nat.le_refl _) h,wy hi β s.n cells e _,zl hi hs e hc,?_,uN β s.n cells e E⟩;refine .ptr A.next 0 s.n 0 cs.length e cells 0 true (by show s.n < s.n + 1; omega) ?_ rfl (by simp [hc.len]);rw [kw,if_pos rfl,if_pos rfl]
theorem G2 (hO:dm P) (hi:dn A) (hs:RS A β s) {cells:List Value}{cs:List PV}{e m:Nat} (h:bZ P f o A=some (.val (.slice (some ⟨A.next,0,none⟩) m m),EvL.newRow A cells e)) (hc:Rs A β s.n cells cs) :
  i8 P A β s f o (.own s.n 0 m cs.length) (s.new ⟨cs,0,e⟩) E:=by
 refine⟨_,_,_,hO f o A _ _ hi (Nat.le_refl _) h,wy hi β s.n cells e _,zl hi hs e hc,?_,uN β s.n cells e E⟩;refine .own A.next 0 s.n 0 m cs.length m e cells 0 true (by show s.n < s.n + 1; omega) ?_ rfl (by simp [hc.len]) (Nat.le_refl _);rw [kw,if_pos rfl,if_pos rfl]
end
section
variable {P:Program}{A:AS}{β:Nat→Nat}{nt:Nat}{f:Fr}{p:aX}{s s':PS}{q:PV}{E:jt}{d:Option Tmp}{ty:TypeId}{pos:String}{af:Array Edge}{gu:Option (Nat × Bool)}
theorem UC (hO:dm P) (hi:dn A) (hs:RS A β s) (hf:RF A β s.n nt f p) {x:Operand} (hx:fK x=true):i8 P A β s f ⟨d,.move x,ty,pos,af,gu⟩ (cB p x) s E:=by
 obtain⟨v,h1,h2⟩:=bQ hf hx;exact cU hO hi hs (by show oC A (f.eval x)=_; rw [h1]; rfl) h2
theorem TQ (hO:dm P) (hi:dn A) (hs:RS A β s) (hf:RF A β s.n nt f p) {x:Operand} (hx:fK x=true):i8 P A β s f ⟨d,.assign x,ty,pos,af,gu⟩ (cB p x) s E:=by
 obtain⟨v,h1,h2⟩:=bQ hf hx;exact cU hO hi hs (by show oC A (f.eval x)=_; rw [h1]; rfl) h2
theorem pI {v:Value}{x:PV}{b:Bool} (h:R1 A β s.n v x) (hb:jY x=some b):v=.bool b:=by
 cases x with
 | sc u=>
  obtain⟨rfl,_⟩:=h.sc;cases v with
  | bool c=>simp only [jY] at hb; injection hb with hb; rw [hb]
  | _=>simp [jY] at hb
 | _=>simp [jY] at hb
theorem NJ (hO:dm P) (hi:dn A) (hs:RS A β s) (hf:RF A β s.n nt f p) {c x y:Operand} (hc:fK c=true) (hx:fK x=true) (hy:fK y=true) (h:cg P p s (.pick c x y)=some (q,s')):i8 P A β s f ⟨d,.pick c x y,ty,pos,af,gu⟩ q s' E:=by
 obtain⟨vc,c1,c2⟩:=bQ hf hc;obtain⟨vx,x1,x2⟩:=bQ hf hx;obtain⟨vy,y1,y2⟩:=bQ hf hy;simp only [cg] at h;split at h
 ·rename_i hb;have:=pI c2 hb;subst this;injection h with h; injection h with h1 h2; subst h1; subst h2;exact cU hO hi hs (by show ve f (f.eval c) x y A=_; rw [c1]; show oC A (f.eval x)=_; rw [x1]; rfl) x2
 ·rename_i hb;have:=pI c2 hb;subst this;injection h with h; injection h with h1 h2; subst h1; subst h2;exact cU hO hi hs (by show ve f (f.eval c) x y A=_; rw [c1]; show oC A (f.eval y)=_; rw [y1]; rfl) y2
 ·cases h
theorem QL (hO:dm P) (hi:dn A) (hs:RS A β s) (hf:RF A β s.n nt f p) {e:Nat}{x:Operand} (hx:fK x=true) :
  i8 P A β s f ⟨d,.box e x,ty,pos,af,gu⟩ (.ptr s.n 0 (aC (cB p x)).length) (s.new ⟨aC (cB p x),0,e⟩) E:=by
 obtain⟨v,h1,h2⟩:=bQ hf hx;exact FA hO hi hs (by show ua A e (f.eval x)=_; rw [h1]; rfl) h2.cells
end
theorem Mw (off:Nat):∀(vs:List Value) (k:Nat) (cs:Array Value),off + k + vs.length≤cs.size→
  ((vs.zipIdx k).foldl (fun cs (x:Value × Nat)=>cs.setIfInBounds (off + x.2) x.1) cs).toList=cs.toList.take (off + k) ++ (vs ++ cs.toList.drop (off + k + vs.length)):=by
 intro vs
 induction vs with
 | nil=>intro k cs _; simp
 | cons v vs ih=>
  intro k cs h;simp only [List.length_cons] at h;simp only [List.zipIdx_cons,List.foldl_cons];rw [ih (k + 1) _ (by rw [Array.size_setIfInBounds]; omega),Array.toList_setIfInBounds];have hlt:off + k < cs.toList.length:=by rw [Array.length_toList]; omega
  rw [List.set_eq_take_append_cons_drop,if_pos hlt];have h1:(cs.toList.take (off + k)).length=off + k:=by rw [List.length_take]; omega
  rw [show off + (k + 1)=(off + k) + 1 by omega,List.take_append,h1,List.take_of_length_le (by rw [h1]; omega),show off + k + 1 - (off + k)=1 by omega,List.take_succ_cons,List.take_zero];rw [List.drop_append,h1,List.drop_of_length_le (by rw [h1]; omega),show off + k + 1 + vs.length - (off + k)=vs.length + 1 by omega,List.drop_succ_cons,List.drop_drop];simp only [List.nil_append,List.length_cons,List.append_assoc,List.cons_append];rw [show off + k + 1 + vs.length=off + k + (vs.length + 1) by omega]
section
variable {P:Program}{A:AS}{β:Nat→Nat}{nt:Nat}{f:Fr}{p:aX}{s s':PS}{q:PV}{E:jt}{d:Option Tmp}{ty:TypeId}{pos:String}{af:Array Edge}{gu:Option (Nat × Bool)}
theorem Rq {n:Nat}{z:Value} (h:Ly z=true):Rs A β n z.cells.toList (aC (cI z)):=by
 cases z with
 | agg cs=>exact Cs.up (nU _ h)
 | func fn a b=>cases h
 | _=>exact .cons _ _ _ _ (.cl _ _ (.sc _ h)) .nil
theorem zO {n:Nat}{z:Value} (h:Ly z=true):Rs A β n z.cells.toList (z.cells.toList.map .sc):=by
 cases z with
 | agg cs=>exact Cs.up (nU _ h)
 | func fn a b=>cases h
 | _=>exact .cons _ _ _ _ (.cl _ _ (.sc _ h)) .nil
theorem Jj (hO:dm P) (hi:dn A) (hs:RS A β s) {e:Nat}{z:Value} (hz:i4 P e=some z) (ho:Ly z=true) :
  i8 P A β s f ⟨d,.alloc e,ty,pos,af,gu⟩ (.ptr s.n 0 (aC (cI z)).length) (s.new ⟨aC (cI z),0,e⟩) E:=
 FA hO hi hs (by show ua A e (i4 P e)=_; rw [hz]; rfl) (Rq ho)
theorem Fu {n:Nat} (hf:RF A β n nt f p) {g:Nat→Option (Nat × Nat)} : ∀(ps:List (Nat × Operand)) (l:List (Nat × Nat × Operand)) (zc:Array Value) (zp cs:List PV),Rs A β n zc.toList zp→nS g ps=some l→fV p zp l=some cs→
  ∃vs out,kD f ps=some vs∧Instr.fill g zc vs=some out∧Rs A β n out.toList cs:=by
 intro ps
 induction ps with
 | nil=>
  intro l zc zp cs hz hp hc;simp only [nS] at hp;injection hp with hp; subst hp;simp only [fV] at hc;injection hc with hc; subst hc;exact⟨[],zc,rfl,rfl,hz⟩
 | cons y ps ih=>
  intro l zc zp cs hz hp hc;obtain⟨i,x⟩:=y;simp only [nS] at hp;split at hp
  ·rename_i off sz r hg hx hr;injection hp with hp; subst hp;simp only [fV] at hc;split at hc
   ·rename_i hl;obtain⟨v,h1,h2⟩:=bQ hf hx;have hcl:=h2.cells;have hlen:=hcl.len;have hzl:=hz.len;rw [Array.length_toList] at hlen hzl;have hput:Rs A β n (v.cells.zipIdx.foldl (fun cs (x:Value × Nat)=>cs.setIfInBounds (off + x.2) x.1) zc).toList (zp.take off ++ (aC (cB p x) ++ zp.drop (off + sz))):=by
     rw [← Array.foldl_toList,Array.toList_zipIdx];have:=Mw off v.cells.toList 0 zc (by rw [Array.length_toList]; omega);rw [this,Nat.add_zero,Array.length_toList,hlen,hl.1];exact (hz.take off).app (hcl.app (hz.drop _))
    obtain⟨vs,out,e1,e2,e3⟩:=ih r _ _ cs hput hr hc;refine⟨(i,v) :: vs,out,?_,?_,e3⟩
    ·show (match f.eval x with | some v=>(match kD f ps with | some vs=>some ((i,v) :: vs) | none=>none) | none=>none)=_;rw [h1,e1]
    ·simp only [Instr.fill];rw [hg];simp only;rw [if_neg (by simp; omega)];exact e2
   ·cases hc
  ·cases hp
theorem Lh (hO:dm P) (hi:dn A) (hs:RS A β s) (hf:RF A β s.n nt f p) {t:Nat}{ps:Array (Nat × Operand)}{z:Value}{fs:Array Field}{l:List (Nat × Nat × Operand)}{cs:List PV} (hz:i4 P t=some z) (hu:P.underlying t=some (.struct fs))
  (hp:nS (fun i=>(fs[i]?).bind fun fl=>(dY P fl.type).map fun n=>(fl.offset,n)) ps.toList=some l) (hb:Nat.ble (Nat.succ t) P.types.size=true) (ho:Ly z=true) (hc:fV p (z.cells.toList.map .sc) l=some cs) :
  i8 P A β s f ⟨d,.build t ps,ty,pos,af,gu⟩ (.agg cs) s E:=by
 obtain⟨vs,out,e1,e2,e3⟩:=Fu hf ps.toList l z.cells _ cs (zO ho) hp hc;refine cU hO hi hs (u:=.agg out) ?_ (.agg _ _ e3);show pg P f t ps A=_;unfold pg;rw [hz,hu,e1];simp only;rw [hb,e2];rfl
theorem RI {n:Nat}{l:List Value}{r:List PV} (h:Rs A β n l r):∀k,Rs A β n (List.replicate k l).flatten (List.replicate k r).flatten:=by
 intro k
 induction k with
 | zero=>exact .nil
 | succ k ih=>simp only [List.replicate_succ,List.flatten_cons]; exact h.app ih
theorem GI (hO:dm P) (hi:dn A) (hs:RS A β s) (hf:RF A β s.n nt f p) {t e len n:Nat}{ps:Array (Nat × Operand)}{z:Value}{l:List (Nat × Nat × Operand)}{cs:List PV} (hu:P.underlying t=some (.slice e)) (hz:i4 P e=some z) (hn:dY P e=some n)
  (hp:nS (fun i=>some (i * n,n)) ps.toList=some l) (hb:Nat.ble (Nat.mul len n) 1048576=true) (hzl:Nat.beq z.cells.toList.length n=true) (ho:Ly z=true) (hc:fV p ((List.replicate len z.cells.toList).flatten.map .sc) l=some cs) :
  i8 P A β s f ⟨d,.buildSlice t len ps,ty,pos,af,gu⟩ (.own s.n 0 len cs.length) (s.new ⟨cs,0,e⟩) E:=by
 have hzz:Rs A β s.n (List.replicate len z.cells.toList).flatten ((List.replicate len z.cells.toList).flatten.map .sc):=by
  have:=RI (A:=A) (β:=β) (n:=s.n) (zO (z:=z) ho) len;rw [List.map_flatten,List.map_replicate];exact this
 obtain⟨vs,out,e1,e2,e3⟩:=Fu hf ps.toList l (List.replicate len z.cells.toList).flatten.toArray _ cs (by simpa using hzz) hp hc;refine G2 hO hi hs (cells:=out.toList) ?_ e3;show gm P f t len ps A=_;unfold gm;rw [hu];simp only;rw [hz,hn,e1];simp only;rw [if_pos (by rw [hb,hzl]; rfl),e2];rfl
theorem FP (hO:dm P) (hi:dn A) (hs:RS A β s) (hf:RF A β s.n nt f p) {t sz:Nat}{ag:Bool}{x:Operand}{dd:TypeDesc} (hx:fK x=true) (hd:P.underlying t=some dd) (hag:jy (some dd)=ag) (hsz:if ag then dY P t=some sz else sz=1)
  (h:cg P p s (.load t ag sz x)=some (q,s')):i8 P A β s f ⟨d,.load t x,ty,pos,af,gu⟩ q s' (eS (cB p x)):=by
 obtain⟨v,h1,h2⟩:=sQ (P:=P) hf hx;simp only [cg,Option.bind_eq_some_iff,Option.map_eq_some_iff] at h;obtain⟨cs,hcs,v',hv',he⟩:=h;injection he with he1 he2; subst he1; subst he2;obtain⟨b,o,xs,c,rfl,hl,hr,_,hef⟩:=Iu hs h2 hcs;obtain⟨u,k1,k2⟩:=xZ hag hsz hl hr hv';refine nQ hO hi hs (u:=u) (c:=c) ?_ k2 (by
  rcases hef with ⟨k,_,hk,rfl⟩ | ⟨_,hp⟩
  ·exact (hs.blk k hk).lt
  ·exact hp.1) hef
 show nP P t (evalG P f x) A=_;rw [h1];show (match P.underlying t with | some d=>mX P t d b o A | none=>none)=_;rw [hd];exact k1
theorem II (hO:dm P) (hi:dn A) (hs:RS A β s) (hf:RF A β s.n nt f p) {t i m:Nat}{x:Operand}{fs:Array Field}{fl:Field} (hx:fK x=true) (hfs:jh P t=some fs) (hfl:fs[i]?=some fl) (hsz:dY P fl.type=some (m + 1))
  (h:cg P p s (.faddr fl.offset x)=some (q,s')):i8 P A β s f ⟨d,.fieldAddr t x i,ty,pos,af,gu⟩ q s' E:=by
 obtain⟨v,h1,h2⟩:=sQ (P:=P) hf hx;have key:∀b o,v=.pointer (some ⟨b,o,none⟩)→bZ P f ⟨d,.fieldAddr t x i,ty,pos,af,gu⟩ A=some (.val (.pointer (some ⟨b,o + fl.offset,none⟩)),A):=by
  rintro b o rfl;show iS P t (evalG P f x) i A=_;rw [h1];unfold iS;simp only [hfs,hfl,hsz];rfl
 simp only [cg] at h;split at h
 ·rename_i k off fin hp;injection h with h; injection h with e1 e2; subst e1; subst e2;rw [hp] at h2;cases h2 with
  | cl _ _ h=>cases h
  | ptr b o _ _ _ e cells st ok hk hg ho hf'=>
   exact cU hO hi hs (key b o rfl) (.ptr b (o + fl.offset) k _ fin e cells st ok hk hg (by omega) hf')
 ·rename_i cs hp;split at h
  ·rename_i hle;injection h with h; injection h with e1 e2; subst e1; subst e2;rw [hp] at h2;have h3:=h2.litp;cases h3 with
   | litp b off e _ cells c st hg hpr hl hh=>
    refine cU hO hi hs (key b off rfl) (.cl _ _ (.litp b (off + fl.offset) e _ cells c st hg hpr (by rw [List.length_drop]; omega) ?_));have:=Cs.drop hh fl.offset;rw [List.drop_take,List.drop_drop] at this;rw [List.length_drop];exact this
  ·cases h
 ·cases h
theorem zD {n:Nat}{ag:Bool}{xs:List Value}{cs:List PV}{v:PV} (h:Rs A β n xs cs) (hv:aW ag cs=some v):(ag=true∧R1 A β n (.agg xs.toArray) v)∨(ag=false∧∃u,xs=[u]∧R1 A β n u v):=by
 cases ag with
 | true=>
  simp only [aW,if_true] at hv;injection hv with hv; subst hv;exact .inl ⟨rfl,.agg _ _ (by simpa using h)⟩
 | false=>
  simp only [aW] at hv;rw [if_neg (by simp)] at hv;split at hv
  ·injection hv with hv; subst hv;cases h with
   | cons u _ l _ h hn=>cases hn; exact .inr ⟨rfl,u,rfl,h⟩
  ·cases hv
theorem Jd (hO:dm P) (hi:dn A) (hs:RS A β s) (hf:RF A β s.n nt f p) {t i sz:Nat}{ag:Bool}{x:Operand}{fs:Array Field}{fl:Field}{dd:TypeDesc} (hx:fK x=true) (hfs:jh P t=some fs) (hfl:fs[i]?=some fl) (hd:P.underlying fl.type=some dd) (hag:jy (some dd)=ag)
  (hsz:if ag then dY P fl.type=some sz else sz=1) (h:cg P p s (.fld ag fl.offset sz x)=some (q,s')):i8 P A β s f ⟨d,.field t x i,ty,pos,af,gu⟩ q s' E:=by
 obtain⟨v,h1,h2⟩:=bQ hf hx;simp only [cg] at h;split at h
 ·rename_i cs hp;rw [hp] at h2;split at h
  ·rename_i hle;simp only [Option.map_eq_some_iff] at h;obtain⟨v',hv',he⟩:=h;injection he with e1 e2; subst e1; subst e2;obtain⟨xs,rfl,hxs⟩ : ∃xs,v=.agg xs∧Rs A β s.n xs.toList cs:=by
    cases h2 with
    | cl _ _ h=>cases h with | agg xs _ h=>exact⟨xs,rfl,Cs.up h⟩
    | agg xs _ h=>exact⟨xs,rfl,h⟩
   have hpart:yv P fl.type xs.toList fl.offset=Bool.rec xs.toList[fl.offset]? ((dY P fl.type).map fun n=>.agg ((xs.toList.drop fl.offset).take n).toArray) ag:=by
    unfold yv; rw [hd]; simp only [hag]
   have hev:∀u,yv P fl.type xs.toList fl.offset=some u→bZ P f ⟨d,.field t x i,ty,pos,af,gu⟩ A=some (.val u,A):=fun u hu=>by
    show rp P t (f.eval x) i A=_;rw [h1];unfold rp;simp only [hfs,hfl,hu];rfl
   have hrs:=(hxs.drop fl.offset).take sz;rcases zD hrs hv' with ⟨rfl,hr⟩ | ⟨rfl,u,hu,hr⟩
   ·have hsz':dY P fl.type=some sz:=by simpa using hsz
    refine cU hO hi hs (hev _ ?_) hr;rw [hpart,hsz']; rfl
   ·have:sz=1:=by simpa using hsz
    subst this;refine cU hO hi hs (hev u ?_) hr;rw [hpart];show xs.toList[fl.offset]?=some u;rw [← List.head?_drop];cases hdr:xs.toList.drop fl.offset with
    | nil=>rw [hdr] at hu; cases hu
    | cons y l=>rw [hdr] at hu; simp only [List.take_succ_cons,List.take_zero] at hu; injection hu with hu; rw [hu]; rfl
  ·cases h
 ·cases h
theorem nl {n:Nat}{v:Value}{x:PV}{j:Nat} (h:R1 A β n v x) (hj:l8 x=some j):jx v=some j∧∃k,v=.int k (j:Int):=by
 cases x with
 | sc u=>
  obtain⟨rfl,_⟩:=h.sc;cases v with
  | int k z=>
   simp only [l8] at hj;split at hj
   ·rename_i hz;injection hj with hj;obtain⟨m,rfl⟩:=Int.eq_ofNat_of_zero_le hz;simp only [Int.toNat_natCast] at hj;subst hj;exact⟨rfl,k,rfl⟩
   ·cases hj
  | _=>simp [l8] at hj
 | _=>simp [l8] at hj
theorem IF (hO:dm P) (hi:dn A) (hs:RS A β s) (hf:RF A β s.n nt f p) {t e es:Nat}{x y:Operand} (hx:fK x=true) (hy:fK y=true) (hu:P.underlying t=some (.slice e)) (hsz:dY P e=some es)
  (h:cg P p s (.iaddr es x y)=some (q,s')):i8 P A β s f ⟨d,.indexAddr t x y,ty,pos,af,gu⟩ q s' E:=by
 obtain⟨v,h1,h2⟩:=sQ (P:=P) hf hx;obtain⟨vi,i1,i2⟩:=bQ hf hy;have key:∀b o m cap j,v=.slice (some ⟨b,o,none⟩) m cap→jx vi=some j→j < m→bZ P f ⟨d,.indexAddr t x y,ty,pos,af,gu⟩ A=some (.val (.pointer (some ⟨b,o + j * es,none⟩)),A):=by
  rintro b o m cap j rfl hj hlt;show gC P t (evalG P f x) (f.eval y) A=_;rw [h1,i1];unfold gC;rw [hu];simp only [Option.bind_some,hj];unfold rx;rw [hsz];simp only;rw [Nat.ble_eq_true_of_le (Nat.succ_le_of_lt hlt)];rfl
 have keyX:∀b o m j,v=.slice (some ⟨b,o,some 0⟩) m m→jx vi=some j→j < m→bZ P f ⟨d,.indexAddr t x y,ty,pos,af,gu⟩ A=some (.val (.pointer (some ⟨b,o + j * es,none⟩)),A):=by
  rintro b o m j rfl hj hlt;show gC P t (evalG P f x) (f.eval y) A=_;rw [h1,i1];unfold gC;rw [hu];simp only [Option.bind_some,hj];unfold rx;rw [hsz];simp only;rw [Nat.ble_eq_true_of_le (Nat.succ_le_of_lt hlt)];rfl
 simp only [cg] at h;split at h
 ·rename_i k off m fin j hp hj;split at h
  ·rename_i hc;injection h with h; injection h with e1 e2; subst e1; subst e2;rw [hp] at h2;cases h2 with
   | cl _ _ h=>cases h
   | own b o _ _ _ _ cap e' cells st ok hk hg ho hf' hm=>
    exact cU hO hi hs (key b o m cap j rfl (nl i2 hj).1 hc.1) (.ptr b (o + j * es) k _ fin e' cells st ok hk hg (by omega) hf')
  ·cases h
 ·rename_i e' m cs j hp hj;split at h
  ·rename_i hc;injection h with h; injection h with e1 e2; subst e1; subst e2;rw [hp] at h2;have h3:=h2.lit;cases h3 with
   | lit b off _ cap _ _ cells c st hg hpr hl hm hh=>
    have hle:j * es≤cs.length:=by rw [hc.2]; exact Nat.mul_le_mul_right _ (Nat.le_of_lt hc.1)
    refine cU hO hi hs (key b off m cap j rfl (nl i2 hj).1 hc.1) (.cl _ _ (.litp b (off + j * es) e' _ cells c st hg hpr (by rw [List.length_drop]; omega) ?_));have:=Cs.drop hh (j * es);rw [List.drop_take,List.drop_drop] at this;rw [List.length_drop];exact this
  ·cases h
 ·rename_i e' m cs j hp hj;split at h
  ·rename_i hc;injection h with h; injection h with e1 e2; subst e1; subst e2;rw [hp] at h2;have h3:=h2.litx;cases h3 with
   | litx b off _ _ _ cells c st hg hpr hl hh=>
    have hle:j * es≤cs.length:=by rw [hc.2]; exact Nat.mul_le_mul_right _ (Nat.le_of_lt hc.1)
    refine cU hO hi hs (keyX b off m j rfl (nl i2 hj).1 hc.1) (.cl _ _ (.litp b (off + j * es) e' _ cells c st hg hpr (by rw [List.length_drop]; omega) ?_));have:=Cs.drop hh (j * es);rw [List.drop_take,List.drop_drop] at this;rw [List.length_drop];exact this
  ·cases h
 ·cases h
theorem NH (hO:dm P) (hi:dn A) (hs:RS A β s) (hf:RF A β s.n nt f p) {t:Nat}{x y:Operand} (hx:fK x=true) (hy:fK y=true) (hu:P.underlying t=some .string)
  (h:cg P p s (.sidx x y)=some (q,s')):i8 P A β s f ⟨d,.index t x y,ty,pos,af,gu⟩ q s' E:=by
 obtain⟨v,h1,h2⟩:=bQ hf hx;obtain⟨vi,i1,i2⟩:=bQ hf hy;simp only [cg] at h;split at h
 ·rename_i b j hp hj;split at h
  ·rename_i hc;injection h with h; injection h with e1 e2; subst e1; subst e2;rw [hp] at h2;obtain⟨rfl,_⟩:=h2.sc;refine cU hO hi hs (u:=.int .u8 ((b.data.toList.getD j 0).toNat:Int)) ?_ (.cl _ _ (.sc _ rfl));show qR P f _ t (f.eval x) (f.eval y) A=_;rw [h1,i1];unfold qR;simp only [hu,Option.bind_some,(nl i2 hj).1];rw [List.getElem?_eq_getElem hc];unfold EN;simp only [cC,List.getD_eq_getElem?_getD,List.getElem?_eq_getElem hc,Option.getD_some];rfl
  ·cases h
 ·cases h
end
end Go.PE
