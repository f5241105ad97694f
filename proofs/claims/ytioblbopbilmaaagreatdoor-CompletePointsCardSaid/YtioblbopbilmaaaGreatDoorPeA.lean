/- A run on values, and its soundness. No statement is proved here. -/
import Derived.Test.YtioblbopbilmaaaGreatDoorEvC
set_option linter.unusedSimpArgs false
set_option linter.unusedVariables false
set_option linter.defProp false
namespace Go.PE
open Go Go.EvL
noncomputable def LM:List Value:=(List.range 256).map fun i=>Value.int .u8 (if i == 32 || (9≤i && i≤13) then 1 else 0)
noncomputable def di:List oS:=[⟨0,LM,153⟩]
inductive PV where
 | sc (v:Value)
 | agg (cs:List PV)
 | tup (vs:List PV)
 | lit (e n:Nat) (cs:List PV)
 | litp (cs:List PV)
 | litx (e n:Nat) (cs:List PV)
 | own (k off n fin:Nat)
 | ptr (k off fin:Nat)
 | fn (g:Nat) (first cap:List PV)
 | ownx (k off n fin:Nat)
instance:Inhabited PV:=⟨.sc undef⟩
noncomputable def wQ (v:Value):Bool:=match v with
 | .agg _=>false
 | v=>plain 50 v
structure pD where
 cells:List PV
 low:Nat
 e:Nat
structure PS where
 h:Nat→pD
 n:Nat
 w:Nat
def PS.put (s:PS) (k:Nat) (b:pD):PS:=⟨fun j=>if j=k then b else s.h j,s.n,min s.w k⟩
def PS.new (s:PS) (b:pD):PS:=⟨fun j=>if j=s.n then b else s.h j,s.n + 1,s.w⟩
structure gy where
 rd:List Nat
 wr:List Nat
 li:Bool
 ca:Bool
abbrev aE:=Nat→PV
def aE.set (f:aE) (d:Nat) (v:PV):aE:=fun j=>if j=d then v else f j
def gD (f:aE) (d:Option Nat) (v:PV):aE:=match d with
 | some d=>aE.set f d v
 | none=>f
inductive gw where
 | mv (x:Operand)
 | pick (c a b:Operand)
 | alloc (e:Nat) (z:Value)
 | box (e:Nat) (x:Operand)
 | build (z:List Value) (ps:List (Nat × Nat × Operand))
 | bslice (e len:Nat) (z:List Value) (ps:List (Nat × Nat × Operand))
 | load (t:Nat) (ag:Bool) (sz:Nat) (x:Operand)
 | store (t sz:Nat) (x y:Operand)
 | faddr (off:Nat) (x:Operand)
 | fld (ag:Bool) (off sz:Nat) (x:Operand)
 | iaddr (es:Nat) (x i:Operand)
 | sidx (x i:Operand)
 | bin (op:BinOp) (t:Nat) (x y:Operand)
 | un (op:UnOp) (x:Operand)
 | len (str:Bool) (x:Operand)
 | app (e es bytes:Nat) (x y:Operand)
 | slc (e es:Nat) (x:Operand) (lo hi:Option Operand)
 | slc3 (e es:Nat) (x hi mx:Operand)
 | sslc (x:Operand) (lo hi:Option Operand)
 | mkfn (g:Nat) (first cap:List Operand)
 | ext (x:Operand) (i:Nat)
 | conv (k:IntKind) (x:Operand)
 | call (f:Operand) (args:List Operand)
 | mnx (mx:Bool) (x y:Operand)
 | nck (x:Operand)
 | mks (e es bytes:Nat) (z:List Value) (l c:Operand)
 | cpy (es:Nat) (x y:Operand)
 | peq (ne:Bool) (t:Nat) (x y:Operand)
 | inq (ne:Bool) (t:Nat) (x:Operand)
 | bts (x:Operand)
 | apps (e:Nat) (x y:Operand)
 | toU (x:Operand)
 | frU (u n:Nat) (x:Operand)
 | sdata (x:Operand)
 | ustr (e:Nat) (x y:Operand)
 | pcl (g:Nat) (args:List Operand)
 | mkif (t:Nat) (x:Operand)
 | asr (t:Nat) (z:Value) (x:Operand)
 | pan (x:Operand)
 | bad
structure PI where
 dst:Option Nat
 op:gw
 gd:Option (Nat × Bool)
inductive aR where
 | skip
 | reg (l:List PI)
 | draw (l:List (PI × List Nat × List Nat))
 | seq (a b:aR)
 | cond (c:Operand) (a b:aR)
 | block (id:Nat) (b:aR)
 | loop (b:aR)
 | exit (id:Nat)
 | ret
 | bad
def ig (v:Value):PV:=match v with
 | .agg cs=>.agg (cs.toList.map .sc)
 | .func (.func g) _ _=>.fn g [] []
 | v=>.sc v
def aA (f:aE) (x:Operand):PV:=match x with
 | .tmp t=>f t
 | .const v=>ig v
 | .func g=>.fn g [] []
 | .global _=>.sc undef
def cI (p:PV):List PV:=match p with
 | .agg cs=>cs
 | p=>[p]
noncomputable def eQ (p:PV):Bool:=match p with
 | .sc v=>nF v
 | .agg _ | .tup _=>false
 | _=>true
def dQ (p:PV):Bool:=match p with
 | .sc _ | .lit .. | .litp .. | .litx ..=>true
 | .fn _ a b=>a.isEmpty && b.isEmpty
 | _=>false
def iu (p:PV):Option Nat:=match p with
 | .sc (.int _ z)=>if 0≤z then some z.toNat else none
 | _=>none
def ur (s:PS) (p:PV) (sz:Nat):Option (List PV):=match p with
 | .ptr k off fin=>if off + sz≤fin∧(s.h k).low≤fin∧fin≤(s.h k).cells.length then some (((s.h k).cells.drop off).take sz) else none
 | .litp cs=>if sz≤cs.length then some (cs.take sz) else none
 | _=>none
def ad (ag:Bool) (cs:List PV):Option PV:=if ag then some (.agg cs) else match cs with
 | [p]=>some p
 | _=>none
noncomputable def Ma (s:PS) (p:PV) (ys:List PV):Option PS:=match p with
 | .ptr k off fin=>if off + ys.length≤fin∧fin=(s.h k).cells.length∧ys.all eQ=true then
   some (s.put k ⟨(s.h k).cells.take off ++ (ys ++ (s.h k).cells.drop (off + ys.length)),fin,(s.h k).e⟩) else none
 | _=>none
def dP (v:Value):Bool:=match v with
 | .int _ _ | .string _ | .bool _=>true
 | _=>false
def Ly:List PV→Option (List Value)
 | []=>some []
 | .sc v :: l=>if dP v then (Ly l).map (v :: ·) else none
 | _=>none
noncomputable def MX (P:Program) (op:BinOp) (t:Nat) (x y:Operand) (a b:Value):Option Value:=
 cF P (do eqGuard op t x y a b; binOp op t a b:Sem Value)
noncomputable def gP (P:Program) (op:BinOp) (t:Nat) (x y:Operand) (a b:PV):Option PV:=match a,b with
 | .sc v,.sc w=>if dP v && dP w then (match MX P op t x y v w with
  | some u=>if dP u then some (.sc u) else none
  | none=>none) else none
 | .agg cs,.agg ds=>match Ly cs,Ly ds with
  | some v,some w=>match MX P op t x y (.agg v.toArray) (.agg w.toArray) with
   | some u=>if dP u then some (.sc u) else none
   | none=>none
  | _,_=>none
 | _,_=>none
noncomputable def Ul (P:Program) (op:UnOp) (a:PV):Option PV:=match a with
 | .sc v=>if dP v then (match cF P (Op.unary op v) with
  | some u=>if dP u then some (.sc u) else none
  | none=>none) else none
 | _=>none
def oC (str:Bool) (p:PV):Option PV:=match str,p with
 | false,.sc (.slice none 0 0)=>some (.sc (.int .i64 0))
 | true,.sc (.string s)=>some (.sc (.int .i64 (s.data.toList.length:Int)))
 | false,.lit _ n _=>some (.sc (.int .i64 (n:Int)))
 | false,.litx _ n _=>some (.sc (.int .i64 (n:Int)))
 | false,.own _ _ n _=>some (.sc (.int .i64 (n:Int)))
 | false,.ownx _ _ n _=>some (.sc (.int .i64 (n:Int)))
 | _,_=>none
def eM (s:PS) (es:Nat) (p:PV):Option (List PV × Nat):=match p with
 | .sc (.slice none 0 0)=>some ([],0)
 | .lit _ n cs=>if cs.length=n * es then some (cs,n) else none
 | .own k off n fin=>if off + n * es=fin∧(s.h k).low≤fin∧fin≤(s.h k).cells.length then some (((s.h k).cells.drop off).take (n * es),n) else none
 | _=>none
def y0 (es bytes len n:Nat) (xs:List PV):Prop:=es≠0∧xs.length=n * es∧(len + n) * bytes≤140737488355328∧len + n≤1073741824∧xs.all eQ=true
noncomputable instance (es bytes len n:Nat) (xs:List PV):Decidable (y0 es bytes len n xs):=by unfold y0; infer_instance
def Tv (x:PV):Bool:=match x with
 | .sc (.slice none 0 0) | .lit .. | .own .. | .litx .. | .ownx ..=>true
 | _=>false
noncomputable def fo (s:PS) (e es bytes:Nat) (x:PV) (ys:List PV) (n:Nat):Option (PV × PS):=
 if n=0 then (if Tv x then some (x,s) else none) else
 match x with
 | .sc (.slice none 0 0)=>if y0 es bytes 0 n ys then some (.own s.n 0 n ys.length,s.new ⟨ys,0,e⟩) else none
 | .own k off m fin=>if y0 es bytes m n ys∧off + m * es=fin∧fin=(s.h k).cells.length∧(s.h k).low≤fin∧off=0∧(s.h k).e=e then
   some (.own k off (m + n) (fin + ys.length),s.put k ⟨(s.h k).cells ++ ys,(s.h k).low,e⟩) else none
 | .litx _ m cs=>if y0 es bytes m n ys∧cs.length=m * es then some (.own s.n 0 (m + n) (cs ++ ys).length,s.new ⟨cs ++ ys,0,e⟩) else none
 | _=>none
def nV (f:aE) (x:Option Operand) (d:Nat):Option Nat:=match x with
 | none=>some d
 | some x=>iu (aA f x)
def Hw (s:PS) (e es:Nat) (p:PV) (l h:Nat):Option PV:=match p with
 | .lit e' n cs=>if l≤h∧h≤n∧cs.length=n * es∧e'=e then some (.lit e (h - l) ((cs.drop (l * es)).take ((h - l) * es))) else none
 | .own k off n fin=>if l≤h∧h≤n∧off + n * es=fin∧(s.h k).low≤fin∧(s.h k).e=e then some (.own k (off + l * es) (h - l) (off + h * es)) else none
 | _=>none
def tX (p:PV) (l h:Nat):Option PV:=match p with
 | .sc (.string s)=>if l≤h∧h≤s.data.toList.length then some (.sc (.string ⟨⟨(s.data.toList.drop l).take (h - l)⟩⟩)) else none
 | _=>none
def sO (p:PV):Nat:=match p with
 | .lit _ n _=>n
 | .own _ _ n _=>n
 | .sc (.string s)=>s.data.toList.length
 | _=>0
def aD (f:aE) (z:List PV):List (Nat × Nat × Operand)→Option (List PV)
 | []=>some z
 | (off,sz,x) :: l=>if (cI (aA f x)).length=sz∧off + sz≤z.length then aD f (z.take off ++ (cI (aA f x) ++ z.drop (off + sz))) l else none
def yk (k:IntKind) (p:PV):Option PV:=match p with
 | .sc (.int _ z)=>some (.sc (.int k (k.wrap z)))
 | _=>none
def ep (p:PV):Option Bool:=match p with
 | .sc (.bool b)=>some b
 | _=>none
def za (mx:Bool) (a b:Int):Int:=if mx then (if b > a then b else a) else (if b < a then b else a)
def BV (z:List Value) (es n:Nat):List PV:=(List.range (n * es)).map fun k=>.sc (z.getD (k % es) undef)
def fC:List PV→Option (List UInt8)
 | []=>some []
 | .sc (.int .u8 n) :: l=>(fC l).map (UInt8.ofNat n.toNat :: ·)
 | _=>none
def eN (l:List UInt8):List PV:=l.map fun c=>.sc (.int .u8 (c.toNat:Int))
noncomputable def G1 (P:Program) (g:Nat) (vs:List PV):Option PV:=match Ly vs with
 | some l=>match cF P (callFunc g l.toArray) with
  | some (.value u)=>if dP u then some (.sc u) else none
  | _=>none
 | none=>none
def TG (t:Nat) (p:PV):Option Value:=match p with
 | .sc v=>if dP v then some (.iface t v) else none
 | .agg cs=>(Ly cs).map fun vs=>.iface t (.agg vs.toArray)
 | _=>none
def WO (v:Value):Bool:=match v with
 | .agg cs=>cs.toList.all dP
 | v=>dP v
def Je (t:Nat) (z:Value) (p:PV):Option PV:=match p with
 | .sc (.iface t' v)=>if WO v then some (.tup [if t'=t then ig v else ig z,.sc (.bool (t' == t))]) else none
 | _=>none
def zM (s:PS) (x y:PV):Option Bool:=match x,y with
 | .ptr _ _ _,.sc (.pointer none)=>some false
 | .ptr k o fin,.ptr k' o' fin'=>if k=k'∧fin=(s.h k).cells.length∧fin'=fin then some (o == o') else none
 | .sc (.pointer none),.sc (.pointer none)=>some true
 | _,_=>none
def E0 (x:PV):Option Bool:=match x with
 | .sc (.iface _ _)=>some false
 | .sc .nilIface=>some true
 | _=>none
noncomputable def oQ (s:PS) (e:Nat) (x y:PV):Option (PV × PS):=match x,y with
 | .ptr k o fin,.sc (.int .i64 z)=>if (s.h k).low≤fin∧fin≤(s.h k).cells.length∧0 < z∧o + z.toNat≤fin∧z.toNat≤1073741824∧(s.h k).e=e then
   (fC (((s.h k).cells.drop o).take z.toNat)).map fun l=>(.sc (.string ⟨⟨l⟩⟩),s.put k ⟨(s.h k).cells ++ [.sc undef],(s.h k).cells.length + 2,e⟩) else none
 | .sc (.pointer none),.sc (.int .i64 0)=>some (.sc (.string ⟨#[]⟩),s)
 | _,_=>none
def Jq (s:PS) (p:PV):Option PV:=match p with
 | .ptr k o fin=>if (s.h k).low≤fin∧o < fin∧fin≤(s.h k).cells.length then some (.ptr k o fin) else none
 | _=>none
noncomputable def JA (P:Program) (s:PS) (u n:Nat) (p:PV):Option PV:=match p with
 | .ptr k o fin=>if (s.h k).low≤fin∧o < fin∧fin=(s.h k).cells.length∧pE P (s.h k).e u o n fin=true then some (.ptr k o fin) else none
 | _=>none
def pM (p:PV):Option PV:=match p with
 | .own k off (_ + 1) fin=>some (.ptr k off fin)
 | .sc (.slice none 0 0)=>some (.sc (.pointer none))
 | _=>none
noncomputable def bS (P:Program) (f:aE) (s:PS) (o:gw):Option (PV × PS):=match o with
 | .mv x=>some (aA f x,s)
 | .pick c a b=>match ep (aA f c) with
  | some true=>some (aA f a,s)
  | some false=>some (aA f b,s)
  | none=>none
 | .alloc e z=>some (.ptr s.n 0 (cI (ig z)).length,s.new ⟨cI (ig z),0,e⟩)
 | .box e x=>some (.ptr s.n 0 (cI (aA f x)).length,s.new ⟨cI (aA f x),0,e⟩)
 | .build z ps=>(aD f (z.map .sc) ps).map fun cs=>(.agg cs,s)
 | .bslice e n z ps=>(aD f (z.map .sc) ps).map fun cs=>(.own s.n 0 n cs.length,s.new ⟨cs,0,e⟩)
 | .load _ ag sz x=>(ur s (aA f x) sz).bind fun cs=>(ad ag cs).map fun v=>(v,s)
 | .store _ sz x y=>if (cI (aA f y)).length=sz then (Ma s (aA f x) (cI (aA f y))).map fun s=>(.sc undef,s) else none
 | .faddr off x=>match aA f x with
  | .ptr k o fin=>some (.ptr k (o + off) fin,s)
  | .litp cs=>if off≤cs.length then some (.litp (cs.drop off),s) else none
  | _=>none
 | .fld ag off sz x=>match aA f x with
  | .agg cs=>if off + sz≤cs.length then (ad ag ((cs.drop off).take sz)).map fun v=>(v,s) else none
  | _=>none
 | .iaddr es x i=>match aA f x,iu (aA f i) with
  | .own k off n fin,some j=>if j < n∧off + n * es=fin then some (.ptr k (off + j * es) fin,s) else none
  | .lit _ n cs,some j=>if j < n∧cs.length=n * es then some (.litp (cs.drop (j * es)),s) else none
  | .litx _ n cs,some j=>if j < n∧cs.length=n * es then some (.litp (cs.drop (j * es)),s) else none
  | .ownx k off n fin,some j=>if j < n∧off + n * es=fin then some (.ptr k (off + j * es) fin,s) else none
  | _,_=>none
 | .sidx x i=>match aA f x,iu (aA f i) with
  | .sc (.string b),some j=>if j < b.data.toList.length then some (.sc (.int .u8 ((b.data.toList.getD j 0).toNat:Int)),s) else none
  | _,_=>none
 | .bin op t x y=>(gP P op t x y (aA f x) (aA f y)).map fun v=>(v,s)
 | .un op x=>(Ul P op (aA f x)).map fun v=>(v,s)
 | .len str x=>(oC str (aA f x)).map fun v=>(v,s)
 | .app e es bytes x y=>(eM s es (aA f y)).bind fun q=>fo s e es bytes (aA f x) q.1 q.2
 | .slc e es x lo hi=>match nV f lo 0,nV f hi (sO (aA f x)) with
  | some l,some h=>(Hw s e es (aA f x) l h).map fun v=>(v,s)
  | _,_=>none
 | .slc3 e es x hi mx=>match aA f x,iu (aA f hi),iu (aA f mx) with
  | .lit e' n cs,some h,some m=>if h=m∧h≤n∧cs.length=n * es∧e'=e then some (.litx e h (cs.take (h * es)),s) else none
  | .sc (.slice none 0 0),some 0,some 0=>some (.sc (.slice none 0 0),s)
  | .own k off n fin,some h,some m=>if h=m∧h≤n∧off + n * es=fin∧(s.h k).low≤fin∧(s.h k).e=e then some (.ownx k off h (off + h * es),s) else none
  | _,_,_=>none
 | .sslc x lo hi=>match nV f lo 0,nV f hi (sO (aA f x)) with
  | some l,some h=>(tX (aA f x) l h).map fun v=>(v,s)
  | _,_=>none
 | .mkfn g a b=>some (.fn g (a.map (aA f)) (b.map (aA f)),s)
 | .ext x i=>match aA f x with
  | .tup vs=>(vs[i]?).map fun v=>(v,s)
  | _=>none
 | .conv k x=>(yk k (aA f x)).map fun v=>(v,s)
 | .call _ _=>none
 | .mnx mx x y=>match aA f x,aA f y with
  | .sc (.int k a),.sc (.int _ b)=>some (.sc (.int k (za mx a b)),s)
  | _,_=>none
 | .nck x=>match aA f x with
  | .ptr k o fin=>some (.ptr k o fin,s)
  | .litp cs=>some (.litp cs,s)
  | _=>none
 | .mks e es by' z l c=>match iu (aA f l),iu (aA f c) with
  | some l,some c=>if l=c∧by' * l≤281474976710656∧l≤1073741824 then some (.own s.n 0 l (BV z es l).length,s.new ⟨BV z es l,0,e⟩) else none
  | _,_=>none
 | .cpy es x y=>(eM s es (aA f y)).bind fun q=>match aA f x with
  | .own k off m fin=>if q.2=0 then some (.sc (.int .i64 0),s) else if q.2≤m∧q.1.length=q.2 * es then (Ma s (.ptr k off fin) q.1).map fun s=>(.sc (.int .i64 (q.2:Int)),s) else none
  | .sc (.slice none 0 0)=>if q.2=0 then some (.sc (.int .i64 0),s) else none
  | _=>none
 | .peq ne _ x y=>(zM s (aA f x) (aA f y)).map fun b=>(.sc (.bool (b != ne)),s)
 | .inq ne _ x=>(E0 (aA f x)).map fun b=>(.sc (.bool (b != ne)),s)
 | .bts x=>(eM s 1 (aA f x)).bind fun q=>(fC q.1).map fun l=>(.sc (.string ⟨⟨l⟩⟩),s)
 | .apps e x y=>match aA f y with
  | .sc (.string b)=>fo s e 1 1 (aA f x) (eN b.data.toList) b.data.toList.length
  | _=>none
 | .toU x=>(Jq s (aA f x)).map fun v=>(v,s)
 | .frU u n x=>(JA P s u n (aA f x)).map fun v=>(v,s)
 | .sdata x=>(pM (aA f x)).map fun v=>(v,s)
 | .ustr e x y=>oQ s e (aA f x) (aA f y)
 | .pcl g args=>(G1 P g (args.map (aA f))).map fun v=>(v,s)
 | .mkif t x=>(TG t (aA f x)).map fun v=>(.sc v,s)
 | .asr t z x=>(Je t z (aA f x)).map fun v=>(v,s)
 | .pan _=>none
 | .bad=>none
def aZ (p:PV):gy:=match p with
 | .ptr k _ _=>⟨[k],[],false,false⟩
 | .own k _ _ _=>⟨[k],[],false,false⟩
 | .litp _=>⟨[],[],true,false⟩
 | .lit ..=>⟨[],[],true,false⟩
 | .litx ..=>⟨[],[],true,false⟩
 | _=>⟨[],[],false,false⟩
def aW (f:aE) (o:gw):gy:=match o with
 | .load _ _ _ x=>aZ (aA f x)
 | .store _ _ x _=>match aA f x with
  | .ptr k _ _=>⟨[k],[k],false,false⟩
  | _=>⟨[],[],false,false⟩
 | .slc _ _ x _ _=>aZ (aA f x)
 | .slc3 _ _ x _ _=>aZ (aA f x)
 | .app _ _ _ x y=>match aA f x with
  | .own k _ _ _=>⟨k :: (aZ (aA f y)).rd,[k],(aZ (aA f y)).li,false⟩
  | .litx ..=>⟨(aZ (aA f y)).rd,[],true,false⟩
  | _=>aZ (aA f y)
 | .call _ _=>⟨[],[],false,true⟩
 | .cpy _ x y=>match aA f x with
  | .own k _ _ _=>⟨k :: (aZ (aA f y)).rd,[k],(aZ (aA f y)).li,false⟩
  | _=>aZ (aA f y)
 | .bts x=>aZ (aA f x)
 | .apps _ x _=>match aA f x with
  | .own k _ _ _=>⟨[k],[k],false,false⟩
  | .litx ..=>⟨[],[],true,false⟩
  | _=>⟨[],[],false,false⟩
 | .toU x=>aZ (aA f x)
 | .frU _ _ x=>aZ (aA f x)
 | .ustr _ x _=>match aA f x with
  | .ptr k _ _=>⟨[k],[k],false,false⟩
  | _=>⟨[],[],false,false⟩
 | _=>⟨[],[],false,false⟩
noncomputable def cE (x:Operand):Bool:=match x with
 | .tmp _=>true
 | .const (.agg cs)=>plain 50 (.agg cs) && cs.toList.all wQ
 | .const (.func (.func _) a b)=>a.toList.isEmpty && b.toList.isEmpty
 | .const v=>plain 50 v
 | .func _=>true
 | .global _=>false
noncomputable def CL (z:Value):Bool:=match z with
 | .agg cs=>cs.toList.all wQ
 | .func _ _ _=>false
 | v=>wQ v
noncomputable def mg (g:Nat→Option (Nat × Nat)):List (Nat × Operand)→Option (List (Nat × Nat × Operand))
 | []=>some []
 | (i,x) :: l=>match g i,cE x,mg g l with
  | some (off,sz),true,some r=>some ((off,sz,x) :: r)
  | _,_,_=>none
noncomputable def ww (x:Option Operand):Bool:=match x with
 | none=>true
 | some x=>cE x
noncomputable def gd (b:Bool) (o:gw):Option gw:=if b then some o else none
noncomputable def Av (i:TypeInfo) (z:Value):Bool:=Nat.beq z.cells.size i.size && (Nat.beq i.size 1 && Nat.beq i.bytes 1)
noncomputable def Gr (P:Program) (x:Operand):Option Bool:=match x with
 | .func g=>match P.funcs[g]? with
  | some fn=>match fn.body with
   | some _=>none
   | none=>some (fn.name == "internal/abi.NoEscape")
  | none=>none
 | _=>none
noncomputable def iy (x:Operand) (ne:Bool) (args:List Operand):Option gw:=match ne,x,args with
 | true,_,[a]=>gd (cE a) (.mv a)
 | false,.func g,args=>gd (args.all cE) (.pcl g args)
 | _,_,_=>none
def AO (o:BinOp):Option Bool:=match o with
 | .eql=>some false
 | .neq=>some true
 | _=>none
noncomputable def jv (P:Program) (b:Builtin) (args:List Operand) (tys:List TypeId):Option gw:=match b,args,tys with
 | .len,[x],[t]=>match P.underlying t with
  | some (.slice _)=>gd (cE x) (.len false x)
  | some .string=>gd (cE x) (.len true x)
  | _=>none
 | .append,[x,y],[t,u]=>match P.underlying t,P.underlying u with
  | some (.slice e),some (.slice _)=>match P.info? e with
   | some i=>match i.zero with
    | some z=>gd (cE x && cE y && Nat.beq z.cells.size i.size) (.app e i.size i.bytes x y)
    | none=>none
   | none=>none
  | some (.slice e),some .string=>match P.info? e with
   | some i=>match i.zero with
    | some z=>gd (cE x && cE y && Av i z) (.apps e x y)
    | none=>none
   | none=>none
  | _,_=>none
 | .unsafeSliceData,[x],_=>gd (cE x) (.sdata x)
 | .unsafeString,[x,y],[t,_]=>match P.underlying t with
  | some (.pointer e)=>match bP P e with
   | some 1=>gd (cE x && cE y) (.ustr e x y)
   | _=>none
  | _=>none
 | .max,[x,y],_=>gd (cE x && cE y) (.mnx true x y)
 | .min,[x,y],_=>gd (cE x && cE y) (.mnx false x y)
 | .copy,[x,y],[t,u]=>match P.underlying t,P.underlying u with
  | some (.slice e),some (.slice _)=>match bP P e with
   | some n=>gd (cE x && cE y) (.cpy n x y)
   | none=>none
  | _,_=>none
 | _,_,_=>none
noncomputable def bJ (P:Program) (o:Op):Option gw:=match o with
 | .move x=>gd (cE x) (.mv x)
 | .assign x=>gd (cE x) (.mv x)
 | .pick c a b=>gd (cE c && cE a && cE b) (.pick c a b)
 | .alloc e=>match dR P e with
  | some z=>gd (CL z) (.alloc e z)
  | none=>none
 | .box e x=>gd (cE x) (.box e x)
 | .build t ps=>match dR P t,P.underlying t with
  | some z,some (.struct fs)=>match mg (fun i=>(fs[i]?).bind fun fl=>(bP P fl.type).map fun n=>(fl.offset,n)) ps.toList with
   | some l=>gd (Nat.ble (Nat.succ t) P.types.size && CL z) (.build z.cells.toList l)
   | none=>none
  | _,_=>none
 | .buildSlice t len ps=>match P.underlying t with
  | some (.slice e)=>match dR P e,bP P e with
   | some z,some n=>match mg (fun i=>some (i * n,n)) ps.toList with
    | some l=>gd (Nat.ble (Nat.mul len n) 1048576 && Nat.beq z.cells.toList.length n && CL z) (.bslice e len (List.replicate len z.cells.toList).flatten l)
    | none=>none
   | _,_=>none
  | _=>none
 | .load t a=>match P.underlying t with
  | some d=>if jI (some d) then (match bP P t with
   | some n=>gd (cE a) (.load t true n a)
   | none=>none) else gd (cE a) (.load t false 1 a)
  | none=>none
 | .store t a x=>match bP P t with
  | some n=>gd (cE a && cE x) (.store t n a x)
  | none=>none
 | .fieldAddr t x i=>match gh P t with
  | some fs=>match fs[i]? with
   | some fl=>match bP P fl.type with
    | some (_ + 1)=>gd (cE x) (.faddr fl.offset x)
    | _=>none
   | none=>none
  | none=>none
 | .field t x i=>match gh P t with
  | some fs=>match fs[i]? with
   | some fl=>match P.underlying fl.type with
    | some d=>if jI (some d) then (match bP P fl.type with
     | some n=>gd (cE x) (.fld true fl.offset n x)
     | none=>none) else gd (cE x) (.fld false fl.offset 1 x)
    | none=>none
   | none=>none
  | none=>none
 | .indexAddr t x i=>match P.underlying t with
  | some (.slice e)=>match bP P e with
   | some n=>gd (cE x && cE i) (.iaddr n x i)
   | none=>none
  | _=>none
 | .index t x i=>match P.underlying t with
  | some .string=>gd (cE x && cE i) (.sidx x i)
  | _=>none
 | .binOp op t x y _=>match P.underlying t with
  | some (.pointer e)=>match AO op,bP P e with
   | some ne,some (_ + 1)=>gd (cE x && cE y) (.peq ne t x y)
   | _,_=>none
  | some (.interface _)=>match AO op,y with
   | some ne,.const .nilIface=>gd (cE x) (.inq ne t x)
   | _,_=>none
  | _=>gd (cE x && cE y) (.bin op t x y)
 | .unOp op _ x=>gd (cE x) (.un op x)
 | .convert a b x=>match P.underlying a,P.underlying b with
  | some (.int _),some (.int k)=>gd (cE x) (.conv k x)
  | some (.slice e),some .string=>match P.underlying e,bP P e with
   | some (.int .u8),some 1=>gd (cE x) (.bts x)
   | _,_=>none
  | some (.pointer t),some .unsafePointer=>match bP P t with
   | some (_ + 1)=>gd (cE x) (.toU x)
   | _=>none
  | some .unsafePointer,some (.pointer u)=>match bP P u with
   | some (n + 1)=>gd (cE x) (.frU u n x)
   | _=>none
  | _,_=>none
 | .slice t x lo hi none=>match P.underlying t with
  | some (.slice e)=>match bP P e with
   | some n=>gd (cE x && ww lo && ww hi) (.slc e n x lo hi)
   | none=>none
  | some .string=>gd (cE x && ww lo && ww hi) (.sslc x lo hi)
  | _=>none
 | .slice t x none (some hi) (some mx)=>match P.underlying t with
  | some (.slice e)=>match bP P e with
   | some n=>gd (cE x && (cE hi && cE mx)) (.slc3 e n x hi mx)
   | none=>none
  | _=>none
 | .nilCheck x=>gd (cE x) (.nck x)
 | .makeSlice t l c=>match P.underlying t with
  | some (.slice e)=>match P.info? e with
   | some i=>match i.zero with
    | some z=>gd (cE l && (cE c && (CL z && (plain 50 z && Nat.beq z.cells.toList.length i.size)))) (.mks e i.size i.bytes z.cells.toList l c)
    | none=>none
   | none=>none
  | _=>none
 | .makeFunc (.func g) a b=>gd (a.toList.all cE && b.toList.all cE) (.mkfn g a.toList b.toList)
 | .extract t i=>gd (cE t) (.ext t i)
 | .call c=>match c.callee with
  | .value x=>match Gr P x with
   | none=>gd (cE x && c.args.toList.all cE) (.call x c.args.toList)
   | some ne=>iy x ne c.args.toList
  | .builtin b=>jv P b c.args.toList c.argTypes.toList
  | .invoke ..=>none
 | .makeInterface t x=>match P.underlying t with
  | some (.interface _)=>none
  | some _=>gd (cE x) (.mkif t x)
  | none=>none
 | .typeAssert x _ a true=>match P.underlying a,dR P a with
  | some (.interface _),_=>none
  | some _,some z=>gd (cE x && CL z) (.asr a z x)
  | _,_=>none
 | .panic x=>gd (cE x) (.pan x)
 | _=>none
noncomputable def xb (ops:List Oper) (g:Option (Nat × Bool)):Option (Option (Nat × Bool)):=match g with
 | none=>some none
 | some (j,want)=>match (ops[j]?).bind (·.dst) with
  | some d=>some (some (d,want))
  | none=>none
noncomputable def Gq (nt:Nat) (d:Option Nat):Bool:=match d with
 | none=>true
 | some d=>Nat.ble (Nat.succ d) nt
noncomputable def jb (P:Program) (nt:Nat) (ops:List Oper) (o:Oper):Option PI:=match xb ops o.guard with
 | some g=>if Gq nt o.dst then some ⟨o.dst,(bJ P o.op).getD .bad,g⟩ else none
 | none=>none
noncomputable def dU (P:Program) (nt:Nat) (ops:List Oper):List Oper→Option (List PI)
 | []=>some []
 | o :: l=>match jb P nt ops o,dU P nt ops l with
  | some i,some r=>some (i :: r)
  | _,_=>none
noncomputable def rL (ls:List Nat) (d:Option Nat) (p:Nat × List Nat × Option Nat):Bool:=
 p.2.2.toList.all (fun t=>!(ls.contains t) && !(d.toList.contains t)) && d.toList.all (fun t=>!(p.2.1.contains t))
noncomputable def dS (nt:Nat) (ops:Array Oper):List Oper→Nat→Tr Nat→List (Nat × List Nat × Option Nat)→Option (List (List Nat × List Nat))
 | [],_,_,_=>some []
 | o :: l,j,bs,acc=>
  if fy j o.after.toList && (Nat.ble (Nat.succ j) 100000 && (lz (o.looksAt ops) && ((o.looksAt ops).all (fun t=>Nat.ble (Nat.succ t) nt) && (acc.filter fun p=>!((du bs o.after.toList).testBit p.1)).all (rL (o.looksAt ops) o.dst)))) then
   match dS nt ops l (j + 1) (Tr.set (du bs o.after.toList) 40 bs j) ((j,o.looksAt ops,o.dst) :: acc) with
   | some r=>some ((o.looksAt ops,(acc.filter fun p=>!((du bs o.after.toList).testBit p.1)).map (·.1)) :: r)
   | none=>none
  else none
def lR:List PI→List (List Nat × List Nat)→List (PI × List Nat × List Nat)
 | i :: l,x :: r=>(i,x.1,x.2) :: lR l r
 | _,_=>[]
noncomputable def comp (P:Program) (nt:Nat):Code→Option aR
 | .skip=>some .skip
 | .region _ ops false=>(dU P nt ops.toList ops.toList).map .reg
 | .region _ ops true=>match dU P nt ops.toList ops.toList,dS nt ops ops.toList 0 .nil [] with
  | some l,some r=>some (.draw (lR l r))
  | _,_=>none
 | .seq a b=>match comp P nt a,comp P nt b with
  | some a,some b=>some (.seq a b)
  | _,_=>none
 | .cond c a b=>match cE c,comp P nt a,comp P nt b with
  | true,some a,some b=>some (.cond c a b)
  | _,_,_=>none
 | .block id b=>(comp P nt b).map (.block id)
 | .loop b=>(comp P nt b).map .loop
 | .exit id=>some (.exit id)
 | .ret=>some .ret
 | _=>some .bad
inductive kR where
 | tmp (t:Nat)
 | cell (a:Nat) (ag:Bool) (sz:Nat)
noncomputable def nS (P:Program) (r:ResultVar):Option kR:=match r with
 | .tmp t=>some (.tmp t)
 | .cell a t=>match P.underlying t with
  | some d=>if jI (some d) then (match bP P t with
   | some n=>some (.cell a true n)
   | none=>none) else some (.cell a false 1)
  | none=>none
structure fe where
 nt:Nat
 body:aR
 res:List kR
 keep:Bool
noncomputable def qV (P:Program) (fn:Func) (keep:Bool):Option fe:=match fn.body with
 | some c=>match comp P fn.ntmps c,fn.results.toList.mapM (nS P) with
  | some b,some r=>if Nat.ble fn.ntmps 1000000 then some ⟨fn.ntmps,b,r,keep⟩ else none
  | _,_=>none
 | none=>none
inductive E9 where
 | normal | exit (id:Nat) | ret
abbrev aw:=Nat→List PV→PS→Option (PV × PS)
def eb (f:aE) (g:Option (Nat × Bool)):Option Bool:=match g with
 | none=>some true
 | some (d,want)=>match f d with
  | .sc (.bool b)=>some (b == want)
  | .sc (.tuple _)=>some false
  | _=>none
def sZ (call:aw) (f:aE) (s:PS) (x:Operand) (args:List Operand):Option (PV × PS):=match aA f x with
 | .fn g first cap=>call g (first ++ (args.map (aA f) ++ cap)) s
 | _=>none
noncomputable def zi (P:Program) (call:aw) (f:aE) (s:PS) (o:gw):Option (PV × PS):=match o with
 | .call x args=>sZ call f s x args
 | o=>bS P f s o
noncomputable def dZ (P:Program) (call:aw) (i:PI) (f:aE) (s:PS):Option (aE × PS):=match eb f i.gd with
 | some true=>(zi P call f s i.op).map fun q=>(gD f i.dst q.1,q.2)
 | some false=>some (gD f i.dst (.sc undef),s)
 | none=>none
noncomputable def lS (P:Program) (call:aw):List PI→aE→PS→Option (aE × PS)
 | [],f,s=>some (f,s)
 | i :: l,f,s=>(dZ P call i f s).bind fun q=>lS P call l q.1 q.2
def cR (ls:List Nat) (f:aE):aE:=fun t=>if t∈ls then f t else .sc undef
def I4 (f:aE) (d:Option Nat) (g:aE):aE:=match d with
 | some d=>aE.set f d (g d)
 | none=>f
def mV (f:aE) (i:PI):gy:=match eb f i.gd with
 | some true=>aW f i.op
 | _=>⟨[],[],false,false⟩
def aS (pu:Nat→Bool) (f:aE) (i:PI):Bool:=match i.op with
 | .call x _=>match aA f x with
  | .fn g _ _=>pu g
  | _=>true
 | _=>true
def az (E:gy) (a b:Nat) (F:gy):Prop:=
 (∀k∈E.wr,k ∉ F.rd∧k ∉ F.wr)∧(∀k∈F.rd,k < a∨b≤k)∧(∀k∈F.wr,k < a∨b≤k)∧¬ (E.ca=true∧F.li=true)∧(∀k∈F.wr,k ∉ E.rd)∧(F.ca=true→E.wr=[]∧a=b∧E.ca=false)∧(E.ca=true→∀k∈F.wr,b≤k)
instance (E:gy) (a b:Nat) (F:gy):Decidable (az E a b F):=by unfold az; infer_instance
def aG (un:List Nat) (F:gy) (acc:List (Nat × gy × Nat × Nat)):Prop:=∀e∈acc,e.1∈un→az e.2.1 e.2.2.1 e.2.2.2 F
instance (un:List Nat) (F:gy) (acc:List (Nat × gy × Nat × Nat)):Decidable (aG un F acc):=by unfold aG; infer_instance
def mX (un:List Nat) (j:Nat) (l:List (PI × List Nat × List Nat)):Bool:=un.isEmpty && l.all fun x=>!(x.2.2.contains j)
noncomputable def j4 (P:Program) (pu:Nat→Bool) (call:aw):List (PI × List Nat × List Nat)→Nat→List (Nat × gy × Nat × Nat)→aE→PS→Option (aE × PS)
 | [],_,_,f,s=>some (f,s)
 | (i,ls,un) :: l,j,acc,f,s=>(dZ P call i (cR ls f) s).bind fun q=>
   if (aS pu (cR ls f) i=true∨mX un j l=true)∧aG un (mV (cR ls f) i) acc then j4 P pu call l (j + 1) ((j,mV (cR ls f) i,s.n,q.2.n) :: acc) (I4 f i.dst q.1) q.2 else none
abbrev ua:=Option (E9 × aE × PS)
def pP (r:ua) (k:aE→PS→ua):ua:=r.bind fun q=>match q.1 with
 | .normal=>k q.2.1 q.2.2
 | x=>some (x,q.2.1,q.2.2)
def sH (id:Nat) (r:ua):ua:=r.map fun q=>match q.1 with
 | .exit i=>if i=id then (.normal,q.2.1,q.2.2) else (.exit i,q.2.1,q.2.2)
 | x=>(x,q.2.1,q.2.2)
def tN (b:Option Bool) (x y:ua):ua:=match b with
 | some true=>x
 | some false=>y
 | none=>none
def pB (body:aE→PS→ua):Nat→aE→PS→ua
 | 0,_,_=>none
 | n + 1,f,s=>pP (body f s) (pB body n)
noncomputable def cx (P:Program) (pu:Nat→Bool) (call:aw) (L:Nat):aR→aE→PS→ua
 | .skip,f,s=>some (.normal,f,s)
 | .reg l,f,s=>(lS P call l f s).map fun q=>(.normal,q.1,q.2)
 | .draw l,f,s=>(j4 P pu call l 0 [] f s).map fun q=>(.normal,q.1,q.2)
 | .seq a b,f,s=>pP (cx P pu call L a f s) (cx P pu call L b)
 | .cond c a b,f,s=>tN (ep (aA f c)) (cx P pu call L a f s) (cx P pu call L b f s)
 | .block id b,f,s=>sH id (cx P pu call L b f s)
 | .loop b,f,s=>pB (cx P pu call L b) L f s
 | .exit id,f,s=>some (.exit id,f,s)
 | .ret,f,s=>some (.ret,f,s)
 | .bad,_,_=>none
def gj (f:aE) (s:PS):List kR→Option (List PV)
 | []=>some []
 | .tmp t :: l=>(gj f s l).map fun vs=>f t :: vs
 | .cell a ag sz :: l=>(ur s (f a) sz).bind fun cs=>(ad ag cs).bind fun v=>(gj f s l).map fun vs=>v :: vs
def ae (vs:List PV):PV:=match vs with
 | [v]=>v
 | vs=>.tup vs
def aP (n:Nat) (s:PS) (p:PV):Option PV:=match p with
 | .own k off m fin=>if k < n then some (.own k off m fin) else
   if (s.h k).low≤fin∧fin≤(s.h k).cells.length∧off≤fin∧(((s.h k).cells.drop off).take (fin - off)).all dQ=true then some (.lit (s.h k).e m (((s.h k).cells.drop off).take (fin - off))) else none
 | .ptr k off fin=>if k < n then some (.ptr k off fin) else none
 | .ownx k off m fin=>if k < n then some (.ownx k off m fin) else none
 | .fn g [] []=>some (.fn g [] [])
 | .sc v=>some (.sc v)
 | .lit e m cs=>some (.lit e m cs)
 | .litx e m cs=>some (.litx e m cs)
 | .litp cs=>some (.litp cs)
 | _=>none
def oN (n:Nat) (s:PS):List PV→Option (List PV)
 | []=>some []
 | p :: l=>(aP n s p).bind fun p=>(oN n s l).map fun l=>p :: l
def frz2 (n:Nat) (s:PS) (p:PV):Option PV:=match p with
 | .agg cs=>(oN n s cs).map .agg
 | p=>aP n s p
def aX (n:Nat) (s:PS):List PV→Option (List PV)
 | []=>some []
 | p :: l=>(frz2 n s p).bind fun p=>(aX n s l).map fun l=>p :: l
def frz (n:Nat) (s:PS) (p:PV):Option PV:=match p with
 | .tup vs=>(aX n s vs).map .tup
 | p=>frz2 n s p
noncomputable def gI (fn:fe) (s:PS) (f:aE) (s':PS):Option (PV × PS):=
 (gj f s' fn.res).bind fun vs=>if fn.keep then some (ae vs,⟨s'.h,s'.n,min s.w s'.w⟩) else if s.n≤s'.w then (frz s.n s' (ae vs)).map fun v=>(v,s) else none
def OA (q:E9 × aE × PS) (k:aE→PS→Option (PV × PS)):Option (PV × PS):=match q.1 with
 | .normal=>k q.2.1 q.2.2
 | .ret=>k q.2.1 q.2.2
 | _=>none
def ej:List PV→Nat→aE
 | [],_=>fun _=>.sc undef
 | v :: l,i=>aE.set (ej l (i + 1)) i v
noncomputable def ny (P:Program) (pu:Nat→Bool) (call:aw) (L:Nat) (fn:fe) (args:List PV) (s:PS):Option (PV × PS):=
 if args.length≤fn.nt then (cx P pu call L fn.body (ej args 0) ⟨s.h,s.n,s.n⟩).bind fun q=>OA q (gI fn s) else none
def cz (Γ:Nat→Option fe) (g:Nat):Bool:=match Γ g with
 | some fn=>!fn.keep
 | none=>true
noncomputable def dM (P:Program) (Γ:Nat→Option fe) (ext:aw):Nat→aw
 | 0=>fun _ _ _=>none
 | n + 1=>fun g args s=>match Γ g with
  | some fn=>ny P (cz Γ) (dM P Γ ext n) n fn args s
  | none=>ext g args s
def fW (A:AS) (β:Nat→Nat) (n c:Nat):Prop:=c < A.next∧∀k,k < n→β k≠c
inductive RC (A:AS) (β:Nat→Nat) (n:Nat):Value × PV ⊕ List Value × List PV→Prop
 | sc (v:Value) (h:wQ v=true):RC A β n (.inl (v,.sc v))
 | fn (g:Nat):RC A β n (.inl (.func (.func g) #[] #[],.fn g [] []))
 | lit (b off m cap e:Nat) (cs:List PV) (cells:List Value) (c st:Nat) (hg:A.heap.get b=some (.row cells e c st true)) (hp:fW A β n c) (hl:off + cs.length≤cells.length) (hm:m≤cap)
   (h:RC A β n (.inr ((cells.drop off).take cs.length,cs))):RC A β n (.inl (.slice (some ⟨b,off,none⟩) m cap,.lit e m cs))
 | litp (b off e:Nat) (cs:List PV) (cells:List Value) (c st:Nat) (hg:A.heap.get b=some (.row cells e c st true)) (hp:fW A β n c) (hl:off + cs.length≤cells.length)
   (h:RC A β n (.inr ((cells.drop off).take cs.length,cs))):RC A β n (.inl (.pointer (some ⟨b,off,none⟩),.litp cs))
 | litx (b off m e:Nat) (cs:List PV) (cells:List Value) (c st:Nat) (hg:A.heap.get b=some (.row cells e c st true)) (hp:fW A β n c) (hl:off + cs.length≤cells.length)
   (h:RC A β n (.inr ((cells.drop off).take cs.length,cs))):RC A β n (.inl (.slice (some ⟨b,off,some 0⟩) m m,.litx e m cs))
 | agg (xs:Array Value) (cs:List PV) (h:RC A β n (.inr (xs.toList,cs))):RC A β n (.inl (.agg xs,.agg cs))
 | nil:RC A β n (.inr ([],[]))
 | cons (v:Value) (p:PV) (l:List Value) (r:List PV) (h:RC A β n (.inl (v,p))) (hs:RC A β n (.inr (l,r))):RC A β n (.inr (v :: l,p :: r))
inductive RV (A:AS) (β:Nat→Nat) (n:Nat):Value × PV ⊕ List Value × List PV→Prop
 | cl (v:Value) (p:PV) (h:RC A β n (.inl (v,p))):RV A β n (.inl (v,p))
 | fn (g:Nat) (xs ys:Array Value) (as bs:List PV) (h:RV A β n (.inr (xs.toList,as))) (h':RV A β n (.inr (ys.toList,bs))):RV A β n (.inl (.func (.func g) xs ys,.fn g as bs))
 | agg (xs:Array Value) (cs:List PV) (h:RV A β n (.inr (xs.toList,cs))):RV A β n (.inl (.agg xs,.agg cs))
 | tup (xs:Array Value) (cs:List PV) (h:RV A β n (.inr (xs.toList,cs))):RV A β n (.inl (.tuple xs,.tup cs))
 | own (b o k off m fin cap e:Nat) (cells:List Value) (st:Nat) (ok:Bool) (hk:k < n) (hg:A.heap.get b=some (.row cells e (β k) st ok)) (ho:st + o=off) (hf:fin≤st + cells.length) (hm:m≤cap) :
   RV A β n (.inl (.slice (some ⟨b,o,none⟩) m cap,.own k off m fin))
 | ptr (b o k off fin e:Nat) (cells:List Value) (st:Nat) (ok:Bool) (hk:k < n) (hg:A.heap.get b=some (.row cells e (β k) st ok)) (ho:st + o=off) (hf:fin≤st + cells.length) :
   RV A β n (.inl (.pointer (some ⟨b,o,none⟩),.ptr k off fin))
 | ownx (b o k off m fin e:Nat) (cells:List Value) (st:Nat) (ok:Bool) (hk:k < n) (hg:A.heap.get b=some (.row cells e (β k) st ok)) (ho:st + o=off) (hf:fin≤st + cells.length) :
   RV A β n (.inl (.slice (some ⟨b,o,some 0⟩) m m,.ownx k off m fin))
 | nil:RV A β n (.inr ([],[]))
 | cons (v:Value) (p:PV) (l:List Value) (r:List PV) (h:RV A β n (.inl (v,p))) (hs:RV A β n (.inr (l,r))):RV A β n (.inr (v :: l,p :: r))
abbrev R1 (A:AS) (β:Nat→Nat) (n:Nat) (v:Value) (p:PV):Prop:=RV A β n (.inl (v,p))
abbrev Rs (A:AS) (β:Nat→Nat) (n:Nat) (l:List Value) (r:List PV):Prop:=RV A β n (.inr (l,r))
abbrev C1 (A:AS) (β:Nat→Nat) (n:Nat) (v:Value) (p:PV):Prop:=RC A β n (.inl (v,p))
abbrev Cs (A:AS) (β:Nat→Nat) (n:Nat) (l:List Value) (r:List PV):Prop:=RC A β n (.inr (l,r))
structure Fw (A A':AS) (β β':Nat→Nat) (n n' lo:Nat):Prop where
 le:n≤n'
 next:A.next≤A'.next
 eq:∀k,k < n→β' k=β k
 new:∀k,n≤k→k < n'→A.next≤β' k
 prot:∀b cells e c st,A.heap.get b=some (.row cells e c st true)→fW A β n c→A'.heap.get b=some (.row cells e c st true)
 keep:∀b cells e st ok k,k < n→A.heap.get b=some (.row cells e (β k) st ok)→∃cells' ok',A'.heap.get b=some (.row cells' e (β k) st ok')∧cells'.length=cells.length
 w:∀c,c < A.next→A'.w.testBit c=true→A.w.testBit c=true∨∃k,lo≤k∧k < n∧β k=c
theorem Fw.refl (A:AS) (β:Nat→Nat) (n lo:Nat):Fw A A β β n n lo:=
 ⟨Nat.le_refl _,Nat.le_refl _,fun _ _=>rfl,fun _ h h'=>by omega,fun _ _ _ _ _ h _=>h,fun _ cells _ _ ok _ _ h=>⟨cells,ok,h,rfl⟩,fun _ _ h=>.inl h⟩
theorem Fw.heap {A A':AS} (β:Nat→Nat) (n:Nat) {lo:Nat} (h:A'.heap=A.heap) (hn:A'.next=A.next) (hw:A'.w=A.w):Fw A A' β β n n lo:=
 ⟨Nat.le_refl _,by omega,fun _ _=>rfl,fun _ h h'=>by omega,fun _ _ _ _ _ hh _=>by rw [h]; exact hh,fun _ cells _ _ ok _ _ hh=>⟨cells,ok,by rw [h]; exact hh,rfl⟩,fun _ _ hh=>.inl (by rw [← hw]; exact hh)⟩
theorem Fw.protN {A A':AS}{β β':Nat→Nat}{n n' lo c:Nat} (h:Fw A A' β β' n n' lo) (hp:fW A β n c):fW A' β' n' c:=
 ⟨Nat.lt_of_lt_of_le hp.1 h.next,fun k hk=>by
  by_cases hkn:k < n
  ·rw [h.eq k hkn]; exact hp.2 k hkn
  ·have:=h.new k (by omega) hk;have:=hp.1;omega⟩
theorem Fw.trans {A B C:AS}{β γ δ:Nat→Nat}{n m l lo lo':Nat} (h:Fw A B β γ n m lo) (k:Fw B C γ δ m l lo') (hlo:lo'≤lo):Fw A C β δ n l lo' where
 le:=Nat.le_trans h.le k.le
 next:=Nat.le_trans h.next k.next
 eq:=fun x hx=>(k.eq x (Nat.lt_of_lt_of_le hx h.le)).trans (h.eq x hx)
 new:=fun x hx hl=>by
  by_cases hm:x < m
  ·rw [k.eq x hm]; exact h.new x hx hm
  ·exact Nat.le_trans h.next (k.new x (by omega) hl)
 prot:=fun b cells e c st hb hp=>k.prot _ _ _ _ _ (h.prot _ _ _ _ _ hb hp) (h.protN hp)
 keep:=fun b cells e st ok x hx hb=>by
  obtain⟨c1,o1,h1,l1⟩:=h.keep b cells e st ok x hx hb;rw [← h.eq x hx] at h1;obtain⟨c2,o2,h2,l2⟩:=k.keep b c1 e st o1 x (Nat.lt_of_lt_of_le hx h.le) h1;rw [h.eq x hx] at h2;exact⟨c2,o2,h2,l2.trans l1⟩
 w:=fun c hc hw=>by
  rcases k.w c (Nat.lt_of_lt_of_le hc h.next) hw with h1 | ⟨x,hxl,hx,he⟩
  ·rcases h.w c hc h1 with h2 | ⟨y,y1,y2,y3⟩
   ·exact .inl h2
   ·exact .inr ⟨y,by omega,y2,y3⟩
  ·by_cases hxn:x < n
   ·exact .inr ⟨x,hxl,hxn,by rw [← h.eq x hxn]; exact he⟩
   ·have:=h.new x (by omega) hx; omega
theorem RC.mono {A A':AS}{β β':Nat→Nat}{n n' lo:Nat} (f:Fw A A' β β' n n' lo) {x:Value × PV ⊕ List Value × List PV} (h:RC A β n x):RC A' β' n' x:=by
 induction h with
 | sc v h=>exact .sc v h
 | fn g=>exact .fn g
 | lit b off m cap e cs cells c st hg hp hl hm _ ih=>exact .lit b off m cap e cs cells c st (f.prot _ _ _ _ _ hg hp) (f.protN hp) hl hm ih
 | litp b off e cs cells c st hg hp hl _ ih=>exact .litp b off e cs cells c st (f.prot _ _ _ _ _ hg hp) (f.protN hp) hl ih
 | litx b off m e cs cells c st hg hp hl _ ih=>exact .litx b off m e cs cells c st (f.prot _ _ _ _ _ hg hp) (f.protN hp) hl ih
 | agg xs cs _ ih=>exact .agg xs cs ih
 | nil=>exact .nil
 | cons v p l r _ _ ih ihs=>exact .cons v p l r ih ihs
theorem RV.mono {A A':AS}{β β':Nat→Nat}{n n' lo:Nat} (f:Fw A A' β β' n n' lo) {x:Value × PV ⊕ List Value × List PV} (h:RV A β n x):RV A' β' n' x:=by
 induction h with
 | cl v p h=>exact .cl v p (h.mono f)
 | fn g xs ys as bs _ _ h h'=>exact .fn g xs ys as bs h h'
 | agg xs cs _ ih=>exact .agg xs cs ih
 | tup xs cs _ ih=>exact .tup xs cs ih
 | own b o k off m fin cap e cells st ok hk hg ho hf hm=>
  obtain⟨c',o',h1,h2⟩:=f.keep b cells e st ok k hk hg;rw [← f.eq k hk] at h1;exact .own b o k off m fin cap e c' st o' (Nat.lt_of_lt_of_le hk f.le) h1 ho (by omega) hm
 | ptr b o k off fin e cells st ok hk hg ho hf=>
  obtain⟨c',o',h1,h2⟩:=f.keep b cells e st ok k hk hg;rw [← f.eq k hk] at h1;exact .ptr b o k off fin e c' st o' (Nat.lt_of_lt_of_le hk f.le) h1 ho (by omega)
 | ownx b o k off m fin e cells st ok hk hg ho hf=>
  obtain⟨c',o',h1,h2⟩:=f.keep b cells e st ok k hk hg;rw [← f.eq k hk] at h1;exact .ownx b o k off m fin e c' st o' (Nat.lt_of_lt_of_le hk f.le) h1 ho (by omega)
 | nil=>exact .nil
 | cons v p l r _ _ ih ihs=>exact .cons v p l r ih ihs
section
variable {A:AS}{β:Nat→Nat}{n:Nat}
theorem Cs.len {l:List Value}{r:List PV} (h:Cs A β n l r):l.length=r.length:=by
 induction r generalizing l with
 | nil=>cases h; rfl
 | cons p r ih=>cases h with | cons v p l r h hs=>simp [ih hs]
theorem Rs.len {l:List Value}{r:List PV} (h:Rs A β n l r):l.length=r.length:=by
 induction r generalizing l with
 | nil=>cases h; rfl
 | cons p r ih=>cases h with | cons v p l r h hs=>simp [ih hs]
theorem Cs.drop {l:List Value}{r:List PV} (h:Cs A β n l r) (k:Nat):Cs A β n (l.drop k) (r.drop k):=by
 induction k generalizing l r with
 | zero=>exact h
 | succ k ih=>
  cases r with
  | nil=>cases h; exact .nil
  | cons p r=>cases h with | cons v p l r h hs=>exact ih hs
theorem Cs.take {l:List Value}{r:List PV} (h:Cs A β n l r) (k:Nat):Cs A β n (l.take k) (r.take k):=by
 induction k generalizing l r with
 | zero=>exact .nil
 | succ k ih=>
  cases r with
  | nil=>cases h; exact .nil
  | cons p r=>cases h with | cons v p l r h hs=>exact .cons _ _ _ _ h (ih hs)
theorem Rs.drop {l:List Value}{r:List PV} (h:Rs A β n l r) (k:Nat):Rs A β n (l.drop k) (r.drop k):=by
 induction k generalizing l r with
 | zero=>exact h
 | succ k ih=>
  cases r with
  | nil=>cases h; exact .nil
  | cons p r=>cases h with | cons v p l r h hs=>exact ih hs
theorem Rs.take {l:List Value}{r:List PV} (h:Rs A β n l r) (k:Nat):Rs A β n (l.take k) (r.take k):=by
 induction k generalizing l r with
 | zero=>exact .nil
 | succ k ih=>
  cases r with
  | nil=>cases h; exact .nil
  | cons p r=>cases h with | cons v p l r h hs=>exact .cons _ _ _ _ h (ih hs)
theorem Rs.app {l l':List Value}{r r':List PV} (h:Rs A β n l r) (h':Rs A β n l' r'):Rs A β n (l ++ l') (r ++ r'):=by
 induction r generalizing l with
 | nil=>cases h; exact h'
 | cons p r ih=>cases h with | cons v p l r h hs=>exact .cons _ _ _ _ h (ih hs)
theorem Cs.up {l:List Value}{r:List PV} (h:Cs A β n l r):Rs A β n l r:=by
 induction r generalizing l with
 | nil=>cases h; exact .nil
 | cons p r ih=>cases h with | cons v p l r h hs=>exact .cons _ _ _ _ (.cl _ _ h) (ih hs)
theorem hU:∀(l:List Value),l.all wQ=true→Cs A β n l (l.map .sc):=by
 intro l
 induction l with
 | nil=>intro _; exact .nil
 | cons v l ih=>
  intro h;rw [List.all_cons,Bool.and_eq_true] at h;exact .cons _ _ _ _ (.sc v h.1) (ih h.2)
theorem R1.cells {v:Value}{p:PV} (h:R1 A β n v p):Rs A β n v.cells.toList (cI p):=by
 have one:∀{v:Value}{p:PV},R1 A β n v p→Rs A β n [v] [p]:=fun h=>.cons _ _ _ _ h .nil;cases h with
 | cl v p h=>
  cases h with
  | sc v h=>
   cases v with
   | agg xs=>cases h
   | _=>exact one (.cl _ _ (.sc _ h))
  | fn g=>exact one (.cl _ _ (.fn g))
  | lit b off m cap e cs cells c st hg hp hl hm h=>exact one (.cl _ _ (.lit b off m cap e cs cells c st hg hp hl hm h))
  | litp b off e cs cells c st hg hp hl h=>exact one (.cl _ _ (.litp b off e cs cells c st hg hp hl h))
  | litx b off m e cs cells c st hg hp hl h=>exact one (.cl _ _ (.litx b off m e cs cells c st hg hp hl h))
  | agg xs cs h=>exact Cs.up h
 | fn g xs ys as bs h h'=>exact one (.fn g xs ys as bs h h')
 | agg xs cs h=>exact h
 | tup xs cs h=>exact one (.tup xs cs h)
 | own b o k off m fin cap e cells st ok hk hg ho hf hm=>exact one (.own b o k off m fin cap e cells st ok hk hg ho hf hm)
 | ptr b o k off fin e cells st ok hk hg ho hf=>exact one (.ptr b o k off fin e cells st ok hk hg ho hf)
 | ownx b o k off m fin e cells st ok hk hg ho hf=>exact one (.ownx b o k off m fin e cells st ok hk hg ho hf)
end
structure RB (A:AS) (β:Nat→Nat) (n c:Nat) (b:pD):Prop where
 cur:b.low≤b.cells.length→∃x cells st,A.heap.get x=some (.row cells b.e c st true)∧st + cells.length=b.cells.length
 all:∀x cells e st ok,A.heap.get x=some (.row cells e c st ok)→e=b.e∧st + cells.length≤b.cells.length∧(b.low≤st + cells.length→ok=true∧Rs A β n cells ((b.cells.drop st).take cells.length))
 uni:∀x y cells e st ok cells' e' st' ok',A.heap.get x=some (.row cells e c st ok)→A.heap.get y=some (.row cells' e' c st' ok')→st + cells.length=b.cells.length→st' + cells'.length=b.cells.length→x=y
 low:b.cells.length < b.low→∀x cells e st ok,A.heap.get x=some (.row cells e c st ok)→st + cells.length < b.cells.length
 fz:b.low≤b.cells.length→A.fz.get c=none
 lt:c < A.next
 z:∀x cells e st ok,A.heap.get x=some (.row cells e c st ok)→st=0
def v5 (A:AS) (β:Nat→Nat) (n:Nat):Prop:=∀x∈di,A.heap.get x.g=some (.row x.cells x.e x.g 0 true)∧fW A β n x.g∧A.fz.get x.g=some x.cells.length
theorem v5.mono {A A':AS}{β β':Nat→Nat}{n n' lo:Nat} (h:v5 A β n) (w:Fw A A' β β' n n' lo) (hz:∀c,fW A β n c→A'.fz.get c=A.fz.get c):v5 A' β' n':=fun x hx=>by
 obtain⟨h1,h2,h3⟩:=h x hx;exact⟨w.prot _ _ _ _ _ h1 h2,w.protN h2,(hz _ h2).trans h3⟩
structure RS (A:AS) (β:Nat→Nat) (s:PS):Prop where
 blk:∀k,k < s.n→RB A β s.n (β k) (s.h k)
 inj:∀j k,j < s.n→k < s.n→β j=β k→j=k
 lay:v5 A β s.n
structure RF (ds:List Deferred) (A:AS) (β:Nat→Nat) (n nt:Nat) (f:Fr) (p:aE):Prop where
 num:f.n=nt
 few:nt≤1000000
 df:f.defers=ds
 tmp:∀j,R1 A β n ((f.tmps.get j).getD undef) (p j)
theorem RF.mono {ds:List Deferred}{A A':AS}{β β':Nat→Nat}{n n' nt lo:Nat}{f:Fr}{p:aE} (h:RF ds A β n nt f p) (w:Fw A A' β β' n n' lo):RF ds A' β' n' nt f p:=
 ⟨h.num,h.few,h.df,fun j=>(h.tmp j).mono w⟩
theorem RB.mono {A A':AS}{β β':Nat→Nat}{n n' c lo:Nat}{b:pD} (h:RB A β n c b) (w:Fw A A' β β' n n' lo) (hin:∀x cells e st ok,A'.heap.get x=some (.row cells e c st ok)↔A.heap.get x=some (.row cells e c st ok)) (hz:A'.fz.get c=A.fz.get c):RB A' β' n' c b where
 cur:=fun hl=>by
  obtain⟨x,cells,st,h1,h2⟩:=h.cur hl;exact⟨x,cells,st,(hin _ _ _ _ _).2 h1,h2⟩
 all:=fun x cells e st ok hg=>by
  obtain⟨h1,h2,h3⟩:=h.all x cells e st ok ((hin _ _ _ _ _).1 hg);exact⟨h1,h2,fun hl=>⟨(h3 hl).1,(h3 hl).2.mono w⟩⟩
 uni:=fun x y cells e st ok cells' e' st' ok' h1 h2=>h.uni x y cells e st ok cells' e' st' ok' ((hin _ _ _ _ _).1 h1) ((hin _ _ _ _ _).1 h2)
 low:=fun hl x cells e st ok hg=>h.low hl x cells e st ok ((hin _ _ _ _ _).1 hg)
 fz:=fun hl=>hz.trans (h.fz hl)
 lt:=Nat.lt_of_lt_of_le h.lt w.next
 z:=fun x cells e st ok hg=>h.z x cells e st ok ((hin _ _ _ _ _).1 hg)
theorem RS.same {A A':AS}{β:Nat→Nat}{s:PS} (h:RS A β s) (h1:A'.heap=A.heap) (h2:A'.next=A.next) (h3:A'.w=A.w) (h4:A'.fz=A.fz):RS A' β s:=
 ⟨fun k hk=>(h.blk k hk).mono (.heap (lo:=0) β s.n h1 h2 h3) (fun x cells e st ok=>by rw [h1]) (by rw [h4]),h.inj,h.lay.mono (.heap (lo:=0) β s.n h1 h2 h3) fun c _=>by rw [h4]⟩
section
variable {ds:List Deferred}{P:Program}{A A':AS}{β:Nat→Nat}{n nt:Nat}{f:Fr}{p:aE}{s:PS}
theorem aL (h:RF ds A β n nt f p) {x:Operand} (hx:cE x=true):∃v,f.eval x=some v∧R1 A β n v (aA p x):=by
 cases x with
 | tmp t=>
  refine⟨(f.tmps.get t).getD undef,?_,h.tmp t⟩;show Ie (f.tmps.get t)=_;cases f.tmps.get t<;>rfl
 | const v=>
  have hc:∀v,plain 50 v=true→f.eval (.const v)=some v:=fun v hv=>by
   show lA v=some v;unfold lA;rw [hv]
  cases v with
  | agg cs=>
   have hx':(plain 50 (.agg cs) && cs.toList.all wQ)=true:=hx;rw [Bool.and_eq_true] at hx';exact⟨_,hc _ hx'.1,.cl _ _ (.agg _ _ (hU _ hx'.2))⟩
  | func fn a b=>
   cases fn with
   | func g=>
    have hx':(a.toList.isEmpty && b.toList.isEmpty)=true:=hx;have hp:plain 50 (.func (.func g) a b)=true:=hx;rw [Bool.and_eq_true] at hx';have ha:a = #[]:=by have:=hx'.1; cases a; simp at this; subst this; rfl
    have hb:b = #[]:=by have:=hx'.2; cases b; simp at this; subst this; rfl
    subst ha; subst hb;exact⟨_,hc _ hp,.cl _ _ (.fn g)⟩
   | _=>exact absurd hx (by intro hh; cases hh)
  | _=>exact⟨_,hc _ hx,.cl _ _ (.sc _ hx)⟩
 | func g=>exact⟨_,rfl,.cl _ _ (.fn g)⟩
 | global g=>cases hx
theorem pQ (h:RF ds A β n nt f p) {x:Operand} (hx:cE x=true):∃v,evalG P f x=some v∧R1 A β n v (aA p x):=by
 obtain⟨v,h1,h2⟩:=aL h hx;refine⟨v,?_,h2⟩;cases x with
 | global g=>cases hx
 | _=>exact h1
theorem RF.set (h:RF ds A β n nt f p) {d:Option Nat} (hd:Gq nt d=true) {v:Value}{q:PV} (hv:R1 A β n v q):∃f',f.put d v=some f'∧RF ds A β n nt f' (gD p d q):=by
 cases d with
 | none=>exact⟨f,rfl,h⟩
 | some d=>
  obtain⟨tm,m,ds'⟩:=f;have hn:m=nt:=h.num;have hd':Nat.ble (Nat.succ d) nt=true:=hd;refine⟨⟨Tr.set v 40 tm d,m,ds'⟩,?_,h.num,h.few,h.df,fun j=>?_⟩
  ·show (Bool.rec none (cG (Tr.set v 40 tm d) fun t=>some (⟨t,m,ds'⟩ : Fr)) (Nat.ble (Nat.succ d) m):Option Fr)=_;rw [hn,hd',bX]
  ·show R1 A β n (((Tr.set v 40 tm d).get j).getD undef) (if j=d then q else p j);rw [Tr.get_set _ _ _ _ trivial];by_cases hj:j=d
   ·rw [if_pos hj,if_pos hj]; exact hv
   ·rw [if_neg hj,if_neg hj]; exact h.tmp j
theorem R1.sc {v:Value}{u:Value} (h:R1 A β n v (.sc u)):v=u∧wQ u=true:=by
 cases h with
 | cl _ _ h=>cases h with | sc _ h=>exact⟨rfl,h⟩
theorem R1.lit {v:Value}{e m:Nat}{cs:List PV} (h:R1 A β n v (.lit e m cs)):C1 A β n v (.lit e m cs):=by
 cases h with
 | cl _ _ h=>exact h
theorem R1.litp {v:Value}{cs:List PV} (h:R1 A β n v (.litp cs)):C1 A β n v (.litp cs):=by
 cases h with
 | cl _ _ h=>exact h
theorem R1.litx {v:Value}{e m:Nat}{cs:List PV} (h:R1 A β n v (.litx e m cs)):C1 A β n v (.litx e m cs):=by
 cases h with
 | cl _ _ h=>exact h
theorem A8 {b off m:Nat}{cells:List Value}{e c st:Nat} (hg:A.heap.get b=some (.row cells e c st true)) (hl:off + m≤cells.length):ld A b off m=some ((cells.drop off).take m,bO A c):=by
 unfold ld;rw [hg];show Ku A cells off m c=_;unfold Ku;rw [bg];have:((cells.drop off).take m).length=m:=by rw [List.length_take,List.length_drop]; omega
 rw [this,Nat.beq_refl]
theorem EZ (hs:RS A β s) {v:Value}{q:PV} (hv:R1 A β s.n v q) {sz:Nat}{cs:List PV} (h:ur s q sz=some cs) :
  ∃b o xs c,v=.pointer (some ⟨b,o,none⟩)∧ld A b o sz=some (xs,bO A c)∧Rs A β s.n xs cs∧cs.length=sz∧((∃k∈(aZ q).rd,k < s.n∧β k=c)∨((aZ q).li=true∧fW A β s.n c)):=by
 cases q with
 | ptr k off fin=>
  simp only [ur] at h;split at h
  ·rename_i hc;injection h with h; subst h;cases hv with
   | cl _ _ h=>cases h
   | ptr b o _ _ _ e cells st ok hk hg ho hf=>
    obtain⟨h1,h2,h3⟩:=(hs.blk k hk).all _ _ _ _ _ hg;obtain⟨rfl,h4⟩:=h3 (by omega);refine⟨b,o,_,β k,rfl,A8 hg (by omega),?_,by rw [List.length_take,List.length_drop]; omega,.inl ⟨k,by simp [aZ],hk,rfl⟩⟩;have:=(h4.drop o).take sz;rw [List.drop_take,List.take_take,List.drop_drop,ho] at this;rwa [Nat.min_eq_left (by omega)] at this
  ·cases h
 | litp cs'=>
  simp only [ur] at h;split at h
  ·rename_i hc;injection h with h; subst h;have hv:=hv.litp;cases hv with
   | litp b off e _ cells c st hg hp hl hh=>
    refine⟨b,off,_,c,rfl,A8 hg (by omega),?_,by rw [List.length_take]; omega,.inr ⟨rfl,hp⟩⟩;have:=(Cs.up hh).take sz;rwa [List.take_take,Nat.min_eq_left (by omega)] at this
  ·cases h
 | _=>simp [ur] at h
theorem uD {t:Nat}{d:TypeDesc}{ag:Bool}{sz b o c:Nat}{xs:List Value}{cs:List PV}{q:PV} (hd:jI (some d)=ag) (hsz:if ag then bP P t=some sz else sz=1) (hl:ld A b o sz=some (xs,bO A c)) (hx:Rs A β n xs cs) (hq:ad ag cs=some q) :
  ∃v,kY P t d b o A=some (.val v,bO A c)∧R1 A β n v q:=by
 unfold kY;cases ag with
 | true=>
  rw [if_pos rfl] at hsz;rw [hd,hsz];simp only [ad,if_true] at hq;injection hq with hq; subst hq;refine⟨.agg xs.toArray,?_,.agg _ _ (by simpa using hx)⟩;show tP (ld A b o sz)=_;rw [hl]; rfl
 | false=>
  have:sz=1:=by simpa using hsz
  subst this;rw [hd];show ∃v,tM (ld A b o 1)=_∧_;simp only [ad] at hq;rw [if_neg (by simp)] at hq;split at hq
  ·injection hq with hq; subst hq;cases hx with
   | cons v _ l _ h hn=>
    cases hn;rw [hl];exact⟨v,rfl,h⟩
  ·cases hq
end
structure y7 (A A':AS) (β β':Nat→Nat) (n n':Nat) (E:gy):Prop where
 r:∀c,A'.r.testBit c=true→A.r.testBit c=true∨(∃k∈E.rd,k < n∧β k=c)∨(E.li=true∧fW A β n c)∨(A.next≤c∧c < A'.next)∨(E.ca=true∧c < A'.next)
 w:∀c,A'.w.testBit c=true→A.w.testBit c=true∨(∃k∈E.wr,k < n∧β k=c)∨(A.next≤c∧c < A'.next)
 new:E.ca=false→∀c,A.next≤c→c < A'.next→(A'.r.testBit c=true→A.r.testBit c=true∨∃k,n≤k∧k < n'∧β' k=c)∧(A'.w.testBit c=true→A.w.testBit c=true∨∃k,n≤k∧k < n'∧β' k=c)
theorem y7.same (A:AS) (β:Nat→Nat) (n:Nat) (E:gy):y7 A A β β n n E:=⟨fun _ h=>.inl h,fun _ h=>.inl h,fun _ _ h1 h2=>by omega⟩
theorem y7.read {A:AS}{β:Nat→Nat}{n c:Nat}{E:gy} (hi:c < A.next) (h:(∃k∈E.rd,k < n∧β k=c)∨(E.li=true∧fW A β n c)):y7 A (bO A c) β β n n E:=by
 rw [aB];refine⟨fun x hx=>?_,fun _ h=>.inl h,fun _ x h1 h2=>by simp only at h2; omega⟩;rcases dX hx with hx | rfl
 ·exact .inl hx
 ·exact .inr (h.imp id .inl)
def dw (P:Program) (A:AS) (β:Nat→Nat) (s:PS) (f:Fr) (o:Oper) (q:PV) (s':PS) (E:gy):Prop:=
 ∃u A' β',bQ P f A o (.val u) A'∧Fw A A' β β' s.n s'.n s'.w∧RS A' β' s'∧R1 A' β' s'.n u q∧y7 A A' β β' s.n s'.n E
theorem aO {b:Bool}{o q:gw} (h:gd b o=some q):b=true∧o=q:=by
 cases b
 ·cases h
 ·exact⟨rfl,by injection h⟩
section
variable {ds:List Deferred}{P:Program}{A:AS}{β:Nat→Nat}{nt:Nat}{f:Fr}{p:aE}{s s':PS}{o:Oper}{q:PV}{E:gy}
theorem bf (hO:be P) (hi:bE A) (hs:RS A β s) {u:Value} (h:aU P f o A=some (.val u,A)) (hq:R1 A β s.n u q):dw P A β s f o q s E:=
 ⟨u,A,β,hO f o A _ _ hi (Nat.le_refl _) h,.refl A β s.n _,hs,hq,.same A β s.n E⟩
theorem fY (hO:be P) (hi:bE A) (hs:RS A β s) {u:Value}{c:Nat} (h:aU P f o A=some (.val u,bO A c)) (hq:R1 A β s.n u q) (hc:c < A.next) (he:(∃k∈E.rd,k < s.n∧β k=c)∨(E.li=true∧fW A β s.n c)):dw P A β s f o q s E:=by
 have hw:Fw A (bO A c) β β s.n s.n s.w:=by rw [aB]; exact .heap β s.n rfl rfl rfl
 refine⟨u,bO A c,β,hO f o A _ _ hi (Nat.le_refl _) h,hw,?_,hq.mono hw,.read hc he⟩;rw [aB]; exact hs.same rfl rfl rfl rfl
theorem iz (A:AS) (cells:List Value) (e x:Nat):(EvL.newRow A cells e).heap.get x=if x=A.next then some (.row cells e A.next 0 true) else A.heap.get x:=by
 rw [dk,gb];exact Tr.get_set _ _ _ _ trivial
theorem sl (hi:bE A) (β:Nat→Nat) (n:Nat) (cells:List Value) (e lo:Nat):Fw A (EvL.newRow A cells e) β (fun k=>if k=n then A.next else β k) n (n + 1) lo where
 le:=by omega
 next:=by rw [aY]; omega
 eq:=fun k hk=>if_neg (by omega)
 new:=fun k h1 h2=>by rw [if_pos (by omega)]; exact Nat.le_refl _
 prot:=fun b cells' e' c st hb _=>by
  rw [iz,if_neg (by rintro rfl; have:=(hi.lt _ _ hb).1; omega)]; exact hb
 keep:=fun b cells' e' st ok k _ hb=>⟨cells',ok,by rw [iz,if_neg (by rintro rfl; have:=(hi.lt _ _ hb).1; omega)]; exact hb,rfl⟩
 w:=fun c hc hw=>by
  rw [dk,gb] at hw;rcases dX hw with h | h
  ·exact .inl h
  ·omega
theorem rK (β:Nat→Nat) (n:Nat) (cells:List Value) (e:Nat) (E:gy):y7 A (EvL.newRow A cells e) β (fun k=>if k=n then A.next else β k) n (n + 1) E:=by
 rw [dk,gb];refine⟨fun _ h=>.inl h,fun c hc=>?_,fun _ c h1 h2=>⟨fun h=>.inl h,fun hc=>?_⟩⟩
 ·rcases dX hc with h | h
  ·exact .inl h
  ·exact .inr (.inr ⟨by omega,by simp only; omega⟩)
 ·rcases dX hc with h | h
  ·exact .inl h
  ·exact .inr ⟨n,by omega,by omega,by rw [if_pos rfl]; exact h⟩
theorem wv (hi:bE A) (hs:RS A β s) {cells:List Value}{cs:List PV} (e:Nat) (h:Rs A β s.n cells cs):RS (EvL.newRow A cells e) (fun k=>if k=s.n then A.next else β k) (s.new ⟨cs,0,e⟩):=by
 have hw:=sl hi β s.n cells e s.w;have hold:∀b o',A.heap.get b=some o'→b≠A.next:=fun b o' hb=>by have:=(hi.lt _ _ hb).1; omega
 constructor
 ·intro k hk;have hk':k < s.n + 1:=hk;by_cases he:k=s.n
  ·subst he;show RB _ _ (s.n + 1) (if s.n=s.n then A.next else β s.n) (if s.n=s.n then _ else _);rw [if_pos rfl,if_pos rfl];have hrow:∀x cells' e' st ok,(EvL.newRow A cells e).heap.get x=some (.row cells' e' A.next st ok)→x=A.next∧cells'=cells∧e'=e∧st=0∧ok=true:=fun x cells' e' st ok hg=>by
    rw [iz] at hg;split at hg
    ·rename_i hx; injection hg with hg; injection hg with h1 h2 h3 h4 h5; exact⟨hx,h1.symm,h2.symm,h4.symm,h5.symm⟩
    ·have:=(hi.lt _ _ hg).2; simp only [cm] at this; omega
   refine⟨fun _=>⟨A.next,cells,0,by rw [iz,if_pos rfl],by simp [h.len]⟩,fun x cells' e' st ok hg=>?_,fun x y cells' e' st ok cells2 e2 st2 ok2 h1 h2 _ _=>?_,fun hl=>absurd hl (Nat.not_lt_zero _),fun _=>?_,by rw [aY]; omega,fun x cells' e' st ok hg=>(hrow _ _ _ _ _ hg).2.2.2.1⟩
   ·obtain⟨_,rfl,rfl,rfl,rfl⟩:=hrow _ _ _ _ _ hg;refine⟨rfl,by simp [h.len],fun _=>⟨rfl,?_⟩⟩;rw [List.drop_zero,h.len,List.take_length];exact h.mono hw
   ·rw [(hrow _ _ _ _ _ h1).1,(hrow _ _ _ _ _ h2).1]
   ·rw [dk,gb];show A.fz.get A.next=none;cases hz:A.fz.get A.next with
    | none=>rfl
    | some k=>have:=hi.fz _ _ hz; omega
  ·have hkn:k < s.n:=by omega
   show RB _ _ (s.n + 1) (if k=s.n then A.next else β k) (if k=s.n then _ else s.h k);rw [if_neg he,if_neg he];have hb:=hs.blk k hkn;refine hb.mono hw (fun x cells' e' st ok=>?_) (by rw [dk,gb]);rw [iz];split
   ·rename_i hx;constructor
    ·intro hh; injection hh with hh; injection hh with _ _ h3; have:=hb.lt; omega
    ·intro hh; exact absurd hx (hold _ _ hh)
   ·exact Iff.rfl
 ·intro j k hj hk he;have hj':j < s.n + 1:=hj;have hk':k < s.n + 1:=hk;have he':(if j=s.n then A.next else β j)=if k=s.n then A.next else β k:=he;split at he'<;>split at he'
  ·omega
  ·have:=(hs.blk k (by omega)).lt; omega
  ·have:=(hs.blk j (by omega)).lt; omega
  ·exact hs.inj j k (by omega) (by omega) he'
 ·exact hs.lay.mono hw fun c _=>by rw [dk,gb]
theorem CZ (hO:be P) (hi:bE A) (hs:RS A β s) {cells:List Value}{cs:List PV}{e:Nat} (h:aU P f o A=some (.val (.pointer (some ⟨A.next,0,none⟩)),EvL.newRow A cells e)) (hc:Rs A β s.n cells cs) :
  dw P A β s f o (.ptr s.n 0 cs.length) (s.new ⟨cs,0,e⟩) E:=by
 refine⟨_,_,_,hO f o A _ _ hi (Nat.le_refl _) h,sl hi β s.n cells e _,wv hi hs e hc,?_,rK β s.n cells e E⟩;refine .ptr A.next 0 s.n 0 cs.length e cells 0 true (by show s.n < s.n + 1; omega) ?_ rfl (by simp [hc.len]);rw [iz,if_pos rfl,if_pos rfl]
theorem BW (hO:be P) (hi:bE A) (hs:RS A β s) {cells:List Value}{cs:List PV}{e m:Nat} (h:aU P f o A=some (.val (.slice (some ⟨A.next,0,none⟩) m m),EvL.newRow A cells e)) (hc:Rs A β s.n cells cs) :
  dw P A β s f o (.own s.n 0 m cs.length) (s.new ⟨cs,0,e⟩) E:=by
 refine⟨_,_,_,hO f o A _ _ hi (Nat.le_refl _) h,sl hi β s.n cells e _,wv hi hs e hc,?_,rK β s.n cells e E⟩;refine .own A.next 0 s.n 0 m cs.length m e cells 0 true (by show s.n < s.n + 1; omega) ?_ rfl (by simp [hc.len]) (Nat.le_refl _);rw [iz,if_pos rfl,if_pos rfl]
end
section
variable {ds:List Deferred}{P:Program}{A:AS}{β:Nat→Nat}{nt:Nat}{f:Fr}{p:aE}{s s':PS}{q:PV}{E:gy}{d:Option Tmp}{ty:TypeId}{pos:String}{af:Array Edge}{gu:Option (Nat × Bool)}
theorem QK (hO:be P) (hi:bE A) (hs:RS A β s) (hf:RF ds A β s.n nt f p) {x:Operand} (hx:cE x=true):dw P A β s f ⟨d,.move x,ty,pos,af,gu⟩ (aA p x) s E:=by
 obtain⟨v,h1,h2⟩:=aL hf hx;exact bf hO hi hs (by show lK A (f.eval x)=_; rw [h1]; rfl) h2
theorem TQ (hO:be P) (hi:bE A) (hs:RS A β s) (hf:RF ds A β s.n nt f p) {x:Operand} (hx:cE x=true):dw P A β s f ⟨d,.assign x,ty,pos,af,gu⟩ (aA p x) s E:=by
 obtain⟨v,h1,h2⟩:=aL hf hx;exact bf hO hi hs (by show lK A (f.eval x)=_; rw [h1]; rfl) h2
theorem iG {v:Value}{x:PV}{b:Bool} (h:R1 A β s.n v x) (hb:ep x=some b):v=.bool b:=by
 cases x with
 | sc u=>
  obtain⟨rfl,_⟩:=h.sc;cases v with
  | bool c=>simp only [ep] at hb; injection hb with hb; rw [hb]
  | _=>simp [ep] at hb
 | _=>simp [ep] at hb
theorem Ki (hO:be P) (hi:bE A) (hs:RS A β s) (hf:RF ds A β s.n nt f p) {c x y:Operand} (hc:cE c=true) (hx:cE x=true) (hy:cE y=true) (h:bS P p s (.pick c x y)=some (q,s')):dw P A β s f ⟨d,.pick c x y,ty,pos,af,gu⟩ q s' E:=by
 obtain⟨vc,c1,c2⟩:=aL hf hc;obtain⟨vx,x1,x2⟩:=aL hf hx;obtain⟨vy,y1,y2⟩:=aL hf hy;simp only [bS] at h;split at h
 ·rename_i hb;have:=iG c2 hb;subst this;injection h with h; injection h with h1 h2; subst h1; subst h2;exact bf hO hi hs (by show tc f (f.eval c) x y A=_; rw [c1]; show lK A (f.eval x)=_; rw [x1]; rfl) x2
 ·rename_i hb;have:=iG c2 hb;subst this;injection h with h; injection h with h1 h2; subst h1; subst h2;exact bf hO hi hs (by show tc f (f.eval c) x y A=_; rw [c1]; show lK A (f.eval y)=_; rw [y1]; rfl) y2
 ·cases h
theorem ML (hO:be P) (hi:bE A) (hs:RS A β s) (hf:RF ds A β s.n nt f p) {e:Nat}{x:Operand} (hx:cE x=true) :
  dw P A β s f ⟨d,.box e x,ty,pos,af,gu⟩ (.ptr s.n 0 (cI (aA p x)).length) (s.new ⟨cI (aA p x),0,e⟩) E:=by
 obtain⟨v,h1,h2⟩:=aL hf hx;exact CZ hO hi hs (by show qY A e (f.eval x)=_; rw [h1]; rfl) h2.cells
end
theorem JQ (off:Nat):∀(vs:List Value) (k:Nat) (cs:Array Value),off + k + vs.length≤cs.size→
  ((vs.zipIdx k).foldl (fun cs (x:Value × Nat)=>cs.setIfInBounds (off + x.2) x.1) cs).toList=cs.toList.take (off + k) ++ (vs ++ cs.toList.drop (off + k + vs.length)):=by
 intro vs
 induction vs with
 | nil=>intro k cs _; simp
 | cons v vs ih=>
  intro k cs h;simp only [List.length_cons] at h;simp only [List.zipIdx_cons,List.foldl_cons];rw [ih (k + 1) _ (by rw [Array.size_setIfInBounds]; omega),Array.toList_setIfInBounds];have hlt:off + k < cs.toList.length:=by rw [Array.length_toList]; omega
  rw [List.set_eq_take_append_cons_drop,if_pos hlt];have h1:(cs.toList.take (off + k)).length=off + k:=by rw [List.length_take]; omega
  rw [show off + (k + 1)=(off + k) + 1 by omega,List.take_append,h1,List.take_of_length_le (by rw [h1]; omega),show off + k + 1 - (off + k)=1 by omega,List.take_succ_cons,List.take_zero];rw [List.drop_append,h1,List.drop_of_length_le (by rw [h1]; omega),show off + k + 1 + vs.length - (off + k)=vs.length + 1 by omega,List.drop_succ_cons,List.drop_drop];simp only [List.nil_append,List.length_cons,List.append_assoc,List.cons_append];rw [show off + k + 1 + vs.length=off + k + (vs.length + 1) by omega]
section
variable {ds:List Deferred}{P:Program}{A:AS}{β:Nat→Nat}{nt:Nat}{f:Fr}{p:aE}{s s':PS}{q:PV}{E:gy}{d:Option Tmp}{ty:TypeId}{pos:String}{af:Array Edge}{gu:Option (Nat × Bool)}
theorem MP {n:Nat}{z:Value} (h:CL z=true):Rs A β n z.cells.toList (cI (ig z)):=by
 cases z with
 | agg cs=>exact Cs.up (hU _ h)
 | func fn a b=>cases h
 | _=>exact .cons _ _ _ _ (.cl _ _ (.sc _ h)) .nil
theorem wy {n:Nat}{z:Value} (h:CL z=true):Rs A β n z.cells.toList (z.cells.toList.map .sc):=by
 cases z with
 | agg cs=>exact Cs.up (hU _ h)
 | func fn a b=>cases h
 | _=>exact .cons _ _ _ _ (.cl _ _ (.sc _ h)) .nil
theorem H4 (hO:be P) (hi:bE A) (hs:RS A β s) {e:Nat}{z:Value} (hz:dR P e=some z) (ho:CL z=true) :
  dw P A β s f ⟨d,.alloc e,ty,pos,af,gu⟩ (.ptr s.n 0 (cI (ig z)).length) (s.new ⟨cI (ig z),0,e⟩) E:=
 CZ hO hi hs (by show qY A e (dR P e)=_; rw [hz]; rfl) (MP ho)
theorem D4 {n:Nat} (hf:RF ds A β n nt f p) {g:Nat→Option (Nat × Nat)} : ∀(ps:List (Nat × Operand)) (l:List (Nat × Nat × Operand)) (zc:Array Value) (zp cs:List PV),Rs A β n zc.toList zp→mg g ps=some l→aD p zp l=some cs→
  ∃vs out,iH f ps=some vs∧Instr.fill g zc vs=some out∧Rs A β n out.toList cs:=by
 intro ps
 induction ps with
 | nil=>
  intro l zc zp cs hz hp hc;simp only [mg] at hp;injection hp with hp; subst hp;simp only [aD] at hc;injection hc with hc; subst hc;exact⟨[],zc,rfl,rfl,hz⟩
 | cons y ps ih=>
  intro l zc zp cs hz hp hc;obtain⟨i,x⟩:=y;simp only [mg] at hp;split at hp
  ·rename_i off sz r hg hx hr;injection hp with hp; subst hp;simp only [aD] at hc;split at hc
   ·rename_i hl;obtain⟨v,h1,h2⟩:=aL hf hx;have hcl:=h2.cells;have hlen:=hcl.len;have hzl:=hz.len;rw [Array.length_toList] at hlen hzl;have hput:Rs A β n (v.cells.zipIdx.foldl (fun cs (x:Value × Nat)=>cs.setIfInBounds (off + x.2) x.1) zc).toList (zp.take off ++ (cI (aA p x) ++ zp.drop (off + sz))):=by
     rw [← Array.foldl_toList,Array.toList_zipIdx];have:=JQ off v.cells.toList 0 zc (by rw [Array.length_toList]; omega);rw [this,Nat.add_zero,Array.length_toList,hlen,hl.1];exact (hz.take off).app (hcl.app (hz.drop _))
    obtain⟨vs,out,e1,e2,e3⟩:=ih r _ _ cs hput hr hc;refine⟨(i,v) :: vs,out,?_,?_,e3⟩
    ·show (match f.eval x with | some v=>(match iH f ps with | some vs=>some ((i,v) :: vs) | none=>none) | none=>none)=_;rw [h1,e1]
    ·simp only [Instr.fill];rw [hg];simp only;rw [if_neg (by simp; omega)];exact e2
   ·cases hc
  ·cases hp
theorem HE (hO:be P) (hi:bE A) (hs:RS A β s) (hf:RF ds A β s.n nt f p) {t:Nat}{ps:Array (Nat × Operand)}{z:Value}{fs:Array Field}{l:List (Nat × Nat × Operand)}{cs:List PV} (hz:dR P t=some z) (hu:P.underlying t=some (.struct fs))
  (hp:mg (fun i=>(fs[i]?).bind fun fl=>(bP P fl.type).map fun n=>(fl.offset,n)) ps.toList=some l) (hb:Nat.ble (Nat.succ t) P.types.size=true) (ho:CL z=true) (hc:aD p (z.cells.toList.map .sc) l=some cs) :
  dw P A β s f ⟨d,.build t ps,ty,pos,af,gu⟩ (.agg cs) s E:=by
 obtain⟨vs,out,e1,e2,e3⟩:=D4 hf ps.toList l z.cells _ cs (wy ho) hp hc;refine bf hO hi hs (u:=.agg out) ?_ (.agg _ _ e3);show lG P f t ps A=_;unfold lG;rw [hz,hu,e1];simp only;rw [hb,e2];rfl
theorem OJ {n:Nat}{l:List Value}{r:List PV} (h:Rs A β n l r):∀k,Rs A β n (List.replicate k l).flatten (List.replicate k r).flatten:=by
 intro k
 induction k with
 | zero=>exact .nil
 | succ k ih=>simp only [List.replicate_succ,List.flatten_cons]; exact h.app ih
theorem D7 (hO:be P) (hi:bE A) (hs:RS A β s) (hf:RF ds A β s.n nt f p) {t e len n:Nat}{ps:Array (Nat × Operand)}{z:Value}{l:List (Nat × Nat × Operand)}{cs:List PV} (hu:P.underlying t=some (.slice e)) (hz:dR P e=some z) (hn:bP P e=some n)
  (hp:mg (fun i=>some (i * n,n)) ps.toList=some l) (hb:Nat.ble (Nat.mul len n) 1048576=true) (hzl:Nat.beq z.cells.toList.length n=true) (ho:CL z=true) (hc:aD p ((List.replicate len z.cells.toList).flatten.map .sc) l=some cs) :
  dw P A β s f ⟨d,.buildSlice t len ps,ty,pos,af,gu⟩ (.own s.n 0 len cs.length) (s.new ⟨cs,0,e⟩) E:=by
 have hzz:Rs A β s.n (List.replicate len z.cells.toList).flatten ((List.replicate len z.cells.toList).flatten.map .sc):=by
  have:=OJ (A:=A) (β:=β) (n:=s.n) (wy (z:=z) ho) len;rw [List.map_flatten,List.map_replicate];exact this
 obtain⟨vs,out,e1,e2,e3⟩:=D4 hf ps.toList l (List.replicate len z.cells.toList).flatten.toArray _ cs (by simpa using hzz) hp hc;refine BW hO hi hs (cells:=out.toList) ?_ e3;show ei P f t len ps A=_;unfold ei;rw [hu];simp only;rw [hz,hn,e1];simp only;rw [if_pos (by rw [hb,hzl]; rfl),e2];rfl
theorem D1 (hO:be P) (hi:bE A) (hs:RS A β s) (hf:RF ds A β s.n nt f p) {t sz:Nat}{ag:Bool}{x:Operand}{dd:TypeDesc} (hx:cE x=true) (hd:P.underlying t=some dd) (hag:jI (some dd)=ag) (hsz:if ag then bP P t=some sz else sz=1)
  (h:bS P p s (.load t ag sz x)=some (q,s')):dw P A β s f ⟨d,.load t x,ty,pos,af,gu⟩ q s' (aZ (aA p x)):=by
 obtain⟨v,h1,h2⟩:=pQ (P:=P) hf hx;simp only [bS,Option.bind_eq_some_iff,Option.map_eq_some_iff] at h;obtain⟨cs,hcs,v',hv',he⟩:=h;injection he with he1 he2; subst he1; subst he2;obtain⟨b,o,xs,c,rfl,hl,hr,_,hef⟩:=EZ hs h2 hcs;obtain⟨u,k1,k2⟩:=uD hag hsz hl hr hv';refine fY hO hi hs (u:=u) (c:=c) ?_ k2 (by
  rcases hef with ⟨k,_,hk,rfl⟩ | ⟨_,hp⟩
  ·exact (hs.blk k hk).lt
  ·exact hp.1) hef
 show m7 P t (evalG P f x) A=_;rw [h1];show (match P.underlying t with | some d=>kY P t d b o A | none=>none)=_;rw [hd];exact k1
theorem Is (hO:be P) (hi:bE A) (hs:RS A β s) (hf:RF ds A β s.n nt f p) {t i m:Nat}{x:Operand}{fs:Array Field}{fl:Field} (hx:cE x=true) (hfs:gh P t=some fs) (hfl:fs[i]?=some fl) (hsz:bP P fl.type=some (m + 1))
  (h:bS P p s (.faddr fl.offset x)=some (q,s')):dw P A β s f ⟨d,.fieldAddr t x i,ty,pos,af,gu⟩ q s' E:=by
 obtain⟨v,h1,h2⟩:=pQ (P:=P) hf hx;have key:∀b o,v=.pointer (some ⟨b,o,none⟩)→aU P f ⟨d,.fieldAddr t x i,ty,pos,af,gu⟩ A=some (.val (.pointer (some ⟨b,o + fl.offset,none⟩)),A):=by
  rintro b o rfl;show fK P t (evalG P f x) i A=_;rw [h1];unfold fK;simp only [hfs,hfl,hsz];rfl
 simp only [bS] at h;split at h
 ·rename_i k off fin hp;injection h with h; injection h with e1 e2; subst e1; subst e2;rw [hp] at h2;cases h2 with
  | cl _ _ h=>cases h
  | ptr b o _ _ _ e cells st ok hk hg ho hf'=>
   exact bf hO hi hs (key b o rfl) (.ptr b (o + fl.offset) k _ fin e cells st ok hk hg (by omega) hf')
 ·rename_i cs hp;split at h
  ·rename_i hle;injection h with h; injection h with e1 e2; subst e1; subst e2;rw [hp] at h2;have h3:=h2.litp;cases h3 with
   | litp b off e _ cells c st hg hpr hl hh=>
    refine bf hO hi hs (key b off rfl) (.cl _ _ (.litp b (off + fl.offset) e _ cells c st hg hpr (by rw [List.length_drop]; omega) ?_));have:=Cs.drop hh fl.offset;rw [List.drop_take,List.drop_drop] at this;rw [List.length_drop];exact this
  ·cases h
 ·cases h
theorem vT {n:Nat}{ag:Bool}{xs:List Value}{cs:List PV}{v:PV} (h:Rs A β n xs cs) (hv:ad ag cs=some v):(ag=true∧R1 A β n (.agg xs.toArray) v)∨(ag=false∧∃u,xs=[u]∧R1 A β n u v):=by
 cases ag with
 | true=>
  simp only [ad,if_true] at hv;injection hv with hv; subst hv;exact .inl ⟨rfl,.agg _ _ (by simpa using h)⟩
 | false=>
  simp only [ad] at hv;rw [if_neg (by simp)] at hv;split at hv
  ·injection hv with hv; subst hv;cases h with
   | cons u _ l _ h hn=>cases hn; exact .inr ⟨rfl,u,rfl,h⟩
  ·cases hv
theorem G0 (hO:be P) (hi:bE A) (hs:RS A β s) (hf:RF ds A β s.n nt f p) {t i sz:Nat}{ag:Bool}{x:Operand}{fs:Array Field}{fl:Field}{dd:TypeDesc} (hx:cE x=true) (hfs:gh P t=some fs) (hfl:fs[i]?=some fl) (hd:P.underlying fl.type=some dd) (hag:jI (some dd)=ag)
  (hsz:if ag then bP P fl.type=some sz else sz=1) (h:bS P p s (.fld ag fl.offset sz x)=some (q,s')):dw P A β s f ⟨d,.field t x i,ty,pos,af,gu⟩ q s' E:=by
 obtain⟨v,h1,h2⟩:=aL hf hx;simp only [bS] at h;split at h
 ·rename_i cs hp;rw [hp] at h2;split at h
  ·rename_i hle;simp only [Option.map_eq_some_iff] at h;obtain⟨v',hv',he⟩:=h;injection he with e1 e2; subst e1; subst e2;obtain⟨xs,rfl,hxs⟩ : ∃xs,v=.agg xs∧Rs A β s.n xs.toList cs:=by
    cases h2 with
    | cl _ _ h=>cases h with | agg xs _ h=>exact⟨xs,rfl,Cs.up h⟩
    | agg xs _ h=>exact⟨xs,rfl,h⟩
   have hpart:uY P fl.type xs.toList fl.offset=Bool.rec xs.toList[fl.offset]? ((bP P fl.type).map fun n=>.agg ((xs.toList.drop fl.offset).take n).toArray) ag:=by
    unfold uY; rw [hd]; simp only [hag]
   have hev:∀u,uY P fl.type xs.toList fl.offset=some u→aU P f ⟨d,.field t x i,ty,pos,af,gu⟩ A=some (.val u,A):=fun u hu=>by
    show nj P t (f.eval x) i A=_;rw [h1];unfold nj;simp only [hfs,hfl,hu];rfl
   have hrs:=(hxs.drop fl.offset).take sz;rcases vT hrs hv' with ⟨rfl,hr⟩ | ⟨rfl,u,hu,hr⟩
   ·have hsz':bP P fl.type=some sz:=by simpa using hsz
    refine bf hO hi hs (hev _ ?_) hr;rw [hpart,hsz']; rfl
   ·have:sz=1:=by simpa using hsz
    subst this;refine bf hO hi hs (hev u ?_) hr;rw [hpart];show xs.toList[fl.offset]?=some u;rw [← List.head?_drop];cases hdr:xs.toList.drop fl.offset with
    | nil=>rw [hdr] at hu; cases hu
    | cons y l=>rw [hdr] at hu; simp only [List.take_succ_cons,List.take_zero] at hu; injection hu with hu; rw [hu]; rfl
  ·cases h
 ·cases h
theorem jk {n:Nat}{v:Value}{x:PV}{j:Nat} (h:R1 A β n v x) (hj:iu x=some j):gG v=some j∧∃k,v=.int k (j:Int):=by
 cases x with
 | sc u=>
  obtain⟨rfl,_⟩:=h.sc;cases v with
  | int k z=>
   simp only [iu] at hj;split at hj
   ·rename_i hz;injection hj with hj;obtain⟨m,rfl⟩:=Int.eq_ofNat_of_zero_le hz;simp only [Int.toNat_natCast] at hj;subst hj;exact⟨rfl,k,rfl⟩
   ·cases hj
  | _=>simp [iu] at hj
 | _=>simp [iu] at hj
theorem Hb (hO:be P) (hi:bE A) (hs:RS A β s) (hf:RF ds A β s.n nt f p) {t e es:Nat}{x y:Operand} (hx:cE x=true) (hy:cE y=true) (hu:P.underlying t=some (.slice e)) (hsz:bP P e=some es)
  (h:bS P p s (.iaddr es x y)=some (q,s')):dw P A β s f ⟨d,.indexAddr t x y,ty,pos,af,gu⟩ q s' E:=by
 obtain⟨v,h1,h2⟩:=pQ (P:=P) hf hx;obtain⟨vi,i1,i2⟩:=aL hf hy;have key:∀b o m cap j,v=.slice (some ⟨b,o,none⟩) m cap→gG vi=some j→j < m→aU P f ⟨d,.indexAddr t x y,ty,pos,af,gu⟩ A=some (.val (.pointer (some ⟨b,o + j * es,none⟩)),A):=by
  rintro b o m cap j rfl hj hlt;show ew P t (evalG P f x) (f.eval y) A=_;rw [h1,i1];unfold ew;rw [hu];simp only [Option.bind_some,hj];unfold nJ;rw [hsz];simp only;rw [Nat.ble_eq_true_of_le (Nat.succ_le_of_lt hlt)];rfl
 have keyX:∀b o m j,v=.slice (some ⟨b,o,some 0⟩) m m→gG vi=some j→j < m→aU P f ⟨d,.indexAddr t x y,ty,pos,af,gu⟩ A=some (.val (.pointer (some ⟨b,o + j * es,none⟩)),A):=by
  rintro b o m j rfl hj hlt;show ew P t (evalG P f x) (f.eval y) A=_;rw [h1,i1];unfold ew;rw [hu];simp only [Option.bind_some,hj];unfold nJ;rw [hsz];simp only;rw [Nat.ble_eq_true_of_le (Nat.succ_le_of_lt hlt)];rfl
 simp only [bS] at h;split at h
 ·rename_i k off m fin j hp hj;split at h
  ·rename_i hc;injection h with h; injection h with e1 e2; subst e1; subst e2;rw [hp] at h2;cases h2 with
   | cl _ _ h=>cases h
   | own b o _ _ _ _ cap e' cells st ok hk hg ho hf' hm=>
    exact bf hO hi hs (key b o m cap j rfl (jk i2 hj).1 hc.1) (.ptr b (o + j * es) k _ fin e' cells st ok hk hg (by omega) hf')
  ·cases h
 ·rename_i e' m cs j hp hj;split at h
  ·rename_i hc;injection h with h; injection h with e1 e2; subst e1; subst e2;rw [hp] at h2;have h3:=h2.lit;cases h3 with
   | lit b off _ cap _ _ cells c st hg hpr hl hm hh=>
    have hle:j * es≤cs.length:=by rw [hc.2]; exact Nat.mul_le_mul_right _ (Nat.le_of_lt hc.1)
    refine bf hO hi hs (key b off m cap j rfl (jk i2 hj).1 hc.1) (.cl _ _ (.litp b (off + j * es) e' _ cells c st hg hpr (by rw [List.length_drop]; omega) ?_));have:=Cs.drop hh (j * es);rw [List.drop_take,List.drop_drop] at this;rw [List.length_drop];exact this
  ·cases h
 ·rename_i e' m cs j hp hj;split at h
  ·rename_i hc;injection h with h; injection h with e1 e2; subst e1; subst e2;rw [hp] at h2;have h3:=h2.litx;cases h3 with
   | litx b off _ _ _ cells c st hg hpr hl hh=>
    have hle:j * es≤cs.length:=by rw [hc.2]; exact Nat.mul_le_mul_right _ (Nat.le_of_lt hc.1)
    refine bf hO hi hs (keyX b off m j rfl (jk i2 hj).1 hc.1) (.cl _ _ (.litp b (off + j * es) e' _ cells c st hg hpr (by rw [List.length_drop]; omega) ?_));have:=Cs.drop hh (j * es);rw [List.drop_take,List.drop_drop] at this;rw [List.length_drop];exact this
  ·cases h
 ·rename_i k off m fin j hp hj;split at h
  ·rename_i hc;injection h with h; injection h with e1 e2; subst e1; subst e2;rw [hp] at h2;cases h2 with
   | cl _ _ h=>cases h
   | ownx b o _ _ _ _ e' cells st ok hk hg ho hf'=>
    exact bf hO hi hs (keyX b o m j rfl (jk i2 hj).1 hc.1) (.ptr b (o + j * es) k _ fin e' cells st ok hk hg (by omega) hf')
  ·cases h
 ·cases h
theorem Ka (hO:be P) (hi:bE A) (hs:RS A β s) (hf:RF ds A β s.n nt f p) {t:Nat}{x y:Operand} (hx:cE x=true) (hy:cE y=true) (hu:P.underlying t=some .string)
  (h:bS P p s (.sidx x y)=some (q,s')):dw P A β s f ⟨d,.index t x y,ty,pos,af,gu⟩ q s' E:=by
 obtain⟨v,h1,h2⟩:=aL hf hx;obtain⟨vi,i1,i2⟩:=aL hf hy;simp only [bS] at h;split at h
 ·rename_i b j hp hj;split at h
  ·rename_i hc;injection h with h; injection h with e1 e2; subst e1; subst e2;rw [hp] at h2;obtain⟨rfl,_⟩:=h2.sc;refine bf hO hi hs (u:=.int .u8 ((b.data.toList.getD j 0).toNat:Int)) ?_ (.cl _ _ (.sc _ rfl));show nD P f _ t (f.eval x) (f.eval y) A=_;rw [h1,i1];unfold nD;simp only [hu,Option.bind_some,(jk i2 hj).1];rw [List.getElem?_eq_getElem hc];unfold Ch;simp only [bp,List.getD_eq_getElem?_getD,List.getElem?_eq_getElem hc,Option.getD_some];rfl
  ·cases h
 ·cases h
end
section
variable {ds:List Deferred}{P:Program}{A:AS}{β:Nat→Nat}{nt:Nat}{f:Fr}{p:aE}{s s':PS}{q:PV}{E:gy}{d:Option Tmp}{ty:TypeId}{pos:String}{af:Array Edge}{gu:Option (Nat × Bool)}
theorem ci {v:Value} (h:dP v=true):plain 50 v=true∧wQ v=true:=by
 cases v<;>first | (cases h; done) | exact⟨rfl,rfl⟩
theorem ec {o:Oper} (hs:RS A β s) {u:Value} (h:bQ P f A o (.val u) A) (hq:R1 A β s.n u q):dw P A β s f o q s E:=
 ⟨u,A,β,h,.refl A β s.n _,hs,hq,.same A β s.n E⟩
theorem wP {l:List Value} : ∀{cs:List PV}{a:List Value},Ly cs=some a→Rs A β s.n l cs→l=a∧a.all dP=true:=by
 intro cs
 induction cs generalizing l with
 | nil=>intro a h hr; injection h with h; subst h; cases hr; exact⟨rfl,rfl⟩
 | cons c cs ih=>
  intro a h hr;cases c with
  | sc v=>
   simp only [Ly] at h;split at h
   ·rename_i hv;rw [Option.map_eq_some_iff] at h;obtain⟨b,hb,rfl⟩:=h;cases hr with
    | cons u _ l' _ hu hs'=>
     obtain⟨rfl,h2⟩:=ih hb hs';obtain⟨rfl,_⟩:=R1.sc hu;exact⟨rfl,by simp [hv,h2]⟩
   ·cases h
  | _=>cases h
theorem vn {v:Value}{cs:List PV}{a:List Value} (h:Ly cs=some a) (hr:R1 A β s.n v (.agg cs)):v=.agg a.toArray∧plain 50 v=true:=by
 have key:∀xs:Array Value,Rs A β s.n xs.toList cs→xs=a.toArray∧plain 50 (.agg xs)=true:=by
  intro xs hx;obtain⟨h1,h2⟩:=wP h hx;refine⟨by rw [← h1],?_⟩;show xs.toList.all (plain 49)=true;rw [h1];rw [List.all_eq_true] at h2 ⊢;intro x hx;have:=h2 x hx;cases x<;>first | (cases this; done) | rfl
 cases hr with
 | cl _ _ h'=>cases h' with | agg xs _ h'=>obtain⟨e1,e2⟩:=key xs (Cs.up h'); exact⟨by rw [e1],e2⟩
 | agg xs _ h'=>obtain⟨e1,e2⟩:=key xs h'; exact⟨by rw [e1],e2⟩
theorem PY (hi:bE A) (hs:RS A β s) (hf:RF ds A β s.n nt f p) {t u:Nat}{op:BinOp}{x y:Operand} (hx:cE x=true) (hy:cE y=true) (h:bS P p s (.bin op t x y)=some (q,s')):dw P A β s f ⟨d,.binOp op t x y u,ty,pos,af,gu⟩ q s' E:=by
 obtain⟨vx,x1,x2⟩:=aL hf hx;obtain⟨vy,y1,y2⟩:=aL hf hy;simp only [bS,Option.map_eq_some_iff] at h;obtain⟨v',hv,he⟩:=h;injection he with e1 e2; subst e1; subst e2;unfold gP at hv;split at hv
 ·rename_i a b hpx hpy;split at hv
  ·rename_i hsc;rw [Bool.and_eq_true] at hsc;split at hv
   ·rename_i r hr;split at hv
    ·rename_i hrs;injection hv with hv; subst hv;rw [hpx] at x2;rw [hpy] at y2;obtain⟨rfl,_⟩:=x2.sc;obtain⟨rfl,_⟩:=y2.sc;refine ec hs (aM hi fun φ w a hf'=>?_) (.cl _ _ (.sc _ (ci hrs).2));have ex:a.eval x=vx:=cN φ 50 _ _ (ci hsc.1).1 (hf'.eval x1);have ey:a.eval y=vy:=cN φ 50 _ _ (ci hsc.2).1 (hf'.eval y1);have hrun:=gJ P _ hr w;have e:(execOp a.eval ⟨d,.binOp op t x y u,ty,pos,af,gu⟩).run P w=.ok (.value r) w:=by
      refine bT (s:=do eqGuard op t x y (a.eval x) (a.eval y); binOp op t (a.eval x) (a.eval y)) ?_;rw [ex,ey]; exact hrun
     rw [e];exact .val _ _ (cy φ 50 _ (ci hrs).1)
    ·cases hv
   ·cases hv
  ·cases hv
 ·rename_i cs ds hpx hpy;split at hv
  ·rename_i a b ha hb;split at hv
   ·rename_i r hr;split at hv
    ·rename_i hrs;injection hv with hv; subst hv;rw [hpx] at x2;rw [hpy] at y2;obtain⟨rfl,px⟩:=vn ha x2;obtain⟨rfl,py⟩:=vn hb y2;refine ec hs (aM hi fun φ w a hf'=>?_) (.cl _ _ (.sc _ (ci hrs).2));have ex:=cN φ 50 _ _ px (hf'.eval x1);have ey:=cN φ 50 _ _ py (hf'.eval y1);have hrun:=gJ P _ hr w;have e:(execOp a.eval ⟨d,.binOp op t x y u,ty,pos,af,gu⟩).run P w=.ok (.value r) w:=by
      refine bT (s:=do eqGuard op t x y (a.eval x) (a.eval y); binOp op t (a.eval x) (a.eval y)) ?_;rw [ex,ey]; exact hrun
     rw [e];exact .val _ _ (cy φ 50 _ (ci hrs).1)
    ·cases hv
   ·cases hv
  ·cases hv
 ·cases hv
theorem QM (hi:bE A) (hs:RS A β s) (hf:RF ds A β s.n nt f p) {t:Nat}{op:UnOp}{x:Operand} (hx:cE x=true) (h:bS P p s (.un op x)=some (q,s')):dw P A β s f ⟨d,.unOp op t x,ty,pos,af,gu⟩ q s' E:=by
 obtain⟨vx,x1,x2⟩:=aL hf hx;simp only [bS,Option.map_eq_some_iff] at h;obtain⟨v',hv,he⟩:=h;injection he with e1 e2; subst e1; subst e2;unfold Ul at hv;split at hv
 ·rename_i a hpx;split at hv
  ·rename_i hsc;split at hv
   ·rename_i r hr;split at hv
    ·rename_i hrs;injection hv with hv; subst hv;rw [hpx] at x2;obtain⟨rfl,_⟩:=x2.sc;refine ec hs (aM hi fun φ w a hf'=>?_) (.cl _ _ (.sc _ (ci hrs).2));have ex:a.eval x=vx:=cN φ 50 _ _ (ci hsc).1 (hf'.eval x1);have e:(execOp a.eval ⟨d,.unOp op t x,ty,pos,af,gu⟩).run P w=.ok (.value r) w:=by
      refine bT (s:=Op.unary op (a.eval x)) ?_;rw [ex]; exact gJ P _ hr w
     rw [e];exact .val _ _ (cy φ 50 _ (ci hrs).1)
    ·cases hv
   ·cases hv
  ·cases hv
 ·cases hv
theorem Ko (hi:bE A) (hs:RS A β s) (hf:RF ds A β s.n nt f p) {t u:Nat}{k k':IntKind}{x:Operand} (hx:cE x=true) (ht:P.underlying t=some (.int k')) (hu:P.underlying u=some (.int k)) (h:bS P p s (.conv k x)=some (q,s')):dw P A β s f ⟨d,.convert t u x,ty,pos,af,gu⟩ q s' E:=by
 obtain⟨vx,x1,x2⟩:=aL hf hx;simp only [bS,Option.map_eq_some_iff] at h;obtain⟨v',hv,he⟩:=h;injection he with e1 e2; subst e1; subst e2;unfold yk at hv;split at hv
 ·rename_i k2 z hpx;injection hv with hv; subst hv;rw [hpx] at x2;obtain⟨rfl,_⟩:=x2.sc;refine ec hs (aM hi fun φ w a hf'=>?_) (.cl _ _ (.sc _ rfl));have ex:a.eval x=.int k2 z:=cN φ 50 _ _ rfl (hf'.eval x1);have e:(execOp a.eval ⟨d,.convert t u x,ty,pos,af,gu⟩).run P w=.ok (.value (.int k (k.wrap z))) w:=by
   refine bT (s:=convert t u (a.eval x)) ?_;rw [ex];simp only [convert,Sem.run_bind,run_underlying ht,run_underlying hu,Result.andThen];rfl
  rw [e];exact .val _ _ (.int _ _)
 ·cases hv
theorem Gc (hO:be P) (hi:bE A) (hs:RS A β s) (hf:RF ds A β s.n nt f p) {t:Nat}{str:Bool}{x:Operand}{dd:TypeDesc} (hx:cE x=true) (hu:P.underlying t=some dd) (hd:(str=false∧∃e,dd=.slice e)∨(str=true∧dd=.string))
  (h:bS P p s (.len str x)=some (q,s')):dw P A β s f ⟨d,.call ⟨.builtin .len,#[x],#[t]⟩,ty,pos,af,gu⟩ q s' E:=by
 obtain⟨vx,x1,x2⟩:=aL hf hx;simp only [bS,Option.map_eq_some_iff] at h;obtain⟨v',hv,he⟩:=h;injection he with e1 e2; subst e1; subst e2;have key:∀m:Nat,BG P f ⟨d,.call ⟨.builtin .len,#[x],#[t]⟩,ty,pos,af,gu⟩ (some dd) (some vx) A=some (.val (.int .i64 (m:Int)),A)→aU P f ⟨d,.call ⟨.builtin .len,#[x],#[t]⟩,ty,pos,af,gu⟩ A=some (.val (.int .i64 (m:Int)),A):=fun m hm=>by
  show BG P f _ (P.underlying t) (f.eval x) A=_;rw [hu,x1]; exact hm
 unfold oC at hv;split at hv
 ·rename_i hpx;injection hv with hv; subst hv;rw [hpx] at x2;obtain⟨rfl,_⟩:=x2.sc;rcases hd with ⟨_,e,rfl⟩ | ⟨h,_⟩
  ·exact bf hO hi hs (key 0 rfl) (.cl _ _ (.sc _ rfl))
  ·cases h
 ·rename_i b hpx;injection hv with hv; subst hv;rw [hpx] at x2;obtain⟨rfl,_⟩:=x2.sc;rcases hd with ⟨h,_⟩ | ⟨_,rfl⟩
  ·cases h
  ·exact bf hO hi hs (key _ (by unfold BG; simp only [bp]; rfl)) (.cl _ _ (.sc _ rfl))
 ·rename_i e m cs hpx;injection hv with hv; subst hv;rw [hpx] at x2;have x3:=x2.lit;rcases hd with ⟨_,e',rfl⟩ | ⟨h,_⟩
  ·cases x3;exact bf hO hi hs (key _ rfl) (.cl _ _ (.sc _ rfl))
  ·cases h
 ·rename_i e m cs hpx;injection hv with hv; subst hv;rw [hpx] at x2;have x3:=x2.litx;rcases hd with ⟨_,e',rfl⟩ | ⟨h,_⟩
  ·cases x3;exact bf hO hi hs (key _ rfl) (.cl _ _ (.sc _ rfl))
  ·cases h
 ·rename_i k off m fin hpx;injection hv with hv; subst hv;rw [hpx] at x2;rcases hd with ⟨_,e',rfl⟩ | ⟨h,_⟩
  ·cases x2 with
   | cl _ _ h=>cases h
   | own=>exact bf hO hi hs (key _ rfl) (.cl _ _ (.sc _ rfl))
  ·cases h
 ·rename_i k off m fin hpx;injection hv with hv; subst hv;rw [hpx] at x2;rcases hd with ⟨_,e',rfl⟩ | ⟨h,_⟩
  ·cases x2 with
   | cl _ _ h=>cases h
   | ownx=>exact bf hO hi hs (key _ rfl) (.cl _ _ (.sc _ rfl))
  ·cases h
 ·cases hv
theorem oR {n:Nat} (hf:RF ds A β n nt f p):∀(l:List Operand),l.all cE=true→∃vs,iq f l=some vs∧Rs A β n vs (l.map (aA p)):=by
 intro l
 induction l with
 | nil=>intro _; exact⟨[],rfl,.nil⟩
 | cons x l ih=>
  intro h;rw [List.all_cons,Bool.and_eq_true] at h;obtain⟨v,h1,h2⟩:=aL hf h.1;obtain⟨vs,h3,h4⟩:=ih h.2;refine⟨v :: vs,?_,.cons _ _ _ _ h2 h4⟩;show (match f.eval x with | some v=>(match iq f l with | some vs=>some (v :: vs) | none=>none) | none=>none)=_;rw [h1,h3]
theorem Jp (hO:be P) (hi:bE A) (hs:RS A β s) (hf:RF ds A β s.n nt f p) {g:Nat}{a b:Array Operand} (ha:a.toList.all cE=true) (hb:b.toList.all cE=true) :
  dw P A β s f ⟨d,.makeFunc (.func g) a b,ty,pos,af,gu⟩ (.fn g (a.toList.map (aA p)) (b.toList.map (aA p))) s E:=by
 obtain⟨vs,a1,a2⟩:=oR hf _ ha;obtain⟨us,b1,b2⟩:=oR hf _ hb;refine bf hO hi hs (u:=.func (.func g) vs.toArray us.toArray) ?_ (.fn g _ _ _ _ (by simpa using a2) (by simpa using b2));show s6 f (.func g) a b A=_;unfold s6;simp only [a1,b1]
theorem Rs.get {n:Nat}{l:List Value}{r:List PV} (h:Rs A β n l r) {i:Nat}{v:PV} (hv:r[i]?=some v):∃u,l[i]?=some u∧R1 A β n u v:=by
 induction r generalizing l i with
 | nil=>simp at hv
 | cons x r ih=>
  cases h with
  | cons u _ l _ h hn=>
   cases i with
   | zero=>simp at hv; subst hv; exact⟨u,by simp,h⟩
   | succ i=>simp only [List.getElem?_cons_succ] at hv ⊢; exact ih hn hv
theorem N6 (hO:be P) (hi:bE A) (hs:RS A β s) (hf:RF ds A β s.n nt f p) {i:Nat}{x:Operand} (hx:cE x=true) (h:bS P p s (.ext x i)=some (q,s')):dw P A β s f ⟨d,.extract x i,ty,pos,af,gu⟩ q s' E:=by
 obtain⟨vx,x1,x2⟩:=aL hf hx;simp only [bS] at h;split at h
 ·rename_i vs hp;simp only [Option.map_eq_some_iff] at h;obtain⟨v,hv,he⟩:=h;injection he with e1 e2; subst e1; subst e2;rw [hp] at x2;cases x2 with
  | cl _ _ h=>cases h
  | tup xs _ h=>
   obtain⟨u,h1,h2⟩:=Rs.get h hv;refine bf hO hi hs (u:=u) ?_ h2;show jY (f.eval x) i A=_;rw [x1];show lK A xs.toList[i]?=_;rw [h1]; rfl
 ·cases h
theorem mu {n:Nat} (hf:RF ds A β n nt f p) {x:Option Operand} (hx:ww x=true) {dflt m:Nat} (h:nV p x dflt=some m):fH f x dflt=some m:=by
 cases x with
 | none=>exact h
 | some x=>
  obtain⟨v,h1,h2⟩:=aL hf (x:=x) hx;show (match f.eval x with | some v=>gG v | none=>none)=_;rw [h1];exact (jk h2 h).1
theorem K5 (hO:be P) (hi:bE A) (hs:RS A β s) (hf:RF ds A β s.n nt f p) {t e es:Nat}{x y z:Operand} (hx:cE x=true) (hy:cE y=true) (hz:cE z=true) (hu:P.underlying t=some (.slice e)) (hsz:bP P e=some es)
  (h:bS P p s (.slc3 e es x y z)=some (q,s')):dw P A β s f ⟨d,.slice t x none (some y) (some z),ty,pos,af,gu⟩ q s' (aZ (aA p x)):=by
 obtain⟨vx,x1,x2⟩:=aL hf hx;have oy:∀m dflt,iu (aA p y)=some m→fH f (some y) dflt=some m:=fun m dflt hm=>mu hf (x:=some y) hy (show nV p (some y) dflt=some m from hm);have oz:∀m dflt,iu (aA p z)=some m→fH f (some z) dflt=some m:=fun m dflt hm=>mu hf (x:=some z) hz (show nV p (some z) dflt=some m from hm);simp only [bS] at h;split at h
 ·rename_i e' n cs hh m hp h1 h2;split at h
  ·rename_i hc;injection h with h; injection h with e1 e2; subst e1; subst e2;obtain⟨rfl,c2,c3,rfl⟩:=hc;rw [hp] at x2 ⊢;have x3:=x2.lit;cases x3 with
   | lit b off _ cap _ _ cells c st hg hpr hl hm hh'=>
    have hmul:hh * es≤n * es:=Nat.mul_le_mul_right _ c2;have hev:aU P f ⟨d,.slice t x none (some y) (some z),ty,pos,af,gu⟩ A=some (.val (.slice (some ⟨b,off,some 0⟩) hh hh),bO A c):=by
     show mi (some z) (some y) (dz P f _ t (f.eval x) none (some y) (some z) A)=_;have:dz P f ⟨d,.slice t x none (some y) (some z),ty,pos,af,gu⟩ t (f.eval x) none (some y) (some z) A=some (.val (.slice (some ⟨b,off,some 0⟩) hh hh),bO A c):=by
      rw [x1];unfold dz;simp only [hu,oy hh n h1,oz hh cap h2,hsz];show ga P b off 0 hh hh cap es A=_;unfold ga o7;rw [hg];simp only [hsz,Nat.beq_refl];unfold sliceX;rw [Nat.ble_eq_true_of_le (Nat.zero_le hh),Nat.ble_eq_true_of_le (Nat.le_trans c2 hm),Nat.beq_refl];simp only [Bool.and_self];show some (cu.val (.slice (some ⟨b,off + 0 * es,some 0⟩) hh hh),bO A c)=_;rw [Nat.zero_mul,Nat.add_zero]
     rw [this];rfl
    refine fY hO hi hs hev (.cl _ _ (.litx b off hh e' _ cells c st hg hpr ?_ ?_)) hpr.1 (.inr ⟨rfl,hpr⟩)
    ·rw [List.length_take]; omega
    ·have:=Cs.take hh' (hh * es);rw [List.take_take,Nat.min_eq_left (by omega)] at this;rw [List.length_take,Nat.min_eq_left (by omega)];exact this
  ·cases h
 ·rename_i hp h1 h2;injection h with h; injection h with e1 e2; subst e1; subst e2;rw [hp] at x2;obtain⟨rfl,_⟩:=x2.sc;refine bf hO hi hs (u:=.slice none 0 0) ?_ (.cl _ _ (.sc _ rfl));show mi (some z) (some y) (dz P f _ t (f.eval x) none (some y) (some z) A)=_;have:dz P f ⟨d,.slice t x none (some y) (some z),ty,pos,af,gu⟩ t (f.eval x) none (some y) (some z) A=some (.val (.slice none 0 0),A):=by
   rw [x1];unfold dz;have o0:fH f none 0=some 0:=rfl;simp only [hu,oy 0 0 h1,oz 0 0 h2,o0,hsz]
  rw [this];rfl
 ·rename_i k off n fin hh m hp h1 h2;split at h
  ·rename_i hc;injection h with h; injection h with e1 e2; subst e1; subst e2;obtain⟨rfl,c2,c3,c4,c5⟩:=hc;rw [hp] at x2 ⊢;cases x2 with
   | cl _ _ h=>cases h
   | own b o _ _ _ _ cap e' cells st ok hk hg ho hf' hm=>
    obtain⟨rfl,g2,g3⟩:=(hs.blk k hk).all _ _ _ _ _ hg;obtain⟨rfl,_⟩:=g3 (by omega);rw [c5] at hg;have hmul:hh * es≤n * es:=Nat.mul_le_mul_right _ c2;have hev:aU P f ⟨d,.slice t x none (some y) (some z),ty,pos,af,gu⟩ A=some (.val (.slice (some ⟨b,o,some 0⟩) hh hh),bO A (β k)):=by
     show mi (some z) (some y) (dz P f _ t (f.eval x) none (some y) (some z) A)=_;have:dz P f ⟨d,.slice t x none (some y) (some z),ty,pos,af,gu⟩ t (f.eval x) none (some y) (some z) A=some (.val (.slice (some ⟨b,o,some 0⟩) hh hh),bO A (β k)):=by
      rw [x1];unfold dz;simp only [hu,oy hh n h1,oz hh cap h2,hsz];show ga P b o 0 hh hh cap es A=_;unfold ga o7;rw [hg];simp only [hsz,Nat.beq_refl];unfold sliceX;rw [Nat.ble_eq_true_of_le (Nat.zero_le hh),Nat.ble_eq_true_of_le (Nat.le_trans c2 hm),Nat.beq_refl];simp only [Bool.and_self];show some (cu.val (.slice (some ⟨b,o + 0 * es,some 0⟩) hh hh),bO A (β k))=_;rw [Nat.zero_mul,Nat.add_zero]
     rw [this];rfl
    exact fY hO hi hs hev (.ownx b o k _ hh _ e cells st true hk hg (by omega) (by omega)) (hs.blk k hk).lt (.inl ⟨k,by simp [aZ],hk,rfl⟩)
  ·cases h
 ·cases h
theorem PO (hO:be P) (hi:bE A) (hs:RS A β s) (hf:RF ds A β s.n nt f p) {t e es:Nat}{x:Operand}{lo hi':Option Operand} (hx:cE x=true) (hlo:ww lo=true) (hhi:ww hi'=true) (hu:P.underlying t=some (.slice e)) (hsz:bP P e=some es)
  (h:bS P p s (.slc e es x lo hi')=some (q,s')):dw P A β s f ⟨d,.slice t x lo hi' none,ty,pos,af,gu⟩ q s' (aZ (aA p x)):=by
 obtain⟨vx,x1,x2⟩:=aL hf hx;simp only [bS] at h;split at h
 ·rename_i l hh h1 h2;simp only [Option.map_eq_some_iff] at h;obtain⟨v,hv,he⟩:=h;injection he with e1 e2; subst e1; subst e2;have key:∀b o m cap cells c st,vx=.slice (some ⟨b,o,none⟩) m cap→sO (aA p x)=m→A.heap.get b=some (.row cells e c st true)→l≤hh→hh≤m→m≤cap→
    aU P f ⟨d,.slice t x lo hi' none,ty,pos,af,gu⟩ A=some (.val (.slice (some ⟨b,o + l * es,none⟩) (hh - l) (cap - l)),bO A c):=by
   rintro b o m cap cells c st rfl hm hg hle1 hle2 hle3;rw [hm] at h2;show mi none hi' (dz P f _ t (f.eval x) lo hi' none A)=_;have:dz P f ⟨d,.slice t x lo hi' none,ty,pos,af,gu⟩ t (f.eval x) lo hi' none A=some (.val (.slice (some ⟨b,o + l * es,none⟩) (hh - l) (cap - l)),bO A c):=by
    rw [x1];unfold dz;simp only [hu,mu hf hlo h1,mu hf hhi h2,hsz];show sliceAt P b o l hh cap cap es A=_;unfold sliceAt o7;rw [hg];simp only [hsz,Nat.beq_refl];unfold kI;rw [Nat.ble_eq_true_of_le hle1,Nat.ble_eq_true_of_le (Nat.le_trans hle2 hle3),Nat.ble_eq_true_of_le (Nat.le_refl cap)];rfl
   rw [this];cases hi'<;>rfl
  unfold Hw at hv;split at hv
  ·rename_i e' m cs hp;split at hv
   ·rename_i hc;injection hv with hv; subst hv;rw [hp] at x2 key;have x3:=x2.lit;obtain⟨c1,c2,c3,rfl⟩:=hc;cases x3 with
    | lit b off _ cap _ _ cells c st hg hpr hl hm hh'=>
     have hmul:hh * es≤m * es:=Nat.mul_le_mul_right _ c2;have hmul2:l * es≤hh * es:=Nat.mul_le_mul_right _ c1;have hsub:(hh - l) * es=hh * es - l * es:=Nat.sub_mul _ _ _;refine fY hO hi hs (key b off m cap cells c st rfl rfl hg c1 c2 hm) (.cl _ _ (.lit b (off + l * es) (hh - l) (cap - l) e' _ cells c st hg hpr ?_ (by omega) ?_)) hpr.1 (.inr ⟨by rw [hp]; rfl,hpr⟩)
     ·rw [List.length_take,List.length_drop]; omega
     ·have:=Cs.take (Cs.drop hh' (l * es)) ((hh - l) * es);rw [List.drop_take,List.drop_drop,List.take_take,Nat.min_eq_left (by omega)] at this;rw [List.length_take,List.length_drop,Nat.min_eq_left (by omega)];exact this
   ·cases hv
  ·rename_i k off m fin hp;split at hv
   ·rename_i hc;injection hv with hv; subst hv;rw [hp] at x2 key;obtain⟨c1,c2,c3,c4,c5⟩:=hc;cases x2 with
    | cl _ _ h=>cases h
    | own b o _ _ _ _ cap e' cells st ok hk hg ho hf' hm=>
     obtain⟨rfl,g2,g3⟩:=(hs.blk k hk).all _ _ _ _ _ hg;obtain⟨rfl,_⟩:=g3 (by omega);rw [c5] at hg;have hmul:hh * es≤m * es:=Nat.mul_le_mul_right _ c2;refine fY hO hi hs (key b o m cap cells _ st rfl rfl hg c1 c2 hm) (.own b (o + l * es) k _ (hh - l) _ (cap - l) e cells st true hk hg (by omega) (by omega) (by omega)) (hs.blk k hk).lt (.inl ⟨k,by rw [hp]; simp [aZ],hk,rfl⟩)
   ·cases hv
  ·cases hv
 ·cases h
theorem Km (hO:be P) (hi:bE A) (hs:RS A β s) (hf:RF ds A β s.n nt f p) {t:Nat}{x:Operand}{lo hi':Option Operand} (hx:cE x=true) (hlo:ww lo=true) (hhi:ww hi'=true) (hu:P.underlying t=some .string)
  (h:bS P p s (.sslc x lo hi')=some (q,s')):dw P A β s f ⟨d,.slice t x lo hi' none,ty,pos,af,gu⟩ q s' E:=by
 obtain⟨vx,x1,x2⟩:=aL hf hx;simp only [bS] at h;split at h
 ·rename_i l hh h1 h2;simp only [Option.map_eq_some_iff] at h;obtain⟨v,hv,he⟩:=h;injection he with e1 e2; subst e1; subst e2;unfold tX at hv;split at hv
  ·rename_i b hp;split at hv
   ·rename_i hc;injection hv with hv; subst hv;rw [hp] at x2 h2;obtain⟨rfl,_⟩:=x2.sc;refine bf hO hi hs (u:=.string ⟨⟨(b.data.toList.drop l).take (hh - l)⟩⟩) ?_ (.cl _ _ (.sc _ rfl));show mi none hi' (dz P f _ t (f.eval x) lo hi' none A)=_;have:dz P f ⟨d,.slice t x lo hi' none,ty,pos,af,gu⟩ t (f.eval x) lo hi' none A=some (.val (.string ⟨⟨(b.data.toList.drop l).take (hh - l)⟩⟩),A):=by
     rw [x1];unfold dz;have h2':fH f hi' b.data.toList.length=some hh:=mu hf hhi h2;simp only [hu,mu hf hlo h1,h2'];unfold ou;rw [Nat.ble_eq_true_of_le hc.1,Nat.ble_eq_true_of_le hc.2,bg];rfl
    rw [this];cases hi'<;>rfl
   ·cases hv
  ·cases hv
 ·cases h
end
section
variable {ds:List Deferred}{P:Program}{A:AS}{β:Nat→Nat}{nt:Nat}{f:Fr}{p:aE}{s s':PS}{q:PV}{d:Option Tmp}{ty:TypeId}{pos:String}{af:Array Edge}{gu:Option (Nat × Bool)}
theorem one_ok {n:Nat}{v:Value}{x:PV} (h:R1 A β n v x) (ho:eQ x=true):nF v=true:=by
 cases h with
 | cl v p h=>
  cases h with
  | sc v h=>exact ho
  | agg=>cases ho
  | _=>rfl
 | agg=>cases ho
 | tup=>cases ho
 | _=>rfl
theorem ov {n:Nat}{l:List Value}{r:List PV} (h:Rs A β n l r) (ho:r.all eQ=true):l.all nF=true:=by
 induction r generalizing l with
 | nil=>cases h; rfl
 | cons x r ih=>
  rw [List.all_cons,Bool.and_eq_true] at ho;cases h with
  | cons v _ l _ h hn=>rw [List.all_cons,one_ok h ho.1,ih hn ho.2]; rfl
theorem u9 {y:eD}{cells:List Value}{e c st:Nat}{ok:Bool} (h:eD.row cells e c st ok=i5 y):ok=false∧∃ok',y=.row cells e c st ok':=by
 cases y with
 | row cells' e' c' st' ok'=>simp only [i5] at h; injection h with h1 h2 h3 h4 h5; subst h1 h2 h3 h4; exact⟨h5,ok',rfl⟩
 | map es k=>simp only [i5] at h; cases h
 | iter a b=>simp only [i5] at h; cases h
theorem HB {b o:Nat}{vs cells:List Value}{e c st:Nat} (hg:A.heap.get b=some (.row cells e c st true)) (hl:o + vs.length≤cells.length) (hz:A.fz.get c=none) (h1:vs.all nF=true):∃A',Ea A b o vs=some A':=by
 refine⟨lF ((lD A b c).put b (.row (cells.take o ++ (vs ++ cells.drop (o + vs.length))) e c st true)) c,?_⟩;unfold Ea;rw [hg];show D9 A b o vs cells e c st=_;unfold D9;have hfz:um A c (Nat.add st o)=true:=by unfold um; rw [hz]
 rw [bg,show Nat.ble (Nat.add o vs.length) cells.length=true from Nat.ble_eq_true_of_le hl,hfz,h1];rfl
theorem IJ {C:List PV}{st o l:Nat}{ys:List PV} (hl:ys.length=l) (hC:st + o + l≤C.length):(C.take (st + o) ++ (ys ++ C.drop (st + o + l))).drop st=(C.drop st).take o ++ (ys ++ (C.drop st).drop (o + l)):=by
 have h1:st≤(C.take (st + o)).length:=by rw [List.length_take]; omega
 rw [List.drop_append_of_le_length h1,List.drop_take,List.drop_drop,show st + o - st=o by omega,show st + (o + l)=st + o + l by omega]
theorem F5 {E:gy} (hi:bE A) (hs:RS A β s) {k off fin b o e st:Nat}{cells vs:List Value}{ok:Bool}{yc:List PV} (hk:k < s.n) (hg:A.heap.get b=some (.row cells e (β k) st ok)) (ho:st + o=off) (hf':fin≤st + cells.length) (hyc:Rs A β s.n vs yc)
  (c1:off + yc.length≤fin) (c2:fin=(s.h k).cells.length) (c3:yc.all eQ=true) (he1:k∈E.rd) (he2:k∈E.wr):∃A',Ea A b o vs=some A'∧Fw A A' β β s.n s.n (min s.w k)∧
   RS A' β (s.put k ⟨(s.h k).cells.take off ++ (yc ++ (s.h k).cells.drop (off + yc.length)),fin,(s.h k).e⟩)∧y7 A A' β β s.n s.n E:=by
 have hb:=hs.blk k hk;obtain⟨g1,g2,g3⟩:=hb.all _ _ _ _ _ hg;have hlow:(s.h k).low≤(s.h k).cells.length:=by
  rcases Nat.lt_or_ge (s.h k).cells.length (s.h k).low with h | h
  ·have:=hb.low h _ _ _ _ _ hg; omega
  ·exact h
 obtain⟨rfl,hrs⟩:=g3 (by omega);have hyl:=hyc.len;obtain⟨A',hA'⟩:=HB hg (o:=o) (vs:=vs) (by rw [hyl]; omega) (hb.fz hlow) (ov hyc c3);obtain⟨cells2,e2,c2',st2,K,sp⟩:=tH hi (Nat.le_refl _) hA';have hrow:=sp.row;rw [hg] at hrow;injection hrow with hrow;injection hrow with r1 r2 r3 r4;subst r1 r2 r3 r4;have W:=sp.wr;have hend:st + cells.length=(s.h k).cells.length:=by omega
 have hnext:A'.next=A.next:=by
  rcases W.next with ⟨h1,_⟩ | ⟨h1,_⟩
  ·have:=(hi.lt _ _ hg).1; omega
  ·exact h1
 have hroot:=W.root;have hkill:∀z∈K,∀cells' e' c' st' ok',A.heap.get z=some (.row cells' e' c' st' ok')→c'=β k:=fun z hz cells' e' c' st' ok' hg'=>hi.memr hroot (W.kill z hz) hg';have hnew:((cells.take o ++ (vs ++ cells.drop (o + vs.length)))).length=cells.length:=by
  have:=sp.len;simp only [List.length_append,List.length_take,List.length_drop];omega
 have hget:∀z,A'.heap.get z=if z=b then some (.row (cells.take o ++ (vs ++ cells.drop (o + vs.length))) e (β k) st true) else if z∈K then (A.heap.get z).map i5 else A.heap.get z:=W.heap;have hfw:Fw A A' β β s.n s.n (min s.w k):=by
  refine⟨Nat.le_refl _,by omega,fun _ _=>rfl,fun _ _ _=>by omega,fun z cells' e' c' st' hg' hp'=>?_,fun z cells' e' st' ok' j hj hg'=>?_,fun c hc hw=>?_⟩
  ·rw [hget];have hne:c'≠β k:=fun e=>hp'.2 k hk e.symm;rw [if_neg (by rintro rfl; rw [hg] at hg'; injection hg' with hg'; injection hg' with _ _ h3; exact hne h3.symm),if_neg (fun hz=>hne (hkill z hz _ _ _ _ _ hg'))];exact hg'
  ·rw [hget];by_cases hz:z=b
   ·subst hz;rw [hg] at hg';injection hg' with hg';injection hg' with h1 h2 h3 h4 h5;subst h1 h2 h4;rw [if_pos rfl];exact⟨_,true,by rw [h3],hnew⟩
   ·rw [if_neg hz];by_cases hzK:z∈K
    ·rw [if_pos hzK,hg'];exact⟨cells',false,rfl,rfl⟩
    ·rw [if_neg hzK];exact⟨cells',ok',hg',rfl⟩
  ·rw [W.w] at hw;rcases dX hw with h | h
   ·exact .inl h
   ·exact .inr ⟨k,Nat.min_le_right _ _,hk,h⟩
 refine⟨A',hA',hfw,?_,?_⟩
 ·constructor
  ·intro j hj;have hj':j < s.n:=hj;by_cases hjk:j=k
   ·subst hjk;show RB A' β s.n (β j) (if j=j then _ else s.h j);rw [if_pos rfl];have hCl:((s.h j).cells.take off ++ (yc ++ (s.h j).cells.drop (off + (yc).length))).length=(s.h j).cells.length:=by
     simp only [List.length_append,List.length_take,List.length_drop]; omega
    have hrows:∀z cells' e' st' ok',A'.heap.get z=some (.row cells' e' (β j) st' ok')→(z=b∧cells'=cells.take o ++ (vs ++ cells.drop (o + vs.length))∧e'=e∧st'=st∧ok'=true)∨(z≠b∧∃ok2,A.heap.get z=some (.row cells' e' (β j) st' ok2)):=by
     intro z cells' e' st' ok' hz;rw [hget] at hz;split at hz
     ·rename_i hzb;injection hz with hz;injection hz with h1 h2 h3 h4 h5;exact .inl ⟨hzb,h1.symm,h2.symm,h4.symm,h5.symm⟩
     ·rename_i hzb;split at hz
      ·obtain⟨y',k1,k2⟩:=eC hz;obtain⟨_,ok2,rfl⟩:=u9 k2;exact .inr ⟨hzb,ok2,k1⟩
      ·exact .inr ⟨hzb,ok',hz⟩
    refine⟨fun _=>⟨b,_,st,by rw [hget,if_pos rfl,g1],by rw [hnew,hend]; exact hCl.symm⟩,fun z cells' e' st' ok' hz=>?_,fun z1 z2 cells1 e1 st1 ok1 cells2 e2 st2 ok2 h1 h2 l1 l2=>?_,fun hl=>absurd hl (by show ¬ (_ < fin); rw [hCl]; omega),fun _=>by rw [sp.fze]; exact hb.fz hlow,by rw [hnext]; exact hb.lt,fun z cells' e' st' ok' hz=>by
     rcases hrows _ _ _ _ _ hz with ⟨_,_,_,rfl,_⟩ | ⟨_,ok2,hz'⟩
     ·exact hb.z _ _ _ _ _ hg
     ·exact hb.z _ _ _ _ _ hz'⟩
    ·show e'=(s.h j).e∧st' + cells'.length≤_∧(fin≤st' + cells'.length→_)
     rw [hCl];rcases hrows _ _ _ _ _ hz with ⟨rfl,rfl,rfl,rfl,rfl⟩ | ⟨hzb,ok2,hz'⟩
     ·refine⟨g1,by rw [hnew]; omega,fun _=>⟨rfl,?_⟩⟩;have hR:((List.drop st' (s.h j).cells).take o ++ (yc ++ (List.drop st' (s.h j).cells).drop (o + (yc).length))).length≤cells.length:=by
       simp only [List.length_append,List.length_take,List.length_drop]; omega
      rw [hnew,← ho,IJ rfl (by omega),List.take_of_length_le hR];rw [hyl];have h0:=hrs;rw [List.take_of_length_le (by rw [List.length_drop]; omega)] at h0;exact ((h0.take o).app (hyc.app (h0.drop _))).mono hfw
     ·obtain⟨k1,k2,k3⟩:=hb.all _ _ _ _ _ hz';refine⟨k1,k2,fun hle=>absurd (hb.uni _ _ _ _ _ _ _ _ _ _ hz' hg (by omega) hend) hzb⟩
    ·rw [hCl] at l1 l2;have q1:∃cells' e' st' ok',A.heap.get z1=some (.row cells' e' (β j) st' ok')∧st' + cells'.length=(s.h j).cells.length:=by
      rcases hrows _ _ _ _ _ h1 with ⟨rfl,rfl,rfl,rfl,rfl⟩ | ⟨_,ok2,hz'⟩
      ·exact⟨_,_,_,_,hg,hend⟩
      ·exact⟨_,_,_,_,hz',l1⟩
     have q2:∃cells' e' st' ok',A.heap.get z2=some (.row cells' e' (β j) st' ok')∧st' + cells'.length=(s.h j).cells.length:=by
      rcases hrows _ _ _ _ _ h2 with ⟨rfl,rfl,rfl,rfl,rfl⟩ | ⟨_,ok2,hz'⟩
      ·exact⟨_,_,_,_,hg,hend⟩
      ·exact⟨_,_,_,_,hz',l2⟩
     obtain⟨_,_,_,_,a1,a2⟩:=q1;obtain⟨_,_,_,_,b1,b2⟩:=q2;exact hb.uni _ _ _ _ _ _ _ _ _ _ a1 b1 a2 b2
   ·show RB A' β s.n (β j) (if j=k then _ else s.h j);rw [if_neg hjk];have hne:β j≠β k:=fun e=>hjk (hs.inj j k hj' hk e);refine (hs.blk j hj').mono hfw (fun z cells' e' st' ok'=>?_) (by rw [sp.fze]);rw [hget];constructor
    ·intro hz;split at hz
     ·injection hz with hz; injection hz with _ _ h3; exact absurd h3.symm hne
     ·split at hz
      ·rename_i hzK;obtain⟨y',k1,k2⟩:=eC hz;obtain⟨_,ok2,rfl⟩:=u9 k2;exact absurd (hkill _ hzK _ _ _ _ _ k1) hne
      ·exact hz
    ·intro hz;rw [if_neg (by rintro rfl; rw [hg] at hz; injection hz with hz; injection hz with _ _ h3; exact hne h3.symm),if_neg (fun hzK=>hne (hkill _ hzK _ _ _ _ _ hz))];exact hz
  ·exact hs.inj
  ·exact hs.lay.mono hfw fun c _=>by rw [sp.fze]
 ·refine⟨fun c hc=>?_,fun c hc=>?_,fun _ c h1 h2=>by omega⟩
  ·rcases W.r with h | h
   ·rw [h] at hc; exact .inl hc
   ·rw [h] at hc;rcases dX hc with h | h
    ·exact .inl h
    ·exact .inr (.inl ⟨k,he1,hk,h⟩)
  ·rw [W.w] at hc;rcases dX hc with h | h
   ·exact .inl h
   ·exact .inr (.inl ⟨k,he2,hk,h⟩)
theorem G8 (hO:be P) (hi:bE A) (hs:RS A β s) (hf:RF ds A β s.n nt f p) {t sz:Nat}{x y:Operand} (hx:cE x=true) (hy:cE y=true) (hsz:bP P t=some sz)
  (h:bS P p s (.store t sz x y)=some (q,s')):dw P A β s f ⟨d,.store t x y,ty,pos,af,gu⟩ q s' (aW p (.store t sz x y)):=by
 obtain⟨vx,x1,x2⟩:=aL hf hx;obtain⟨vy,y1,y2⟩:=aL hf hy;simp only [bS] at h;split at h
 ·rename_i hlen;simp only [Option.map_eq_some_iff] at h;obtain⟨s1,hst,he⟩:=h;injection he with e1 e2; subst e1; subst e2;unfold Ma at hst;split at hst
  ·rename_i k off fin hp;split at hst
   ·rename_i hc;injection hst with hst;obtain⟨c1,c2,c3⟩:=hc;rw [hp] at x2;cases x2 with
    | cl _ _ h=>cases h
    | ptr b o _ _ _ e cells st ok hk hg ho hf'=>
     have hyc:=y2.cells;have hyl:=hyc.len;have he:aW p (.store t sz x y)=⟨[k],[k],false,false⟩:=by simp only [aW,hp]
     rw [he,← hst];obtain⟨A',hA',k1,k2,k3⟩:=F5 (E:=⟨[k],[k],false,false⟩) hi hs hk hg ho hf' hyc c1 c2 c3 (by simp) (by simp);have hev:aU P f ⟨d,.store t x y,ty,pos,af,gu⟩ A=some (.val undef,A'):=by
      show mc P t (f.eval x) (f.eval y) A=_;rw [x1,y1];unfold mc;simp only [hsz];rw [show Nat.beq vy.cells.size sz=true by rw [← Array.length_toList,hyl,hlen]; exact Nat.beq_refl _,hA'];rfl
     exact⟨undef,A',β,hO f _ A _ _ hi (Nat.le_refl _) hev,k1,k2,.cl _ _ (.sc _ rfl),k3⟩
   ·cases hst
  ·cases hst
 ·cases h
end
section
variable {ds:List Deferred}{P:Program}{A:AS}{β:Nat→Nat}{nt:Nat}{f:Fr}{p:aE}{s s':PS}{q:PV}{E:gy}{d:Option Tmp}{ty:TypeId}{pos:String}{af:Array Edge}{gu:Option (Nat × Bool)}
theorem sj (hs:RS A β s) {v:Value}{x:PV} (hv:R1 A β s.n v x) {e e2 es n:Nat}{cs:List PV} (hsz:bP P e=some es) (h:eM s es x=some (cs,n)) :
  ∃xs A1,dB P e (some (.slice e2)) A v=some (xs,n,A1)∧Rs A β s.n xs cs∧(A1=A∨∃c,A1=bO A c∧c < A.next∧((∃k∈(aZ x).rd,k < s.n∧β k=c)∨((aZ x).li=true∧fW A β s.n c))):=by
 have key:∀b o m cap cells e' c st,v=.slice (some ⟨b,o,none⟩) m cap→A.heap.get b=some (.row cells e' c st true)→o + m * es≤cells.length→Rs A β s.n ((cells.drop o).take (m * es)) cs→m=n→((∃k∈(aZ x).rd,k < s.n∧β k=c)∨((aZ x).li=true∧fW A β s.n c))→
   ∃xs A1,dB P e (some (.slice e2)) A v=some (xs,n,A1)∧Rs A β s.n xs cs∧(A1=A∨∃c,A1=bO A c∧c < A.next∧((∃k∈(aZ x).rd,k < s.n∧β k=c)∨((aZ x).li=true∧fW A β s.n c))):=by
  rintro b o m cap cells e' c st rfl hg hl hr rfl hef;cases m with
  | zero=>
   rw [Nat.zero_mul,List.take_zero] at hr;exact⟨[],A,by unfold dB; simp only [hsz]; rfl,hr,.inl rfl⟩
  | succ m=>
   refine⟨_,bO A c,?_,hr,.inr ⟨c,rfl,by
    rcases hef with ⟨k,_,hk,rfl⟩ | ⟨_,hp⟩
    ·exact (hs.blk k hk).lt
    ·exact hp.1,hef⟩⟩
   unfold dB;simp only [hsz];show (ld A b o (Nat.mul (m + 1) es)).map _=_;rw [show Nat.mul (m + 1) es=(m + 1) * es from rfl,A8 hg hl];rfl
 unfold eM at h;split at h
 ·injection h with h; injection h with h1 h2; subst h1; subst h2;obtain⟨rfl,_⟩:=hv.sc;exact⟨[],A,rfl,.nil,.inl rfl⟩
 ·rename_i e' m cs';split at h
  ·rename_i hc;injection h with h; injection h with h1 h2; subst h1;have hl:=hv.lit;cases hl with
   | lit b off _ cap _ _ cells c st hg hp hl hm hh=>
    exact key b off m cap cells e' c st rfl hg (by omega) (by rw [← hc]; exact Cs.up hh) h2 (.inr ⟨rfl,hp⟩)
  ·cases h
 ·rename_i k off m fin;split at h
  ·rename_i hc;injection h with h; injection h with h1 h2; subst h1;obtain⟨c1,c2,c3⟩:=hc;cases hv with
   | cl _ _ h=>cases h
   | own b o _ _ _ _ cap e' cells st ok hk hg ho hf' hm=>
    obtain⟨g1,g2,g3⟩:=(hs.blk k hk).all _ _ _ _ _ hg;obtain⟨rfl,hr⟩:=g3 (by omega);refine key b o m cap cells e' (β k) st rfl hg (by omega) ?_ h2 (.inl ⟨k,by simp [aZ],hk,rfl⟩);have:=(hr.drop o).take (m * es);rw [List.drop_take,List.take_take,List.drop_drop,ho,Nat.min_eq_left (by omega)] at this;exact this
  ·cases h
 ·cases h
theorem y7.comp {B C:AS}{γ:Nat→Nat}{n m:Nat} (hB:B=A∨∃c,B=bO A c∧c < A.next∧((∃k∈E.rd,k < n∧β k=c)∨(E.li=true∧fW A β n c))) (h2:y7 B C β γ n m E):y7 A C β γ n m E:=by
 rcases hB with rfl | ⟨c0,rfl,h0,hef⟩
 ·exact h2
 ·have hn:(bO A c0).next=A.next:=by rw [aB]
  have hw:(bO A c0).w=A.w:=by rw [aB]
  have hr:∀c,(bO A c0).r.testBit c=true→A.r.testBit c=true∨c0=c:=fun c hc=>by rw [aB] at hc; exact dX hc
  have hp:∀c,fW (bO A c0) β n c→fW A β n c:=fun c hc=>⟨by rw [← hn]; exact hc.1,hc.2⟩
  refine⟨fun c hc=>?_,fun c hc=>?_,fun hca c c1 c2=>⟨fun hc=>?_,fun hc=>?_⟩⟩
  ·rcases h2.r c hc with h | h | ⟨h,h'⟩ | ⟨h,h'⟩ | h
   ·rcases hr c h with h | rfl
    ·exact .inl h
    ·exact .inr (hef.imp id .inl)
   ·exact .inr (.inl h)
   ·exact .inr (.inr (.inl ⟨h,hp c h'⟩))
   ·exact .inr (.inr (.inr (.inl ⟨by omega,h'⟩)))
   ·exact .inr (.inr (.inr (.inr h)))
  ·rcases h2.w c hc with h | h | ⟨h,h'⟩
   ·exact .inl (by rw [← hw]; exact h)
   ·exact .inr (.inl h)
   ·exact .inr (.inr ⟨by omega,h'⟩)
  ·rcases (h2.new hca c (by omega) c2).1 hc with h | h
   ·rcases hr c h with h | rfl
    ·exact .inl h
    ·omega
   ·exact .inr h
  ·rcases (h2.new hca c (by omega) c2).2 hc with h | h
   ·exact .inl (by rw [← hw]; exact h)
   ·exact .inr h
theorem Dk (s:AS) (cells:List Value) (e cls st:Nat) (ms:List Nat) (n:Nat):∃r,my s cells e cls st ms n=some r:=by
 cases s;unfold my;simp only [bg,bX,bp];exact⟨_,rfl⟩
theorem nE {i:TypeInfo}{z:Value}{len n:Nat}{xs:List Value} (hz:i.zero=some z) (hzs:Nat.beq z.cells.size i.size=true) (h1:i.size≠0) (h2:xs.length=n * i.size) (h3:(len + n) * i.bytes≤140737488355328) (h4:len + n≤1073741824) (h5:xs.all nF=true):uT i i.size len n xs=true:=by
 unfold uT;rw [hz];simp only;have e1:Nat.beq i.size 0=false:=by cases h:Nat.beq i.size 0 with | false=>rfl | true=>exact absurd (Nat.eq_of_beq_eq_true h) h1
 rw [e1,show Nat.beq xs.length (Nat.mul n i.size)=true by rw [h2]; exact Nat.beq_refl _,show Nat.ble (Nat.mul (Nat.add len n) i.bytes) 140737488355328=true from Nat.ble_eq_true_of_le h3,hzs,show Nat.ble (Nat.add len n) 1073741824=true from Nat.ble_eq_true_of_le h4,h5];rfl
theorem yK (hO:be P) (hi:bE A) (hs:RS A β s) (hf:RF ds A β s.n nt f p) {t u e n:Nat}{dd:TypeDesc}{i:TypeInfo}{z vx vy:Value}{x y:Operand}{xs:List Value}{ys:List PV}{A1:AS} (x1:f.eval x=some vx) (x2:R1 A β s.n vx (aA p x)) (y1:f.eval y=some vy) (ht:P.underlying t=some (.slice e)) (hu:P.underlying u=some dd) (hin:P.info? e=some i) (hz:i.zero=some z) (hzs:Nat.beq z.cells.size i.size=true)
  (hca:dB P e (some dd) A vy=some (xs,n,A1)) (hxs:Rs A β s.n xs ys) (hA1':A1=A∨∃c,A1=bO A c∧c < A.next∧((∃k∈E.rd,k < s.n∧β k=c)∨(E.li=true∧fW A β s.n c))) (hE1:∀k off m fin,aA p x=.own k off m fin→k∈E.rd∧k∈E.wr) (hE2:∀e m cs,aA p x=.litx e m cs→E.li=true)
  (h':fo s e i.size i.bytes (aA p x) ys n=some (q,s')):dw P A β s f ⟨d,.call ⟨.builtin .append,#[x,y],#[t,u]⟩,ty,pos,af,gu⟩ q s' E:=by
 have hh1:A1.heap=A.heap∧A1.next=A.next∧A1.w=A.w∧A1.fz=A.fz:=by
  rcases hA1' with rfl | ⟨c,rfl,_⟩
  ·exact⟨rfl,rfl,rfl,rfl⟩
  ·rw [aB]; exact⟨rfl,rfl,rfl,rfl⟩
 have hi1:bE A1:=by
  rcases hA1' with rfl | ⟨c,rfl,_⟩
  ·exact hi
  ·rw [aB]; exact⟨hi.lt,hi.mem,hi.memc,hi.root,hi.ml,hi.old,hi.fz⟩
 have hw1:∀lo,Fw A A1 β β s.n s.n lo:=fun lo=>.heap β s.n hh1.1 hh1.2.1 hh1.2.2.1;have hs1:RS A1 β s:=hs.same hh1.1 hh1.2.1 hh1.2.2.1 hh1.2.2.2;have x3:=x2.mono (hw1 0);have xs1:=hxs.mono (hw1 0);have hev:∀r,gZ P e A1 vx xs n=some r→aU P f ⟨d,.call ⟨.builtin .append,#[x,y],#[t,u]⟩,ty,pos,af,gu⟩ A=some r:=fun r hr=>by
  show Ez P (P.underlying t) (P.underlying u) (f.eval x) (f.eval y) A=_;rw [ht,hu,x1,y1];unfold Ez;simp only [hca];exact hr
 have mk:∀(uv:Value) (A':AS) (β':Nat→Nat),gZ P e A1 vx xs n=some (.val uv,A')→Fw A1 A' β β' s.n s'.n s'.w→RS A' β' s'→R1 A' β' s'.n uv q→y7 A1 A' β β' s.n s'.n E→dw P A β s f ⟨d,.call ⟨.builtin .append,#[x,y],#[t,u]⟩,ty,pos,af,gu⟩ q s' E:=
  fun uv A' β' h1 h2 h3 h4 h5=>⟨uv,A',β',hO f _ A _ _ hi (Nat.le_refl _) (hev _ h1),(hw1 s'.w).trans h2 (Nat.le_refl _),h3,h4,y7.comp hA1' h5⟩
 unfold fo at h';split at h'
 ·rename_i hn0;subst hn0;split at h'
  ·rename_i hsl;injection h' with h'; injection h' with e1 e2; subst e1; subst e2;refine mk vx A1 β ?_ (.refl A1 β s.n _) hs1 x3 (.same A1 β s.n _);have:∃b l c,vx=.slice b l c:=by
    unfold Tv at hsl;split at hsl
    ·rename_i hp; rw [hp] at x2; obtain⟨rfl,_⟩:=x2.sc; exact⟨_,_,_,rfl⟩
    ·rename_i hp; rw [hp] at x2; have x4:=x2.lit; cases x4; exact⟨_,_,_,rfl⟩
    ·rename_i hp; rw [hp] at x2;cases x2 with
     | cl _ _ h=>cases h
     | own=>exact⟨_,_,_,rfl⟩
    ·rename_i hp; rw [hp] at x2; have x4:=x2.litx; cases x4; exact⟨_,_,_,rfl⟩
    ·rename_i hp; rw [hp] at x2;cases x2 with
     | cl _ _ h=>cases h
     | ownx=>exact⟨_,_,_,rfl⟩
    ·cases hsl
   obtain⟨b,l,c,rfl⟩:=this;unfold gZ;simp only [hin];rfl
  ·cases h'
 ·rename_i hn0;obtain⟨m',rfl⟩ : ∃m',n=m' + 1:=⟨n - 1,by omega⟩
  split at h'
  case h_3=>
   rename_i ex m cs hp;split at h'
   ·rename_i hr;injection h' with h'; injection h' with e1 e2; subst e1; subst e2;obtain⟨⟨r1,r2,r3,r4,r5⟩,c1⟩:=hr;rw [hp] at x3;have hone:=ov xs1 r5;have x4:=R1.litx x3;cases x4 with
    | litx b off _ _ _ cells c st hg hpr hl hh=>
     have hcn:c < A1.next:=hpr.1;have hold:((cells.drop off).take (m * i.size)).length=m * i.size:=by rw [List.length_take,List.length_drop]; omega
     have hnL:(bO A1 c).next=A1.next:=by rw [aB]
     have hwL:Fw A1 (bO A1 c) β β s.n s.n (s.new ⟨cs ++ ys,0,e⟩).w:=by rw [aB]; exact .heap β s.n rfl rfl rfl
     have hsL:RS (bO A1 c) β s:=by rw [aB]; exact hs1.same rfl rfl rfl rfl
     have hiL:bE (bO A1 c):=(fd hi1 hcn).inv;have hold2:Rs A1 β s.n ((cells.drop off).take (m * i.size)) cs:=by rw [← c1]; exact Cs.up hh
     have hallL:Rs (bO A1 c) β s.n ((cells.drop off).take (m * i.size) ++ xs) (cs ++ ys):=RV.mono hwL (Rs.app hold2 xs1);refine mk (.slice (some ⟨A1.next,0,none⟩) (m + (m' + 1)) (m + (m' + 1))) (EvL.newRow (bO A1 c) ((cells.drop off).take (m * i.size) ++ xs) e) _ ?_ (hwL.trans (sl hiL β s.n _ e _) (Nat.le_refl _)) (wv hiL hsL e hallL) ?_ (y7.comp (.inr ⟨c,rfl,hcn,.inr ⟨hE2 _ _ _ hp,hpr⟩⟩) (rK β s.n _ e _))
     ·unfold gZ;simp only [hin];rw [nE hz hzs r1 (by rw [hxs.len]; exact r2) r3 r4 hone];show oY e A1 (some ⟨b,off,some 0⟩) m (m' + 1) i.size xs=_;unfold oY;simp only [hg];unfold Jr;rw [bg];rw [show ((cells.drop off).take (Nat.mul m i.size)).length=m * i.size from hold,show Nat.beq (m * i.size) (Nat.mul m i.size)=true from Nat.beq_refl _];rfl
     ·refine .own A1.next 0 s.n 0 (m + (m' + 1)) (cs ++ ys).length (m + (m' + 1)) e ((cells.drop off).take (m * i.size) ++ xs) 0 true (by show s.n < s.n + 1; omega) ?_ rfl (by simp [hold,hxs.len,c1]) (Nat.le_refl _);rw [iz,hnL,if_pos rfl,if_pos rfl]
   ·cases h'
  ·rename_i hp;split at h'
   ·rename_i hr;injection h' with h'; injection h' with e1 e2; subst e1; subst e2;obtain⟨r1,r2,r3,r4,r5⟩:=hr;rw [hp] at x2;obtain⟨rfl,_⟩:=x2.sc;have hone:=ov hxs r5;refine mk (.slice (some ⟨A1.next,0,none⟩) (m' + 1) (m' + 1)) (EvL.newRow A1 xs e) _ ?_ (sl hi1 β s.n xs e _) (wv hi1 hs1 e xs1) ?_ (rK β s.n xs e _)
    ·unfold gZ;simp only [hin];rw [nE hz hzs r1 (by rw [hxs.len]; exact r2) r3 r4 hone];rfl
    ·refine .own A1.next 0 s.n 0 (m' + 1) ys.length (m' + 1) e xs 0 true (by show s.n < s.n + 1; omega) ?_ rfl (by simp [hxs.len]) (Nat.le_refl _);rw [iz,if_pos rfl,if_pos rfl]
   ·cases h'
  ·rename_i k off m fin hp;split at h'
   ·rename_i hr;injection h' with h'; injection h' with e1 e2;obtain⟨⟨r1,r2,r3,r4,r5⟩,c1,c2,c3,c4,c5⟩:=hr;rw [hp] at x3;have hone:=ov xs1 r5;cases x3 with
    | cl _ _ h=>cases h
    | own b o _ _ _ _ cap e' cells st ok hk hg ho hf' hm=>
     have hb:=hs1.blk k hk;obtain⟨g1,g2,g3⟩:=hb.all _ _ _ _ _ hg;have hlow:(s.h k).low≤(s.h k).cells.length:=by omega
     obtain⟨rfl,hrs⟩:=g3 (by omega);have he':e'=e:=by rw [g1]; exact c5
     subst he';have hend:st + cells.length=(s.h k).cells.length:=by omega
     obtain⟨rfl,rfl⟩ : o=0∧st=0:=by omega
     subst c4;have hold:((cells.drop 0).take (m * i.size)).length=m * i.size:=by rw [List.length_take,List.length_drop]; omega
     obtain⟨r,hr⟩ : ∃r,sE A1 0 m (m' + 1) i.size e' (β k) 0 cells xs=some r:=by
      unfold sE;rw [bg,bp,bg];have h1:Nat.beq ((cells.drop 0).take (Nat.mul m i.size)).length (Nat.mul m i.size)=true:=by
       rw [show Nat.mul m i.size=m * i.size from rfl,hold]; exact Nat.beq_refl _
      have h2:um A1 (β k) (Nat.add (Nat.add 0 0) (Nat.mul m i.size))=true:=by unfold um; rw [hb.fz hlow]
      rw [h1,h2,show Nat.beq (Nat.mod 0 i.size) 0=true by rw [show Nat.mod 0 i.size=0 from Nat.zero_mod _]; rfl,hone];exact Dk _ _ _ _ _ _ _
     obtain⟨nx,A'⟩:=r;obtain⟨rfl,K,sp⟩:=xk hi1 (Nat.le_refl _) hg hr;have W:=sp.wr;have hroot:=W.root;have hnext:A'.next=A1.next + 1:=by
      rcases W.next with ⟨_,h1⟩ | ⟨h1,cs',e2',st',ok',h2⟩
      ·exact h1
      ·have:=(hi1.lt _ _ h2).1; omega
     have hkr:∀z cells' e2' c' st' ok',A1.heap.get z=some (.row cells' e2' c' st' ok')→z ∉ K:=by
      intro z cells' e2' c' st' ok' hz hzK;have hc:c'=β k:=hi1.memr hroot (W.kill z hzK) hz;subst hc;have h1:=sp.only z hzK _ _ _ _ _ hz;have h2:=(hb.all _ _ _ _ _ hz).2.1;omega
     have hget:∀z,A'.heap.get z=if z=A1.next then some (.row ((cells.drop 0).take (m * i.size) ++ xs) e' (β k) (0 + 0) true) else if z∈K then (A1.heap.get z).map i5 else A1.heap.get z:=W.heap;have hkeep:∀z cells' e2' c' st' ok',A1.heap.get z=some (.row cells' e2' c' st' ok')→A'.heap.get z=some (.row cells' e2' c' st' ok'):=by
      intro z cells' e2' c' st' ok' hz;rw [hget,if_neg (by have:=(hi1.lt _ _ hz).1; omega),if_neg (hkr _ _ _ _ _ _ hz)];exact hz
     have hback:∀z cells' e2' c' st' ok',A'.heap.get z=some (.row cells' e2' c' st' ok')→(z=A1.next∧cells'=(cells.drop 0).take (m * i.size) ++ xs∧e2'=e'∧c'=β k∧st'=0∧ok'=true)∨A1.heap.get z=some (.row cells' e2' c' st' ok'):=by
      intro z cells' e2' c' st' ok' hz;rw [hget] at hz;split at hz
      ·rename_i hzn;injection hz with hz;injection hz with h1 h2 h3 h4 h5;exact .inl ⟨hzn,h1.symm,h2.symm,h3.symm,h4.symm,h5.symm⟩
      ·split at hz
       ·rename_i hzK;obtain⟨y',k1,k2⟩:=eC hz;obtain⟨_,ok2,rfl⟩:=u9 k2;exact absurd hzK (hkr _ _ _ _ _ _ k1)
       ·exact .inr hz
     have hfw:Fw A1 A' β β s.n s.n (min s.w k):=by
      refine⟨Nat.le_refl _,by omega,fun _ _=>rfl,fun _ _ _=>by omega,fun z cells' e2' c' st' hg' _=>hkeep _ _ _ _ _ _ hg',fun z cells' e2' st' ok' j _ hg'=>⟨cells',ok',hkeep _ _ _ _ _ _ hg',rfl⟩,fun c hc hw=>?_⟩;rw [W.w] at hw;rcases dX hw with h | h
      ·exact .inl h
      ·exact .inr ⟨k,Nat.min_le_right _ _,hk,h⟩
     have hnl:((cells.drop 0).take (m * i.size) ++ xs).length=m * i.size + ys.length:=by rw [List.length_append,hold,(Rs.len xs1)]
     have hyl:ys.length=(m' + 1) * i.size:=r2;have hpos : 0 < ys.length:=by rw [hyl]; exact Nat.mul_pos (by omega) (Nat.pos_of_ne_zero r1)
     refine mk (.slice (some ⟨A1.next,0,none⟩) (m + (m' + 1)) (m + (m' + 1))) A' β ?_ (by rw [← e2]; exact hfw) ?_ ?_ ?_
     ·unfold gZ;simp only [hin];rw [nE hz hzs r1 (by rw [(Rs.len xs1)]; exact r2) r3 r4 hone];show oY e' A1 (some ⟨b,0,none⟩) m (m' + 1) i.size xs=_;unfold oY;simp only [hg];rw [Nat.beq_refl];exact hr
     ·rw [← e2];constructor
      ·intro j hj;have hj':j < s.n:=hj;by_cases hjk:j=k
       ·subst hjk;show RB A' β s.n (β j) (if j=j then _ else s.h j);rw [if_pos rfl];have hCl:((s.h j).cells ++ ys).length=(s.h j).cells.length + ys.length:=List.length_append;refine⟨fun _=>⟨A1.next,_,0,by rw [hget,if_pos rfl],by rw [hnl,hCl]; omega⟩,fun z cells' e2' st' ok' hz=>?_,fun z1 z2 cells1 e1' st1 ok1 cells2 e2' st2 ok2 h1 h2 l1 l2=>?_,fun hl=>absurd hl (by show ¬ (_ < (s.h j).low); rw [hCl]; omega),fun _=>by rw [sp.fze]; exact hb.fz hlow,by rw [hnext]; have:=hb.lt; omega,fun z cells' e2' st' ok' hz=>by
         rcases hback _ _ _ _ _ _ hz with ⟨_,_,_,_,rfl,_⟩ | hz'
         ·rfl
         ·exact hb.z _ _ _ _ _ hz'⟩
        ·show e2'=e'∧st' + cells'.length≤_∧((s.h j).low≤st' + cells'.length→_)
         rw [hCl];rcases hback _ _ _ _ _ _ hz with ⟨rfl,rfl,rfl,_,rfl,rfl⟩ | hz'
         ·refine⟨rfl,by rw [hnl]; omega,fun _=>⟨rfl,?_⟩⟩;rw [hnl,List.drop_zero,List.drop_zero];have h0:=hrs;rw [List.drop_zero,List.take_of_length_le (by omega)] at h0;have h1:(cells.take (m * i.size))=cells:=List.take_of_length_le (by omega);rw [h1,List.take_of_length_le (by rw [hCl]; omega)];exact (h0.app xs1).mono hfw
         ·obtain⟨k1,k2,k3⟩:=hb.all _ _ _ _ _ hz';refine⟨by rw [k1]; exact g1.symm,by omega,fun hle=>⟨(k3 hle).1,?_⟩⟩;rw [List.drop_append_of_le_length (by omega),List.take_append_of_le_length (by rw [List.length_drop]; omega)];exact (k3 hle).2.mono hfw
        ·rw [hCl] at l1 l2;rcases hback _ _ _ _ _ _ h1 with ⟨rfl,_⟩ | hz1
         ·rcases hback _ _ _ _ _ _ h2 with ⟨rfl,_⟩ | hz2
          ·rfl
          ·have:=(hb.all _ _ _ _ _ hz2).2.1; omega
         ·have:=(hb.all _ _ _ _ _ hz1).2.1; omega
       ·show RB A' β s.n (β j) (if j=k then _ else s.h j);rw [if_neg hjk];have hne:β j≠β k:=fun e=>hjk (hs.inj j k hj' hk e);refine (hs1.blk j hj').mono hfw (fun z cells' e2' st' ok'=>⟨fun hz=>?_,fun hz=>hkeep _ _ _ _ _ _ hz⟩) (by rw [sp.fze]);rcases hback _ _ _ _ _ _ hz with ⟨_,_,_,h4,_⟩ | hz'
        ·exact absurd h4 hne
        ·exact hz'
      ·exact hs.inj
      ·exact hs1.lay.mono hfw fun c _=>by rw [sp.fze]
     ·rw [← e1,← e2];refine .own A1.next 0 k 0 (m + (m' + 1)) _ (m + (m' + 1)) e' _ 0 true hk ?_ rfl (by rw [hnl]; omega) (Nat.le_refl _);rw [hget,if_pos rfl]
     ·have he:k∈E.rd∧k∈E.wr:=hE1 _ _ _ _ hp;have hkl:=hb.lt;rw [← e2];refine⟨fun c hc=>?_,fun c hc=>?_,fun _ c h1 h2=>⟨fun hc=>?_,fun hc=>?_⟩⟩
      ·rw [sp.bit] at hc;rcases dX hc with h | h
       ·exact .inl h
       ·exact .inr (.inl ⟨k,he.1,hk,h⟩)
      ·rw [W.w] at hc;rcases dX hc with h | h
       ·exact .inl h
       ·exact .inr (.inl ⟨k,he.2,hk,h⟩)
      ·rw [sp.bit] at hc;rcases dX hc with h | h
       ·exact .inl h
       ·omega
      ·rw [W.w] at hc;rcases dX hc with h | h
       ·exact .inl h
       ·omega
   ·cases h'
  ·cases h'
theorem NA (hO:be P) (hi:bE A) (hs:RS A β s) (hf:RF ds A β s.n nt f p) {t u e e2:Nat}{i:TypeInfo}{z:Value}{x y:Operand} (hx:cE x=true) (hy:cE y=true) (ht:P.underlying t=some (.slice e)) (hu:P.underlying u=some (.slice e2)) (hin:P.info? e=some i) (hz:i.zero=some z) (hzs:Nat.beq z.cells.size i.size=true)
  (h:bS P p s (.app e i.size i.bytes x y)=some (q,s')):dw P A β s f ⟨d,.call ⟨.builtin .append,#[x,y],#[t,u]⟩,ty,pos,af,gu⟩ q s' (aW p (.app e i.size i.bytes x y)):=by
 obtain⟨vx,x1,x2⟩:=aL hf hx;obtain⟨vy,y1,y2⟩:=aL hf hy;simp only [bS,Option.bind_eq_some_iff] at h;obtain⟨⟨ys,n⟩,hel,h⟩:=h;have hsz:bP P e=some i.size:=by unfold bP; rw [hin]; rfl
 obtain⟨xs,A1,hca,hxs,hA1⟩:=sj (e2:=e2) hs y2 hsz hel;have hsub:∀c,((∃k∈(aZ (aA p y)).rd,k < s.n∧β k=c)∨((aZ (aA p y)).li=true∧fW A β s.n c))→((∃k∈(aW p (.app e i.size i.bytes x y)).rd,k < s.n∧β k=c)∨((aW p (.app e i.size i.bytes x y)).li=true∧fW A β s.n c)):=by
  intro c hc;have e1:∀k∈(aZ (aA p y)).rd,k∈(aW p (.app e i.size i.bytes x y)).rd:=fun k hk=>by
   simp only [aW]; split
   ·exact List.mem_cons_of_mem _ hk
   ·exact hk
   ·exact hk
  have e2:(aZ (aA p y)).li=true→(aW p (.app e i.size i.bytes x y)).li=true:=fun hl=>by
   simp only [aW]; split
   ·exact hl
   ·rfl
   ·exact hl
  rcases hc with ⟨k,h1,h2⟩ | h
  ·exact .inl ⟨k,e1 k h1,h2⟩
  ·exact .inr ⟨e2 h.1,h.2⟩
 have hA1':A1=A∨∃c,A1=bO A c∧c < A.next∧((∃k∈(aW p (.app e i.size i.bytes x y)).rd,k < s.n∧β k=c)∨((aW p (.app e i.size i.bytes x y)).li=true∧fW A β s.n c)):=
  hA1.imp id fun ⟨c,h1,h2,h3⟩=>⟨c,h1,h2,hsub c h3⟩
 refine yK hO hi hs hf x1 x2 y1 ht hu hin hz hzs hca hxs hA1' (fun k off m fin hp=>?_) (fun e' m cs hp=>?_) h
 ·simp only [aW,hp]; exact⟨List.mem_cons_self,List.mem_cons_self⟩
 ·simp only [aW,hp]
end
section
variable {ds:List Deferred}{P:Program}{A:AS}{β:Nat→Nat}{nt:Nat}{f:Fr}{p:aE}{s s':PS}{q:PV}{E:gy}{d:Option Tmp}{ty:TypeId}{pos:String}{af:Array Edge}{gu:Option (Nat × Bool)}
theorem Ff (hO:be P) (hi:bE A) (hs:RS A β s) (hf:RF ds A β s.n nt f p) {mx:Bool}{x y:Operand}{tys:Array TypeId} (hx:cE x=true) (hy:cE y=true) (h:bS P p s (.mnx mx x y)=some (q,s')) :
  dw P A β s f ⟨d,.call ⟨.builtin (if mx then .max else .min),#[x,y],tys⟩,ty,pos,af,gu⟩ q s' E:=by
 obtain⟨vx,x1,x2⟩:=aL hf hx;obtain⟨vy,y1,y2⟩:=aL hf hy;simp only [bS] at h;split at h
 ·rename_i k a k' b h1 h2;injection h with h; injection h with e1 e2; subst e1; subst e2;rw [h1] at x2;rw [h2] at y2;obtain⟨rfl,_⟩:=x2.sc;obtain⟨rfl,_⟩:=y2.sc;refine bf hO hi hs ?_ (.cl _ _ (.sc _ rfl));cases mx with
  | true=>
   show dA P f ⟨d,.call ⟨.builtin .max,#[x,y],tys⟩,ty,pos,af,gu⟩ A=_;unfold dA;have hp:((⟨d,.call ⟨.builtin .max,#[x,y],tys⟩,ty,pos,af,gu⟩ : Oper).op.operands.toList.all (jl f))=true:=by
    show (([x,y]:List Operand).all (jl f))=true;simp only [List.all_cons,List.all_nil,jl,x1,y1];rfl
   rw [hp];have he:cF P (execOp (fun z=>(f.eval z).getD undef) ⟨d,.call ⟨.builtin .max,#[x,y],tys⟩,ty,pos,af,gu⟩)=some (.value (.int k (za true a b))):=by
    show cF P (do let d ← resolve (fun z=>(f.eval z).getD undef) ⟨.builtin .max,#[x,y],tys⟩ ty; invoke d.target d.args)=_;simp only [resolve,x1,y1,Option.getD_some,List.map_toArray,List.map_cons,List.map_nil];rfl
   rw [he];rfl
  | false=>
   show dA P f ⟨d,.call ⟨.builtin .min,#[x,y],tys⟩,ty,pos,af,gu⟩ A=_;unfold dA;have hp:((⟨d,.call ⟨.builtin .min,#[x,y],tys⟩,ty,pos,af,gu⟩ : Oper).op.operands.toList.all (jl f))=true:=by
    show (([x,y]:List Operand).all (jl f))=true;simp only [List.all_cons,List.all_nil,jl,x1,y1];rfl
   rw [hp];have he:cF P (execOp (fun z=>(f.eval z).getD undef) ⟨d,.call ⟨.builtin .min,#[x,y],tys⟩,ty,pos,af,gu⟩)=some (.value (.int k (za false a b))):=by
    show cF P (do let d ← resolve (fun z=>(f.eval z).getD undef) ⟨.builtin .min,#[x,y],tys⟩ ty; invoke d.target d.args)=_;simp only [resolve,x1,y1,Option.getD_some,List.map_toArray,List.map_cons,List.map_nil];rfl
   rw [he];rfl
 ·cases h
theorem Ms (hO:be P) (hi:bE A) (hs:RS A β s) (hf:RF ds A β s.n nt f p) {x:Operand} (hx:cE x=true) (h:bS P p s (.nck x)=some (q,s')):dw P A β s f ⟨d,.nilCheck x,ty,pos,af,gu⟩ q s' E:=by
 obtain⟨vx,x1,x2⟩:=aL hf hx;simp only [bS] at h;have ev:∀a,vx=.pointer (some a)→aU P f ⟨d,.nilCheck x,ty,pos,af,gu⟩ A=some (.val vx,A):=fun a ha=>by
  show iI P f _ (f.eval x) A=_;rw [x1,ha];rfl
 split at h
 ·rename_i k o fin hp;injection h with h; injection h with e1 e2; subst e1; subst e2;rw [hp] at x2;refine bf hO hi hs (u:=vx) ?_ x2;cases x2 with
  | cl _ _ h=>cases h
  | ptr=>exact ev _ rfl
 ·rename_i cs hp;injection h with h; injection h with e1 e2; subst e1; subst e2;rw [hp] at x2;refine bf hO hi hs (u:=vx) ?_ x2;have x3:=x2.litp;cases x3 with
  | litp=>exact ev _ rfl
 ·cases h
theorem Jc {n:Nat}{z:Value} (hz:CL z=true) (hp:plain 50 z=true) (es m:Nat) (hl:z.cells.toList.length=es):Rs A β n (lq z.cells.toList es (m * es)) (BV z.cells.toList es m):=by
 have h0:=wy (A:=A) (β:=β) (n:=n) hz;unfold lq BV;have key:∀l:List Nat,(∀k∈l,0 < es)→Rs A β n (l.map fun k=>z.cells.toList.getD (Nat.mod k es) undef) (l.map fun k=>PV.sc (z.cells.toList.getD (k % es) undef)):=by
  intro l
  induction l with
  | nil=>intro _; exact .nil
  | cons k l ih=>
   intro hk;refine .cons _ _ _ _ ?_ (ih fun j hj=>hk j (List.mem_cons_of_mem _ hj));have hm:k % es < z.cells.toList.length:=by rw [hl]; exact Nat.mod_lt _ (hk k (List.mem_cons_self ..))
   obtain⟨u,h1,h2⟩:=Rs.get h0 (i:=k % es) (v:=.sc (z.cells.toList[k % es])) (by rw [List.getElem?_map,List.getElem?_eq_getElem hm]; rfl);have e1:z.cells.toList.getD (k % es) undef=z.cells.toList[k % es]:=by rw [List.getD_eq_getElem?_getD,List.getElem?_eq_getElem hm]; rfl
   rw [List.getElem?_eq_getElem hm] at h1;injection h1 with h1;show R1 A β n (z.cells.toList.getD (k % es) undef) (.sc (z.cells.toList.getD (k % es) undef));rw [e1];rw [← h1] at h2;exact h2
 refine key _ fun k hk=>?_;have:=List.mem_range.1 hk;cases es with
 | zero=>simp at this
 | succ es=>exact Nat.succ_pos _
theorem MS (hO:be P) (hi:bE A) (hs:RS A β s) (hf:RF ds A β s.n nt f p) {t e:Nat}{i:TypeInfo}{z:Value}{l c:Operand} (hl:cE l=true) (hc:cE c=true) (hz1:CL z=true) (hz2:plain 50 z=true) (hz3:Nat.beq z.cells.toList.length i.size=true) (ht:P.underlying t=some (.slice e)) (hin:P.info? e=some i) (hz:i.zero=some z)
  (h:bS P p s (.mks e i.size i.bytes z.cells.toList l c)=some (q,s')):dw P A β s f ⟨d,.makeSlice t l c,ty,pos,af,gu⟩ q s' E:=by
 obtain⟨vl,l1,l2⟩:=aL hf hl;obtain⟨vc,c1,c2⟩:=aL hf hc;simp only [bS] at h;split at h
 ·rename_i a b ha hb;split at h
  ·rename_i hh;obtain⟨rfl,k1,k2⟩:=hh;injection h with h; injection h with e1 e2; subst e1; subst e2;obtain⟨n1,_⟩:=jk l2 ha;obtain⟨n2,_⟩:=jk c2 hb;refine BW hO hi hs (cells:=lq z.cells.toList i.size (a * i.size)) ?_ (Jc hz1 hz2 i.size a (Nat.eq_of_beq_eq_true hz3));show rQ P t (f.eval l) (f.eval c) A=_;unfold rQ;rw [l1,c1,ht];simp only [Option.bind_some,n1,n2,hin,hz];unfold vE;rw [show Nat.ble a a=true from Nat.ble_eq_true_of_le (Nat.le_refl _),show Nat.ble (Nat.mul i.bytes a) 281474976710656=true from Nat.ble_eq_true_of_le k1,show Nat.ble a 1073741824=true from Nat.ble_eq_true_of_le k2,hz2,hz3];rfl
  ·cases h
 ·cases h
theorem Ml (hO:be P) (hi:bE A) (hs:RS A β s) (hf:RF ds A β s.n nt f p) {t u e e2 es:Nat}{x y:Operand} (hx:cE x=true) (hy:cE y=true) (ht:P.underlying t=some (.slice e)) (hu:P.underlying u=some (.slice e2)) (hsz:bP P e=some es)
  (h:bS P p s (.cpy es x y)=some (q,s')):dw P A β s f ⟨d,.call ⟨.builtin .copy,#[x,y],#[t,u]⟩,ty,pos,af,gu⟩ q s' (aW p (.cpy es x y)):=by
 obtain⟨vx,x1,x2⟩:=aL hf hx;obtain⟨vy,y1,y2⟩:=aL hf hy;simp only [bS,Option.bind_eq_some_iff] at h;obtain⟨⟨ys,n⟩,hel,h⟩:=h;obtain⟨i,hin,hsi⟩ : ∃i,P.info? e=some i∧i.size=es:=by
  unfold bP at hsz;cases hq:P.info? e with
  | none=>rw [hq] at hsz; cases hsz
  | some i=>rw [hq] at hsz; injection hsz with hsz; exact⟨i,rfl,hsz⟩
 obtain⟨xs,A1,hca,hxs,hA1⟩:=sj (e2:=e2) hs y2 hsz hel;have hh1:A1.heap=A.heap∧A1.next=A.next∧A1.w=A.w∧A1.fz=A.fz:=by
  rcases hA1 with rfl | ⟨c,rfl,_⟩
  ·exact⟨rfl,rfl,rfl,rfl⟩
  ·rw [aB]; exact⟨rfl,rfl,rfl,rfl⟩
 have hi1:bE A1:=by
  rcases hA1 with rfl | ⟨c,rfl,_⟩
  ·exact hi
  ·rw [aB]; exact⟨hi.lt,hi.mem,hi.memc,hi.root,hi.ml,hi.old,hi.fz⟩
 have hw1:∀lo,Fw A A1 β β s.n s.n lo:=fun lo=>.heap β s.n hh1.1 hh1.2.1 hh1.2.2.1;have hs1:RS A1 β s:=hs.same hh1.1 hh1.2.1 hh1.2.2.1 hh1.2.2.2;have hsub:∀c,((∃k∈(aZ (aA p y)).rd,k < s.n∧β k=c)∨((aZ (aA p y)).li=true∧fW A β s.n c))→((∃k∈(aW p (.cpy es x y)).rd,k < s.n∧β k=c)∨((aW p (.cpy es x y)).li=true∧fW A β s.n c)):=by
  intro c hc;have e1:∀k∈(aZ (aA p y)).rd,k∈(aW p (.cpy es x y)).rd:=fun k hk=>by
   simp only [aW]; split
   ·exact List.mem_cons_of_mem _ hk
   ·exact hk
  have e2:(aZ (aA p y)).li=true→(aW p (.cpy es x y)).li=true:=fun hl=>by
   simp only [aW]; split
   ·exact hl
   ·exact hl
  rcases hc with ⟨k,h1,h2⟩ | ⟨h1,h2⟩
  ·exact .inl ⟨k,e1 k h1,h2⟩
  ·exact .inr ⟨e2 h1,h2⟩
 have hA2:A1=A∨∃c,A1=bO A c∧c < A.next∧((∃k∈(aW p (.cpy es x y)).rd,k < s.n∧β k=c)∨((aW p (.cpy es x y)).li=true∧fW A β s.n c)):=hA1.imp id fun ⟨c,h1,h2,h3⟩=>⟨c,h1,h2,hsub c h3⟩
 have zero:∀base len cap,vx=.slice base len cap→n=0→dw P A β s f ⟨d,.call ⟨.builtin .copy,#[x,y],#[t,u]⟩,ty,pos,af,gu⟩ (.sc (.int .i64 0)) s (aW p (.cpy es x y)):=by
  rintro base len cap rfl rfl;have hx0:xs.length=0:=by
   unfold eM at hel;split at hel
   ·injection hel with hel; injection hel with h1 h2; subst h1; exact hxs.len
   ·split at hel
    ·rename_i hc;injection hel with hel; injection hel with h1 h2; subst h1; subst h2; rw [hxs.len,hc,Nat.zero_mul]
    ·cases hel
   ·split at hel
    ·rename_i hc;injection hel with hel; injection hel with h1 h2; subst h1; subst h2; rw [hxs.len,Nat.zero_mul,List.take_zero]; rfl
    ·cases hel
   ·cases hel
  have hxn:xs=[]:=List.eq_nil_of_length_eq_zero hx0;have ev:aU P f ⟨d,.call ⟨.builtin .copy,#[x,y],#[t,u]⟩,ty,pos,af,gu⟩ A=some (.val (.int .i64 0),A1):=by
   show qH P (P.underlying t) (P.underlying u) (f.eval x) (f.eval y) A=_;rw [ht,hu,x1,y1];unfold qH;simp only [hca,hin];rw [hxn];simp only [Nat.mul_eq,Nat.zero_mul,List.length_nil,List.all_nil];rfl
  rcases hA2 with rfl | ⟨c,rfl,h1,h2⟩
  ·exact bf hO hi hs ev (.cl _ _ (.sc _ rfl))
  ·exact fY hO hi hs ev (.cl _ _ (.sc _ rfl)) h1 h2
 split at h
 ·rename_i k off m fin hp;rw [hp] at x2;cases x2 with
  | cl _ _ h=>cases h
  | own b o _ _ _ _ cap e' cells st ok hk hg ho hf' hm=>
   split at h
   ·rename_i h0;injection h with h; injection h with e1 e2; subst e1; subst e2;exact zero _ _ _ rfl h0
   ·rename_i h0;split at h
    ·rename_i hc;obtain⟨c1,c2⟩:=hc;simp only [Option.map_eq_some_iff] at h;obtain⟨s1,hst,he⟩:=h;injection he with e1 e2; subst e1; subst e2;unfold Ma at hst;simp only at hst;split at hst
     ·rename_i hc;injection hst with hst;obtain⟨d1,d2,d3⟩:=hc;have xs1:=hxs.mono (hw1 0);have he:aW p (.cpy es x y)=⟨k :: (aZ (aA p y)).rd,[k],(aZ (aA p y)).li,false⟩:=by simp only [aW,hp]
      obtain⟨A',hA',k1,k2,k3⟩:=F5 (E:=aW p (.cpy es x y)) hi1 hs1 hk (by rw [hh1.1]; exact hg) ho hf' xs1 d1 d2 d3 (by rw [he]; simp) (by rw [he]; simp);have hone:=ov xs1 d3;have ev:aU P f ⟨d,.call ⟨.builtin .copy,#[x,y],#[t,u]⟩,ty,pos,af,gu⟩ A=some (.val (.int .i64 (n:Int)),A'):=by
       show qH P (P.underlying t) (P.underlying u) (f.eval x) (f.eval y) A=_;rw [ht,hu,x1,y1];unfold qH;simp only [hca,hin];rw [show Nat.ble n m=true from Nat.ble_eq_true_of_le c1,show Nat.beq xs.length (Nat.mul n i.size)=true by rw [hxs.len,c2,hsi]; exact Nat.beq_refl _,hone];cases n with
       | zero=>exact absurd rfl h0
       | succ n=>
        show (match Ea A1 b o xs with
         | some s=>some (cu.val (.int .i64 (.ofNat (Nat.add n 1))),s)
         | none=>none)=_
        rw [hA'];rfl
      refine⟨_,A',β,hO f _ A _ _ hi (Nat.le_refl _) ev,?_,?_,.cl _ _ (.sc _ rfl),by rw [← hst]; exact y7.comp hA2 k3⟩
      ·rw [← hst];exact (hw1 _).trans k1 (Nat.le_refl _)
      ·rw [← hst];exact k2
     ·cases hst
    ·cases h
 ·rename_i hp;rw [hp] at x2;obtain⟨rfl,_⟩:=x2.sc;split at h
  ·rename_i h0;injection h with h; injection h with e1 e2; subst e1; subst e2;exact zero _ _ _ rfl h0
  ·cases h
 ·cases h
end
section
variable {ds:List Deferred}{P:Program}{A:AS}{β:Nat→Nat}{nt:Nat}{f:Fr}{p:aE}{s s':PS}{q:PV}{E:gy}{d:Option Tmp}{ty:TypeId}{pos:String}{af:Array Edge}{gu:Option (Nat × Bool)}
theorem nf (n:Nat) {v:Value} (h:dP v=true):plain n v=true:=by
 cases n<;>cases v<;>first | (cases h; done) | rfl
theorem Em {xs:Array Value} (h:xs.toList.all dP=true):xs.toList.all wQ=true:=by
 rw [List.all_eq_true] at h ⊢;exact fun v hv=>(ci (h v hv)).2
theorem Js {n:Nat}{v:Value} (h:WO v=true):R1 A β n v (ig v):=by
 cases v with
 | agg cs=>exact .cl _ _ (.agg _ _ (hU _ (Em h)))
 | bool b=>exact .cl _ _ (.sc _ rfl)
 | int k n=>exact .cl _ _ (.sc _ rfl)
 | string b=>exact .cl _ _ (.sc _ rfl)
 | _=>cases h
theorem Mg {t e k:Nat} (ht:P.underlying t=some (.pointer e)) (w:World):(Op.equalIn (k + 1) t (.pointer none) (.pointer none)).run P w=.ok true w:=by
 simp only [Op.equalIn,Sem.run_bind,run_underlying ht,Result.andThen];rfl
theorem PK {t k:Nat} (ht:∃d,P.underlying t=some d∧(∃a,d=.interface a)) (w:World):(Op.equalIn (k + 1) t .nilIface .nilIface).run P w=.ok true w:=by
 obtain⟨_,ht,a,rfl⟩:=ht;simp only [Op.equalIn,Sem.run_bind,run_underlying ht,Result.andThen];rfl
theorem KJ {op:BinOp}{ne:Bool} (hop:AO op=some ne) {t e:Nat} (ht:P.underlying t=some (.pointer e)) {x y:Operand}{w:World} : (do eqGuard op t x y (.pointer none) (.pointer none); binOp op t (.pointer none) (.pointer none):Sem Value).run P w=.ok (.bool (true != ne)) w:=by
 have h':(Op.equal t (.pointer none) (.pointer none)).run P w=.ok true w:=Mg (k:=9999) ht w;cases op<;>first | (cases hop; done) | skip
 ·injection hop with hop; subst hop;rw [Sem.run_bind,show (eqGuard .eql t x y (.pointer none) (.pointer none)).run P w=.ok () w from rfl];show (do pure (.bool (← Op.equal t (.pointer none) (.pointer none))):Sem Value).run P w=_;rw [Sem.run_bind,h']; rfl
 ·injection hop with hop; subst hop;rw [Sem.run_bind,show (eqGuard .neq t x y (.pointer none) (.pointer none)).run P w=.ok () w from rfl];show (do pure (.bool !(← Op.equal t (.pointer none) (.pointer none))):Sem Value).run P w=_;rw [Sem.run_bind,h']; rfl
theorem JS {op:BinOp}{ne:Bool} (hop:AO op=some ne) {t:Nat} (ht:∃d,P.underlying t=some d∧∃a,d=.interface a) {x:Operand}{w:World} : (do eqGuard op t x (.const .nilIface) .nilIface .nilIface; binOp op t .nilIface .nilIface:Sem Value).run P w=.ok (.bool (true != ne)) w:=by
 have h':(Op.equal t .nilIface .nilIface).run P w=.ok true w:=PK (k:=9999) ht w;have hg:∀b:Bool,(b || true)=true:=fun b=>by cases b<;>rfl
 cases op<;>first | (cases hop; done) | skip
 ·injection hop with hop; subst hop;have e:(eqGuard .eql t x (.const .nilIface) .nilIface .nilIface).run P w=.ok () w:=by
   cases x<;>rfl
  rw [Sem.run_bind,e];show (do pure (.bool (← Op.equal t .nilIface .nilIface)):Sem Value).run P w=_;rw [Sem.run_bind,h']; rfl
 ·injection hop with hop; subst hop;have e:(eqGuard .neq t x (.const .nilIface) .nilIface .nilIface).run P w=.ok () w:=by
   cases x<;>rfl
  rw [Sem.run_bind,e];show (do pure (.bool !(← Op.equal t .nilIface .nilIface)):Sem Value).run P w=_;rw [Sem.run_bind,h']; rfl
theorem zero_rel {n:Nat}{z:Value} (h:CL z=true):R1 A β n z (ig z):=by
 cases z with
 | agg cs=>exact .cl _ _ (.agg _ _ (hU _ h))
 | func fn a b=>cases h
 | _=>exact .cl _ _ (.sc _ h)
theorem C0 {op:BinOp}{ne:Bool} (h:AO op=some ne) (b:Bool) (B:AS):u5 op b B=some (.val (.bool (b != ne)),B)∧(op=.eql∨op=.neq):=by
 cases op<;>first | (cases h; done) | (injection h with h; subst h; cases b<;>exact⟨rfl,by simp⟩)
theorem N9 (hO:be P) (hi:bE A) (hs:RS A β s) (hf:RF ds A β s.n nt f p) {t u e m:Nat}{op:BinOp}{ne:Bool}{x y:Operand} (hx:cE x=true) (hy:cE y=true) (ht:P.underlying t=some (.pointer e)) (hop:AO op=some ne) (hsz:bP P e=some (m + 1))
  (h:bS P p s (.peq ne t x y)=some (q,s')):dw P A β s f ⟨d,.binOp op t x y u,ty,pos,af,gu⟩ q s' E:=by
 obtain⟨vx,x1,x2⟩:=aL hf hx;obtain⟨vy,y1,y2⟩:=aL hf hy;simp only [bS,Option.map_eq_some_iff] at h;obtain⟨b,hb,he⟩:=h;injection he with e1 e2; subst e1; subst e2;have hev:∀b,mr op vx vy=none→kF P f ⟨d,.binOp op t x y u,ty,pos,af,gu⟩ op t vx vy A=u5 op b A→aU P f ⟨d,.binOp op t x y u,ty,pos,af,gu⟩ A=some (.val (.bool (b != ne)),A):=fun b h1 h2=>by
  show uk P f _ op t (f.eval x) (f.eval y) A=_;rw [x1,y1];unfold uk;simp only [h1];rw [h2,(C0 hop b A).1]
 unfold zM at hb;split at hb
 ·rename_i k o fin hpx hpy;injection hb with hb; subst hb;rw [hpx] at x2;rw [hpy] at y2;obtain⟨rfl,_⟩:=y2.sc;cases x2 with
  | cl _ _ h=>cases h
  | ptr b o' _ _ _ e' cells st ok hk hg ho hf'=>
   exact bf hO hi hs (hev false rfl (by unfold kF; simp only [ht])) (.cl _ _ (.sc _ rfl))
 ·rename_i k o fin k' o' fin' hpx hpy;split at hb
  ·rename_i hc;obtain⟨rfl,c1,rfl⟩:=hc;injection hb with hb; subst hb;rw [hpx] at x2;rw [hpy] at y2;cases x2 with
   | cl _ _ h=>cases h
   | ptr b oo _ _ _ e1 cells st ok hk hg ho hf1=>
    cases y2 with
    | cl _ _ h=>cases h
    | ptr b' oo' _ _ _ e2 cells' st' ok' hk' hg' ho' hf2=>
     have hb1:=hs.blk k hk;obtain⟨_,l1,_⟩:=hb1.all _ _ _ _ _ hg;obtain⟨_,l2,_⟩:=hb1.all _ _ _ _ _ hg';have:=hb1.uni _ _ _ _ _ _ _ _ _ _ hg hg' (by omega) (by omega);subst this;have z1:=hb1.z _ _ _ _ _ hg;have z2:=hb1.z _ _ _ _ _ hg';subst z1; subst z2;obtain rfl:oo=o:=by omega
     obtain rfl:oo'=o':=by omega
     refine bf hO hi hs (hev (oo == oo') rfl ?_) (.cl _ _ (.sc _ rfl));unfold kF;simp only [ht];unfold rt;simp only [hsz];rw [Nat.beq_refl];show u5 op (Nat.beq oo oo') A=_;rw [show Nat.beq oo oo'=(oo == oo') by rw [Bool.eq_iff_iff]; simp]
  ·cases hb
 ·rename_i hpx hpy;injection hb with hb; subst hb;rw [hpx] at x2;rw [hpy] at y2;obtain⟨rfl,_⟩:=x2.sc;obtain⟨rfl,_⟩:=y2.sc;refine ec hs (aM hi fun φ w a hf'=>?_) (.cl _ _ (.sc _ rfl));have ex:a.eval x=.pointer none:=cN φ 50 _ _ rfl (hf'.eval x1);have ey:a.eval y=.pointer none:=cN φ 50 _ _ rfl (hf'.eval y1);have e:(execOp a.eval ⟨d,.binOp op t x y u,ty,pos,af,gu⟩).run P w=.ok (.value (.bool (true != ne))) w:=by
   refine bT (s:=do eqGuard op t x y (a.eval x) (a.eval y); binOp op t (a.eval x) (a.eval y)) ?_;rw [ex,ey];exact KJ hop ht
  rw [e];exact .val _ _ (.bool _)
 ·cases hb
theorem NL (hO:be P) (hi:bE A) (hs:RS A β s) (hf:RF ds A β s.n nt f p) {t u:Nat}{op:BinOp}{ne:Bool}{x:Operand} (hx:cE x=true) (ht:∃d,P.underlying t=some d∧∃a,d=.interface a) (hop:AO op=some ne)
  (h:bS P p s (.inq ne t x)=some (q,s')):dw P A β s f ⟨d,.binOp op t x (.const .nilIface) u,ty,pos,af,gu⟩ q s' E:=by
 obtain⟨vx,x1,x2⟩:=aL hf hx;simp only [bS,Option.map_eq_some_iff] at h;obtain⟨b,hb,he⟩:=h;injection he with e1 e2; subst e1; subst e2;obtain⟨_,ht',ia,rfl⟩:=ht;unfold E0 at hb;split at hb
 ·rename_i tt v hpx;injection hb with hb; subst hb;rw [hpx] at x2;obtain⟨rfl,_⟩:=x2.sc;have hev:aU P f ⟨d,.binOp op t x (.const .nilIface) u,ty,pos,af,gu⟩ A=some (.val (.bool (false != ne)),A):=by
   show uk P f _ op t (f.eval x) (some .nilIface) A=_;rw [x1];unfold uk;simp only [show mr op (.iface tt v) .nilIface=none from rfl];unfold kF;simp only [ht'];exact (C0 hop false A).1
  exact bf hO hi hs hev (.cl _ _ (.sc _ rfl))
 ·rename_i hpx;injection hb with hb; subst hb;rw [hpx] at x2;obtain⟨rfl,_⟩:=x2.sc;refine ec hs (aM hi fun φ w a hf'=>?_) (.cl _ _ (.sc _ rfl));have ex:a.eval x=.nilIface:=cN φ 50 _ _ rfl (hf'.eval x1);have e:(execOp a.eval ⟨d,.binOp op t x (.const .nilIface) u,ty,pos,af,gu⟩).run P w=.ok (.value (.bool (true != ne))) w:=by
   refine bT (s:=do eqGuard op t x (.const .nilIface) (a.eval x) .nilIface; binOp op t (a.eval x) .nilIface) ?_;rw [ex];exact JS hop ⟨_,ht',ia,rfl⟩
  rw [e];exact .val _ _ (.bool _)
 ·cases hb
theorem bytes_cells {n:Nat} : ∀{cs:List PV}{l:List UInt8}{xs:List Value},fC cs=some l→Rs A β n xs cs→dc xs=some l:=by
 intro cs
 induction cs with
 | nil=>intro l xs h hr; injection h with h; subst h; cases hr; rfl
 | cons c cs ih=>
  intro l xs h hr;cases hr with
  | cons v _ l' _ h1 h2=>
   unfold fC at h;split at h
   ·rename_i hh; cases hh
   ·rename_i z r hh;injection hh with hh1 hh2;subst hh1; subst hh2;rw [Option.map_eq_some_iff] at h;obtain⟨m,hm,rfl⟩:=h;obtain⟨rfl,_⟩:=R1.sc h1;show (dc l').map (UInt8.ofNat z.toNat :: ·)=_;rw [ih hm h2]; rfl
   ·cases h
theorem Nq (hO:be P) (hi:bE A) (hs:RS A β s) (hf:RF ds A β s.n nt f p) {t u e:Nat}{x:Operand} (hx:cE x=true) (ht:P.underlying t=some (.slice e)) (hu:P.underlying u=some .string) (he':P.underlying e=some (.int .u8)) (hsz:bP P e=some 1)
  (h:bS P p s (.bts x)=some (q,s')):dw P A β s f ⟨d,.convert t u x,ty,pos,af,gu⟩ q s' (aW p (.bts x)):=by
 obtain⟨vx,x1,x2⟩:=aL hf hx;simp only [bS,Option.bind_eq_some_iff,Option.map_eq_some_iff] at h;obtain⟨⟨cs,n⟩,hel,l,hl,he⟩:=h;injection he with e1 e2; subst e1; subst e2;by_cases hnil:aA p x=.sc (.slice none 0 0)
 ·rw [hnil] at hel x2;obtain⟨rfl,_⟩:=x2.sc;injection hel with hel; injection hel with h1 h2; subst h1; subst h2;injection hl with hl; subst hl;refine ec hs (aM hi fun φ w a hf'=>?_) (.cl _ _ (.sc _ rfl));have ex:a.eval x=.slice none 0 0:=cN φ 50 _ _ rfl (hf'.eval x1);have e:(execOp a.eval ⟨d,.convert t u x,ty,pos,af,gu⟩).run P w=.ok (.value (.string ⟨#[]⟩)) w:=by
   refine bT (s:=convert t u (a.eval x)) ?_;rw [ex];simp only [convert,Sem.run_bind,run_underlying ht,run_underlying hu,Result.andThen,run_underlying he'];rfl
  rw [e];exact .val _ _ (.string _)
 ·obtain⟨xs,A1,hca,hxs,hA1⟩:=sj (e2:=e) hs x2 hsz hel;have hev:aU P f ⟨d,.convert t u x,ty,pos,af,gu⟩ A=some (.val (.string ⟨⟨l⟩⟩),A1):=by
   show l7 P f _ t u (f.eval x) A=_;rw [x1];have hb:=bytes_cells hl hxs;unfold dB at hca;simp only [hsz] at hca;split at hca
   ·rename_i hh; cases hh
   ·rename_i cap hh;exfalso;cases hq:aA p x with
    | sc v=>
     rw [hq] at x2 hel;obtain⟨hv,_⟩:=x2.sc;unfold eM at hel;split at hel
     ·rename_i hh2; exact hnil (hq.trans hh2)
     all_goals first | cases hel | (rename_i hh2; cases hh2)
    | lit a b c=>rw [hq] at x2; have x3:=x2.lit; cases x3
    | own a b c d=>rw [hq] at x2; cases x2 with | cl _ _ h=>cases h
    | _=>rw [hq] at hel; cases hel
   ·rename_i b off m cp e3 hh;simp only [l7,ht,hu,he'];unfold sJ;cases m with
    | zero=>
     injection hca with hca; injection hca with h1 h2; injection h2 with h2 h3;subst h1; subst h3;injection hb with hb; subst hb;rfl
    | succ m=>
     simp only [Option.map_eq_some_iff] at hca;obtain⟨⟨ys,B⟩,hld,hh2⟩:=hca;injection hh2 with h1 h2; injection h2 with h2 h3;subst h1; subst h3;rw [show Nat.mul (m + 1) 1=m + 1 from Nat.mul_one _] at hld;simp only [hld,hb,bg]
   ·cases hca
  have hq:R1 A β s.n (.string ⟨⟨l⟩⟩) (.sc (.string ⟨⟨l⟩⟩)):=.cl _ _ (.sc _ rfl);rcases hA1 with rfl | ⟨c,rfl,h1,h2⟩
  ·exact bf hO hi hs hev hq
  ·exact fY hO hi hs hev hq h1 h2
end
end Go.PE
