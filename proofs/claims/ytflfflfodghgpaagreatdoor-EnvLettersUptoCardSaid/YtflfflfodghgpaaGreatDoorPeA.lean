/- A run on values, and its soundness. No statement is proved here. -/
import Derived.Test.YtflfflfodghgpaaGreatDoorEvC
set_option linter.unusedSimpArgs false
set_option linter.unusedVariables false
namespace Go.PE
open Go Go.EvL
inductive PV where
 | sc (v:Value)
 | agg (cs:List PV)
 | tup (vs:List PV)
 | lit (e n:Nat) (cs:List PV)
 | litp (cs:List PV)
 | litx (e n:Nat) (cs:List PV)
 | own (k off n fin:Nat)
 | ptr (k off fin:Nat)
 | fn (g:Nat) (first cap:List PV)
instance:Inhabited PV:=⟨.sc undef⟩
noncomputable def Nj (v:Value):Bool:=match v with
 | .agg _=>false
 | v=>plain 50 v
structure BN where
 cells:List PV
 low:Nat
 e:Nat
structure PS where
 h:Nat→BN
 n:Nat
 w:Nat
def PS.put (s:PS) (k:Nat) (b:BN):PS:=⟨fun j=>if j=k then b else s.h j,s.n,min s.w k⟩
def PS.new (s:PS) (b:BN):PS:=⟨fun j=>if j=s.n then b else s.h j,s.n + 1,s.w⟩
structure iY where
 rd:List Nat
 wr:List Nat
 li:Bool
 ca:Bool
abbrev aO:=Nat→PV
def aO.set (f:aO) (d:Nat) (v:PV):aO:=fun j=>if j=d then v else f j
def Bi (f:aO) (d:Option Nat) (v:PV):aO:=match d with
 | some d=>aO.set f d v
 | none=>f
inductive kK where
 | mv (x:Operand)
 | pick (c a b:Operand)
 | alloc (e:Nat) (z:Value)
 | box (e:Nat) (x:Operand)
 | build (z:List Value) (ps:List (Nat × Nat × Operand))
 | bslice (e len:Nat) (z:List Value) (ps:List (Nat × Nat × Operand))
 | load (t:Nat) (ag:Bool) (sz:Nat) (x:Operand)
 | store (t sz:Nat) (x y:Operand)
 | faddr (off:Nat) (x:Operand)
 | fld (ag:Bool) (off sz:Nat) (x:Operand)
 | iaddr (es:Nat) (x i:Operand)
 | sidx (x i:Operand)
 | bin (op:BinOp) (t:Nat) (x y:Operand)
 | un (op:UnOp) (x:Operand)
 | len (str:Bool) (x:Operand)
 | app (e es bytes:Nat) (x y:Operand)
 | slc (e es:Nat) (x:Operand) (lo hi:Option Operand)
 | slc3 (e es:Nat) (x hi mx:Operand)
 | sslc (x:Operand) (lo hi:Option Operand)
 | mkfn (g:Nat) (first cap:List Operand)
 | ext (x:Operand) (i:Nat)
 | conv (k:IntKind) (x:Operand)
 | call (f:Operand) (args:List Operand)
 | mnx (mx:Bool) (x y:Operand)
 | nck (x:Operand)
 | mks (e es bytes:Nat) (z:List Value) (l c:Operand)
 | cpy (es:Nat) (x y:Operand)
structure PI where
 dst:Option Nat
 op:kK
 gd:Option (Nat × Bool)
inductive bw where
 | skip
 | reg (l:List PI)
 | draw (l:List (PI × List Nat × List Nat))
 | seq (a b:bw)
 | cond (c:Operand) (a b:bw)
 | block (id:Nat) (b:bw)
 | loop (b:bw)
 | exit (id:Nat)
 | ret
def bH (v:Value):PV:=match v with
 | .agg cs=>.agg (cs.toList.map .sc)
 | .func (.func g) _ _=>.fn g [] []
 | v=>.sc v
def bU (f:aO) (x:Operand):PV:=match x with
 | .tmp t=>f t
 | .const v=>bH v
 | .func g=>.fn g [] []
 | .global _=>.sc undef
def bx (p:PV):List PV:=match p with
 | .agg cs=>cs
 | p=>[p]
noncomputable def cX (p:PV):Bool:=match p with
 | .sc v=>mV v
 | .agg _ | .tup _=>false
 | _=>true
def cM (p:PV):Bool:=match p with
 | .sc _ | .lit .. | .litp .. | .litx ..=>true
 | .fn _ a b=>a.isEmpty && b.isEmpty
 | _=>false
def kw (p:PV):Option Nat:=match p with
 | .sc (.int _ z)=>if 0≤z then some z.toNat else none
 | _=>none
def AB (s:PS) (p:PV) (sz:Nat):Option (List PV):=match p with
 | .ptr k off fin=>if off + sz≤fin∧(s.h k).low≤fin∧fin≤(s.h k).cells.length then some (((s.h k).cells.drop off).take sz) else none
 | .litp cs=>if sz≤cs.length then some (cs.take sz) else none
 | _=>none
def au (ag:Bool) (cs:List PV):Option PV:=if ag then some (.agg cs) else match cs with
 | [p]=>some p
 | _=>none
noncomputable def G6 (s:PS) (p:PV) (ys:List PV):Option PS:=match p with
 | .ptr k off fin=>if off + ys.length≤fin∧fin=(s.h k).cells.length∧ys.all cX=true then
   some (s.put k ⟨(s.h k).cells.take off ++ (ys ++ (s.h k).cells.drop (off + ys.length)),fin,(s.h k).e⟩) else none
 | _=>none
def jz (v:Value):Bool:=match v with
 | .int _ _ | .string _ | .bool _=>true
 | _=>false
def QZ:List PV→Option (List Value)
 | []=>some []
 | .sc v :: l=>if jz v then (QZ l).map (v :: ·) else none
 | _=>none
noncomputable def Dj (P:Program) (op:BinOp) (t:Nat) (x y:Operand) (a b:Value):Option Value:=
 eb P (do eqGuard op t x y a b; binOp op t a b:Sem Value)
noncomputable def gP (P:Program) (op:BinOp) (t:Nat) (x y:Operand) (a b:PV):Option PV:=match a,b with
 | .sc v,.sc w=>if jz v && jz w then (match Dj P op t x y v w with
  | some u=>if jz u then some (.sc u) else none
  | none=>none) else none
 | .agg cs,.agg ds=>match QZ cs,QZ ds with
  | some v,some w=>match Dj P op t x y (.agg v.toArray) (.agg w.toArray) with
   | some u=>if jz u then some (.sc u) else none
   | none=>none
  | _,_=>none
 | _,_=>none
noncomputable def U2 (P:Program) (op:UnOp) (a:PV):Option PV:=match a with
 | .sc v=>if jz v then (match eb P (Op.unary op v) with
  | some u=>if jz u then some (.sc u) else none
  | none=>none) else none
 | _=>none
def eA (str:Bool) (p:PV):Option PV:=match str,p with
 | false,.sc (.slice none 0 0)=>some (.sc (.int .i64 0))
 | true,.sc (.string s)=>some (.sc (.int .i64 (s.data.toList.length:Int)))
 | false,.lit _ n _=>some (.sc (.int .i64 (n:Int)))
 | false,.litx _ n _=>some (.sc (.int .i64 (n:Int)))
 | false,.own _ _ n _=>some (.sc (.int .i64 (n:Int)))
 | _,_=>none
def eU (s:PS) (es:Nat) (p:PV):Option (List PV × Nat):=match p with
 | .sc (.slice none 0 0)=>some ([],0)
 | .lit _ n cs=>if cs.length=n * es then some (cs,n) else none
 | .own k off n fin=>if off + n * es=fin∧(s.h k).low≤fin∧fin≤(s.h k).cells.length then some (((s.h k).cells.drop off).take (n * es),n) else none
 | _=>none
def AA (es bytes len n:Nat) (xs:List PV):Prop:=es≠0∧xs.length=n * es∧(len + n) * bytes≤140737488355328∧len + n≤1073741824∧xs.all cX=true
noncomputable instance (es bytes len n:Nat) (xs:List PV):Decidable (AA es bytes len n xs):=by unfold AA; infer_instance
def SZ (x:PV):Bool:=match x with
 | .sc (.slice none 0 0) | .lit .. | .own .. | .litx ..=>true
 | _=>false
noncomputable def sZ (s:PS) (e es bytes:Nat) (x:PV) (ys:List PV) (n:Nat):Option (PV × PS):=
 if n=0 then (if SZ x then some (x,s) else none) else
 match x with
 | .sc (.slice none 0 0)=>if AA es bytes 0 n ys then some (.own s.n 0 n ys.length,s.new ⟨ys,0,e⟩) else none
 | .own k off m fin=>if AA es bytes m n ys∧off + m * es=fin∧fin=(s.h k).cells.length∧(s.h k).low≤fin∧off=0∧(s.h k).e=e then
   some (.own k off (m + n) (fin + ys.length),s.put k ⟨(s.h k).cells ++ ys,(s.h k).low,e⟩) else none
 | .litx _ m cs=>if AA es bytes m n ys∧cs.length=m * es then some (.own s.n 0 (m + n) (cs ++ ys).length,s.new ⟨cs ++ ys,0,e⟩) else none
 | _=>none
def ig (f:aO) (x:Option Operand) (d:Nat):Option Nat:=match x with
 | none=>some d
 | some x=>kw (bU f x)
def IT (s:PS) (e es:Nat) (p:PV) (l h:Nat):Option PV:=match p with
 | .lit e' n cs=>if l≤h∧h≤n∧cs.length=n * es∧e'=e then some (.lit e (h - l) ((cs.drop (l * es)).take ((h - l) * es))) else none
 | .own k off n fin=>if l≤h∧h≤n∧off + n * es=fin∧(s.h k).low≤fin∧(s.h k).e=e then some (.own k (off + l * es) (h - l) (off + h * es)) else none
 | _=>none
def fw (p:PV) (l h:Nat):Option PV:=match p with
 | .sc (.string s)=>if l≤h∧h≤s.data.toList.length then some (.sc (.string ⟨⟨(s.data.toList.drop l).take (h - l)⟩⟩)) else none
 | _=>none
def vZ (p:PV):Nat:=match p with
 | .lit _ n _=>n
 | .own _ _ n _=>n
 | .sc (.string s)=>s.data.toList.length
 | _=>0
def eB (f:aO) (z:List PV):List (Nat × Nat × Operand)→Option (List PV)
 | []=>some z
 | (off,sz,x) :: l=>if (bx (bU f x)).length=sz∧off + sz≤z.length then eB f (z.take off ++ (bx (bU f x) ++ z.drop (off + sz))) l else none
def II (k:IntKind) (p:PV):Option PV:=match p with
 | .sc (.int _ z)=>some (.sc (.int k (k.wrap z)))
 | _=>none
def jy (p:PV):Option Bool:=match p with
 | .sc (.bool b)=>some b
 | _=>none
def Iu (mx:Bool) (a b:Int):Int:=if mx then (if b > a then b else a) else (if b < a then b else a)
def sO (z:List Value) (es n:Nat):List PV:=(List.range (n * es)).map fun k=>.sc (z.getD (k % es) undef)
noncomputable def bm (P:Program) (f:aO) (s:PS) (o:kK):Option (PV × PS):=match o with
 | .mv x=>some (bU f x,s)
 | .pick c a b=>match jy (bU f c) with
  | some true=>some (bU f a,s)
  | some false=>some (bU f b,s)
  | none=>none
 | .alloc e z=>some (.ptr s.n 0 (bx (bH z)).length,s.new ⟨bx (bH z),0,e⟩)
 | .box e x=>some (.ptr s.n 0 (bx (bU f x)).length,s.new ⟨bx (bU f x),0,e⟩)
 | .build z ps=>(eB f (z.map .sc) ps).map fun cs=>(.agg cs,s)
 | .bslice e n z ps=>(eB f (z.map .sc) ps).map fun cs=>(.own s.n 0 n cs.length,s.new ⟨cs,0,e⟩)
 | .load _ ag sz x=>(AB s (bU f x) sz).bind fun cs=>(au ag cs).map fun v=>(v,s)
 | .store _ sz x y=>if (bx (bU f y)).length=sz then (G6 s (bU f x) (bx (bU f y))).map fun s=>(.sc undef,s) else none
 | .faddr off x=>match bU f x with
  | .ptr k o fin=>some (.ptr k (o + off) fin,s)
  | .litp cs=>if off≤cs.length then some (.litp (cs.drop off),s) else none
  | _=>none
 | .fld ag off sz x=>match bU f x with
  | .agg cs=>if off + sz≤cs.length then (au ag ((cs.drop off).take sz)).map fun v=>(v,s) else none
  | _=>none
 | .iaddr es x i=>match bU f x,kw (bU f i) with
  | .own k off n fin,some j=>if j < n∧off + n * es=fin then some (.ptr k (off + j * es) fin,s) else none
  | .lit _ n cs,some j=>if j < n∧cs.length=n * es then some (.litp (cs.drop (j * es)),s) else none
  | .litx _ n cs,some j=>if j < n∧cs.length=n * es then some (.litp (cs.drop (j * es)),s) else none
  | _,_=>none
 | .sidx x i=>match bU f x,kw (bU f i) with
  | .sc (.string b),some j=>if j < b.data.toList.length then some (.sc (.int .u8 ((b.data.toList.getD j 0).toNat:Int)),s) else none
  | _,_=>none
 | .bin op t x y=>(gP P op t x y (bU f x) (bU f y)).map fun v=>(v,s)
 | .un op x=>(U2 P op (bU f x)).map fun v=>(v,s)
 | .len str x=>(eA str (bU f x)).map fun v=>(v,s)
 | .app e es bytes x y=>(eU s es (bU f y)).bind fun q=>sZ s e es bytes (bU f x) q.1 q.2
 | .slc e es x lo hi=>match ig f lo 0,ig f hi (vZ (bU f x)) with
  | some l,some h=>(IT s e es (bU f x) l h).map fun v=>(v,s)
  | _,_=>none
 | .slc3 e es x hi mx=>match bU f x,kw (bU f hi),kw (bU f mx) with
  | .lit e' n cs,some h,some m=>if h=m∧h≤n∧cs.length=n * es∧e'=e then some (.litx e h (cs.take (h * es)),s) else none
  | .sc (.slice none 0 0),some 0,some 0=>some (.sc (.slice none 0 0),s)
  | _,_,_=>none
 | .sslc x lo hi=>match ig f lo 0,ig f hi (vZ (bU f x)) with
  | some l,some h=>(fw (bU f x) l h).map fun v=>(v,s)
  | _,_=>none
 | .mkfn g a b=>some (.fn g (a.map (bU f)) (b.map (bU f)),s)
 | .ext x i=>match bU f x with
  | .tup vs=>(vs[i]?).map fun v=>(v,s)
  | _=>none
 | .conv k x=>(II k (bU f x)).map fun v=>(v,s)
 | .call _ _=>none
 | .mnx mx x y=>match bU f x,bU f y with
  | .sc (.int k a),.sc (.int _ b)=>some (.sc (.int k (Iu mx a b)),s)
  | _,_=>none
 | .nck x=>match bU f x with
  | .ptr k o fin=>some (.ptr k o fin,s)
  | .litp cs=>some (.litp cs,s)
  | _=>none
 | .mks e es by' z l c=>match kw (bU f l),kw (bU f c) with
  | some l,some c=>if l=c∧by' * l≤281474976710656∧l≤1073741824 then some (.own s.n 0 l (sO z es l).length,s.new ⟨sO z es l,0,e⟩) else none
  | _,_=>none
 | .cpy es x y=>(eU s es (bU f y)).bind fun q=>match bU f x with
  | .own k off m fin=>if q.2=0 then some (.sc (.int .i64 0),s) else if q.2≤m∧q.1.length=q.2 * es then (G6 s (.ptr k off fin) q.1).map fun s=>(.sc (.int .i64 (q.2:Int)),s) else none
  | .sc (.slice none 0 0)=>if q.2=0 then some (.sc (.int .i64 0),s) else none
  | _=>none
def ec (p:PV):iY:=match p with
 | .ptr k _ _=>⟨[k],[],false,false⟩
 | .own k _ _ _=>⟨[k],[],false,false⟩
 | .litp _=>⟨[],[],true,false⟩
 | .lit ..=>⟨[],[],true,false⟩
 | .litx ..=>⟨[],[],true,false⟩
 | _=>⟨[],[],false,false⟩
def cC (f:aO) (o:kK):iY:=match o with
 | .load _ _ _ x=>ec (bU f x)
 | .store _ _ x _=>match bU f x with
  | .ptr k _ _=>⟨[k],[k],false,false⟩
  | _=>⟨[],[],false,false⟩
 | .slc _ _ x _ _=>ec (bU f x)
 | .slc3 _ _ x _ _=>ec (bU f x)
 | .app _ _ _ x y=>match bU f x with
  | .own k _ _ _=>⟨k :: (ec (bU f y)).rd,[k],(ec (bU f y)).li,false⟩
  | .litx ..=>⟨(ec (bU f y)).rd,[],true,false⟩
  | _=>ec (bU f y)
 | .call _ _=>⟨[],[],false,true⟩
 | .cpy _ x y=>match bU f x with
  | .own k _ _ _=>⟨k :: (ec (bU f y)).rd,[k],(ec (bU f y)).li,false⟩
  | _=>ec (bU f y)
 | _=>⟨[],[],false,false⟩
end Go.PE
namespace Go.PE
open Go Go.EvL
noncomputable def fi (x:Operand):Bool:=match x with
 | .tmp _=>true
 | .const (.agg cs)=>plain 50 (.agg cs) && cs.toList.all Nj
 | .const (.func (.func _) a b)=>a.toList.isEmpty && b.toList.isEmpty
 | .const v=>plain 50 v
 | .func _=>true
 | .global _=>false
noncomputable def J6 (z:Value):Bool:=match z with
 | .agg cs=>cs.toList.all Nj
 | .func _ _ _=>false
 | v=>Nj v
noncomputable def nl (g:Nat→Option (Nat × Nat)):List (Nat × Operand)→Option (List (Nat × Nat × Operand))
 | []=>some []
 | (i,x) :: l=>match g i,fi x,nl g l with
  | some (off,sz),true,some r=>some ((off,sz,x) :: r)
  | _,_,_=>none
noncomputable def yH (x:Option Operand):Bool:=match x with
 | none=>true
 | some x=>fi x
noncomputable def gd (b:Bool) (o:kK):Option kK:=if b then some o else none
noncomputable def nK (P:Program) (b:Builtin) (args:List Operand) (tys:List TypeId):Option kK:=match b,args,tys with
 | .len,[x],[t]=>match P.underlying t with
  | some (.slice _)=>gd (fi x) (.len false x)
  | some .string=>gd (fi x) (.len true x)
  | _=>none
 | .append,[x,y],[t,u]=>match P.underlying t,P.underlying u with
  | some (.slice e),some (.slice _)=>match P.info? e with
   | some i=>match i.zero with
    | some z=>gd (fi x && fi y && Nat.beq z.cells.size i.size) (.app e i.size i.bytes x y)
    | none=>none
   | none=>none
  | _,_=>none
 | .max,[x,y],_=>gd (fi x && fi y) (.mnx true x y)
 | .min,[x,y],_=>gd (fi x && fi y) (.mnx false x y)
 | .copy,[x,y],[t,u]=>match P.underlying t,P.underlying u with
  | some (.slice e),some (.slice _)=>match dp P e with
   | some n=>gd (fi x && fi y) (.cpy n x y)
   | none=>none
  | _,_=>none
 | _,_,_=>none
noncomputable def fj (P:Program) (o:Op):Option kK:=match o with
 | .move x=>gd (fi x) (.mv x)
 | .assign x=>gd (fi x) (.mv x)
 | .pick c a b=>gd (fi c && fi a && fi b) (.pick c a b)
 | .alloc e=>match gm P e with
  | some z=>gd (J6 z) (.alloc e z)
  | none=>none
 | .box e x=>gd (fi x) (.box e x)
 | .build t ps=>match gm P t,P.underlying t with
  | some z,some (.struct fs)=>match nl (fun i=>(fs[i]?).bind fun fl=>(dp P fl.type).map fun n=>(fl.offset,n)) ps.toList with
   | some l=>gd (Nat.ble (Nat.succ t) P.types.size && J6 z) (.build z.cells.toList l)
   | none=>none
  | _,_=>none
 | .buildSlice t len ps=>match P.underlying t with
  | some (.slice e)=>match gm P e,dp P e with
   | some z,some n=>match nl (fun i=>some (i * n,n)) ps.toList with
    | some l=>gd (Nat.ble (Nat.mul len n) 1048576 && Nat.beq z.cells.toList.length n && J6 z) (.bslice e len (List.replicate len z.cells.toList).flatten l)
    | none=>none
   | _,_=>none
  | _=>none
 | .load t a=>match P.underlying t with
  | some d=>if kR (some d) then (match dp P t with
   | some n=>gd (fi a) (.load t true n a)
   | none=>none) else gd (fi a) (.load t false 1 a)
  | none=>none
 | .store t a x=>match dp P t with
  | some n=>gd (fi a && fi x) (.store t n a x)
  | none=>none
 | .fieldAddr t x i=>match iV P t with
  | some fs=>match fs[i]? with
   | some fl=>match dp P fl.type with
    | some (_ + 1)=>gd (fi x) (.faddr fl.offset x)
    | _=>none
   | none=>none
  | none=>none
 | .field t x i=>match iV P t with
  | some fs=>match fs[i]? with
   | some fl=>match P.underlying fl.type with
    | some d=>if kR (some d) then (match dp P fl.type with
     | some n=>gd (fi x) (.fld true fl.offset n x)
     | none=>none) else gd (fi x) (.fld false fl.offset 1 x)
    | none=>none
   | none=>none
  | none=>none
 | .indexAddr t x i=>match P.underlying t with
  | some (.slice e)=>match dp P e with
   | some n=>gd (fi x && fi i) (.iaddr n x i)
   | none=>none
  | _=>none
 | .index t x i=>match P.underlying t with
  | some .string=>gd (fi x && fi i) (.sidx x i)
  | _=>none
 | .binOp op t x y _=>gd (fi x && fi y) (.bin op t x y)
 | .unOp op _ x=>gd (fi x) (.un op x)
 | .convert a b x=>match P.underlying a,P.underlying b with
  | some (.int _),some (.int k)=>gd (fi x) (.conv k x)
  | _,_=>none
 | .slice t x lo hi none=>match P.underlying t with
  | some (.slice e)=>match dp P e with
   | some n=>gd (fi x && yH lo && yH hi) (.slc e n x lo hi)
   | none=>none
  | some .string=>gd (fi x && yH lo && yH hi) (.sslc x lo hi)
  | _=>none
 | .slice t x none (some hi) (some mx)=>match P.underlying t with
  | some (.slice e)=>match dp P e with
   | some n=>gd (fi x && (fi hi && fi mx)) (.slc3 e n x hi mx)
   | none=>none
  | _=>none
 | .nilCheck x=>gd (fi x) (.nck x)
 | .makeSlice t l c=>match P.underlying t with
  | some (.slice e)=>match P.info? e with
   | some i=>match i.zero with
    | some z=>gd (fi l && (fi c && (J6 z && (plain 50 z && Nat.beq z.cells.toList.length i.size)))) (.mks e i.size i.bytes z.cells.toList l c)
    | none=>none
   | none=>none
  | _=>none
 | .makeFunc (.func g) a b=>gd (a.toList.all fi && b.toList.all fi) (.mkfn g a.toList b.toList)
 | .extract t i=>gd (fi t) (.ext t i)
 | .call c=>match c.callee with
  | .value x=>gd (fi x && c.args.toList.all fi) (.call x c.args.toList)
  | .builtin b=>nK P b c.args.toList c.argTypes.toList
  | .invoke ..=>none
 | _=>none
noncomputable def CY (ops:List Oper) (g:Option (Nat × Bool)):Option (Option (Nat × Bool)):=match g with
 | none=>some none
 | some (j,want)=>match (ops[j]?).bind (·.dst) with
  | some d=>some (some (d,want))
  | none=>none
noncomputable def K8 (nt:Nat) (d:Option Nat):Bool:=match d with
 | none=>true
 | some d=>Nat.ble (Nat.succ d) nt
noncomputable def B7 (P:Program) (nt:Nat) (ops:List Oper) (o:Oper):Option PI:=match fj P o.op,CY ops o.guard with
 | some p,some g=>if K8 nt o.dst then some ⟨o.dst,p,g⟩ else none
 | _,_=>none
noncomputable def pm (P:Program) (nt:Nat) (ops:List Oper):List Oper→Option (List PI)
 | []=>some []
 | o :: l=>match B7 P nt ops o,pm P nt ops l with
  | some i,some r=>some (i :: r)
  | _,_=>none
noncomputable def u5 (ls:List Nat) (d:Option Nat) (p:Nat × List Nat × Option Nat):Bool:=
 p.2.2.toList.all (fun t=>!(ls.contains t) && !(d.toList.contains t)) && d.toList.all (fun t=>!(p.2.1.contains t))
noncomputable def sj (nt:Nat) (ops:Array Oper):List Oper→Nat→Tr Nat→List (Nat × List Nat × Option Nat)→Option (List (List Nat × List Nat))
 | [],_,_,_=>some []
 | o :: l,j,bs,acc=>
  if lm j o.after.toList && (Nat.ble (Nat.succ j) 100000 && (mN (o.looksAt ops) && ((o.looksAt ops).all (fun t=>Nat.ble (Nat.succ t) nt) && (acc.filter fun p=>!((iU bs o.after.toList).testBit p.1)).all (u5 (o.looksAt ops) o.dst)))) then
   match sj nt ops l (j + 1) (Tr.set (iU bs o.after.toList) 40 bs j) ((j,o.looksAt ops,o.dst) :: acc) with
   | some r=>some ((o.looksAt ops,(acc.filter fun p=>!((iU bs o.after.toList).testBit p.1)).map (·.1)) :: r)
   | none=>none
  else none
def Ga:List PI→List (List Nat × List Nat)→List (PI × List Nat × List Nat)
 | i :: l,x :: r=>(i,x.1,x.2) :: Ga l r
 | _,_=>[]
noncomputable def comp (P:Program) (nt:Nat):Code→Option bw
 | .skip=>some .skip
 | .region _ ops false=>(pm P nt ops.toList ops.toList).map .reg
 | .region _ ops true=>match pm P nt ops.toList ops.toList,sj nt ops ops.toList 0 .nil [] with
  | some l,some r=>some (.draw (Ga l r))
  | _,_=>none
 | .seq a b=>match comp P nt a,comp P nt b with
  | some a,some b=>some (.seq a b)
  | _,_=>none
 | .cond c a b=>match fi c,comp P nt a,comp P nt b with
  | true,some a,some b=>some (.cond c a b)
  | _,_,_=>none
 | .block id b=>(comp P nt b).map (.block id)
 | .loop b=>(comp P nt b).map .loop
 | .exit id=>some (.exit id)
 | .ret=>some .ret
 | _=>none
inductive Mp where
 | tmp (t:Nat)
 | cell (a:Nat) (ag:Bool) (sz:Nat)
noncomputable def tR (P:Program) (r:ResultVar):Option Mp:=match r with
 | .tmp t=>some (.tmp t)
 | .cell a t=>match P.underlying t with
  | some d=>if kR (some d) then (match dp P t with
   | some n=>some (.cell a true n)
   | none=>none) else some (.cell a false 1)
  | none=>none
structure fN where
 nt:Nat
 body:bw
 res:List Mp
 keep:Bool
noncomputable def sV (P:Program) (fn:Func) (keep:Bool):Option fN:=match fn.body with
 | some c=>match comp P fn.ntmps c,fn.results.toList.mapM (tR P) with
  | some b,some r=>if Nat.ble fn.ntmps 1000000 then some ⟨fn.ntmps,b,r,keep⟩ else none
  | _,_=>none
 | none=>none
inductive xM where
 | normal | exit (id:Nat) | ret
abbrev ai:=Nat→List PV→PS→Option (PV × PS)
def ef (f:aO) (g:Option (Nat × Bool)):Option Bool:=match g with
 | none=>some true
 | some (d,want)=>match f d with
  | .sc (.bool b)=>some (b == want)
  | .sc (.tuple _)=>some false
  | _=>none
def bS (call:ai) (f:aO) (s:PS) (x:Operand) (args:List Operand):Option (PV × PS):=match bU f x with
 | .fn g first cap=>call g (first ++ (args.map (bU f) ++ cap)) s
 | _=>none
noncomputable def aN (P:Program) (call:ai) (f:aO) (s:PS) (o:kK):Option (PV × PS):=match o with
 | .call x args=>bS call f s x args
 | o=>bm P f s o
noncomputable def gW (P:Program) (call:ai) (i:PI) (f:aO) (s:PS):Option (aO × PS):=match ef f i.gd with
 | some true=>(aN P call f s i.op).map fun q=>(Bi f i.dst q.1,q.2)
 | some false=>some (Bi f i.dst (.sc undef),s)
 | none=>none
noncomputable def pO (P:Program) (call:ai):List PI→aO→PS→Option (aO × PS)
 | [],f,s=>some (f,s)
 | i :: l,f,s=>(gW P call i f s).bind fun q=>pO P call l q.1 q.2
def dj (ls:List Nat) (f:aO):aO:=fun t=>if t∈ls then f t else .sc undef
def Hy (f:aO) (d:Option Nat) (g:aO):aO:=match d with
 | some d=>aO.set f d (g d)
 | none=>f
def qd (f:aO) (i:PI):iY:=match ef f i.gd with
 | some true=>cC f i.op
 | _=>⟨[],[],false,false⟩
def gy (pu:Nat→Bool) (f:aO) (i:PI):Bool:=match i.op with
 | .call x _=>match bU f x with
  | .fn g _ _=>pu g
  | _=>true
 | _=>true
def bM (E:iY) (a b:Nat) (F:iY):Prop:=
 (∀k∈E.wr,k ∉ F.rd∧k ∉ F.wr)∧(∀k∈F.rd,k < a∨b≤k)∧(∀k∈F.wr,k < a∨b≤k)∧¬ (E.ca=true∧F.li=true)∧(∀k∈F.wr,k ∉ E.rd)∧(F.ca=true→E.wr=[]∧a=b∧E.ca=false)∧(E.ca=true→∀k∈F.wr,b≤k)
instance (E:iY) (a b:Nat) (F:iY):Decidable (bM E a b F):=by unfold bM; infer_instance
def cH (un:List Nat) (F:iY) (acc:List (Nat × iY × Nat × Nat)):Prop:=∀e∈acc,e.1∈un→bM e.2.1 e.2.2.1 e.2.2.2 F
instance (un:List Nat) (F:iY) (acc:List (Nat × iY × Nat × Nat)):Decidable (cH un F acc):=by unfold cH; infer_instance
noncomputable def ko (P:Program) (pu:Nat→Bool) (call:ai):List (PI × List Nat × List Nat)→Nat→List (Nat × iY × Nat × Nat)→aO→PS→Option (aO × PS)
 | [],_,_,f,s=>some (f,s)
 | (i,ls,un) :: l,j,acc,f,s=>(gW P call i (dj ls f) s).bind fun q=>
   if gy pu (dj ls f) i=true∧cH un (qd (dj ls f) i) acc then ko P pu call l (j + 1) ((j,qd (dj ls f) i,s.n,q.2.n) :: acc) (Hy f i.dst q.1) q.2 else none
abbrev jI:=Option (xM × aO × PS)
def gR (r:jI) (k:aO→PS→jI):jI:=r.bind fun q=>match q.1 with
 | .normal=>k q.2.1 q.2.2
 | x=>some (x,q.2.1,q.2.2)
def ip (id:Nat) (r:jI):jI:=r.map fun q=>match q.1 with
 | .exit i=>if i=id then (.normal,q.2.1,q.2.2) else (.exit i,q.2.1,q.2.2)
 | x=>(x,q.2.1,q.2.2)
def mL (b:Option Bool) (x y:jI):jI:=match b with
 | some true=>x
 | some false=>y
 | none=>none
def mn (body:aO→PS→jI):Nat→aO→PS→jI
 | 0,_,_=>none
 | n + 1,f,s=>gR (body f s) (mn body n)
noncomputable def dB (P:Program) (pu:Nat→Bool) (call:ai) (L:Nat):bw→aO→PS→jI
 | .skip,f,s=>some (.normal,f,s)
 | .reg l,f,s=>(pO P call l f s).map fun q=>(.normal,q.1,q.2)
 | .draw l,f,s=>(ko P pu call l 0 [] f s).map fun q=>(.normal,q.1,q.2)
 | .seq a b,f,s=>gR (dB P pu call L a f s) (dB P pu call L b)
 | .cond c a b,f,s=>mL (jy (bU f c)) (dB P pu call L a f s) (dB P pu call L b f s)
 | .block id b,f,s=>ip id (dB P pu call L b f s)
 | .loop b,f,s=>mn (dB P pu call L b) L f s
 | .exit id,f,s=>some (.exit id,f,s)
 | .ret,f,s=>some (.ret,f,s)
def ck (f:aO) (s:PS):List Mp→Option (List PV)
 | []=>some []
 | .tmp t :: l=>(ck f s l).map fun vs=>f t :: vs
 | .cell a ag sz :: l=>(AB s (f a) sz).bind fun cs=>(au ag cs).bind fun v=>(ck f s l).map fun vs=>v :: vs
def br (vs:List PV):PV:=match vs with
 | [v]=>v
 | vs=>.tup vs
def bQ (n:Nat) (s:PS) (p:PV):Option PV:=match p with
 | .own k off m fin=>if k < n then some (.own k off m fin) else
   if (s.h k).low≤fin∧fin≤(s.h k).cells.length∧off≤fin∧(((s.h k).cells.drop off).take (fin - off)).all cM=true then some (.lit (s.h k).e m (((s.h k).cells.drop off).take (fin - off))) else none
 | .ptr k off fin=>if k < n then some (.ptr k off fin) else none
 | .fn g [] []=>some (.fn g [] [])
 | .sc v=>some (.sc v)
 | .lit e m cs=>some (.lit e m cs)
 | .litx e m cs=>some (.litx e m cs)
 | .litp cs=>some (.litp cs)
 | _=>none
def j7 (n:Nat) (s:PS):List PV→Option (List PV)
 | []=>some []
 | p :: l=>(bQ n s p).bind fun p=>(j7 n s l).map fun l=>p :: l
def cx (n:Nat) (s:PS) (p:PV):Option PV:=match p with
 | .agg cs=>(j7 n s cs).map .agg
 | p=>bQ n s p
def dK (n:Nat) (s:PS):List PV→Option (List PV)
 | []=>some []
 | p :: l=>(cx n s p).bind fun p=>(dK n s l).map fun l=>p :: l
def frz (n:Nat) (s:PS) (p:PV):Option PV:=match p with
 | .tup vs=>(dK n s vs).map .tup
 | p=>cx n s p
noncomputable def aP (fn:fN) (s:PS) (f:aO) (s':PS):Option (PV × PS):=
 (ck f s' fn.res).bind fun vs=>if fn.keep then some (br vs,⟨s'.h,s'.n,min s.w s'.w⟩) else if s.n≤s'.w then (frz s.n s' (br vs)).map fun v=>(v,s) else none
def N5 (q:xM × aO × PS) (k:aO→PS→Option (PV × PS)):Option (PV × PS):=match q.1 with
 | .normal=>k q.2.1 q.2.2
 | .ret=>k q.2.1 q.2.2
 | _=>none
def cK:List PV→Nat→aO
 | [],_=>fun _=>.sc undef
 | v :: l,i=>aO.set (cK l (i + 1)) i v
noncomputable def nO (P:Program) (pu:Nat→Bool) (call:ai) (L:Nat) (fn:fN) (args:List PV) (s:PS):Option (PV × PS):=
 if args.length≤fn.nt then (dB P pu call L fn.body (cK args 0) ⟨s.h,s.n,s.n⟩).bind fun q=>N5 q (aP fn s) else none
def ez (Γ:Nat→Option fN) (g:Nat):Bool:=match Γ g with
 | some fn=>!fn.keep
 | none=>true
noncomputable def dG (P:Program) (Γ:Nat→Option fN) (ext:ai):Nat→ai
 | 0=>fun _ _ _=>none
 | n + 1=>fun g args s=>match Γ g with
  | some fn=>nO P (ez Γ) (dG P Γ ext n) n fn args s
  | none=>ext g args s
end Go.PE
namespace Go.PE
open Go Go.EvL
def jt (A:AS) (β:Nat→Nat) (n c:Nat):Prop:=c < A.next∧∀k,k < n→β k≠c
inductive RC (A:AS) (β:Nat→Nat) (n:Nat):Value × PV ⊕ List Value × List PV→Prop
 | sc (v:Value) (h:Nj v=true):RC A β n (.inl (v,.sc v))
 | fn (g:Nat):RC A β n (.inl (.func (.func g) #[] #[],.fn g [] []))
 | lit (b off m cap e:Nat) (cs:List PV) (cells:List Value) (c st:Nat) (hg:A.heap.get b=some (.row cells e c st true)) (hp:jt A β n c) (hl:off + cs.length≤cells.length) (hm:m≤cap)
   (h:RC A β n (.inr ((cells.drop off).take cs.length,cs))):RC A β n (.inl (.slice (some ⟨b,off,none⟩) m cap,.lit e m cs))
 | litp (b off e:Nat) (cs:List PV) (cells:List Value) (c st:Nat) (hg:A.heap.get b=some (.row cells e c st true)) (hp:jt A β n c) (hl:off + cs.length≤cells.length)
   (h:RC A β n (.inr ((cells.drop off).take cs.length,cs))):RC A β n (.inl (.pointer (some ⟨b,off,none⟩),.litp cs))
 | litx (b off m e:Nat) (cs:List PV) (cells:List Value) (c st:Nat) (hg:A.heap.get b=some (.row cells e c st true)) (hp:jt A β n c) (hl:off + cs.length≤cells.length)
   (h:RC A β n (.inr ((cells.drop off).take cs.length,cs))):RC A β n (.inl (.slice (some ⟨b,off,some 0⟩) m m,.litx e m cs))
 | agg (xs:Array Value) (cs:List PV) (h:RC A β n (.inr (xs.toList,cs))):RC A β n (.inl (.agg xs,.agg cs))
 | nil:RC A β n (.inr ([],[]))
 | cons (v:Value) (p:PV) (l:List Value) (r:List PV) (h:RC A β n (.inl (v,p))) (hs:RC A β n (.inr (l,r))):RC A β n (.inr (v :: l,p :: r))
inductive RV (A:AS) (β:Nat→Nat) (n:Nat):Value × PV ⊕ List Value × List PV→Prop
 | cl (v:Value) (p:PV) (h:RC A β n (.inl (v,p))):RV A β n (.inl (v,p))
 | fn (g:Nat) (xs ys:Array Value) (as bs:List PV) (h:RV A β n (.inr (xs.toList,as))) (h':RV A β n (.inr (ys.toList,bs))):RV A β n (.inl (.func (.func g) xs ys,.fn g as bs))
 | agg (xs:Array Value) (cs:List PV) (h:RV A β n (.inr (xs.toList,cs))):RV A β n (.inl (.agg xs,.agg cs))
 | tup (xs:Array Value) (cs:List PV) (h:RV A β n (.inr (xs.toList,cs))):RV A β n (.inl (.tuple xs,.tup cs))
 | own (b o k off m fin cap e:Nat) (cells:List Value) (st:Nat) (ok:Bool) (hk:k < n) (hg:A.heap.get b=some (.row cells e (β k) st ok)) (ho:st + o=off) (hf:fin≤st + cells.length) (hm:m≤cap) :
   RV A β n (.inl (.slice (some ⟨b,o,none⟩) m cap,.own k off m fin))
 | ptr (b o k off fin e:Nat) (cells:List Value) (st:Nat) (ok:Bool) (hk:k < n) (hg:A.heap.get b=some (.row cells e (β k) st ok)) (ho:st + o=off) (hf:fin≤st + cells.length) :
   RV A β n (.inl (.pointer (some ⟨b,o,none⟩),.ptr k off fin))
 | nil:RV A β n (.inr ([],[]))
 | cons (v:Value) (p:PV) (l:List Value) (r:List PV) (h:RV A β n (.inl (v,p))) (hs:RV A β n (.inr (l,r))):RV A β n (.inr (v :: l,p :: r))
abbrev R1 (A:AS) (β:Nat→Nat) (n:Nat) (v:Value) (p:PV):Prop:=RV A β n (.inl (v,p))
abbrev Rs (A:AS) (β:Nat→Nat) (n:Nat) (l:List Value) (r:List PV):Prop:=RV A β n (.inr (l,r))
abbrev C1 (A:AS) (β:Nat→Nat) (n:Nat) (v:Value) (p:PV):Prop:=RC A β n (.inl (v,p))
abbrev Cs (A:AS) (β:Nat→Nat) (n:Nat) (l:List Value) (r:List PV):Prop:=RC A β n (.inr (l,r))
structure Fw (A A':AS) (β β':Nat→Nat) (n n' lo:Nat):Prop where
 le:n≤n'
 next:A.next≤A'.next
 eq:∀k,k < n→β' k=β k
 new:∀k,n≤k→k < n'→A.next≤β' k
 prot:∀b cells e c st,A.heap.get b=some (.row cells e c st true)→jt A β n c→A'.heap.get b=some (.row cells e c st true)
 keep:∀b cells e st ok k,k < n→A.heap.get b=some (.row cells e (β k) st ok)→∃cells' ok',A'.heap.get b=some (.row cells' e (β k) st ok')∧cells'.length=cells.length
 w:∀c,c < A.next→A'.w.testBit c=true→A.w.testBit c=true∨∃k,lo≤k∧k < n∧β k=c
theorem Fw.refl (A:AS) (β:Nat→Nat) (n lo:Nat):Fw A A β β n n lo:=
 ⟨Nat.le_refl _,Nat.le_refl _,fun _ _=>rfl,fun _ h h'=>by omega,fun _ _ _ _ _ h _=>h,fun _ cells _ _ ok _ _ h=>⟨cells,ok,h,rfl⟩,fun _ _ h=>.inl h⟩
theorem Fw.heap {A A':AS} (β:Nat→Nat) (n:Nat) {lo:Nat} (h:A'.heap=A.heap) (hn:A'.next=A.next) (hw:A'.w=A.w):Fw A A' β β n n lo:=
 ⟨Nat.le_refl _,by omega,fun _ _=>rfl,fun _ h h'=>by omega,fun _ _ _ _ _ hh _=>by rw [h]; exact hh,fun _ cells _ _ ok _ _ hh=>⟨cells,ok,by rw [h]; exact hh,rfl⟩,fun _ _ hh=>.inl (by rw [← hw]; exact hh)⟩
theorem Fw.protN {A A':AS}{β β':Nat→Nat}{n n' lo c:Nat} (h:Fw A A' β β' n n' lo) (hp:jt A β n c):jt A' β' n' c:=
 ⟨Nat.lt_of_lt_of_le hp.1 h.next,fun k hk=>by
  by_cases hkn:k < n
  ·rw [h.eq k hkn]; exact hp.2 k hkn
  ·have:=h.new k (by omega) hk;have:=hp.1;omega⟩
theorem Fw.trans {A B C:AS}{β γ δ:Nat→Nat}{n m l lo lo':Nat} (h:Fw A B β γ n m lo) (k:Fw B C γ δ m l lo') (hlo:lo'≤lo):Fw A C β δ n l lo' where
 le:=Nat.le_trans h.le k.le
 next:=Nat.le_trans h.next k.next
 eq:=fun x hx=>(k.eq x (Nat.lt_of_lt_of_le hx h.le)).trans (h.eq x hx)
 new:=fun x hx hl=>by
  by_cases hm:x < m
  ·rw [k.eq x hm]; exact h.new x hx hm
  ·exact Nat.le_trans h.next (k.new x (by omega) hl)
 prot:=fun b cells e c st hb hp=>k.prot _ _ _ _ _ (h.prot _ _ _ _ _ hb hp) (h.protN hp)
 keep:=fun b cells e st ok x hx hb=>by
  obtain⟨c1,o1,h1,l1⟩:=h.keep b cells e st ok x hx hb;rw [← h.eq x hx] at h1;obtain⟨c2,o2,h2,l2⟩:=k.keep b c1 e st o1 x (Nat.lt_of_lt_of_le hx h.le) h1;rw [h.eq x hx] at h2;exact⟨c2,o2,h2,l2.trans l1⟩
 w:=fun c hc hw=>by
  rcases k.w c (Nat.lt_of_lt_of_le hc h.next) hw with h1 | ⟨x,hxl,hx,he⟩
  ·rcases h.w c hc h1 with h2 | ⟨y,y1,y2,y3⟩
   ·exact .inl h2
   ·exact .inr ⟨y,by omega,y2,y3⟩
  ·by_cases hxn:x < n
   ·exact .inr ⟨x,hxl,hxn,by rw [← h.eq x hxn]; exact he⟩
   ·have:=h.new x (by omega) hx; omega
theorem RC.mono {A A':AS}{β β':Nat→Nat}{n n' lo:Nat} (f:Fw A A' β β' n n' lo) {x:Value × PV ⊕ List Value × List PV} (h:RC A β n x):RC A' β' n' x:=by
 induction h with
 | sc v h=>exact .sc v h
 | fn g=>exact .fn g
 | lit b off m cap e cs cells c st hg hp hl hm _ ih=>exact .lit b off m cap e cs cells c st (f.prot _ _ _ _ _ hg hp) (f.protN hp) hl hm ih
 | litp b off e cs cells c st hg hp hl _ ih=>exact .litp b off e cs cells c st (f.prot _ _ _ _ _ hg hp) (f.protN hp) hl ih
 | litx b off m e cs cells c st hg hp hl _ ih=>exact .litx b off m e cs cells c st (f.prot _ _ _ _ _ hg hp) (f.protN hp) hl ih
 | agg xs cs _ ih=>exact .agg xs cs ih
 | nil=>exact .nil
 | cons v p l r _ _ ih ihs=>exact .cons v p l r ih ihs
theorem RV.mono {A A':AS}{β β':Nat→Nat}{n n' lo:Nat} (f:Fw A A' β β' n n' lo) {x:Value × PV ⊕ List Value × List PV} (h:RV A β n x):RV A' β' n' x:=by
 induction h with
 | cl v p h=>exact .cl v p (h.mono f)
 | fn g xs ys as bs _ _ h h'=>exact .fn g xs ys as bs h h'
 | agg xs cs _ ih=>exact .agg xs cs ih
 | tup xs cs _ ih=>exact .tup xs cs ih
 | own b o k off m fin cap e cells st ok hk hg ho hf hm=>
  obtain⟨c',o',h1,h2⟩:=f.keep b cells e st ok k hk hg;rw [← f.eq k hk] at h1;exact .own b o k off m fin cap e c' st o' (Nat.lt_of_lt_of_le hk f.le) h1 ho (by omega) hm
 | ptr b o k off fin e cells st ok hk hg ho hf=>
  obtain⟨c',o',h1,h2⟩:=f.keep b cells e st ok k hk hg;rw [← f.eq k hk] at h1;exact .ptr b o k off fin e c' st o' (Nat.lt_of_lt_of_le hk f.le) h1 ho (by omega)
 | nil=>exact .nil
 | cons v p l r _ _ ih ihs=>exact .cons v p l r ih ihs
section
variable {A:AS}{β:Nat→Nat}{n:Nat}
theorem Cs.len {l:List Value}{r:List PV} (h:Cs A β n l r):l.length=r.length:=by
 induction r generalizing l with
 | nil=>cases h; rfl
 | cons p r ih=>cases h with | cons v p l r h hs=>simp [ih hs]
theorem Rs.len {l:List Value}{r:List PV} (h:Rs A β n l r):l.length=r.length:=by
 induction r generalizing l with
 | nil=>cases h; rfl
 | cons p r ih=>cases h with | cons v p l r h hs=>simp [ih hs]
theorem Cs.drop {l:List Value}{r:List PV} (h:Cs A β n l r) (k:Nat):Cs A β n (l.drop k) (r.drop k):=by
 induction k generalizing l r with
 | zero=>exact h
 | succ k ih=>
  cases r with
  | nil=>cases h; exact .nil
  | cons p r=>cases h with | cons v p l r h hs=>exact ih hs
theorem Cs.take {l:List Value}{r:List PV} (h:Cs A β n l r) (k:Nat):Cs A β n (l.take k) (r.take k):=by
 induction k generalizing l r with
 | zero=>exact .nil
 | succ k ih=>
  cases r with
  | nil=>cases h; exact .nil
  | cons p r=>cases h with | cons v p l r h hs=>exact .cons _ _ _ _ h (ih hs)
theorem Rs.drop {l:List Value}{r:List PV} (h:Rs A β n l r) (k:Nat):Rs A β n (l.drop k) (r.drop k):=by
 induction k generalizing l r with
 | zero=>exact h
 | succ k ih=>
  cases r with
  | nil=>cases h; exact .nil
  | cons p r=>cases h with | cons v p l r h hs=>exact ih hs
theorem Rs.take {l:List Value}{r:List PV} (h:Rs A β n l r) (k:Nat):Rs A β n (l.take k) (r.take k):=by
 induction k generalizing l r with
 | zero=>exact .nil
 | succ k ih=>
  cases r with
  | nil=>cases h; exact .nil
  | cons p r=>cases h with | cons v p l r h hs=>exact .cons _ _ _ _ h (ih hs)
theorem Rs.app {l l':List Value}{r r':List PV} (h:Rs A β n l r) (h':Rs A β n l' r'):Rs A β n (l ++ l') (r ++ r'):=by
 induction r generalizing l with
 | nil=>cases h; exact h'
 | cons p r ih=>cases h with | cons v p l r h hs=>exact .cons _ _ _ _ h (ih hs)
theorem Cs.up {l:List Value}{r:List PV} (h:Cs A β n l r):Rs A β n l r:=by
 induction r generalizing l with
 | nil=>cases h; exact .nil
 | cons p r ih=>cases h with | cons v p l r h hs=>exact .cons _ _ _ _ (.cl _ _ h) (ih hs)
theorem mS:∀(l:List Value),l.all Nj=true→Cs A β n l (l.map .sc):=by
 intro l
 induction l with
 | nil=>intro _; exact .nil
 | cons v l ih=>
  intro h;rw [List.all_cons,Bool.and_eq_true] at h;exact .cons _ _ _ _ (.sc v h.1) (ih h.2)
theorem R1.cells {v:Value}{p:PV} (h:R1 A β n v p):Rs A β n v.cells.toList (bx p):=by
 have one:∀{v:Value}{p:PV},R1 A β n v p→Rs A β n [v] [p]:=fun h=>.cons _ _ _ _ h .nil;cases h with
 | cl v p h=>
  cases h with
  | sc v h=>
   cases v with
   | agg xs=>cases h
   | _=>exact one (.cl _ _ (.sc _ h))
  | fn g=>exact one (.cl _ _ (.fn g))
  | lit b off m cap e cs cells c st hg hp hl hm h=>exact one (.cl _ _ (.lit b off m cap e cs cells c st hg hp hl hm h))
  | litp b off e cs cells c st hg hp hl h=>exact one (.cl _ _ (.litp b off e cs cells c st hg hp hl h))
  | litx b off m e cs cells c st hg hp hl h=>exact one (.cl _ _ (.litx b off m e cs cells c st hg hp hl h))
  | agg xs cs h=>exact Cs.up h
 | fn g xs ys as bs h h'=>exact one (.fn g xs ys as bs h h')
 | agg xs cs h=>exact h
 | tup xs cs h=>exact one (.tup xs cs h)
 | own b o k off m fin cap e cells st ok hk hg ho hf hm=>exact one (.own b o k off m fin cap e cells st ok hk hg ho hf hm)
 | ptr b o k off fin e cells st ok hk hg ho hf=>exact one (.ptr b o k off fin e cells st ok hk hg ho hf)
end
end Go.PE
namespace Go.PE
open Go Go.EvL
structure RB (A:AS) (β:Nat→Nat) (n c:Nat) (b:BN):Prop where
 cur:∃x cells st,A.heap.get x=some (.row cells b.e c st true)∧st + cells.length=b.cells.length
 all:∀x cells e st ok,A.heap.get x=some (.row cells e c st ok)→e=b.e∧st + cells.length≤b.cells.length∧(b.low≤st + cells.length→ok=true∧Rs A β n cells ((b.cells.drop st).take cells.length))
 uni:∀x y cells e st ok cells' e' st' ok',A.heap.get x=some (.row cells e c st ok)→A.heap.get y=some (.row cells' e' c st' ok')→st + cells.length=b.cells.length→st' + cells'.length=b.cells.length→x=y
 low:b.low≤b.cells.length
 fz:A.fz.get c=none
 lt:c < A.next
 z:∀x cells e st ok,A.heap.get x=some (.row cells e c st ok)→st=0
structure RS (A:AS) (β:Nat→Nat) (s:PS):Prop where
 blk:∀k,k < s.n→RB A β s.n (β k) (s.h k)
 inj:∀j k,j < s.n→k < s.n→β j=β k→j=k
structure RF (A:AS) (β:Nat→Nat) (n nt:Nat) (f:Fr) (p:aO):Prop where
 num:f.n=nt
 few:nt≤1000000
 df:f.defers=[]
 tmp:∀j,R1 A β n ((f.tmps.get j).getD undef) (p j)
theorem RF.mono {A A':AS}{β β':Nat→Nat}{n n' nt lo:Nat}{f:Fr}{p:aO} (h:RF A β n nt f p) (w:Fw A A' β β' n n' lo):RF A' β' n' nt f p:=
 ⟨h.num,h.few,h.df,fun j=>(h.tmp j).mono w⟩
theorem RB.mono {A A':AS}{β β':Nat→Nat}{n n' c lo:Nat}{b:BN} (h:RB A β n c b) (w:Fw A A' β β' n n' lo) (hin:∀x cells e st ok,A'.heap.get x=some (.row cells e c st ok)↔A.heap.get x=some (.row cells e c st ok)) (hz:A'.fz.get c=A.fz.get c):RB A' β' n' c b where
 cur:=by
  obtain⟨x,cells,st,h1,h2⟩:=h.cur;exact⟨x,cells,st,(hin _ _ _ _ _).2 h1,h2⟩
 all:=fun x cells e st ok hg=>by
  obtain⟨h1,h2,h3⟩:=h.all x cells e st ok ((hin _ _ _ _ _).1 hg);exact⟨h1,h2,fun hl=>⟨(h3 hl).1,(h3 hl).2.mono w⟩⟩
 uni:=fun x y cells e st ok cells' e' st' ok' h1 h2=>h.uni x y cells e st ok cells' e' st' ok' ((hin _ _ _ _ _).1 h1) ((hin _ _ _ _ _).1 h2)
 low:=h.low
 fz:=hz.trans h.fz
 lt:=Nat.lt_of_lt_of_le h.lt w.next
 z:=fun x cells e st ok hg=>h.z x cells e st ok ((hin _ _ _ _ _).1 hg)
theorem RS.same {A A':AS}{β:Nat→Nat}{s:PS} (h:RS A β s) (h1:A'.heap=A.heap) (h2:A'.next=A.next) (h3:A'.w=A.w) (h4:A'.fz=A.fz):RS A' β s:=
 ⟨fun k hk=>(h.blk k hk).mono (.heap (lo:=0) β s.n h1 h2 h3) (fun x cells e st ok=>by rw [h1]) (by rw [h4]),h.inj⟩
section
variable {P:Program}{A A':AS}{β:Nat→Nat}{n nt:Nat}{f:Fr}{p:aO}{s:PS}
theorem bI (h:RF A β n nt f p) {x:Operand} (hx:fi x=true):∃v,f.eval x=some v∧R1 A β n v (bU p x):=by
 cases x with
 | tmp t=>
  refine⟨(f.tmps.get t).getD undef,?_,h.tmp t⟩;show IN (f.tmps.get t)=_;cases f.tmps.get t<;>rfl
 | const v=>
  have hc:∀v,plain 50 v=true→f.eval (.const v)=some v:=fun v hv=>by
   show mJ v=some v;unfold mJ;rw [hv]
  cases v with
  | agg cs=>
   have hx':(plain 50 (.agg cs) && cs.toList.all Nj)=true:=hx;rw [Bool.and_eq_true] at hx';exact⟨_,hc _ hx'.1,.cl _ _ (.agg _ _ (mS _ hx'.2))⟩
  | func fn a b=>
   cases fn with
   | func g=>
    have hx':(a.toList.isEmpty && b.toList.isEmpty)=true:=hx;have hp:plain 50 (.func (.func g) a b)=true:=hx;rw [Bool.and_eq_true] at hx';have ha:a = #[]:=by have:=hx'.1; cases a; simp at this; subst this; rfl
    have hb:b = #[]:=by have:=hx'.2; cases b; simp at this; subst this; rfl
    subst ha; subst hb;exact⟨_,hc _ hp,.cl _ _ (.fn g)⟩
   | _=>exact absurd hx (by intro hh; cases hh)
  | _=>exact⟨_,hc _ hx,.cl _ _ (.sc _ hx)⟩
 | func g=>exact⟨_,rfl,.cl _ _ (.fn g)⟩
 | global g=>cases hx
theorem rX (h:RF A β n nt f p) {x:Operand} (hx:fi x=true):∃v,evalG P f x=some v∧R1 A β n v (bU p x):=by
 obtain⟨v,h1,h2⟩:=bI h hx;refine⟨v,?_,h2⟩;cases x with
 | global g=>cases hx
 | _=>exact h1
theorem RF.set (h:RF A β n nt f p) {d:Option Nat} (hd:K8 nt d=true) {v:Value}{q:PV} (hv:R1 A β n v q):∃f',f.put d v=some f'∧RF A β n nt f' (Bi p d q):=by
 cases d with
 | none=>exact⟨f,rfl,h⟩
 | some d=>
  obtain⟨tm,m,ds⟩:=f;have hn:m=nt:=h.num;have hd':Nat.ble (Nat.succ d) nt=true:=hd;refine⟨⟨Tr.set v 40 tm d,m,ds⟩,?_,h.num,h.few,h.df,fun j=>?_⟩
  ·show (Bool.rec none (dA (Tr.set v 40 tm d) fun t=>some (⟨t,m,ds⟩ : Fr)) (Nat.ble (Nat.succ d) m):Option Fr)=_;rw [hn,hd',cQ]
  ·show R1 A β n (((Tr.set v 40 tm d).get j).getD undef) (if j=d then q else p j);rw [Tr.get_set _ _ _ _ trivial];by_cases hj:j=d
   ·rw [if_pos hj,if_pos hj]; exact hv
   ·rw [if_neg hj,if_neg hj]; exact h.tmp j
theorem R1.sc {v:Value}{u:Value} (h:R1 A β n v (.sc u)):v=u∧Nj u=true:=by
 cases h with
 | cl _ _ h=>cases h with | sc _ h=>exact⟨rfl,h⟩
theorem R1.lit {v:Value}{e m:Nat}{cs:List PV} (h:R1 A β n v (.lit e m cs)):C1 A β n v (.lit e m cs):=by
 cases h with
 | cl _ _ h=>exact h
theorem R1.litp {v:Value}{cs:List PV} (h:R1 A β n v (.litp cs)):C1 A β n v (.litp cs):=by
 cases h with
 | cl _ _ h=>exact h
theorem R1.litx {v:Value}{e m:Nat}{cs:List PV} (h:R1 A β n v (.litx e m cs)):C1 A β n v (.litx e m cs):=by
 cases h with
 | cl _ _ h=>exact h
theorem BS {b off m:Nat}{cells:List Value}{e c st:Nat} (hg:A.heap.get b=some (.row cells e c st true)) (hl:off + m≤cells.length):ld A b off m=some ((cells.drop off).take m,ci A c):=by
 unfold ld;rw [hg];show Md A cells off m c=_;unfold Md;rw [bO];have:((cells.drop off).take m).length=m:=by rw [List.length_take,List.length_drop]; omega
 rw [this,Nat.beq_refl]
theorem I0 (hs:RS A β s) {v:Value}{q:PV} (hv:R1 A β s.n v q) {sz:Nat}{cs:List PV} (h:AB s q sz=some cs) :
  ∃b o xs c,v=.pointer (some ⟨b,o,none⟩)∧ld A b o sz=some (xs,ci A c)∧Rs A β s.n xs cs∧cs.length=sz∧((∃k∈(ec q).rd,k < s.n∧β k=c)∨((ec q).li=true∧jt A β s.n c)):=by
 cases q with
 | ptr k off fin=>
  simp only [AB] at h;split at h
  ·rename_i hc;injection h with h; subst h;cases hv with
   | cl _ _ h=>cases h
   | ptr b o _ _ _ e cells st ok hk hg ho hf=>
    obtain⟨h1,h2,h3⟩:=(hs.blk k hk).all _ _ _ _ _ hg;obtain⟨rfl,h4⟩:=h3 (by omega);refine⟨b,o,_,β k,rfl,BS hg (by omega),?_,by rw [List.length_take,List.length_drop]; omega,.inl ⟨k,by simp [ec],hk,rfl⟩⟩;have:=(h4.drop o).take sz;rw [List.drop_take,List.take_take,List.drop_drop,ho] at this;rwa [Nat.min_eq_left (by omega)] at this
  ·cases h
 | litp cs'=>
  simp only [AB] at h;split at h
  ·rename_i hc;injection h with h; subst h;have hv:=hv.litp;cases hv with
   | litp b off e _ cells c st hg hp hl hh=>
    refine⟨b,off,_,c,rfl,BS hg (by omega),?_,by rw [List.length_take]; omega,.inr ⟨rfl,hp⟩⟩;have:=(Cs.up hh).take sz;rwa [List.take_take,Nat.min_eq_left (by omega)] at this
  ·cases h
 | _=>simp [AB] at h
theorem xe {t:Nat}{d:TypeDesc}{ag:Bool}{sz b o c:Nat}{xs:List Value}{cs:List PV}{q:PV} (hd:kR (some d)=ag) (hsz:if ag then dp P t=some sz else sz=1) (hl:ld A b o sz=some (xs,ci A c)) (hx:Rs A β n xs cs) (hq:au ag cs=some q) :
  ∃v,mc P t d b o A=some (.val v,ci A c)∧R1 A β n v q:=by
 unfold mc;cases ag with
 | true=>
  rw [if_pos rfl] at hsz;rw [hd,hsz];simp only [au,if_true] at hq;injection hq with hq; subst hq;refine⟨.agg xs.toArray,?_,.agg _ _ (by simpa using hx)⟩;show uu (ld A b o sz)=_;rw [hl]; rfl
 | false=>
  have:sz=1:=by simpa using hsz
  subst this;rw [hd];show ∃v,uh (ld A b o 1)=_∧_;simp only [au] at hq;rw [if_neg (by simp)] at hq;split at hq
  ·injection hq with hq; subst hq;cases hx with
   | cons v _ l _ h hn=>
    cases hn;rw [hl];exact⟨v,rfl,h⟩
  ·cases hq
end
end Go.PE
namespace Go.PE
open Go Go.EvL
structure BC (A A':AS) (β β':Nat→Nat) (n n':Nat) (E:iY):Prop where
 r:∀c,A'.r.testBit c=true→A.r.testBit c=true∨(∃k∈E.rd,k < n∧β k=c)∨(E.li=true∧jt A β n c)∨(A.next≤c∧c < A'.next)∨(E.ca=true∧c < A'.next)
 w:∀c,A'.w.testBit c=true→A.w.testBit c=true∨(∃k∈E.wr,k < n∧β k=c)∨(A.next≤c∧c < A'.next)
 new:E.ca=false→∀c,A.next≤c→c < A'.next→(A'.r.testBit c=true→A.r.testBit c=true∨∃k,n≤k∧k < n'∧β' k=c)∧(A'.w.testBit c=true→A.w.testBit c=true∨∃k,n≤k∧k < n'∧β' k=c)
theorem BC.same (A:AS) (β:Nat→Nat) (n:Nat) (E:iY):BC A A β β n n E:=⟨fun _ h=>.inl h,fun _ h=>.inl h,fun _ _ h1 h2=>by omega⟩
theorem BC.read {A:AS}{β:Nat→Nat}{n c:Nat}{E:iY} (hi:c < A.next) (h:(∃k∈E.rd,k < n∧β k=c)∨(E.li=true∧jt A β n c)):BC A (ci A c) β β n n E:=by
 rw [ar];refine⟨fun x hx=>?_,fun _ h=>.inl h,fun _ x h1 h2=>by simp only at h2; omega⟩;rcases ir hx with hx | rfl
 ·exact .inl hx
 ·exact .inr (h.imp id .inl)
def gF (P:Program) (A:AS) (β:Nat→Nat) (s:PS) (f:Fr) (o:Oper) (q:PV) (s':PS) (E:iY):Prop:=
 ∃u A' β',cJ P f A o (.val u) A'∧Fw A A' β β' s.n s'.n s'.w∧RS A' β' s'∧R1 A' β' s'.n u q∧BC A A' β β' s.n s'.n E
theorem bF {b:Bool}{o q:kK} (h:gd b o=some q):b=true∧o=q:=by
 cases b
 ·cases h
 ·exact⟨rfl,by injection h⟩
section
variable {P:Program}{A:AS}{β:Nat→Nat}{nt:Nat}{f:Fr}{p:aO}{s s':PS}{o:Oper}{q:PV}{E:iY}
theorem cD (hO:cP P) (hi:cE A) (hs:RS A β s) {u:Value} (h:bG P f o A=some (.val u,A)) (hq:R1 A β s.n u q):gF P A β s f o q s E:=
 ⟨u,A,β,hO f o A _ _ hi (Nat.le_refl _) h,.refl A β s.n _,hs,hq,.same A β s.n E⟩
theorem nE (hO:cP P) (hi:cE A) (hs:RS A β s) {u:Value}{c:Nat} (h:bG P f o A=some (.val u,ci A c)) (hq:R1 A β s.n u q) (hc:c < A.next) (he:(∃k∈E.rd,k < s.n∧β k=c)∨(E.li=true∧jt A β s.n c)):gF P A β s f o q s E:=by
 have hw:Fw A (ci A c) β β s.n s.n s.w:=by rw [ar]; exact .heap β s.n rfl rfl rfl
 refine⟨u,ci A c,β,hO f o A _ _ hi (Nat.le_refl _) h,hw,?_,hq.mono hw,.read hc he⟩;rw [ar]; exact hs.same rfl rfl rfl rfl
theorem jG (A:AS) (cells:List Value) (e x:Nat):(EvL.newRow A cells e).heap.get x=if x=A.next then some (.row cells e A.next 0 true) else A.heap.get x:=by
 rw [eo,iS];exact Tr.get_set _ _ _ _ trivial
theorem tV (hi:cE A) (β:Nat→Nat) (n:Nat) (cells:List Value) (e lo:Nat):Fw A (EvL.newRow A cells e) β (fun k=>if k=n then A.next else β k) n (n + 1) lo where
 le:=by omega
 next:=by rw [aV]; omega
 eq:=fun k hk=>if_neg (by omega)
 new:=fun k h1 h2=>by rw [if_pos (by omega)]; exact Nat.le_refl _
 prot:=fun b cells' e' c st hb _=>by
  rw [jG,if_neg (by rintro rfl; have:=(hi.lt _ _ hb).1; omega)]; exact hb
 keep:=fun b cells' e' st ok k _ hb=>⟨cells',ok,by rw [jG,if_neg (by rintro rfl; have:=(hi.lt _ _ hb).1; omega)]; exact hb,rfl⟩
 w:=fun c hc hw=>by
  rw [eo,iS] at hw;rcases ir hw with h | h
  ·exact .inl h
  ·omega
theorem tw (β:Nat→Nat) (n:Nat) (cells:List Value) (e:Nat) (E:iY):BC A (EvL.newRow A cells e) β (fun k=>if k=n then A.next else β k) n (n + 1) E:=by
 rw [eo,iS];refine⟨fun _ h=>.inl h,fun c hc=>?_,fun _ c h1 h2=>⟨fun h=>.inl h,fun hc=>?_⟩⟩
 ·rcases ir hc with h | h
  ·exact .inl h
  ·exact .inr (.inr ⟨by omega,by simp only; omega⟩)
 ·rcases ir hc with h | h
  ·exact .inl h
  ·exact .inr ⟨n,by omega,by omega,by rw [if_pos rfl]; exact h⟩
theorem xQ (hi:cE A) (hs:RS A β s) {cells:List Value}{cs:List PV} (e:Nat) (h:Rs A β s.n cells cs):RS (EvL.newRow A cells e) (fun k=>if k=s.n then A.next else β k) (s.new ⟨cs,0,e⟩):=by
 have hw:=tV hi β s.n cells e s.w;have hold:∀b o',A.heap.get b=some o'→b≠A.next:=fun b o' hb=>by have:=(hi.lt _ _ hb).1; omega
 constructor
 ·intro k hk;have hk':k < s.n + 1:=hk;by_cases he:k=s.n
  ·subst he;show RB _ _ (s.n + 1) (if s.n=s.n then A.next else β s.n) (if s.n=s.n then _ else _);rw [if_pos rfl,if_pos rfl];have hrow:∀x cells' e' st ok,(EvL.newRow A cells e).heap.get x=some (.row cells' e' A.next st ok)→x=A.next∧cells'=cells∧e'=e∧st=0∧ok=true:=fun x cells' e' st ok hg=>by
    rw [jG] at hg;split at hg
    ·rename_i hx; injection hg with hg; injection hg with h1 h2 h3 h4 h5; exact⟨hx,h1.symm,h2.symm,h4.symm,h5.symm⟩
    ·have:=(hi.lt _ _ hg).2; simp only [cZ] at this; omega
   refine⟨⟨A.next,cells,0,by rw [jG,if_pos rfl],by simp [h.len]⟩,fun x cells' e' st ok hg=>?_,fun x y cells' e' st ok cells2 e2 st2 ok2 h1 h2 _ _=>?_,Nat.zero_le _,?_,by rw [aV]; omega,fun x cells' e' st ok hg=>(hrow _ _ _ _ _ hg).2.2.2.1⟩
   ·obtain⟨_,rfl,rfl,rfl,rfl⟩:=hrow _ _ _ _ _ hg;refine⟨rfl,by simp [h.len],fun _=>⟨rfl,?_⟩⟩;rw [List.drop_zero,h.len,List.take_length];exact h.mono hw
   ·rw [(hrow _ _ _ _ _ h1).1,(hrow _ _ _ _ _ h2).1]
   ·rw [eo,iS];show A.fz.get A.next=none;cases hz:A.fz.get A.next with
    | none=>rfl
    | some k=>have:=hi.fz _ _ hz; omega
  ·have hkn:k < s.n:=by omega
   show RB _ _ (s.n + 1) (if k=s.n then A.next else β k) (if k=s.n then _ else s.h k);rw [if_neg he,if_neg he];have hb:=hs.blk k hkn;refine hb.mono hw (fun x cells' e' st ok=>?_) (by rw [eo,iS]);rw [jG];split
   ·rename_i hx;constructor
    ·intro hh; injection hh with hh; injection hh with _ _ h3; have:=hb.lt; omega
    ·intro hh; exact absurd hx (hold _ _ hh)
   ·exact Iff.rfl
 ·intro j k hj hk he;have hj':j < s.n + 1:=hj;have hk':k < s.n + 1:=hk;have he':(if j=s.n then A.next else β j)=if k=s.n then A.next else β k:=he;split at he'<;>split at he'
  ·omega
  ·have:=(hs.blk k (by omega)).lt; omega
  ·have:=(hs.blk j (by omega)).lt; omega
  ·exact hs.inj j k (by omega) (by omega) he'
theorem EN (hO:cP P) (hi:cE A) (hs:RS A β s) {cells:List Value}{cs:List PV}{e:Nat} (h:bG P f o A=some (.val (.pointer (some ⟨A.next,0,none⟩)),EvL.newRow A cells e)) (hc:Rs A β s.n cells cs) :
  gF P A β s f o (.ptr s.n 0 cs.length) (s.new ⟨cs,0,e⟩) E:=by
 refine⟨_,_,_,hO f o A _ _ hi (Nat.le_refl _) h,tV hi β s.n cells e _,xQ hi hs e hc,?_,tw β s.n cells e E⟩;refine .ptr A.next 0 s.n 0 cs.length e cells 0 true (by show s.n < s.n + 1; omega) ?_ rfl (by simp [hc.len]);rw [jG,if_pos rfl,if_pos rfl]
theorem DW (hO:cP P) (hi:cE A) (hs:RS A β s) {cells:List Value}{cs:List PV}{e m:Nat} (h:bG P f o A=some (.val (.slice (some ⟨A.next,0,none⟩) m m),EvL.newRow A cells e)) (hc:Rs A β s.n cells cs) :
  gF P A β s f o (.own s.n 0 m cs.length) (s.new ⟨cs,0,e⟩) E:=by
 refine⟨_,_,_,hO f o A _ _ hi (Nat.le_refl _) h,tV hi β s.n cells e _,xQ hi hs e hc,?_,tw β s.n cells e E⟩;refine .own A.next 0 s.n 0 m cs.length m e cells 0 true (by show s.n < s.n + 1; omega) ?_ rfl (by simp [hc.len]) (Nat.le_refl _);rw [jG,if_pos rfl,if_pos rfl]
end
section
variable {P:Program}{A:AS}{β:Nat→Nat}{nt:Nat}{f:Fr}{p:aO}{s s':PS}{q:PV}{E:iY}{d:Option Tmp}{ty:TypeId}{pos:String}{af:Array Edge}{gu:Option (Nat × Bool)}
theorem RE (hO:cP P) (hi:cE A) (hs:RS A β s) (hf:RF A β s.n nt f p) {x:Operand} (hx:fi x=true):gF P A β s f ⟨d,.move x,ty,pos,af,gu⟩ (bU p x) s E:=by
 obtain⟨v,h1,h2⟩:=bI hf hx;exact cD hO hi hs (by show nB A (f.eval x)=_; rw [h1]; rfl) h2
theorem SR (hO:cP P) (hi:cE A) (hs:RS A β s) (hf:RF A β s.n nt f p) {x:Operand} (hx:fi x=true):gF P A β s f ⟨d,.assign x,ty,pos,af,gu⟩ (bU p x) s E:=by
 obtain⟨v,h1,h2⟩:=bI hf hx;exact cD hO hi hs (by show nB A (f.eval x)=_; rw [h1]; rfl) h2
theorem nZ {v:Value}{x:PV}{b:Bool} (h:R1 A β s.n v x) (hb:jy x=some b):v=.bool b:=by
 cases x with
 | sc u=>
  obtain⟨rfl,_⟩:=h.sc;cases v with
  | bool c=>simp only [jy] at hb; injection hb with hb; rw [hb]
  | _=>simp [jy] at hb
 | _=>simp [jy] at hb
theorem MA (hO:cP P) (hi:cE A) (hs:RS A β s) (hf:RF A β s.n nt f p) {c x y:Operand} (hc:fi c=true) (hx:fi x=true) (hy:fi y=true) (h:bm P p s (.pick c x y)=some (q,s')):gF P A β s f ⟨d,.pick c x y,ty,pos,af,gu⟩ q s' E:=by
 obtain⟨vc,c1,c2⟩:=bI hf hc;obtain⟨vx,x1,x2⟩:=bI hf hx;obtain⟨vy,y1,y2⟩:=bI hf hy;simp only [bm] at h;split at h
 ·rename_i hb;have:=nZ c2 hb;subst this;injection h with h; injection h with h1 h2; subst h1; subst h2;exact cD hO hi hs (by show uX f (f.eval c) x y A=_; rw [c1]; show nB A (f.eval x)=_; rw [x1]; rfl) x2
 ·rename_i hb;have:=nZ c2 hb;subst this;injection h with h; injection h with h1 h2; subst h1; subst h2;exact cD hO hi hs (by show uX f (f.eval c) x y A=_; rw [c1]; show nB A (f.eval y)=_; rw [y1]; rfl) y2
 ·cases h
theorem OQ (hO:cP P) (hi:cE A) (hs:RS A β s) (hf:RF A β s.n nt f p) {e:Nat}{x:Operand} (hx:fi x=true) :
  gF P A β s f ⟨d,.box e x,ty,pos,af,gu⟩ (.ptr s.n 0 (bx (bU p x)).length) (s.new ⟨bx (bU p x),0,e⟩) E:=by
 obtain⟨v,h1,h2⟩:=bI hf hx;exact EN hO hi hs (by show ta A e (f.eval x)=_; rw [h1]; rfl) h2.cells
end
end Go.PE
namespace Go.PE
open Go Go.EvL
theorem Nc (off:Nat):∀(vs:List Value) (k:Nat) (cs:Array Value),off + k + vs.length≤cs.size→
  ((vs.zipIdx k).foldl (fun cs (x:Value × Nat)=>cs.setIfInBounds (off + x.2) x.1) cs).toList=cs.toList.take (off + k) ++ (vs ++ cs.toList.drop (off + k + vs.length)):=by
 intro vs
 induction vs with
 | nil=>intro k cs _; simp
 | cons v vs ih=>
  intro k cs h;simp only [List.length_cons] at h;simp only [List.zipIdx_cons,List.foldl_cons];rw [ih (k + 1) _ (by rw [Array.size_setIfInBounds]; omega),Array.toList_setIfInBounds];have hlt:off + k < cs.toList.length:=by rw [Array.length_toList]; omega
  rw [List.set_eq_take_append_cons_drop,if_pos hlt];have h1:(cs.toList.take (off + k)).length=off + k:=by rw [List.length_take]; omega
  rw [show off + (k + 1)=(off + k) + 1 by omega,List.take_append,h1,List.take_of_length_le (by rw [h1]; omega),show off + k + 1 - (off + k)=1 by omega,List.take_succ_cons,List.take_zero];rw [List.drop_append,h1,List.drop_of_length_le (by rw [h1]; omega),show off + k + 1 + vs.length - (off + k)=vs.length + 1 by omega,List.drop_succ_cons,List.drop_drop];simp only [List.nil_append,List.length_cons,List.append_assoc,List.cons_append];rw [show off + k + 1 + vs.length=off + k + (vs.length + 1) by omega]
section
variable {P:Program}{A:AS}{β:Nat→Nat}{nt:Nat}{f:Fr}{p:aO}{s s':PS}{q:PV}{E:iY}{d:Option Tmp}{ty:TypeId}{pos:String}{af:Array Edge}{gu:Option (Nat × Bool)}
theorem Qz {n:Nat}{z:Value} (h:J6 z=true):Rs A β n z.cells.toList (bx (bH z)):=by
 cases z with
 | agg cs=>exact Cs.up (mS _ h)
 | func fn a b=>cases h
 | _=>exact .cons _ _ _ _ (.cl _ _ (.sc _ h)) .nil
theorem zk {n:Nat}{z:Value} (h:J6 z=true):Rs A β n z.cells.toList (z.cells.toList.map .sc):=by
 cases z with
 | agg cs=>exact Cs.up (mS _ h)
 | func fn a b=>cases h
 | _=>exact .cons _ _ _ _ (.cl _ _ (.sc _ h)) .nil
theorem HI (hO:cP P) (hi:cE A) (hs:RS A β s) {e:Nat}{z:Value} (hz:gm P e=some z) (ho:J6 z=true) :
  gF P A β s f ⟨d,.alloc e,ty,pos,af,gu⟩ (.ptr s.n 0 (bx (bH z)).length) (s.new ⟨bx (bH z),0,e⟩) E:=
 EN hO hi hs (by show ta A e (gm P e)=_; rw [hz]; rfl) (Qz ho)
theorem DJ {n:Nat} (hf:RF A β n nt f p) {g:Nat→Option (Nat × Nat)} : ∀(ps:List (Nat × Operand)) (l:List (Nat × Nat × Operand)) (zc:Array Value) (zp cs:List PV),Rs A β n zc.toList zp→nl g ps=some l→eB p zp l=some cs→
  ∃vs out,jL f ps=some vs∧Instr.fill g zc vs=some out∧Rs A β n out.toList cs:=by
 intro ps
 induction ps with
 | nil=>
  intro l zc zp cs hz hp hc;simp only [nl] at hp;injection hp with hp; subst hp;simp only [eB] at hc;injection hc with hc; subst hc;exact⟨[],zc,rfl,rfl,hz⟩
 | cons y ps ih=>
  intro l zc zp cs hz hp hc;obtain⟨i,x⟩:=y;simp only [nl] at hp;split at hp
  ·rename_i off sz r hg hx hr;injection hp with hp; subst hp;simp only [eB] at hc;split at hc
   ·rename_i hl;obtain⟨v,h1,h2⟩:=bI hf hx;have hcl:=h2.cells;have hlen:=hcl.len;have hzl:=hz.len;rw [Array.length_toList] at hlen hzl;have hput:Rs A β n (v.cells.zipIdx.foldl (fun cs (x:Value × Nat)=>cs.setIfInBounds (off + x.2) x.1) zc).toList (zp.take off ++ (bx (bU p x) ++ zp.drop (off + sz))):=by
     rw [← Array.foldl_toList,Array.toList_zipIdx];have:=Nc off v.cells.toList 0 zc (by rw [Array.length_toList]; omega);rw [this,Nat.add_zero,Array.length_toList,hlen,hl.1];exact (hz.take off).app (hcl.app (hz.drop _))
    obtain⟨vs,out,e1,e2,e3⟩:=ih r _ _ cs hput hr hc;refine⟨(i,v) :: vs,out,?_,?_,e3⟩
    ·show (match f.eval x with | some v=>(match jL f ps with | some vs=>some ((i,v) :: vs) | none=>none) | none=>none)=_;rw [h1,e1]
    ·simp only [Instr.fill];rw [hg];simp only;rw [if_neg (by simp; omega)];exact e2
   ·cases hc
  ·cases hp
theorem J5 (hO:cP P) (hi:cE A) (hs:RS A β s) (hf:RF A β s.n nt f p) {t:Nat}{ps:Array (Nat × Operand)}{z:Value}{fs:Array Field}{l:List (Nat × Nat × Operand)}{cs:List PV} (hz:gm P t=some z) (hu:P.underlying t=some (.struct fs))
  (hp:nl (fun i=>(fs[i]?).bind fun fl=>(dp P fl.type).map fun n=>(fl.offset,n)) ps.toList=some l) (hb:Nat.ble (Nat.succ t) P.types.size=true) (ho:J6 z=true) (hc:eB p (z.cells.toList.map .sc) l=some cs) :
  gF P A β s f ⟨d,.build t ps,ty,pos,af,gu⟩ (.agg cs) s E:=by
 obtain⟨vs,out,e1,e2,e3⟩:=DJ hf ps.toList l z.cells _ cs (zk ho) hp hc;refine cD hO hi hs (u:=.agg out) ?_ (.agg _ _ e3);show nI P f t ps A=_;unfold nI;rw [hz,hu,e1];simp only;rw [hb,e2];rfl
theorem QM {n:Nat}{l:List Value}{r:List PV} (h:Rs A β n l r):∀k,Rs A β n (List.replicate k l).flatten (List.replicate k r).flatten:=by
 intro k
 induction k with
 | zero=>exact .nil
 | succ k ih=>simp only [List.replicate_succ,List.flatten_cons]; exact h.app ih
theorem H9 (hO:cP P) (hi:cE A) (hs:RS A β s) (hf:RF A β s.n nt f p) {t e len n:Nat}{ps:Array (Nat × Operand)}{z:Value}{l:List (Nat × Nat × Operand)}{cs:List PV} (hu:P.underlying t=some (.slice e)) (hz:gm P e=some z) (hn:dp P e=some n)
  (hp:nl (fun i=>some (i * n,n)) ps.toList=some l) (hb:Nat.ble (Nat.mul len n) 1048576=true) (hzl:Nat.beq z.cells.toList.length n=true) (ho:J6 z=true) (hc:eB p ((List.replicate len z.cells.toList).flatten.map .sc) l=some cs) :
  gF P A β s f ⟨d,.buildSlice t len ps,ty,pos,af,gu⟩ (.own s.n 0 len cs.length) (s.new ⟨cs,0,e⟩) E:=by
 have hzz:Rs A β s.n (List.replicate len z.cells.toList).flatten ((List.replicate len z.cells.toList).flatten.map .sc):=by
  have:=QM (A:=A) (β:=β) (n:=s.n) (zk (z:=z) ho) len;rw [List.map_flatten,List.map_replicate];exact this
 obtain⟨vs,out,e1,e2,e3⟩:=DJ hf ps.toList l (List.replicate len z.cells.toList).flatten.toArray _ cs (by simpa using hzz) hp hc;refine DW hO hi hs (cells:=out.toList) ?_ e3;show fH P f t len ps A=_;unfold fH;rw [hu];simp only;rw [hz,hn,e1];simp only;rw [if_pos (by rw [hb,hzl]; rfl),e2];rfl
theorem EF (hO:cP P) (hi:cE A) (hs:RS A β s) (hf:RF A β s.n nt f p) {t sz:Nat}{ag:Bool}{x:Operand}{dd:TypeDesc} (hx:fi x=true) (hd:P.underlying t=some dd) (hag:kR (some dd)=ag) (hsz:if ag then dp P t=some sz else sz=1)
  (h:bm P p s (.load t ag sz x)=some (q,s')):gF P A β s f ⟨d,.load t x,ty,pos,af,gu⟩ q s' (ec (bU p x)):=by
 obtain⟨v,h1,h2⟩:=rX (P:=P) hf hx;simp only [bm,Option.bind_eq_some_iff,Option.map_eq_some_iff] at h;obtain⟨cs,hcs,v',hv',he⟩:=h;injection he with he1 he2; subst he1; subst he2;obtain⟨b,o,xs,c,rfl,hl,hr,_,hef⟩:=I0 hs h2 hcs;obtain⟨u,k1,k2⟩:=xe hag hsz hl hr hv';refine nE hO hi hs (u:=u) (c:=c) ?_ k2 (by
  rcases hef with ⟨k,_,hk,rfl⟩ | ⟨_,hp⟩
  ·exact (hs.blk k hk).lt
  ·exact hp.1) hef
 show nJ P t (evalG P f x) A=_;rw [h1];show (match P.underlying t with | some d=>mc P t d b o A | none=>none)=_;rw [hd];exact k1
theorem Jf (hO:cP P) (hi:cE A) (hs:RS A β s) (hf:RF A β s.n nt f p) {t i m:Nat}{x:Operand}{fs:Array Field}{fl:Field} (hx:fi x=true) (hfs:iV P t=some fs) (hfl:fs[i]?=some fl) (hsz:dp P fl.type=some (m + 1))
  (h:bm P p s (.faddr fl.offset x)=some (q,s')):gF P A β s f ⟨d,.fieldAddr t x i,ty,pos,af,gu⟩ q s' E:=by
 obtain⟨v,h1,h2⟩:=rX (P:=P) hf hx;have key:∀b o,v=.pointer (some ⟨b,o,none⟩)→bG P f ⟨d,.fieldAddr t x i,ty,pos,af,gu⟩ A=some (.val (.pointer (some ⟨b,o + fl.offset,none⟩)),A):=by
  rintro b o rfl;show il P t (evalG P f x) i A=_;rw [h1];unfold il;simp only [hfs,hfl,hsz];rfl
 simp only [bm] at h;split at h
 ·rename_i k off fin hp;injection h with h; injection h with e1 e2; subst e1; subst e2;rw [hp] at h2;cases h2 with
  | cl _ _ h=>cases h
  | ptr b o _ _ _ e cells st ok hk hg ho hf'=>
   exact cD hO hi hs (key b o rfl) (.ptr b (o + fl.offset) k _ fin e cells st ok hk hg (by omega) hf')
 ·rename_i cs hp;split at h
  ·rename_i hle;injection h with h; injection h with e1 e2; subst e1; subst e2;rw [hp] at h2;have h3:=h2.litp;cases h3 with
   | litp b off e _ cells c st hg hpr hl hh=>
    refine cD hO hi hs (key b off rfl) (.cl _ _ (.litp b (off + fl.offset) e _ cells c st hg hpr (by rw [List.length_drop]; omega) ?_));have:=Cs.drop hh fl.offset;rw [List.drop_take,List.drop_drop] at this;rw [List.length_drop];exact this
  ·cases h
 ·cases h
theorem yd {n:Nat}{ag:Bool}{xs:List Value}{cs:List PV}{v:PV} (h:Rs A β n xs cs) (hv:au ag cs=some v):(ag=true∧R1 A β n (.agg xs.toArray) v)∨(ag=false∧∃u,xs=[u]∧R1 A β n u v):=by
 cases ag with
 | true=>
  simp only [au,if_true] at hv;injection hv with hv; subst hv;exact .inl ⟨rfl,.agg _ _ (by simpa using h)⟩
 | false=>
  simp only [au] at hv;rw [if_neg (by simp)] at hv;split at hv
  ·injection hv with hv; subst hv;cases h with
   | cons u _ l _ h hn=>cases hn; exact .inr ⟨rfl,u,rfl,h⟩
  ·cases hv
theorem JJ (hO:cP P) (hi:cE A) (hs:RS A β s) (hf:RF A β s.n nt f p) {t i sz:Nat}{ag:Bool}{x:Operand}{fs:Array Field}{fl:Field}{dd:TypeDesc} (hx:fi x=true) (hfs:iV P t=some fs) (hfl:fs[i]?=some fl) (hd:P.underlying fl.type=some dd) (hag:kR (some dd)=ag)
  (hsz:if ag then dp P fl.type=some sz else sz=1) (h:bm P p s (.fld ag fl.offset sz x)=some (q,s')):gF P A β s f ⟨d,.field t x i,ty,pos,af,gu⟩ q s' E:=by
 obtain⟨v,h1,h2⟩:=bI hf hx;simp only [bm] at h;split at h
 ·rename_i cs hp;rw [hp] at h2;split at h
  ·rename_i hle;simp only [Option.map_eq_some_iff] at h;obtain⟨v',hv',he⟩:=h;injection he with e1 e2; subst e1; subst e2;obtain⟨xs,rfl,hxs⟩ : ∃xs,v=.agg xs∧Rs A β s.n xs.toList cs:=by
    cases h2 with
    | cl _ _ h=>cases h with | agg xs _ h=>exact⟨xs,rfl,Cs.up h⟩
    | agg xs _ h=>exact⟨xs,rfl,h⟩
   have hpart:wF P fl.type xs.toList fl.offset=Bool.rec xs.toList[fl.offset]? ((dp P fl.type).map fun n=>.agg ((xs.toList.drop fl.offset).take n).toArray) ag:=by
    unfold wF; rw [hd]; simp only [hag]
   have hev:∀u,wF P fl.type xs.toList fl.offset=some u→bG P f ⟨d,.field t x i,ty,pos,af,gu⟩ A=some (.val u,A):=fun u hu=>by
    show pI P t (f.eval x) i A=_;rw [h1];unfold pI;simp only [hfs,hfl,hu];rfl
   have hrs:=(hxs.drop fl.offset).take sz;rcases yd hrs hv' with ⟨rfl,hr⟩ | ⟨rfl,u,hu,hr⟩
   ·have hsz':dp P fl.type=some sz:=by simpa using hsz
    refine cD hO hi hs (hev _ ?_) hr;rw [hpart,hsz']; rfl
   ·have:sz=1:=by simpa using hsz
    subst this;refine cD hO hi hs (hev u ?_) hr;rw [hpart];show xs.toList[fl.offset]?=some u;rw [← List.head?_drop];cases hdr:xs.toList.drop fl.offset with
    | nil=>rw [hdr] at hu; cases hu
    | cons y l=>rw [hdr] at hu; simp only [List.take_succ_cons,List.take_zero] at hu; injection hu with hu; rw [hu]; rfl
  ·cases h
 ·cases h
theorem lV {n:Nat}{v:Value}{x:PV}{j:Nat} (h:R1 A β n v x) (hj:kw x=some j):j6 v=some j∧∃k,v=.int k (j:Int):=by
 cases x with
 | sc u=>
  obtain⟨rfl,_⟩:=h.sc;cases v with
  | int k z=>
   simp only [kw] at hj;split at hj
   ·rename_i hz;injection hj with hj;obtain⟨m,rfl⟩:=Int.eq_ofNat_of_zero_le hz;simp only [Int.toNat_natCast] at hj;subst hj;exact⟨rfl,k,rfl⟩
   ·cases hj
  | _=>simp [kw] at hj
 | _=>simp [kw] at hj
theorem Hv (hO:cP P) (hi:cE A) (hs:RS A β s) (hf:RF A β s.n nt f p) {t e es:Nat}{x y:Operand} (hx:fi x=true) (hy:fi y=true) (hu:P.underlying t=some (.slice e)) (hsz:dp P e=some es)
  (h:bm P p s (.iaddr es x y)=some (q,s')):gF P A β s f ⟨d,.indexAddr t x y,ty,pos,af,gu⟩ q s' E:=by
 obtain⟨v,h1,h2⟩:=rX (P:=P) hf hx;obtain⟨vi,i1,i2⟩:=bI hf hy;have key:∀b o m cap j,v=.slice (some ⟨b,o,none⟩) m cap→j6 vi=some j→j < m→bG P f ⟨d,.indexAddr t x y,ty,pos,af,gu⟩ A=some (.val (.pointer (some ⟨b,o + j * es,none⟩)),A):=by
  rintro b o m cap j rfl hj hlt;show fL P t (evalG P f x) (f.eval y) A=_;rw [h1,i1];unfold fL;rw [hu];simp only [Option.bind_some,hj];unfold pK;rw [hsz];simp only;rw [Nat.ble_eq_true_of_le (Nat.succ_le_of_lt hlt)];rfl
 have keyX:∀b o m j,v=.slice (some ⟨b,o,some 0⟩) m m→j6 vi=some j→j < m→bG P f ⟨d,.indexAddr t x y,ty,pos,af,gu⟩ A=some (.val (.pointer (some ⟨b,o + j * es,none⟩)),A):=by
  rintro b o m j rfl hj hlt;show fL P t (evalG P f x) (f.eval y) A=_;rw [h1,i1];unfold fL;rw [hu];simp only [Option.bind_some,hj];unfold pK;rw [hsz];simp only;rw [Nat.ble_eq_true_of_le (Nat.succ_le_of_lt hlt)];rfl
 simp only [bm] at h;split at h
 ·rename_i k off m fin j hp hj;split at h
  ·rename_i hc;injection h with h; injection h with e1 e2; subst e1; subst e2;rw [hp] at h2;cases h2 with
   | cl _ _ h=>cases h
   | own b o _ _ _ _ cap e' cells st ok hk hg ho hf' hm=>
    exact cD hO hi hs (key b o m cap j rfl (lV i2 hj).1 hc.1) (.ptr b (o + j * es) k _ fin e' cells st ok hk hg (by omega) hf')
  ·cases h
 ·rename_i e' m cs j hp hj;split at h
  ·rename_i hc;injection h with h; injection h with e1 e2; subst e1; subst e2;rw [hp] at h2;have h3:=h2.lit;cases h3 with
   | lit b off _ cap _ _ cells c st hg hpr hl hm hh=>
    have hle:j * es≤cs.length:=by rw [hc.2]; exact Nat.mul_le_mul_right _ (Nat.le_of_lt hc.1)
    refine cD hO hi hs (key b off m cap j rfl (lV i2 hj).1 hc.1) (.cl _ _ (.litp b (off + j * es) e' _ cells c st hg hpr (by rw [List.length_drop]; omega) ?_));have:=Cs.drop hh (j * es);rw [List.drop_take,List.drop_drop] at this;rw [List.length_drop];exact this
  ·cases h
 ·rename_i e' m cs j hp hj;split at h
  ·rename_i hc;injection h with h; injection h with e1 e2; subst e1; subst e2;rw [hp] at h2;have h3:=h2.litx;cases h3 with
   | litx b off _ _ _ cells c st hg hpr hl hh=>
    have hle:j * es≤cs.length:=by rw [hc.2]; exact Nat.mul_le_mul_right _ (Nat.le_of_lt hc.1)
    refine cD hO hi hs (keyX b off m j rfl (lV i2 hj).1 hc.1) (.cl _ _ (.litp b (off + j * es) e' _ cells c st hg hpr (by rw [List.length_drop]; omega) ?_));have:=Cs.drop hh (j * es);rw [List.drop_take,List.drop_drop] at this;rw [List.length_drop];exact this
  ·cases h
 ·cases h
theorem Ma (hO:cP P) (hi:cE A) (hs:RS A β s) (hf:RF A β s.n nt f p) {t:Nat}{x y:Operand} (hx:fi x=true) (hy:fi y=true) (hu:P.underlying t=some .string)
  (h:bm P p s (.sidx x y)=some (q,s')):gF P A β s f ⟨d,.index t x y,ty,pos,af,gu⟩ q s' E:=by
 obtain⟨v,h1,h2⟩:=bI hf hx;obtain⟨vi,i1,i2⟩:=bI hf hy;simp only [bm] at h;split at h
 ·rename_i b j hp hj;split at h
  ·rename_i hc;injection h with h; injection h with e1 e2; subst e1; subst e2;rw [hp] at h2;obtain⟨rfl,_⟩:=h2.sc;refine cD hO hi hs (u:=.int .u8 ((b.data.toList.getD j 0).toNat:Int)) ?_ (.cl _ _ (.sc _ rfl));show pV P f _ t (f.eval x) (f.eval y) A=_;rw [h1,i1];unfold pV;simp only [hu,Option.bind_some,(lV i2 hj).1];rw [List.getElem?_eq_getElem hc];unfold Ds;simp only [bN,List.getD_eq_getElem?_getD,List.getElem?_eq_getElem hc,Option.getD_some];rfl
  ·cases h
 ·cases h
end
end Go.PE
namespace Go.PE
open Go Go.EvL
section
variable {P:Program}{A:AS}{β:Nat→Nat}{nt:Nat}{f:Fr}{p:aO}{s s':PS}{q:PV}{E:iY}{d:Option Tmp}{ty:TypeId}{pos:String}{af:Array Edge}{gu:Option (Nat × Bool)}
theorem ew {v:Value} (h:jz v=true):plain 50 v=true∧Nj v=true:=by
 cases v<;>first | (cases h; done) | exact⟨rfl,rfl⟩
theorem nQ {o:Oper} (hs:RS A β s) {u:Value} (h:cJ P f A o (.val u) A) (hq:R1 A β s.n u q):gF P A β s f o q s E:=
 ⟨u,A,β,h,.refl A β s.n _,hs,hq,.same A β s.n E⟩
theorem Q4 {l:List Value} : ∀{cs:List PV}{a:List Value},QZ cs=some a→Rs A β s.n l cs→l=a∧a.all jz=true:=by
 intro cs
 induction cs generalizing l with
 | nil=>intro a h hr; injection h with h; subst h; cases hr; exact⟨rfl,rfl⟩
 | cons c cs ih=>
  intro a h hr;cases c with
  | sc v=>
   simp only [QZ] at h;split at h
   ·rename_i hv;rw [Option.map_eq_some_iff] at h;obtain⟨b,hb,rfl⟩:=h;cases hr with
    | cons u _ l' _ hu hs'=>
     obtain⟨rfl,h2⟩:=ih hb hs';obtain⟨rfl,_⟩:=R1.sc hu;exact⟨rfl,by simp [hv,h2]⟩
   ·cases h
  | _=>cases h
theorem Ev {v:Value}{cs:List PV}{a:List Value} (h:QZ cs=some a) (hr:R1 A β s.n v (.agg cs)):v=.agg a.toArray∧plain 50 v=true:=by
 have key:∀xs:Array Value,Rs A β s.n xs.toList cs→xs=a.toArray∧plain 50 (.agg xs)=true:=by
  intro xs hx;obtain⟨h1,h2⟩:=Q4 h hx;refine⟨by rw [← h1],?_⟩;show xs.toList.all (plain 49)=true;rw [h1];rw [List.all_eq_true] at h2 ⊢;intro x hx;have:=h2 x hx;cases x<;>first | (cases this; done) | rfl
 cases hr with
 | cl _ _ h'=>cases h' with | agg xs _ h'=>obtain⟨e1,e2⟩:=key xs (Cs.up h'); exact⟨by rw [e1],e2⟩
 | agg xs _ h'=>obtain⟨e1,e2⟩:=key xs h'; exact⟨by rw [e1],e2⟩
theorem OS (hi:cE A) (hs:RS A β s) (hf:RF A β s.n nt f p) {t u:Nat}{op:BinOp}{x y:Operand} (hx:fi x=true) (hy:fi y=true) (h:bm P p s (.bin op t x y)=some (q,s')):gF P A β s f ⟨d,.binOp op t x y u,ty,pos,af,gu⟩ q s' E:=by
 obtain⟨vx,x1,x2⟩:=bI hf hx;obtain⟨vy,y1,y2⟩:=bI hf hy;simp only [bm,Option.map_eq_some_iff] at h;obtain⟨v',hv,he⟩:=h;injection he with e1 e2; subst e1; subst e2;unfold gP at hv;split at hv
 ·rename_i a b hpx hpy;split at hv
  ·rename_i hsc;rw [Bool.and_eq_true] at hsc;split at hv
   ·rename_i r hr;split at hv
    ·rename_i hrs;injection hv with hv; subst hv;rw [hpx] at x2;rw [hpy] at y2;obtain⟨rfl,_⟩:=x2.sc;obtain⟨rfl,_⟩:=y2.sc;refine nQ hs (aX hi fun φ w a hf'=>?_) (.cl _ _ (.sc _ (ew hrs).2));have ex:a.eval x=vx:=gE φ 50 _ _ (ew hsc.1).1 (hf'.eval x1);have ey:a.eval y=vy:=gE φ 50 _ _ (ew hsc.2).1 (hf'.eval y1);have hrun:=jT P _ hr w;have e:(execOp a.eval ⟨d,.binOp op t x y u,ty,pos,af,gu⟩).run P w=.ok (.value r) w:=by
      refine dh (s:=do eqGuard op t x y (a.eval x) (a.eval y); binOp op t (a.eval x) (a.eval y)) ?_;rw [ex,ey]; exact hrun
     rw [e];exact .val _ _ (dc φ 50 _ (ew hrs).1)
    ·cases hv
   ·cases hv
  ·cases hv
 ·rename_i cs ds hpx hpy;split at hv
  ·rename_i a b ha hb;split at hv
   ·rename_i r hr;split at hv
    ·rename_i hrs;injection hv with hv; subst hv;rw [hpx] at x2;rw [hpy] at y2;obtain⟨rfl,px⟩:=Ev ha x2;obtain⟨rfl,py⟩:=Ev hb y2;refine nQ hs (aX hi fun φ w a hf'=>?_) (.cl _ _ (.sc _ (ew hrs).2));have ex:=gE φ 50 _ _ px (hf'.eval x1);have ey:=gE φ 50 _ _ py (hf'.eval y1);have hrun:=jT P _ hr w;have e:(execOp a.eval ⟨d,.binOp op t x y u,ty,pos,af,gu⟩).run P w=.ok (.value r) w:=by
      refine dh (s:=do eqGuard op t x y (a.eval x) (a.eval y); binOp op t (a.eval x) (a.eval y)) ?_;rw [ex,ey]; exact hrun
     rw [e];exact .val _ _ (dc φ 50 _ (ew hrs).1)
    ·cases hv
   ·cases hv
  ·cases hv
 ·cases hv
theorem S6 (hi:cE A) (hs:RS A β s) (hf:RF A β s.n nt f p) {t:Nat}{op:UnOp}{x:Operand} (hx:fi x=true) (h:bm P p s (.un op x)=some (q,s')):gF P A β s f ⟨d,.unOp op t x,ty,pos,af,gu⟩ q s' E:=by
 obtain⟨vx,x1,x2⟩:=bI hf hx;simp only [bm,Option.map_eq_some_iff] at h;obtain⟨v',hv,he⟩:=h;injection he with e1 e2; subst e1; subst e2;unfold U2 at hv;split at hv
 ·rename_i a hpx;split at hv
  ·rename_i hsc;split at hv
   ·rename_i r hr;split at hv
    ·rename_i hrs;injection hv with hv; subst hv;rw [hpx] at x2;obtain⟨rfl,_⟩:=x2.sc;refine nQ hs (aX hi fun φ w a hf'=>?_) (.cl _ _ (.sc _ (ew hrs).2));have ex:a.eval x=vx:=gE φ 50 _ _ (ew hsc).1 (hf'.eval x1);have e:(execOp a.eval ⟨d,.unOp op t x,ty,pos,af,gu⟩).run P w=.ok (.value r) w:=by
      refine dh (s:=Op.unary op (a.eval x)) ?_;rw [ex]; exact jT P _ hr w
     rw [e];exact .val _ _ (dc φ 50 _ (ew hrs).1)
    ·cases hv
   ·cases hv
  ·cases hv
 ·cases hv
theorem LZ (hi:cE A) (hs:RS A β s) (hf:RF A β s.n nt f p) {t u:Nat}{k k':IntKind}{x:Operand} (hx:fi x=true) (ht:P.underlying t=some (.int k')) (hu:P.underlying u=some (.int k)) (h:bm P p s (.conv k x)=some (q,s')):gF P A β s f ⟨d,.convert t u x,ty,pos,af,gu⟩ q s' E:=by
 obtain⟨vx,x1,x2⟩:=bI hf hx;simp only [bm,Option.map_eq_some_iff] at h;obtain⟨v',hv,he⟩:=h;injection he with e1 e2; subst e1; subst e2;unfold II at hv;split at hv
 ·rename_i k2 z hpx;injection hv with hv; subst hv;rw [hpx] at x2;obtain⟨rfl,_⟩:=x2.sc;refine nQ hs (aX hi fun φ w a hf'=>?_) (.cl _ _ (.sc _ rfl));have ex:a.eval x=.int k2 z:=gE φ 50 _ _ rfl (hf'.eval x1);have e:(execOp a.eval ⟨d,.convert t u x,ty,pos,af,gu⟩).run P w=.ok (.value (.int k (k.wrap z))) w:=by
   refine dh (s:=convert t u (a.eval x)) ?_;rw [ex];simp only [convert,Sem.run_bind,run_underlying ht,run_underlying hu,Result.andThen];rfl
  rw [e];exact .val _ _ (.int _ _)
 ·cases hv
theorem IU (hO:cP P) (hi:cE A) (hs:RS A β s) (hf:RF A β s.n nt f p) {t:Nat}{str:Bool}{x:Operand}{dd:TypeDesc} (hx:fi x=true) (hu:P.underlying t=some dd) (hd:(str=false∧∃e,dd=.slice e)∨(str=true∧dd=.string))
  (h:bm P p s (.len str x)=some (q,s')):gF P A β s f ⟨d,.call ⟨.builtin .len,#[x],#[t]⟩,ty,pos,af,gu⟩ q s' E:=by
 obtain⟨vx,x1,x2⟩:=bI hf hx;simp only [bm,Option.map_eq_some_iff] at h;obtain⟨v',hv,he⟩:=h;injection he with e1 e2; subst e1; subst e2;have key:∀m:Nat,CX P f ⟨d,.call ⟨.builtin .len,#[x],#[t]⟩,ty,pos,af,gu⟩ (some dd) (some vx) A=some (.val (.int .i64 (m:Int)),A)→bG P f ⟨d,.call ⟨.builtin .len,#[x],#[t]⟩,ty,pos,af,gu⟩ A=some (.val (.int .i64 (m:Int)),A):=fun m hm=>by
  show CX P f _ (P.underlying t) (f.eval x) A=_;rw [hu,x1]; exact hm
 unfold eA at hv;split at hv
 ·rename_i hpx;injection hv with hv; subst hv;rw [hpx] at x2;obtain⟨rfl,_⟩:=x2.sc;rcases hd with ⟨_,e,rfl⟩ | ⟨h,_⟩
  ·exact cD hO hi hs (key 0 rfl) (.cl _ _ (.sc _ rfl))
  ·cases h
 ·rename_i b hpx;injection hv with hv; subst hv;rw [hpx] at x2;obtain⟨rfl,_⟩:=x2.sc;rcases hd with ⟨h,_⟩ | ⟨_,rfl⟩
  ·cases h
  ·exact cD hO hi hs (key _ (by unfold CX; simp only [bN]; rfl)) (.cl _ _ (.sc _ rfl))
 ·rename_i e m cs hpx;injection hv with hv; subst hv;rw [hpx] at x2;have x3:=x2.lit;rcases hd with ⟨_,e',rfl⟩ | ⟨h,_⟩
  ·cases x3;exact cD hO hi hs (key _ rfl) (.cl _ _ (.sc _ rfl))
  ·cases h
 ·rename_i e m cs hpx;injection hv with hv; subst hv;rw [hpx] at x2;have x3:=x2.litx;rcases hd with ⟨_,e',rfl⟩ | ⟨h,_⟩
  ·cases x3;exact cD hO hi hs (key _ rfl) (.cl _ _ (.sc _ rfl))
  ·cases h
 ·rename_i k off m fin hpx;injection hv with hv; subst hv;rw [hpx] at x2;rcases hd with ⟨_,e',rfl⟩ | ⟨h,_⟩
  ·cases x2 with
   | cl _ _ h=>cases h
   | own=>exact cD hO hi hs (key _ rfl) (.cl _ _ (.sc _ rfl))
  ·cases h
 ·cases hv
theorem uY {n:Nat} (hf:RF A β n nt f p):∀(l:List Operand),l.all fi=true→∃vs,oR f l=some vs∧Rs A β n vs (l.map (bU p)):=by
 intro l
 induction l with
 | nil=>intro _; exact⟨[],rfl,.nil⟩
 | cons x l ih=>
  intro h;rw [List.all_cons,Bool.and_eq_true] at h;obtain⟨v,h1,h2⟩:=bI hf h.1;obtain⟨vs,h3,h4⟩:=ih h.2;refine⟨v :: vs,?_,.cons _ _ _ _ h2 h4⟩;show (match f.eval x with | some v=>(match oR f l with | some vs=>some (v :: vs) | none=>none) | none=>none)=_;rw [h1,h3]
theorem Lu (hO:cP P) (hi:cE A) (hs:RS A β s) (hf:RF A β s.n nt f p) {g:Nat}{a b:Array Operand} (ha:a.toList.all fi=true) (hb:b.toList.all fi=true) :
  gF P A β s f ⟨d,.makeFunc (.func g) a b,ty,pos,af,gu⟩ (.fn g (a.toList.map (bU p)) (b.toList.map (bU p))) s E:=by
 obtain⟨vs,a1,a2⟩:=uY hf _ ha;obtain⟨us,b1,b2⟩:=uY hf _ hb;refine cD hO hi hs (u:=.func (.func g) vs.toArray us.toArray) ?_ (.fn g _ _ _ _ (by simpa using a2) (by simpa using b2));show vO f (.func g) a b A=_;unfold vO;simp only [a1,b1]
theorem Rs.get {n:Nat}{l:List Value}{r:List PV} (h:Rs A β n l r) {i:Nat}{v:PV} (hv:r[i]?=some v):∃u,l[i]?=some u∧R1 A β n u v:=by
 induction r generalizing l i with
 | nil=>simp at hv
 | cons x r ih=>
  cases h with
  | cons u _ l _ h hn=>
   cases i with
   | zero=>simp at hv; subst hv; exact⟨u,by simp,h⟩
   | succ i=>simp only [List.getElem?_cons_succ] at hv ⊢; exact ih hn hv
theorem ext_ok (hO:cP P) (hi:cE A) (hs:RS A β s) (hf:RF A β s.n nt f p) {i:Nat}{x:Operand} (hx:fi x=true) (h:bm P p s (.ext x i)=some (q,s')):gF P A β s f ⟨d,.extract x i,ty,pos,af,gu⟩ q s' E:=by
 obtain⟨vx,x1,x2⟩:=bI hf hx;simp only [bm] at h;split at h
 ·rename_i vs hp;simp only [Option.map_eq_some_iff] at h;obtain⟨v,hv,he⟩:=h;injection he with e1 e2; subst e1; subst e2;rw [hp] at x2;cases x2 with
  | cl _ _ h=>cases h
  | tup xs _ h=>
   obtain⟨u,h1,h2⟩:=Rs.get h hv;refine cD hO hi hs (u:=u) ?_ h2;show kW (f.eval x) i A=_;rw [x1];show nB A xs.toList[i]?=_;rw [h1]; rfl
 ·cases h
theorem nY {n:Nat} (hf:RF A β n nt f p) {x:Option Operand} (hx:yH x=true) {dflt m:Nat} (h:ig p x dflt=some m):ik f x dflt=some m:=by
 cases x with
 | none=>exact h
 | some x=>
  obtain⟨v,h1,h2⟩:=bI hf (x:=x) hx;show (match f.eval x with | some v=>j6 v | none=>none)=_;rw [h1];exact (lV h2 h).1
theorem MX (hO:cP P) (hi:cE A) (hs:RS A β s) (hf:RF A β s.n nt f p) {t e es:Nat}{x y z:Operand} (hx:fi x=true) (hy:fi y=true) (hz:fi z=true) (hu:P.underlying t=some (.slice e)) (hsz:dp P e=some es)
  (h:bm P p s (.slc3 e es x y z)=some (q,s')):gF P A β s f ⟨d,.slice t x none (some y) (some z),ty,pos,af,gu⟩ q s' (ec (bU p x)):=by
 obtain⟨vx,x1,x2⟩:=bI hf hx;have oy:∀m dflt,kw (bU p y)=some m→ik f (some y) dflt=some m:=fun m dflt hm=>nY hf (x:=some y) hy (show ig p (some y) dflt=some m from hm);have oz:∀m dflt,kw (bU p z)=some m→ik f (some z) dflt=some m:=fun m dflt hm=>nY hf (x:=some z) hz (show ig p (some z) dflt=some m from hm);simp only [bm] at h;split at h
 ·rename_i e' n cs hh m hp h1 h2;split at h
  ·rename_i hc;injection h with h; injection h with e1 e2; subst e1; subst e2;obtain⟨rfl,c2,c3,rfl⟩:=hc;rw [hp] at x2 ⊢;have x3:=x2.lit;cases x3 with
   | lit b off _ cap _ _ cells c st hg hpr hl hm hh'=>
    have hmul:hh * es≤n * es:=Nat.mul_le_mul_right _ c2;have hev:bG P f ⟨d,.slice t x none (some y) (some z),ty,pos,af,gu⟩ A=some (.val (.slice (some ⟨b,off,some 0⟩) hh hh),ci A c):=by
     show q9 (some z) (some y) (fF P f _ t (f.eval x) none (some y) (some z) A)=_;have:fF P f ⟨d,.slice t x none (some y) (some z),ty,pos,af,gu⟩ t (f.eval x) none (some y) (some z) A=some (.val (.slice (some ⟨b,off,some 0⟩) hh hh),ci A c):=by
      rw [x1];unfold fF;simp only [hu,oy hh n h1,oz hh cap h2,hsz];show kk P b off 0 hh hh cap es A=_;unfold kk sx;rw [hg];simp only [hsz,Nat.beq_refl];unfold sliceX;rw [Nat.ble_eq_true_of_le (Nat.zero_le hh),Nat.ble_eq_true_of_le (Nat.le_trans c2 hm),Nat.beq_refl];simp only [Bool.and_self];show some (dC.val (.slice (some ⟨b,off + 0 * es,some 0⟩) hh hh),ci A c)=_;rw [Nat.zero_mul,Nat.add_zero]
     rw [this];rfl
    refine nE hO hi hs hev (.cl _ _ (.litx b off hh e' _ cells c st hg hpr ?_ ?_)) hpr.1 (.inr ⟨rfl,hpr⟩)
    ·rw [List.length_take]; omega
    ·have:=Cs.take hh' (hh * es);rw [List.take_take,Nat.min_eq_left (by omega)] at this;rw [List.length_take,Nat.min_eq_left (by omega)];exact this
  ·cases h
 ·rename_i hp h1 h2;injection h with h; injection h with e1 e2; subst e1; subst e2;rw [hp] at x2;obtain⟨rfl,_⟩:=x2.sc;refine cD hO hi hs (u:=.slice none 0 0) ?_ (.cl _ _ (.sc _ rfl));show q9 (some z) (some y) (fF P f _ t (f.eval x) none (some y) (some z) A)=_;have:fF P f ⟨d,.slice t x none (some y) (some z),ty,pos,af,gu⟩ t (f.eval x) none (some y) (some z) A=some (.val (.slice none 0 0),A):=by
   rw [x1];unfold fF;have o0:ik f none 0=some 0:=rfl;simp only [hu,oy 0 0 h1,oz 0 0 h2,o0,hsz]
  rw [this];rfl
 ·cases h
theorem Pl (hO:cP P) (hi:cE A) (hs:RS A β s) (hf:RF A β s.n nt f p) {t e es:Nat}{x:Operand}{lo hi':Option Operand} (hx:fi x=true) (hlo:yH lo=true) (hhi:yH hi'=true) (hu:P.underlying t=some (.slice e)) (hsz:dp P e=some es)
  (h:bm P p s (.slc e es x lo hi')=some (q,s')):gF P A β s f ⟨d,.slice t x lo hi' none,ty,pos,af,gu⟩ q s' (ec (bU p x)):=by
 obtain⟨vx,x1,x2⟩:=bI hf hx;simp only [bm] at h;split at h
 ·rename_i l hh h1 h2;simp only [Option.map_eq_some_iff] at h;obtain⟨v,hv,he⟩:=h;injection he with e1 e2; subst e1; subst e2;have key:∀b o m cap cells c st,vx=.slice (some ⟨b,o,none⟩) m cap→vZ (bU p x)=m→A.heap.get b=some (.row cells e c st true)→l≤hh→hh≤m→m≤cap→
    bG P f ⟨d,.slice t x lo hi' none,ty,pos,af,gu⟩ A=some (.val (.slice (some ⟨b,o + l * es,none⟩) (hh - l) (cap - l)),ci A c):=by
   rintro b o m cap cells c st rfl hm hg hle1 hle2 hle3;rw [hm] at h2;show q9 none hi' (fF P f _ t (f.eval x) lo hi' none A)=_;have:fF P f ⟨d,.slice t x lo hi' none,ty,pos,af,gu⟩ t (f.eval x) lo hi' none A=some (.val (.slice (some ⟨b,o + l * es,none⟩) (hh - l) (cap - l)),ci A c):=by
    rw [x1];unfold fF;simp only [hu,nY hf hlo h1,nY hf hhi h2,hsz];show sliceAt P b o l hh cap cap es A=_;unfold sliceAt sx;rw [hg];simp only [hsz,Nat.beq_refl];unfold lG;rw [Nat.ble_eq_true_of_le hle1,Nat.ble_eq_true_of_le (Nat.le_trans hle2 hle3),Nat.ble_eq_true_of_le (Nat.le_refl cap)];rfl
   rw [this];cases hi'<;>rfl
  unfold IT at hv;split at hv
  ·rename_i e' m cs hp;split at hv
   ·rename_i hc;injection hv with hv; subst hv;rw [hp] at x2 key;have x3:=x2.lit;obtain⟨c1,c2,c3,rfl⟩:=hc;cases x3 with
    | lit b off _ cap _ _ cells c st hg hpr hl hm hh'=>
     have hmul:hh * es≤m * es:=Nat.mul_le_mul_right _ c2;have hmul2:l * es≤hh * es:=Nat.mul_le_mul_right _ c1;have hsub:(hh - l) * es=hh * es - l * es:=Nat.sub_mul _ _ _;refine nE hO hi hs (key b off m cap cells c st rfl rfl hg c1 c2 hm) (.cl _ _ (.lit b (off + l * es) (hh - l) (cap - l) e' _ cells c st hg hpr ?_ (by omega) ?_)) hpr.1 (.inr ⟨by rw [hp]; rfl,hpr⟩)
     ·rw [List.length_take,List.length_drop]; omega
     ·have:=Cs.take (Cs.drop hh' (l * es)) ((hh - l) * es);rw [List.drop_take,List.drop_drop,List.take_take,Nat.min_eq_left (by omega)] at this;rw [List.length_take,List.length_drop,Nat.min_eq_left (by omega)];exact this
   ·cases hv
  ·rename_i k off m fin hp;split at hv
   ·rename_i hc;injection hv with hv; subst hv;rw [hp] at x2 key;obtain⟨c1,c2,c3,c4,c5⟩:=hc;cases x2 with
    | cl _ _ h=>cases h
    | own b o _ _ _ _ cap e' cells st ok hk hg ho hf' hm=>
     obtain⟨rfl,g2,g3⟩:=(hs.blk k hk).all _ _ _ _ _ hg;obtain⟨rfl,_⟩:=g3 (by omega);rw [c5] at hg;have hmul:hh * es≤m * es:=Nat.mul_le_mul_right _ c2;refine nE hO hi hs (key b o m cap cells _ st rfl rfl hg c1 c2 hm) (.own b (o + l * es) k _ (hh - l) _ (cap - l) e cells st true hk hg (by omega) (by omega) (by omega)) (hs.blk k hk).lt (.inl ⟨k,by rw [hp]; simp [ec],hk,rfl⟩)
   ·cases hv
  ·cases hv
 ·cases h
theorem KY (hO:cP P) (hi:cE A) (hs:RS A β s) (hf:RF A β s.n nt f p) {t:Nat}{x:Operand}{lo hi':Option Operand} (hx:fi x=true) (hlo:yH lo=true) (hhi:yH hi'=true) (hu:P.underlying t=some .string)
  (h:bm P p s (.sslc x lo hi')=some (q,s')):gF P A β s f ⟨d,.slice t x lo hi' none,ty,pos,af,gu⟩ q s' E:=by
 obtain⟨vx,x1,x2⟩:=bI hf hx;simp only [bm] at h;split at h
 ·rename_i l hh h1 h2;simp only [Option.map_eq_some_iff] at h;obtain⟨v,hv,he⟩:=h;injection he with e1 e2; subst e1; subst e2;unfold fw at hv;split at hv
  ·rename_i b hp;split at hv
   ·rename_i hc;injection hv with hv; subst hv;rw [hp] at x2 h2;obtain⟨rfl,_⟩:=x2.sc;refine cD hO hi hs (u:=.string ⟨⟨(b.data.toList.drop l).take (hh - l)⟩⟩) ?_ (.cl _ _ (.sc _ rfl));show q9 none hi' (fF P f _ t (f.eval x) lo hi' none A)=_;have:fF P f ⟨d,.slice t x lo hi' none,ty,pos,af,gu⟩ t (f.eval x) lo hi' none A=some (.val (.string ⟨⟨(b.data.toList.drop l).take (hh - l)⟩⟩),A):=by
     rw [x1];unfold fF;have h2':ik f hi' b.data.toList.length=some hh:=nY hf hhi h2;simp only [hu,nY hf hlo h1,h2'];unfold qu;rw [Nat.ble_eq_true_of_le hc.1,Nat.ble_eq_true_of_le hc.2,bO];rfl
    rw [this];cases hi'<;>rfl
   ·cases hv
  ·cases hv
 ·cases h
end
end Go.PE
namespace Go.PE
open Go Go.EvL
section
variable {P:Program}{A:AS}{β:Nat→Nat}{nt:Nat}{f:Fr}{p:aO}{s s':PS}{q:PV}{d:Option Tmp}{ty:TypeId}{pos:String}{af:Array Edge}{gu:Option (Nat × Bool)}
theorem Q8 {n:Nat}{v:Value}{x:PV} (h:R1 A β n v x) (ho:cX x=true):mV v=true:=by
 cases h with
 | cl v p h=>
  cases h with
  | sc v h=>exact ho
  | agg=>cases ho
  | _=>rfl
 | agg=>cases ho
 | tup=>cases ho
 | _=>rfl
theorem qh {n:Nat}{l:List Value}{r:List PV} (h:Rs A β n l r) (ho:r.all cX=true):l.all mV=true:=by
 induction r generalizing l with
 | nil=>cases h; rfl
 | cons x r ih=>
  rw [List.all_cons,Bool.and_eq_true] at ho;cases h with
  | cons v _ l _ h hn=>rw [List.all_cons,Q8 h ho.1,ih hn ho.2]; rfl
theorem vF {y:fM}{cells:List Value}{e c st:Nat}{ok:Bool} (h:fM.row cells e c st ok=jq y):ok=false∧∃ok',y=.row cells e c st ok':=by
 cases y with
 | row cells' e' c' st' ok'=>simp only [jq] at h; injection h with h1 h2 h3 h4 h5; subst h1 h2 h3 h4; exact⟨h5,ok',rfl⟩
 | map es k=>simp only [jq] at h; cases h
 | iter a b=>simp only [jq] at h; cases h
theorem Jr {b o:Nat}{vs cells:List Value}{e c st:Nat} (hg:A.heap.get b=some (.row cells e c st true)) (hl:o + vs.length≤cells.length) (hz:A.fz.get c=none) (h1:vs.all mV=true):∃A',Gg A b o vs=some A':=by
 refine⟨qW ((nh A b c).put b (.row (cells.take o ++ (vs ++ cells.drop (o + vs.length))) e c st true)) c,?_⟩;unfold Gg;rw [hg];show Fu A b o vs cells e c st=_;unfold Fu;have hfz:wi A c (Nat.add st o)=true:=by unfold wi; rw [hz]
 rw [bO,show Nat.ble (Nat.add o vs.length) cells.length=true from Nat.ble_eq_true_of_le hl,hfz,h1];rfl
theorem Nz {C:List PV}{st o l:Nat}{ys:List PV} (hl:ys.length=l) (hC:st + o + l≤C.length):(C.take (st + o) ++ (ys ++ C.drop (st + o + l))).drop st=(C.drop st).take o ++ (ys ++ (C.drop st).drop (o + l)):=by
 have h1:st≤(C.take (st + o)).length:=by rw [List.length_take]; omega
 rw [List.drop_append_of_le_length h1,List.drop_take,List.drop_drop,show st + o - st=o by omega,show st + (o + l)=st + o + l by omega]
theorem If {E:iY} (hi:cE A) (hs:RS A β s) {k off fin b o e st:Nat}{cells vs:List Value}{ok:Bool}{yc:List PV} (hk:k < s.n) (hg:A.heap.get b=some (.row cells e (β k) st ok)) (ho:st + o=off) (hf':fin≤st + cells.length) (hyc:Rs A β s.n vs yc)
  (c1:off + yc.length≤fin) (c2:fin=(s.h k).cells.length) (c3:yc.all cX=true) (he1:k∈E.rd) (he2:k∈E.wr):∃A',Gg A b o vs=some A'∧Fw A A' β β s.n s.n (min s.w k)∧
   RS A' β (s.put k ⟨(s.h k).cells.take off ++ (yc ++ (s.h k).cells.drop (off + yc.length)),fin,(s.h k).e⟩)∧BC A A' β β s.n s.n E:=by
 have hb:=hs.blk k hk;obtain⟨g1,g2,g3⟩:=hb.all _ _ _ _ _ hg;have hlow:=hb.low;obtain⟨rfl,hrs⟩:=g3 (by omega);have hyl:=hyc.len;obtain⟨A',hA'⟩:=Jr hg (o:=o) (vs:=vs) (by rw [hyl]; omega) hb.fz (qh hyc c3);obtain⟨cells2,e2,c2',st2,K,sp⟩:=uy hi (Nat.le_refl _) hA';have hrow:=sp.row;rw [hg] at hrow;injection hrow with hrow;injection hrow with r1 r2 r3 r4;subst r1 r2 r3 r4;have W:=sp.wr;have hend:st + cells.length=(s.h k).cells.length:=by omega
 have hnext:A'.next=A.next:=by
  rcases W.next with ⟨h1,_⟩ | ⟨h1,_⟩
  ·have:=(hi.lt _ _ hg).1; omega
  ·exact h1
 have hroot:=W.root;have hkill:∀z∈K,∀cells' e' c' st' ok',A.heap.get z=some (.row cells' e' c' st' ok')→c'=β k:=fun z hz cells' e' c' st' ok' hg'=>hi.memr hroot (W.kill z hz) hg';have hnew:((cells.take o ++ (vs ++ cells.drop (o + vs.length)))).length=cells.length:=by
  have:=sp.len;simp only [List.length_append,List.length_take,List.length_drop];omega
 have hget:∀z,A'.heap.get z=if z=b then some (.row (cells.take o ++ (vs ++ cells.drop (o + vs.length))) e (β k) st true) else if z∈K then (A.heap.get z).map jq else A.heap.get z:=W.heap;have hfw:Fw A A' β β s.n s.n (min s.w k):=by
  refine⟨Nat.le_refl _,by omega,fun _ _=>rfl,fun _ _ _=>by omega,fun z cells' e' c' st' hg' hp'=>?_,fun z cells' e' st' ok' j hj hg'=>?_,fun c hc hw=>?_⟩
  ·rw [hget];have hne:c'≠β k:=fun e=>hp'.2 k hk e.symm;rw [if_neg (by rintro rfl; rw [hg] at hg'; injection hg' with hg'; injection hg' with _ _ h3; exact hne h3.symm),if_neg (fun hz=>hne (hkill z hz _ _ _ _ _ hg'))];exact hg'
  ·rw [hget];by_cases hz:z=b
   ·subst hz;rw [hg] at hg';injection hg' with hg';injection hg' with h1 h2 h3 h4 h5;subst h1 h2 h4;rw [if_pos rfl];exact⟨_,true,by rw [h3],hnew⟩
   ·rw [if_neg hz];by_cases hzK:z∈K
    ·rw [if_pos hzK,hg'];exact⟨cells',false,rfl,rfl⟩
    ·rw [if_neg hzK];exact⟨cells',ok',hg',rfl⟩
  ·rw [W.w] at hw;rcases ir hw with h | h
   ·exact .inl h
   ·exact .inr ⟨k,Nat.min_le_right _ _,hk,h⟩
 refine⟨A',hA',hfw,?_,?_⟩
 ·constructor
  ·intro j hj;have hj':j < s.n:=hj;by_cases hjk:j=k
   ·subst hjk;show RB A' β s.n (β j) (if j=j then _ else s.h j);rw [if_pos rfl];have hCl:((s.h j).cells.take off ++ (yc ++ (s.h j).cells.drop (off + (yc).length))).length=(s.h j).cells.length:=by
     simp only [List.length_append,List.length_take,List.length_drop]; omega
    have hrows:∀z cells' e' st' ok',A'.heap.get z=some (.row cells' e' (β j) st' ok')→(z=b∧cells'=cells.take o ++ (vs ++ cells.drop (o + vs.length))∧e'=e∧st'=st∧ok'=true)∨(z≠b∧∃ok2,A.heap.get z=some (.row cells' e' (β j) st' ok2)):=by
     intro z cells' e' st' ok' hz;rw [hget] at hz;split at hz
     ·rename_i hzb;injection hz with hz;injection hz with h1 h2 h3 h4 h5;exact .inl ⟨hzb,h1.symm,h2.symm,h4.symm,h5.symm⟩
     ·rename_i hzb;split at hz
      ·obtain⟨y',k1,k2⟩:=fW hz;obtain⟨_,ok2,rfl⟩:=vF k2;exact .inr ⟨hzb,ok2,k1⟩
      ·exact .inr ⟨hzb,ok',hz⟩
    refine⟨⟨b,_,st,by rw [hget,if_pos rfl,g1],by rw [hnew,hend]; exact hCl.symm⟩,fun z cells' e' st' ok' hz=>?_,fun z1 z2 cells1 e1 st1 ok1 cells2 e2 st2 ok2 h1 h2 l1 l2=>?_,by show fin≤_; rw [hCl]; omega,by rw [sp.fze]; exact hb.fz,by rw [hnext]; exact hb.lt,fun z cells' e' st' ok' hz=>by
     rcases hrows _ _ _ _ _ hz with ⟨_,_,_,rfl,_⟩ | ⟨_,ok2,hz'⟩
     ·exact hb.z _ _ _ _ _ hg
     ·exact hb.z _ _ _ _ _ hz'⟩
    ·show e'=(s.h j).e∧st' + cells'.length≤_∧(fin≤st' + cells'.length→_)
     rw [hCl];rcases hrows _ _ _ _ _ hz with ⟨rfl,rfl,rfl,rfl,rfl⟩ | ⟨hzb,ok2,hz'⟩
     ·refine⟨g1,by rw [hnew]; omega,fun _=>⟨rfl,?_⟩⟩;have hR:((List.drop st' (s.h j).cells).take o ++ (yc ++ (List.drop st' (s.h j).cells).drop (o + (yc).length))).length≤cells.length:=by
       simp only [List.length_append,List.length_take,List.length_drop]; omega
      rw [hnew,← ho,Nz rfl (by omega),List.take_of_length_le hR];rw [hyl];have h0:=hrs;rw [List.take_of_length_le (by rw [List.length_drop]; omega)] at h0;exact ((h0.take o).app (hyc.app (h0.drop _))).mono hfw
     ·obtain⟨k1,k2,k3⟩:=hb.all _ _ _ _ _ hz';refine⟨k1,k2,fun hle=>absurd (hb.uni _ _ _ _ _ _ _ _ _ _ hz' hg (by omega) hend) hzb⟩
    ·rw [hCl] at l1 l2;have q1:∃cells' e' st' ok',A.heap.get z1=some (.row cells' e' (β j) st' ok')∧st' + cells'.length=(s.h j).cells.length:=by
      rcases hrows _ _ _ _ _ h1 with ⟨rfl,rfl,rfl,rfl,rfl⟩ | ⟨_,ok2,hz'⟩
      ·exact⟨_,_,_,_,hg,hend⟩
      ·exact⟨_,_,_,_,hz',l1⟩
     have q2:∃cells' e' st' ok',A.heap.get z2=some (.row cells' e' (β j) st' ok')∧st' + cells'.length=(s.h j).cells.length:=by
      rcases hrows _ _ _ _ _ h2 with ⟨rfl,rfl,rfl,rfl,rfl⟩ | ⟨_,ok2,hz'⟩
      ·exact⟨_,_,_,_,hg,hend⟩
      ·exact⟨_,_,_,_,hz',l2⟩
     obtain⟨_,_,_,_,a1,a2⟩:=q1;obtain⟨_,_,_,_,b1,b2⟩:=q2;exact hb.uni _ _ _ _ _ _ _ _ _ _ a1 b1 a2 b2
   ·show RB A' β s.n (β j) (if j=k then _ else s.h j);rw [if_neg hjk];have hne:β j≠β k:=fun e=>hjk (hs.inj j k hj' hk e);refine (hs.blk j hj').mono hfw (fun z cells' e' st' ok'=>?_) (by rw [sp.fze]);rw [hget];constructor
    ·intro hz;split at hz
     ·injection hz with hz; injection hz with _ _ h3; exact absurd h3.symm hne
     ·split at hz
      ·rename_i hzK;obtain⟨y',k1,k2⟩:=fW hz;obtain⟨_,ok2,rfl⟩:=vF k2;exact absurd (hkill _ hzK _ _ _ _ _ k1) hne
      ·exact hz
    ·intro hz;rw [if_neg (by rintro rfl; rw [hg] at hz; injection hz with hz; injection hz with _ _ h3; exact hne h3.symm),if_neg (fun hzK=>hne (hkill _ hzK _ _ _ _ _ hz))];exact hz
  ·exact hs.inj
 ·refine⟨fun c hc=>?_,fun c hc=>?_,fun _ c h1 h2=>by omega⟩
  ·rcases W.r with h | h
   ·rw [h] at hc; exact .inl hc
   ·rw [h] at hc;rcases ir hc with h | h
    ·exact .inl h
    ·exact .inr (.inl ⟨k,he1,hk,h⟩)
  ·rw [W.w] at hc;rcases ir hc with h | h
   ·exact .inl h
   ·exact .inr (.inl ⟨k,he2,hk,h⟩)
theorem I1 (hO:cP P) (hi:cE A) (hs:RS A β s) (hf:RF A β s.n nt f p) {t sz:Nat}{x y:Operand} (hx:fi x=true) (hy:fi y=true) (hsz:dp P t=some sz)
  (h:bm P p s (.store t sz x y)=some (q,s')):gF P A β s f ⟨d,.store t x y,ty,pos,af,gu⟩ q s' (cC p (.store t sz x y)):=by
 obtain⟨vx,x1,x2⟩:=bI hf hx;obtain⟨vy,y1,y2⟩:=bI hf hy;simp only [bm] at h;split at h
 ·rename_i hlen;simp only [Option.map_eq_some_iff] at h;obtain⟨s1,hst,he⟩:=h;injection he with e1 e2; subst e1; subst e2;unfold G6 at hst;split at hst
  ·rename_i k off fin hp;split at hst
   ·rename_i hc;injection hst with hst;obtain⟨c1,c2,c3⟩:=hc;rw [hp] at x2;cases x2 with
    | cl _ _ h=>cases h
    | ptr b o _ _ _ e cells st ok hk hg ho hf'=>
     have hyc:=y2.cells;have hyl:=hyc.len;have he:cC p (.store t sz x y)=⟨[k],[k],false,false⟩:=by simp only [cC,hp]
     rw [he,← hst];obtain⟨A',hA',k1,k2,k3⟩:=If (E:=⟨[k],[k],false,false⟩) hi hs hk hg ho hf' hyc c1 c2 c3 (by simp) (by simp);have hev:bG P f ⟨d,.store t x y,ty,pos,af,gu⟩ A=some (.val undef,A'):=by
      show mP P t (f.eval x) (f.eval y) A=_;rw [x1,y1];unfold mP;simp only [hsz];rw [show Nat.beq vy.cells.size sz=true by rw [← Array.length_toList,hyl,hlen]; exact Nat.beq_refl _,hA'];rfl
     exact⟨undef,A',β,hO f _ A _ _ hi (Nat.le_refl _) hev,k1,k2,.cl _ _ (.sc _ rfl),k3⟩
   ·cases hst
  ·cases hst
 ·cases h
end
end Go.PE
namespace Go.PE
open Go Go.EvL
section
variable {P:Program}{A:AS}{β:Nat→Nat}{nt:Nat}{f:Fr}{p:aO}{s s':PS}{q:PV}{E:iY}{d:Option Tmp}{ty:TypeId}{pos:String}{af:Array Edge}{gu:Option (Nat × Bool)}
theorem Az (hs:RS A β s) {v:Value}{x:PV} (hv:R1 A β s.n v x) {e e2 es n:Nat}{cs:List PV} (hsz:dp P e=some es) (h:eU s es x=some (cs,n)) :
  ∃xs A1,gH P e (some (.slice e2)) A v=some (xs,n,A1)∧Rs A β s.n xs cs∧(A1=A∨∃c,A1=ci A c∧c < A.next∧((∃k∈(ec x).rd,k < s.n∧β k=c)∨((ec x).li=true∧jt A β s.n c))):=by
 have key:∀b o m cap cells e' c st,v=.slice (some ⟨b,o,none⟩) m cap→A.heap.get b=some (.row cells e' c st true)→o + m * es≤cells.length→Rs A β s.n ((cells.drop o).take (m * es)) cs→m=n→((∃k∈(ec x).rd,k < s.n∧β k=c)∨((ec x).li=true∧jt A β s.n c))→
   ∃xs A1,gH P e (some (.slice e2)) A v=some (xs,n,A1)∧Rs A β s.n xs cs∧(A1=A∨∃c,A1=ci A c∧c < A.next∧((∃k∈(ec x).rd,k < s.n∧β k=c)∨((ec x).li=true∧jt A β s.n c))):=by
  rintro b o m cap cells e' c st rfl hg hl hr rfl hef;cases m with
  | zero=>
   rw [Nat.zero_mul,List.take_zero] at hr;exact⟨[],A,by unfold gH; simp only [hsz]; rfl,hr,.inl rfl⟩
  | succ m=>
   refine⟨_,ci A c,?_,hr,.inr ⟨c,rfl,by
    rcases hef with ⟨k,_,hk,rfl⟩ | ⟨_,hp⟩
    ·exact (hs.blk k hk).lt
    ·exact hp.1,hef⟩⟩
   unfold gH;simp only [hsz];show (ld A b o (Nat.mul (m + 1) es)).map _=_;rw [show Nat.mul (m + 1) es=(m + 1) * es from rfl,BS hg hl];rfl
 unfold eU at h;split at h
 ·injection h with h; injection h with h1 h2; subst h1; subst h2;obtain⟨rfl,_⟩:=hv.sc;exact⟨[],A,rfl,.nil,.inl rfl⟩
 ·rename_i e' m cs';split at h
  ·rename_i hc;injection h with h; injection h with h1 h2; subst h1;have hl:=hv.lit;cases hl with
   | lit b off _ cap _ _ cells c st hg hp hl hm hh=>
    exact key b off m cap cells e' c st rfl hg (by omega) (by rw [← hc]; exact Cs.up hh) h2 (.inr ⟨rfl,hp⟩)
  ·cases h
 ·rename_i k off m fin;split at h
  ·rename_i hc;injection h with h; injection h with h1 h2; subst h1;obtain⟨c1,c2,c3⟩:=hc;cases hv with
   | cl _ _ h=>cases h
   | own b o _ _ _ _ cap e' cells st ok hk hg ho hf' hm=>
    obtain⟨g1,g2,g3⟩:=(hs.blk k hk).all _ _ _ _ _ hg;obtain⟨rfl,hr⟩:=g3 (by omega);refine key b o m cap cells e' (β k) st rfl hg (by omega) ?_ h2 (.inl ⟨k,by simp [ec],hk,rfl⟩);have:=(hr.drop o).take (m * es);rw [List.drop_take,List.take_take,List.drop_drop,ho,Nat.min_eq_left (by omega)] at this;exact this
  ·cases h
 ·cases h
theorem BC.comp {B C:AS}{γ:Nat→Nat}{n m:Nat} (hB:B=A∨∃c,B=ci A c∧c < A.next∧((∃k∈E.rd,k < n∧β k=c)∨(E.li=true∧jt A β n c))) (h2:BC B C β γ n m E):BC A C β γ n m E:=by
 rcases hB with rfl | ⟨c0,rfl,h0,hef⟩
 ·exact h2
 ·have hn:(ci A c0).next=A.next:=by rw [ar]
  have hw:(ci A c0).w=A.w:=by rw [ar]
  have hr:∀c,(ci A c0).r.testBit c=true→A.r.testBit c=true∨c0=c:=fun c hc=>by rw [ar] at hc; exact ir hc
  have hp:∀c,jt (ci A c0) β n c→jt A β n c:=fun c hc=>⟨by rw [← hn]; exact hc.1,hc.2⟩
  refine⟨fun c hc=>?_,fun c hc=>?_,fun hca c c1 c2=>⟨fun hc=>?_,fun hc=>?_⟩⟩
  ·rcases h2.r c hc with h | h | ⟨h,h'⟩ | ⟨h,h'⟩ | h
   ·rcases hr c h with h | rfl
    ·exact .inl h
    ·exact .inr (hef.imp id .inl)
   ·exact .inr (.inl h)
   ·exact .inr (.inr (.inl ⟨h,hp c h'⟩))
   ·exact .inr (.inr (.inr (.inl ⟨by omega,h'⟩)))
   ·exact .inr (.inr (.inr (.inr h)))
  ·rcases h2.w c hc with h | h | ⟨h,h'⟩
   ·exact .inl (by rw [← hw]; exact h)
   ·exact .inr (.inl h)
   ·exact .inr (.inr ⟨by omega,h'⟩)
  ·rcases (h2.new hca c (by omega) c2).1 hc with h | h
   ·rcases hr c h with h | rfl
    ·exact .inl h
    ·omega
   ·exact .inr h
  ·rcases (h2.new hca c (by omega) c2).2 hc with h | h
   ·exact .inl (by rw [← hw]; exact h)
   ·exact .inr h
theorem Hg (s:AS) (cells:List Value) (e cls st:Nat) (ms:List Nat) (n:Nat):∃r,ou s cells e cls st ms n=some r:=by
 cases s;unfold ou;simp only [bO,cQ,bN];exact⟨_,rfl⟩
theorem pH {i:TypeInfo}{z:Value}{len n:Nat}{xs:List Value} (hz:i.zero=some z) (hzs:Nat.beq z.cells.size i.size=true) (h1:i.size≠0) (h2:xs.length=n * i.size) (h3:(len + n) * i.bytes≤140737488355328) (h4:len + n≤1073741824) (h5:xs.all mV=true):wS i i.size len n xs=true:=by
 unfold wS;rw [hz];simp only;have e1:Nat.beq i.size 0=false:=by cases h:Nat.beq i.size 0 with | false=>rfl | true=>exact absurd (Nat.eq_of_beq_eq_true h) h1
 rw [e1,show Nat.beq xs.length (Nat.mul n i.size)=true by rw [h2]; exact Nat.beq_refl _,show Nat.ble (Nat.mul (Nat.add len n) i.bytes) 140737488355328=true from Nat.ble_eq_true_of_le h3,hzs,show Nat.ble (Nat.add len n) 1073741824=true from Nat.ble_eq_true_of_le h4,h5];rfl
theorem Q9 (hO:cP P) (hi:cE A) (hs:RS A β s) (hf:RF A β s.n nt f p) {t u e e2:Nat}{i:TypeInfo}{z:Value}{x y:Operand} (hx:fi x=true) (hy:fi y=true) (ht:P.underlying t=some (.slice e)) (hu:P.underlying u=some (.slice e2)) (hin:P.info? e=some i) (hz:i.zero=some z) (hzs:Nat.beq z.cells.size i.size=true)
  (h:bm P p s (.app e i.size i.bytes x y)=some (q,s')):gF P A β s f ⟨d,.call ⟨.builtin .append,#[x,y],#[t,u]⟩,ty,pos,af,gu⟩ q s' (cC p (.app e i.size i.bytes x y)):=by
 obtain⟨vx,x1,x2⟩:=bI hf hx;obtain⟨vy,y1,y2⟩:=bI hf hy;simp only [bm,Option.bind_eq_some_iff] at h;obtain⟨⟨ys,n⟩,hel,h⟩:=h;have hsz:dp P e=some i.size:=by unfold dp; rw [hin]; rfl
 obtain⟨xs,A1,hca,hxs,hA1⟩:=Az (e2:=e2) hs y2 hsz hel;have hh1:A1.heap=A.heap∧A1.next=A.next∧A1.w=A.w∧A1.fz=A.fz:=by
  rcases hA1 with rfl | ⟨c,rfl,_⟩
  ·exact⟨rfl,rfl,rfl,rfl⟩
  ·rw [ar]; exact⟨rfl,rfl,rfl,rfl⟩
 have hi1:cE A1:=by
  rcases hA1 with rfl | ⟨c,rfl,_⟩
  ·exact hi
  ·rw [ar]; exact⟨hi.lt,hi.mem,hi.memc,hi.root,hi.ml,hi.old,hi.fz⟩
 have hw1:∀lo,Fw A A1 β β s.n s.n lo:=fun lo=>.heap β s.n hh1.1 hh1.2.1 hh1.2.2.1;have hs1:RS A1 β s:=hs.same hh1.1 hh1.2.1 hh1.2.2.1 hh1.2.2.2;have x3:=x2.mono (hw1 0);have xs1:=hxs.mono (hw1 0);have hev:∀r,jc P e A1 vx xs n=some r→bG P f ⟨d,.call ⟨.builtin .append,#[x,y],#[t,u]⟩,ty,pos,af,gu⟩ A=some r:=fun r hr=>by
  show Gc P (P.underlying t) (P.underlying u) (f.eval x) (f.eval y) A=_;rw [ht,hu,x1,y1];unfold Gc;simp only [hca];exact hr
 have hsub:∀c,((∃k∈(ec (bU p y)).rd,k < s.n∧β k=c)∨((ec (bU p y)).li=true∧jt A β s.n c))→((∃k∈(cC p (.app e i.size i.bytes x y)).rd,k < s.n∧β k=c)∨((cC p (.app e i.size i.bytes x y)).li=true∧jt A β s.n c)):=by
  intro c hc;have e1:∀k∈(ec (bU p y)).rd,k∈(cC p (.app e i.size i.bytes x y)).rd:=fun k hk=>by
   simp only [cC]; split
   ·exact List.mem_cons_of_mem _ hk
   ·exact hk
   ·exact hk
  have e2:(ec (bU p y)).li=true→(cC p (.app e i.size i.bytes x y)).li=true:=fun hl=>by
   simp only [cC]; split
   ·exact hl
   ·rfl
   ·exact hl
  rcases hc with ⟨k,h1,h2⟩ | h
  ·exact .inl ⟨k,e1 k h1,h2⟩
  ·exact .inr ⟨e2 h.1,h.2⟩
 have hA1':A1=A∨∃c,A1=ci A c∧c < A.next∧((∃k∈(cC p (.app e i.size i.bytes x y)).rd,k < s.n∧β k=c)∨((cC p (.app e i.size i.bytes x y)).li=true∧jt A β s.n c)):=
  hA1.imp id fun ⟨c,h1,h2,h3⟩=>⟨c,h1,h2,hsub c h3⟩
 have mk:∀(uv:Value) (A':AS) (β':Nat→Nat),jc P e A1 vx xs n=some (.val uv,A')→Fw A1 A' β β' s.n s'.n s'.w→RS A' β' s'→R1 A' β' s'.n uv q→BC A1 A' β β' s.n s'.n (cC p (.app e i.size i.bytes x y))→gF P A β s f ⟨d,.call ⟨.builtin .append,#[x,y],#[t,u]⟩,ty,pos,af,gu⟩ q s' (cC p (.app e i.size i.bytes x y)):=
  fun uv A' β' h1 h2 h3 h4 h5=>⟨uv,A',β',hO f _ A _ _ hi (Nat.le_refl _) (hev _ h1),(hw1 s'.w).trans h2 (Nat.le_refl _),h3,h4,BC.comp hA1' h5⟩
 have h':sZ s e i.size i.bytes (bU p x) ys n=some (q,s'):=h;unfold sZ at h';split at h'
 ·rename_i hn0;subst hn0;split at h'
  ·rename_i hsl;injection h' with h'; injection h' with e1 e2; subst e1; subst e2;refine mk vx A1 β ?_ (.refl A1 β s.n _) hs1 x3 (.same A1 β s.n _);have:∃b l c,vx=.slice b l c:=by
    unfold SZ at hsl;split at hsl
    ·rename_i hp; rw [hp] at x2; obtain⟨rfl,_⟩:=x2.sc; exact⟨_,_,_,rfl⟩
    ·rename_i hp; rw [hp] at x2; have x4:=x2.lit; cases x4; exact⟨_,_,_,rfl⟩
    ·rename_i hp; rw [hp] at x2;cases x2 with
     | cl _ _ h=>cases h
     | own=>exact⟨_,_,_,rfl⟩
    ·rename_i hp; rw [hp] at x2; have x4:=x2.litx; cases x4; exact⟨_,_,_,rfl⟩
    ·cases hsl
   obtain⟨b,l,c,rfl⟩:=this;unfold jc;simp only [hin];rfl
  ·cases h'
 ·rename_i hn0;obtain⟨m',rfl⟩ : ∃m',n=m' + 1:=⟨n - 1,by omega⟩
  split at h'
  case h_3=>
   rename_i ex m cs hp;split at h'
   ·rename_i hr;injection h' with h'; injection h' with e1 e2; subst e1; subst e2;obtain⟨⟨r1,r2,r3,r4,r5⟩,c1⟩:=hr;rw [hp] at x3;have hone:=qh xs1 r5;have x4:=R1.litx x3;cases x4 with
    | litx b off _ _ _ cells c st hg hpr hl hh=>
     have hcn:c < A1.next:=hpr.1;have hold:((cells.drop off).take (m * i.size)).length=m * i.size:=by rw [List.length_take,List.length_drop]; omega
     have hnL:(ci A1 c).next=A1.next:=by rw [ar]
     have hwL:Fw A1 (ci A1 c) β β s.n s.n (s.new ⟨cs ++ ys,0,e⟩).w:=by rw [ar]; exact .heap β s.n rfl rfl rfl
     have hsL:RS (ci A1 c) β s:=by rw [ar]; exact hs1.same rfl rfl rfl rfl
     have hiL:cE (ci A1 c):=(gO hi1 hcn).inv;have hold2:Rs A1 β s.n ((cells.drop off).take (m * i.size)) cs:=by rw [← c1]; exact Cs.up hh
     have hallL:Rs (ci A1 c) β s.n ((cells.drop off).take (m * i.size) ++ xs) (cs ++ ys):=RV.mono hwL (Rs.app hold2 xs1);refine mk (.slice (some ⟨A1.next,0,none⟩) (m + (m' + 1)) (m + (m' + 1))) (EvL.newRow (ci A1 c) ((cells.drop off).take (m * i.size) ++ xs) e) _ ?_ (hwL.trans (tV hiL β s.n _ e _) (Nat.le_refl _)) (xQ hiL hsL e hallL) ?_ (BC.comp (.inr ⟨c,rfl,hcn,.inr ⟨by simp only [cC,hp],hpr⟩⟩) (tw β s.n _ e _))
     ·unfold jc;simp only [hin];rw [pH hz hzs r1 (by rw [hxs.len]; exact r2) r3 r4 hone];show rt e A1 (some ⟨b,off,some 0⟩) m (m' + 1) i.size xs=_;unfold rt;simp only [hg];unfold Kv;rw [bO];rw [show ((cells.drop off).take (Nat.mul m i.size)).length=m * i.size from hold,show Nat.beq (m * i.size) (Nat.mul m i.size)=true from Nat.beq_refl _];rfl
     ·refine .own A1.next 0 s.n 0 (m + (m' + 1)) (cs ++ ys).length (m + (m' + 1)) e ((cells.drop off).take (m * i.size) ++ xs) 0 true (by show s.n < s.n + 1; omega) ?_ rfl (by simp [hold,hxs.len,c1]) (Nat.le_refl _);rw [jG,hnL,if_pos rfl,if_pos rfl]
   ·cases h'
  ·rename_i hp;split at h'
   ·rename_i hr;injection h' with h'; injection h' with e1 e2; subst e1; subst e2;obtain⟨r1,r2,r3,r4,r5⟩:=hr;rw [hp] at x2;obtain⟨rfl,_⟩:=x2.sc;have hone:=qh hxs r5;refine mk (.slice (some ⟨A1.next,0,none⟩) (m' + 1) (m' + 1)) (EvL.newRow A1 xs e) _ ?_ (tV hi1 β s.n xs e _) (xQ hi1 hs1 e xs1) ?_ (tw β s.n xs e _)
    ·unfold jc;simp only [hin];rw [pH hz hzs r1 (by rw [hxs.len]; exact r2) r3 r4 hone];rfl
    ·refine .own A1.next 0 s.n 0 (m' + 1) ys.length (m' + 1) e xs 0 true (by show s.n < s.n + 1; omega) ?_ rfl (by simp [hxs.len]) (Nat.le_refl _);rw [jG,if_pos rfl,if_pos rfl]
   ·cases h'
  ·rename_i k off m fin hp;split at h'
   ·rename_i hr;injection h' with h'; injection h' with e1 e2;obtain⟨⟨r1,r2,r3,r4,r5⟩,c1,c2,c3,c4,c5⟩:=hr;rw [hp] at x3;have hone:=qh xs1 r5;cases x3 with
    | cl _ _ h=>cases h
    | own b o _ _ _ _ cap e' cells st ok hk hg ho hf' hm=>
     have hb:=hs1.blk k hk;obtain⟨g1,g2,g3⟩:=hb.all _ _ _ _ _ hg;obtain⟨rfl,hrs⟩:=g3 (by omega);have he':e'=e:=by rw [g1]; exact c5
     subst he';have hend:st + cells.length=(s.h k).cells.length:=by omega
     obtain⟨rfl,rfl⟩ : o=0∧st=0:=by omega
     subst c4;have hold:((cells.drop 0).take (m * i.size)).length=m * i.size:=by rw [List.length_take,List.length_drop]; omega
     obtain⟨r,hr⟩ : ∃r,uI A1 0 m (m' + 1) i.size e' (β k) 0 cells xs=some r:=by
      unfold uI;rw [bO,bN,bO];have h1:Nat.beq ((cells.drop 0).take (Nat.mul m i.size)).length (Nat.mul m i.size)=true:=by
       rw [show Nat.mul m i.size=m * i.size from rfl,hold]; exact Nat.beq_refl _
      have h2:wi A1 (β k) (Nat.add (Nat.add 0 0) (Nat.mul m i.size))=true:=by unfold wi; rw [hb.fz]
      rw [h1,h2,show Nat.beq (Nat.mod 0 i.size) 0=true by rw [show Nat.mod 0 i.size=0 from Nat.zero_mod _]; rfl,hone];exact Hg _ _ _ _ _ _ _
     obtain⟨nx,A'⟩:=r;obtain⟨rfl,K,sp⟩:=AG hi1 (Nat.le_refl _) hg hr;have W:=sp.wr;have hroot:=W.root;have hnext:A'.next=A1.next + 1:=by
      rcases W.next with ⟨_,h1⟩ | ⟨h1,cs',e2',st',ok',h2⟩
      ·exact h1
      ·have:=(hi1.lt _ _ h2).1; omega
     have hkr:∀z cells' e2' c' st' ok',A1.heap.get z=some (.row cells' e2' c' st' ok')→z ∉ K:=by
      intro z cells' e2' c' st' ok' hz hzK;have hc:c'=β k:=hi1.memr hroot (W.kill z hzK) hz;subst hc;have h1:=sp.only z hzK _ _ _ _ _ hz;have h2:=(hb.all _ _ _ _ _ hz).2.1;omega
     have hget:∀z,A'.heap.get z=if z=A1.next then some (.row ((cells.drop 0).take (m * i.size) ++ xs) e' (β k) (0 + 0) true) else if z∈K then (A1.heap.get z).map jq else A1.heap.get z:=W.heap;have hkeep:∀z cells' e2' c' st' ok',A1.heap.get z=some (.row cells' e2' c' st' ok')→A'.heap.get z=some (.row cells' e2' c' st' ok'):=by
      intro z cells' e2' c' st' ok' hz;rw [hget,if_neg (by have:=(hi1.lt _ _ hz).1; omega),if_neg (hkr _ _ _ _ _ _ hz)];exact hz
     have hback:∀z cells' e2' c' st' ok',A'.heap.get z=some (.row cells' e2' c' st' ok')→(z=A1.next∧cells'=(cells.drop 0).take (m * i.size) ++ xs∧e2'=e'∧c'=β k∧st'=0∧ok'=true)∨A1.heap.get z=some (.row cells' e2' c' st' ok'):=by
      intro z cells' e2' c' st' ok' hz;rw [hget] at hz;split at hz
      ·rename_i hzn;injection hz with hz;injection hz with h1 h2 h3 h4 h5;exact .inl ⟨hzn,h1.symm,h2.symm,h3.symm,h4.symm,h5.symm⟩
      ·split at hz
       ·rename_i hzK;obtain⟨y',k1,k2⟩:=fW hz;obtain⟨_,ok2,rfl⟩:=vF k2;exact absurd hzK (hkr _ _ _ _ _ _ k1)
       ·exact .inr hz
     have hfw:Fw A1 A' β β s.n s.n (min s.w k):=by
      refine⟨Nat.le_refl _,by omega,fun _ _=>rfl,fun _ _ _=>by omega,fun z cells' e2' c' st' hg' _=>hkeep _ _ _ _ _ _ hg',fun z cells' e2' st' ok' j _ hg'=>⟨cells',ok',hkeep _ _ _ _ _ _ hg',rfl⟩,fun c hc hw=>?_⟩;rw [W.w] at hw;rcases ir hw with h | h
      ·exact .inl h
      ·exact .inr ⟨k,Nat.min_le_right _ _,hk,h⟩
     have hnl:((cells.drop 0).take (m * i.size) ++ xs).length=m * i.size + ys.length:=by rw [List.length_append,hold,(Rs.len xs1)]
     have hyl:ys.length=(m' + 1) * i.size:=r2;have hpos : 0 < ys.length:=by rw [hyl]; exact Nat.mul_pos (by omega) (Nat.pos_of_ne_zero r1)
     refine mk (.slice (some ⟨A1.next,0,none⟩) (m + (m' + 1)) (m + (m' + 1))) A' β ?_ (by rw [← e2]; exact hfw) ?_ ?_ ?_
     ·unfold jc;simp only [hin];rw [pH hz hzs r1 (by rw [(Rs.len xs1)]; exact r2) r3 r4 hone];show rt e' A1 (some ⟨b,0,none⟩) m (m' + 1) i.size xs=_;unfold rt;simp only [hg];rw [Nat.beq_refl];exact hr
     ·rw [← e2];constructor
      ·intro j hj;have hj':j < s.n:=hj;by_cases hjk:j=k
       ·subst hjk;show RB A' β s.n (β j) (if j=j then _ else s.h j);rw [if_pos rfl];have hCl:((s.h j).cells ++ ys).length=(s.h j).cells.length + ys.length:=List.length_append;refine⟨⟨A1.next,_,0,by rw [hget,if_pos rfl],by rw [hnl,hCl]; omega⟩,fun z cells' e2' st' ok' hz=>?_,fun z1 z2 cells1 e1' st1 ok1 cells2 e2' st2 ok2 h1 h2 l1 l2=>?_,by show (s.h j).low≤_; rw [hCl]; have:=hb.low; omega,by rw [sp.fze]; exact hb.fz,by rw [hnext]; have:=hb.lt; omega,fun z cells' e2' st' ok' hz=>by
         rcases hback _ _ _ _ _ _ hz with ⟨_,_,_,_,rfl,_⟩ | hz'
         ·rfl
         ·exact hb.z _ _ _ _ _ hz'⟩
        ·show e2'=e'∧st' + cells'.length≤_∧((s.h j).low≤st' + cells'.length→_)
         rw [hCl];rcases hback _ _ _ _ _ _ hz with ⟨rfl,rfl,rfl,_,rfl,rfl⟩ | hz'
         ·refine⟨rfl,by rw [hnl]; omega,fun _=>⟨rfl,?_⟩⟩;rw [hnl,List.drop_zero,List.drop_zero];have h0:=hrs;rw [List.drop_zero,List.take_of_length_le (by omega)] at h0;have h1:(cells.take (m * i.size))=cells:=List.take_of_length_le (by omega);rw [h1,List.take_of_length_le (by rw [hCl]; omega)];exact (h0.app xs1).mono hfw
         ·obtain⟨k1,k2,k3⟩:=hb.all _ _ _ _ _ hz';refine⟨by rw [k1]; exact g1.symm,by omega,fun hle=>⟨(k3 hle).1,?_⟩⟩;rw [List.drop_append_of_le_length (by omega),List.take_append_of_le_length (by rw [List.length_drop]; omega)];exact (k3 hle).2.mono hfw
        ·rw [hCl] at l1 l2;rcases hback _ _ _ _ _ _ h1 with ⟨rfl,_⟩ | hz1
         ·rcases hback _ _ _ _ _ _ h2 with ⟨rfl,_⟩ | hz2
          ·rfl
          ·have:=(hb.all _ _ _ _ _ hz2).2.1; omega
         ·have:=(hb.all _ _ _ _ _ hz1).2.1; omega
       ·show RB A' β s.n (β j) (if j=k then _ else s.h j);rw [if_neg hjk];have hne:β j≠β k:=fun e=>hjk (hs.inj j k hj' hk e);refine (hs1.blk j hj').mono hfw (fun z cells' e2' st' ok'=>⟨fun hz=>?_,fun hz=>hkeep _ _ _ _ _ _ hz⟩) (by rw [sp.fze]);rcases hback _ _ _ _ _ _ hz with ⟨_,_,_,h4,_⟩ | hz'
        ·exact absurd h4 hne
        ·exact hz'
      ·exact hs.inj
     ·rw [← e1,← e2];refine .own A1.next 0 k 0 (m + (m' + 1)) _ (m + (m' + 1)) e' _ 0 true hk ?_ rfl (by rw [hnl]; omega) (Nat.le_refl _);rw [hget,if_pos rfl]
     ·have he:k∈(cC p (.app e' i.size i.bytes x y)).rd∧k∈(cC p (.app e' i.size i.bytes x y)).wr:=by
       simp only [cC,hp]; exact⟨List.mem_cons_self,List.mem_cons_self⟩
      have hkl:=hb.lt;rw [← e2];refine⟨fun c hc=>?_,fun c hc=>?_,fun _ c h1 h2=>⟨fun hc=>?_,fun hc=>?_⟩⟩
      ·rw [sp.bit] at hc;rcases ir hc with h | h
       ·exact .inl h
       ·exact .inr (.inl ⟨k,he.1,hk,h⟩)
      ·rw [W.w] at hc;rcases ir hc with h | h
       ·exact .inl h
       ·exact .inr (.inl ⟨k,he.2,hk,h⟩)
      ·rw [sp.bit] at hc;rcases ir hc with h | h
       ·exact .inl h
       ·omega
      ·rw [W.w] at hc;rcases ir hc with h | h
       ·exact .inl h
       ·omega
   ·cases h'
  ·cases h'
end
end Go.PE
namespace Go.PE
open Go Go.EvL
section
variable {P:Program}{A:AS}{β:Nat→Nat}{nt:Nat}{f:Fr}{p:aO}{s s':PS}{q:PV}{E:iY}{d:Option Tmp}{ty:TypeId}{pos:String}{af:Array Edge}{gu:Option (Nat × Bool)}
theorem J3 (hO:cP P) (hi:cE A) (hs:RS A β s) (hf:RF A β s.n nt f p) {mx:Bool}{x y:Operand}{tys:Array TypeId} (hx:fi x=true) (hy:fi y=true) (h:bm P p s (.mnx mx x y)=some (q,s')) :
  gF P A β s f ⟨d,.call ⟨.builtin (if mx then .max else .min),#[x,y],tys⟩,ty,pos,af,gu⟩ q s' E:=by
 obtain⟨vx,x1,x2⟩:=bI hf hx;obtain⟨vy,y1,y2⟩:=bI hf hy;simp only [bm] at h;split at h
 ·rename_i k a k' b h1 h2;injection h with h; injection h with e1 e2; subst e1; subst e2;rw [h1] at x2;rw [h2] at y2;obtain⟨rfl,_⟩:=x2.sc;obtain⟨rfl,_⟩:=y2.sc;refine cD hO hi hs ?_ (.cl _ _ (.sc _ rfl));cases mx with
  | true=>
   show eM P f ⟨d,.call ⟨.builtin .max,#[x,y],tys⟩,ty,pos,af,gu⟩ A=_;unfold eM;have hp:((⟨d,.call ⟨.builtin .max,#[x,y],tys⟩,ty,pos,af,gu⟩ : Oper).op.operands.toList.all (kE f))=true:=by
    show (([x,y]:List Operand).all (kE f))=true;simp only [List.all_cons,List.all_nil,kE,x1,y1];rfl
   rw [hp];have he:eb P (execOp (fun z=>(f.eval z).getD undef) ⟨d,.call ⟨.builtin .max,#[x,y],tys⟩,ty,pos,af,gu⟩)=some (.value (.int k (Iu true a b))):=by
    show eb P (do let d ← resolve (fun z=>(f.eval z).getD undef) ⟨.builtin .max,#[x,y],tys⟩ ty; invoke d.target d.args)=_;simp only [resolve,x1,y1,Option.getD_some,List.map_toArray,List.map_cons,List.map_nil];rfl
   rw [he];rfl
  | false=>
   show eM P f ⟨d,.call ⟨.builtin .min,#[x,y],tys⟩,ty,pos,af,gu⟩ A=_;unfold eM;have hp:((⟨d,.call ⟨.builtin .min,#[x,y],tys⟩,ty,pos,af,gu⟩ : Oper).op.operands.toList.all (kE f))=true:=by
    show (([x,y]:List Operand).all (kE f))=true;simp only [List.all_cons,List.all_nil,kE,x1,y1];rfl
   rw [hp];have he:eb P (execOp (fun z=>(f.eval z).getD undef) ⟨d,.call ⟨.builtin .min,#[x,y],tys⟩,ty,pos,af,gu⟩)=some (.value (.int k (Iu false a b))):=by
    show eb P (do let d ← resolve (fun z=>(f.eval z).getD undef) ⟨.builtin .min,#[x,y],tys⟩ ty; invoke d.target d.args)=_;simp only [resolve,x1,y1,Option.getD_some,List.map_toArray,List.map_cons,List.map_nil];rfl
   rw [he];rfl
 ·cases h
theorem PQ (hO:cP P) (hi:cE A) (hs:RS A β s) (hf:RF A β s.n nt f p) {x:Operand} (hx:fi x=true) (h:bm P p s (.nck x)=some (q,s')):gF P A β s f ⟨d,.nilCheck x,ty,pos,af,gu⟩ q s' E:=by
 obtain⟨vx,x1,x2⟩:=bI hf hx;simp only [bm] at h;have ev:∀a,vx=.pointer (some a)→bG P f ⟨d,.nilCheck x,ty,pos,af,gu⟩ A=some (.val vx,A):=fun a ha=>by
  show jS P f _ (f.eval x) A=_;rw [x1,ha];rfl
 split at h
 ·rename_i k o fin hp;injection h with h; injection h with e1 e2; subst e1; subst e2;rw [hp] at x2;refine cD hO hi hs (u:=vx) ?_ x2;cases x2 with
  | cl _ _ h=>cases h
  | ptr=>exact ev _ rfl
 ·rename_i cs hp;injection h with h; injection h with e1 e2; subst e1; subst e2;rw [hp] at x2;refine cD hO hi hs (u:=vx) ?_ x2;have x3:=x2.litp;cases x3 with
  | litp=>exact ev _ rfl
 ·cases h
theorem N2 {n:Nat}{z:Value} (hz:J6 z=true) (hp:plain 50 z=true) (es m:Nat) (hl:z.cells.toList.length=es):Rs A β n (mz z.cells.toList es (m * es)) (sO z.cells.toList es m):=by
 have h0:=zk (A:=A) (β:=β) (n:=n) hz;unfold mz sO;have key:∀l:List Nat,(∀k∈l,0 < es)→Rs A β n (l.map fun k=>z.cells.toList.getD (Nat.mod k es) undef) (l.map fun k=>PV.sc (z.cells.toList.getD (k % es) undef)):=by
  intro l
  induction l with
  | nil=>intro _; exact .nil
  | cons k l ih=>
   intro hk;refine .cons _ _ _ _ ?_ (ih fun j hj=>hk j (List.mem_cons_of_mem _ hj));have hm:k % es < z.cells.toList.length:=by rw [hl]; exact Nat.mod_lt _ (hk k (List.mem_cons_self ..))
   obtain⟨u,h1,h2⟩:=Rs.get h0 (i:=k % es) (v:=.sc (z.cells.toList[k % es])) (by rw [List.getElem?_map,List.getElem?_eq_getElem hm]; rfl);have e1:z.cells.toList.getD (k % es) undef=z.cells.toList[k % es]:=by rw [List.getD_eq_getElem?_getD,List.getElem?_eq_getElem hm]; rfl
   rw [List.getElem?_eq_getElem hm] at h1;injection h1 with h1;show R1 A β n (z.cells.toList.getD (k % es) undef) (.sc (z.cells.toList.getD (k % es) undef));rw [e1];rw [← h1] at h2;exact h2
 refine key _ fun k hk=>?_;have:=List.mem_range.1 hk;cases es with
 | zero=>simp at this
 | succ es=>exact Nat.succ_pos _
theorem QP (hO:cP P) (hi:cE A) (hs:RS A β s) (hf:RF A β s.n nt f p) {t e:Nat}{i:TypeInfo}{z:Value}{l c:Operand} (hl:fi l=true) (hc:fi c=true) (hz1:J6 z=true) (hz2:plain 50 z=true) (hz3:Nat.beq z.cells.toList.length i.size=true) (ht:P.underlying t=some (.slice e)) (hin:P.info? e=some i) (hz:i.zero=some z)
  (h:bm P p s (.mks e i.size i.bytes z.cells.toList l c)=some (q,s')):gF P A β s f ⟨d,.makeSlice t l c,ty,pos,af,gu⟩ q s' E:=by
 obtain⟨vl,l1,l2⟩:=bI hf hl;obtain⟨vc,c1,c2⟩:=bI hf hc;simp only [bm] at h;split at h
 ·rename_i a b ha hb;split at h
  ·rename_i hh;obtain⟨rfl,k1,k2⟩:=hh;injection h with h; injection h with e1 e2; subst e1; subst e2;obtain⟨n1,_⟩:=lV l2 ha;obtain⟨n2,_⟩:=lV c2 hb;refine DW hO hi hs (cells:=mz z.cells.toList i.size (a * i.size)) ?_ (N2 hz1 hz2 i.size a (Nat.eq_of_beq_eq_true hz3));show ux P t (f.eval l) (f.eval c) A=_;unfold ux;rw [l1,c1,ht];simp only [Option.bind_some,n1,n2,hin,hz];unfold xF;rw [show Nat.ble a a=true from Nat.ble_eq_true_of_le (Nat.le_refl _),show Nat.ble (Nat.mul i.bytes a) 281474976710656=true from Nat.ble_eq_true_of_le k1,show Nat.ble a 1073741824=true from Nat.ble_eq_true_of_le k2,hz2,hz3];rfl
  ·cases h
 ·cases h
theorem PY (hO:cP P) (hi:cE A) (hs:RS A β s) (hf:RF A β s.n nt f p) {t u e e2 es:Nat}{x y:Operand} (hx:fi x=true) (hy:fi y=true) (ht:P.underlying t=some (.slice e)) (hu:P.underlying u=some (.slice e2)) (hsz:dp P e=some es)
  (h:bm P p s (.cpy es x y)=some (q,s')):gF P A β s f ⟨d,.call ⟨.builtin .copy,#[x,y],#[t,u]⟩,ty,pos,af,gu⟩ q s' (cC p (.cpy es x y)):=by
 obtain⟨vx,x1,x2⟩:=bI hf hx;obtain⟨vy,y1,y2⟩:=bI hf hy;simp only [bm,Option.bind_eq_some_iff] at h;obtain⟨⟨ys,n⟩,hel,h⟩:=h;obtain⟨i,hin,hsi⟩ : ∃i,P.info? e=some i∧i.size=es:=by
  unfold dp at hsz;cases hq:P.info? e with
  | none=>rw [hq] at hsz; cases hsz
  | some i=>rw [hq] at hsz; injection hsz with hsz; exact⟨i,rfl,hsz⟩
 obtain⟨xs,A1,hca,hxs,hA1⟩:=Az (e2:=e2) hs y2 hsz hel;have hh1:A1.heap=A.heap∧A1.next=A.next∧A1.w=A.w∧A1.fz=A.fz:=by
  rcases hA1 with rfl | ⟨c,rfl,_⟩
  ·exact⟨rfl,rfl,rfl,rfl⟩
  ·rw [ar]; exact⟨rfl,rfl,rfl,rfl⟩
 have hi1:cE A1:=by
  rcases hA1 with rfl | ⟨c,rfl,_⟩
  ·exact hi
  ·rw [ar]; exact⟨hi.lt,hi.mem,hi.memc,hi.root,hi.ml,hi.old,hi.fz⟩
 have hw1:∀lo,Fw A A1 β β s.n s.n lo:=fun lo=>.heap β s.n hh1.1 hh1.2.1 hh1.2.2.1;have hs1:RS A1 β s:=hs.same hh1.1 hh1.2.1 hh1.2.2.1 hh1.2.2.2;have hsub:∀c,((∃k∈(ec (bU p y)).rd,k < s.n∧β k=c)∨((ec (bU p y)).li=true∧jt A β s.n c))→((∃k∈(cC p (.cpy es x y)).rd,k < s.n∧β k=c)∨((cC p (.cpy es x y)).li=true∧jt A β s.n c)):=by
  intro c hc;have e1:∀k∈(ec (bU p y)).rd,k∈(cC p (.cpy es x y)).rd:=fun k hk=>by
   simp only [cC]; split
   ·exact List.mem_cons_of_mem _ hk
   ·exact hk
  have e2:(ec (bU p y)).li=true→(cC p (.cpy es x y)).li=true:=fun hl=>by
   simp only [cC]; split
   ·exact hl
   ·exact hl
  rcases hc with ⟨k,h1,h2⟩ | ⟨h1,h2⟩
  ·exact .inl ⟨k,e1 k h1,h2⟩
  ·exact .inr ⟨e2 h1,h2⟩
 have hA2:A1=A∨∃c,A1=ci A c∧c < A.next∧((∃k∈(cC p (.cpy es x y)).rd,k < s.n∧β k=c)∨((cC p (.cpy es x y)).li=true∧jt A β s.n c)):=hA1.imp id fun ⟨c,h1,h2,h3⟩=>⟨c,h1,h2,hsub c h3⟩
 have zero:∀base len cap,vx=.slice base len cap→n=0→gF P A β s f ⟨d,.call ⟨.builtin .copy,#[x,y],#[t,u]⟩,ty,pos,af,gu⟩ (.sc (.int .i64 0)) s (cC p (.cpy es x y)):=by
  rintro base len cap rfl rfl;have hx0:xs.length=0:=by
   unfold eU at hel;split at hel
   ·injection hel with hel; injection hel with h1 h2; subst h1; exact hxs.len
   ·split at hel
    ·rename_i hc;injection hel with hel; injection hel with h1 h2; subst h1; subst h2; rw [hxs.len,hc,Nat.zero_mul]
    ·cases hel
   ·split at hel
    ·rename_i hc;injection hel with hel; injection hel with h1 h2; subst h1; subst h2; rw [hxs.len,Nat.zero_mul,List.take_zero]; rfl
    ·cases hel
   ·cases hel
  have hxn:xs=[]:=List.eq_nil_of_length_eq_zero hx0;have ev:bG P f ⟨d,.call ⟨.builtin .copy,#[x,y],#[t,u]⟩,ty,pos,af,gu⟩ A=some (.val (.int .i64 0),A1):=by
   show sJ P (P.underlying t) (P.underlying u) (f.eval x) (f.eval y) A=_;rw [ht,hu,x1,y1];unfold sJ;simp only [hca,hin];rw [hxn];simp only [Nat.mul_eq,Nat.zero_mul,List.length_nil,List.all_nil];rfl
  rcases hA2 with rfl | ⟨c,rfl,h1,h2⟩
  ·exact cD hO hi hs ev (.cl _ _ (.sc _ rfl))
  ·exact nE hO hi hs ev (.cl _ _ (.sc _ rfl)) h1 h2
 split at h
 ·rename_i k off m fin hp;rw [hp] at x2;cases x2 with
  | cl _ _ h=>cases h
  | own b o _ _ _ _ cap e' cells st ok hk hg ho hf' hm=>
   split at h
   ·rename_i h0;injection h with h; injection h with e1 e2; subst e1; subst e2;exact zero _ _ _ rfl h0
   ·rename_i h0;split at h
    ·rename_i hc;obtain⟨c1,c2⟩:=hc;simp only [Option.map_eq_some_iff] at h;obtain⟨s1,hst,he⟩:=h;injection he with e1 e2; subst e1; subst e2;unfold G6 at hst;simp only at hst;split at hst
     ·rename_i hc;injection hst with hst;obtain⟨d1,d2,d3⟩:=hc;have xs1:=hxs.mono (hw1 0);have he:cC p (.cpy es x y)=⟨k :: (ec (bU p y)).rd,[k],(ec (bU p y)).li,false⟩:=by simp only [cC,hp]
      obtain⟨A',hA',k1,k2,k3⟩:=If (E:=cC p (.cpy es x y)) hi1 hs1 hk (by rw [hh1.1]; exact hg) ho hf' xs1 d1 d2 d3 (by rw [he]; simp) (by rw [he]; simp);have hone:=qh xs1 d3;have ev:bG P f ⟨d,.call ⟨.builtin .copy,#[x,y],#[t,u]⟩,ty,pos,af,gu⟩ A=some (.val (.int .i64 (n:Int)),A'):=by
       show sJ P (P.underlying t) (P.underlying u) (f.eval x) (f.eval y) A=_;rw [ht,hu,x1,y1];unfold sJ;simp only [hca,hin];rw [show Nat.ble n m=true from Nat.ble_eq_true_of_le c1,show Nat.beq xs.length (Nat.mul n i.size)=true by rw [hxs.len,c2,hsi]; exact Nat.beq_refl _,hone];cases n with
       | zero=>exact absurd rfl h0
       | succ n=>
        show (match Gg A1 b o xs with
         | some s=>some (dC.val (.int .i64 (.ofNat (Nat.add n 1))),s)
         | none=>none)=_
        rw [hA'];rfl
      refine⟨_,A',β,hO f _ A _ _ hi (Nat.le_refl _) ev,?_,?_,.cl _ _ (.sc _ rfl),by rw [← hst]; exact BC.comp hA2 k3⟩
      ·rw [← hst];exact (hw1 _).trans k1 (Nat.le_refl _)
      ·rw [← hst];exact k2
     ·cases hst
    ·cases h
 ·rename_i hp;rw [hp] at x2;obtain⟨rfl,_⟩:=x2.sc;split at h
  ·rename_i h0;injection h with h; injection h with e1 e2; subst e1; subst e2;exact zero _ _ _ rfl h0
  ·cases h
 ·cases h
end
end Go.PE
namespace Go.PE
open Go Go.EvL
section
variable {P:Program}
theorem Ry (hO:cP P) {A:AS}{β:Nat→Nat}{nt:Nat}{f:Fr}{p:aO}{s s':PS}{q:PV}{o:Oper}{po:kK} (hc:fj P o.op=some po) (hi:cE A) (hs:RS A β s) (hf:RF A β s.n nt f p) (h:bm P p s po=some (q,s')):gF P A β s f o q s' (cC p po):=by
 obtain⟨d,op,ty,pos,af,gu⟩:=o;simp only at hc;cases op with
 | move x=>
  obtain⟨h1,rfl⟩:=bF hc;simp only [bm] at h; injection h with h; injection h with e1 e2; subst e1; subst e2;exact RE hO hi hs hf h1
 | assign x=>
  obtain⟨h1,rfl⟩:=bF hc;simp only [bm] at h; injection h with h; injection h with e1 e2; subst e1; subst e2;exact SR hO hi hs hf h1
 | pick c a b=>
  obtain⟨h1,rfl⟩:=bF hc;simp only [Bool.and_eq_true] at h1;exact MA hO hi hs hf h1.1.1 h1.1.2 h1.2 h
 | alloc e=>
  simp only [fj] at hc;split at hc
  ·rename_i z hz;obtain⟨h1,rfl⟩:=bF hc;simp only [bm] at h; injection h with h; injection h with e1 e2; subst e1; subst e2;exact HI hO hi hs hz h1
  ·cases hc
 | box e x=>
  obtain⟨h1,rfl⟩:=bF hc;simp only [bm] at h; injection h with h; injection h with e1 e2; subst e1; subst e2;exact OQ hO hi hs hf h1
 | build t ps=>
  simp only [fj] at hc;split at hc
  ·rename_i z fs hz hu;split at hc
   ·rename_i l hl;obtain⟨h1,rfl⟩:=bF hc;rw [Bool.and_eq_true] at h1;simp only [bm,Option.map_eq_some_iff] at h;obtain⟨cs,hcs,he⟩:=h;injection he with e1 e2; subst e1; subst e2;exact J5 hO hi hs hf hz hu hl h1.1 h1.2 hcs
   ·cases hc
  ·cases hc
 | buildSlice t len ps=>
  simp only [fj] at hc;split at hc
  ·rename_i e hu;split at hc
   ·rename_i z n hz hn;split at hc
    ·rename_i l hl;obtain⟨h1,rfl⟩:=bF hc;simp only [Bool.and_eq_true] at h1;simp only [bm,Option.map_eq_some_iff] at h;obtain⟨cs,hcs,he⟩:=h;injection he with e1 e2; subst e1; subst e2;exact H9 hO hi hs hf hu hz hn hl h1.1.1 h1.1.2 h1.2 hcs
    ·cases hc
   ·cases hc
  ·cases hc
 | load t a=>
  simp only [fj] at hc;split at hc
  ·rename_i dd hd;split at hc
   ·rename_i hag;split at hc
    ·rename_i n hn;obtain⟨h1,rfl⟩:=bF hc;exact EF hO hi hs hf h1 hd hag (by simpa using hn) h
    ·cases hc
   ·rename_i hag;obtain⟨h1,rfl⟩:=bF hc;exact EF hO hi hs hf h1 hd (by simpa using hag) (by simp) h
  ·cases hc
 | store t a x=>
  simp only [fj] at hc;split at hc
  ·rename_i n hn;obtain⟨h1,rfl⟩:=bF hc;rw [Bool.and_eq_true] at h1;exact I1 hO hi hs hf h1.1 h1.2 hn h
  ·cases hc
 | fieldAddr t x i=>
  simp only [fj] at hc;split at hc
  ·rename_i fs hfs;split at hc
   ·rename_i fl hfl;split at hc
    ·rename_i m hm;obtain⟨h1,rfl⟩:=bF hc;exact Jf hO hi hs hf h1 hfs hfl hm h
    ·cases hc
   ·cases hc
  ·cases hc
 | field t x i=>
  simp only [fj] at hc;split at hc
  ·rename_i fs hfs;split at hc
   ·rename_i fl hfl;split at hc
    ·rename_i dd hd;split at hc
     ·rename_i hag;split at hc
      ·rename_i n hn;obtain⟨h1,rfl⟩:=bF hc;exact JJ hO hi hs hf h1 hfs hfl hd hag (by simpa using hn) h
      ·cases hc
     ·rename_i hag;obtain⟨h1,rfl⟩:=bF hc;exact JJ hO hi hs hf h1 hfs hfl hd (by simpa using hag) (by simp) h
    ·cases hc
   ·cases hc
  ·cases hc
 | indexAddr t x i=>
  simp only [fj] at hc;split at hc
  ·rename_i e hu;split at hc
   ·rename_i n hn;obtain⟨h1,rfl⟩:=bF hc;rw [Bool.and_eq_true] at h1;exact Hv hO hi hs hf h1.1 h1.2 hu hn h
   ·cases hc
  ·cases hc
 | index t x i=>
  simp only [fj] at hc;split at hc
  ·rename_i hu;obtain⟨h1,rfl⟩:=bF hc;rw [Bool.and_eq_true] at h1;exact Ma hO hi hs hf h1.1 h1.2 hu h
  ·cases hc
 | binOp op t x y u=>
  obtain⟨h1,rfl⟩:=bF hc;rw [Bool.and_eq_true] at h1;exact OS hi hs hf h1.1 h1.2 h
 | unOp op t x=>
  obtain⟨h1,rfl⟩:=bF hc;exact S6 hi hs hf h1 h
 | convert a b x=>
  simp only [fj] at hc;split at hc
  ·rename_i k' k ha hb;obtain⟨h1,rfl⟩:=bF hc;exact LZ hi hs hf h1 ha hb h
  ·cases hc
 | slice t x lo hi' mx=>
  cases mx with
  | some m=>
   cases lo with
   | some lo=>cases hi'<;>cases hc
   | none=>
    cases hi' with
    | none=>cases hc
    | some y=>
     simp only [fj] at hc;split at hc
     ·rename_i e hu;split at hc
      ·rename_i n hn;obtain⟨h1,rfl⟩:=bF hc;simp only [Bool.and_eq_true] at h1;exact MX hO hi hs hf h1.1 h1.2.1 h1.2.2 hu hn h
      ·cases hc
     ·cases hc
  | none=>
   simp only [fj] at hc;split at hc
   ·rename_i e hu;split at hc
    ·rename_i n hn;obtain⟨h1,rfl⟩:=bF hc;simp only [Bool.and_eq_true] at h1;exact Pl hO hi hs hf h1.1.1 h1.1.2 h1.2 hu hn h
    ·cases hc
   ·rename_i hu;obtain⟨h1,rfl⟩:=bF hc;simp only [Bool.and_eq_true] at h1;exact KY hO hi hs hf h1.1.1 h1.1.2 h1.2 hu h
   ·cases hc
 | makeFunc fn a b=>
  cases fn with
  | func g=>
   obtain⟨h1,rfl⟩:=bF hc;rw [Bool.and_eq_true] at h1;simp only [bm] at h; injection h with h; injection h with e1 e2; subst e1; subst e2;exact Lu hO hi hs hf h1.1 h1.2
  | _=>cases hc
 | extract t i=>
  obtain⟨h1,rfl⟩:=bF hc;exact ext_ok hO hi hs hf h1 h
 | call c=>
  obtain⟨callee,args,tys⟩:=c;simp only [fj] at hc;split at hc
  ·obtain⟨h1,rfl⟩:=bF hc;cases h
  ·rename_i b;unfold nK at hc;split at hc
   ·rename_i x t ha ht;have ea:args = #[x]:=by cases args; simp only at ha; rw [ha]
    have et:tys = #[t]:=by cases tys; simp only at ht; rw [ht]
    subst ea; subst et;split at hc
    ·rename_i e hu;obtain⟨h1,rfl⟩:=bF hc;exact IU hO hi hs hf h1 hu (.inl ⟨rfl,e,rfl⟩) h
    ·rename_i hu;obtain⟨h1,rfl⟩:=bF hc;exact IU hO hi hs hf h1 hu (.inr ⟨rfl,rfl⟩) h
    ·cases hc
   ·rename_i x y t u ha ht;have ea:args = #[x,y]:=by cases args; simp only at ha; rw [ha]
    have et:tys = #[t,u]:=by cases tys; simp only at ht; rw [ht]
    subst ea; subst et;split at hc
    ·rename_i e e2 ht hu;split at hc
     ·rename_i i hin;split at hc
      ·rename_i z hz;obtain⟨h1,rfl⟩:=bF hc;simp only [Bool.and_eq_true] at h1;exact Q9 hO hi hs hf h1.1.1 h1.1.2 ht hu hin hz h1.2 h
      ·cases hc
     ·cases hc
    ·cases hc
   ·rename_i x y ha;have ea:args = #[x,y]:=by cases args; simp only at ha; rw [ha]
    subst ea;obtain⟨h1,rfl⟩:=bF hc;rw [Bool.and_eq_true] at h1;exact J3 (mx:=true) hO hi hs hf h1.1 h1.2 h
   ·rename_i x y ha;have ea:args = #[x,y]:=by cases args; simp only at ha; rw [ha]
    subst ea;obtain⟨h1,rfl⟩:=bF hc;rw [Bool.and_eq_true] at h1;exact J3 (mx:=false) hO hi hs hf h1.1 h1.2 h
   ·rename_i x y t u ha ht;have ea:args = #[x,y]:=by cases args; simp only at ha; rw [ha]
    have et:tys = #[t,u]:=by cases tys; simp only at ht; rw [ht]
    subst ea; subst et;split at hc
    ·rename_i e e2 ht hu;split at hc
     ·rename_i n hn;obtain⟨h1,rfl⟩:=bF hc;rw [Bool.and_eq_true] at h1;exact PY hO hi hs hf h1.1 h1.2 ht hu hn h
     ·cases hc
    ·cases hc
   ·cases hc
  ·cases hc
 | nilCheck x=>
  obtain⟨h1,rfl⟩:=bF hc;exact PQ hO hi hs hf h1 h
 | makeSlice t l c=>
  simp only [fj] at hc;split at hc
  ·rename_i e ht;split at hc
   ·rename_i i hin;split at hc
    ·rename_i z hz;obtain⟨h1,rfl⟩:=bF hc;simp only [Bool.and_eq_true] at h1;exact QP hO hi hs hf h1.1 h1.2.1 h1.2.2.1 h1.2.2.2.1 h1.2.2.2.2 ht hin hz h
    ·cases hc
   ·cases hc
  ·cases hc
 | _=>cases hc
structure Kp (s s':PS):Prop where
 w:s'.w≤s.w
 n:s.n≤s'.n
 h:∀k,k < s.n→k < s'.w→s'.h k=s.h k
theorem Kp.refl (s:PS):Kp s s:=⟨Nat.le_refl _,Nat.le_refl _,fun _ _ _=>rfl⟩
theorem Kp.trans {s t u:PS} (h:Kp s t) (k:Kp t u):Kp s u:=
 ⟨Nat.le_trans k.w h.w,Nat.le_trans h.n k.n,fun x h1 h2=>(k.h x (Nat.lt_of_lt_of_le h1 h.n) h2).trans (h.h x h1 (Nat.lt_of_lt_of_le h2 k.w))⟩
theorem Kp.new (s:PS) (b:BN):Kp s (s.new b):=⟨Nat.le_refl _,Nat.le_succ _,fun k h1 _=>if_neg (by omega)⟩
theorem Kp.put (s:PS) (k:Nat) (b:BN):Kp s (s.put k b):=⟨Nat.min_le_left _ _,Nat.le_refl _,fun j _ h2=>if_neg (by
 have:j < min s.w k:=h2;omega)⟩
theorem NI {p:aO}{s s':PS}{o:kK}{q:PV} (h:bm P p s o=some (q,s')):Kp s s':=by
 have same:∀{α:Type}{x:Option α}{k:α→PV},(x.map fun v=>(k v,s))=some (q,s')→Kp s s':=fun h=>by
  rw [Option.map_eq_some_iff] at h;obtain⟨v,_,he⟩:=h;injection he with _ e2; subst e2; exact .refl s
 cases o with
 | mv x=>simp only [bm] at h; injection h with h; injection h with _ e2; subst e2; exact .refl s
 | pick c a b=>simp only [bm] at h; split at h<;>first | (injection h with h; injection h with _ e2; subst e2; exact .refl s) | cases h
 | alloc e z=>simp only [bm] at h; injection h with h; injection h with _ e2; subst e2; exact .new s _
 | box e x=>simp only [bm] at h; injection h with h; injection h with _ e2; subst e2; exact .new s _
 | build z ps=>simp only [bm] at h; exact same h
 | bslice e n z ps=>
  simp only [bm,Option.map_eq_some_iff] at h;obtain⟨v,_,he⟩:=h;injection he with _ e2; subst e2; exact .new s _
 | load t ag sz x=>
  simp only [bm,Option.bind_eq_some_iff] at h;obtain⟨cs,_,h⟩:=h;exact same h
 | store t sz x y=>
  simp only [bm] at h;split at h
  ·simp only [Option.map_eq_some_iff] at h;obtain⟨s1,h1,he⟩:=h;injection he with _ e2; subst e2;unfold G6 at h1;split at h1
   ·split at h1
    ·injection h1 with h1; subst h1; exact .put s _ _
    ·cases h1
   ·cases h1
  ·cases h
 | faddr off x=>
  simp only [bm] at h;split at h
  ·injection h with h; injection h with _ e2; subst e2; exact .refl s
  ·split at h
   ·injection h with h; injection h with _ e2; subst e2; exact .refl s
   ·cases h
  ·cases h
 | fld ag off sz x=>
  simp only [bm] at h;split at h
  ·split at h
   ·exact same h
   ·cases h
  ·cases h
 | iaddr es x i=>
  simp only [bm] at h;split at h
  ·split at h
   ·injection h with h; injection h with _ e2; subst e2; exact .refl s
   ·cases h
  ·split at h
   ·injection h with h; injection h with _ e2; subst e2; exact .refl s
   ·cases h
  ·split at h
   ·injection h with h; injection h with _ e2; subst e2; exact .refl s
   ·cases h
  ·cases h
 | sidx x i=>
  simp only [bm] at h;split at h
  ·split at h
   ·injection h with h; injection h with _ e2; subst e2; exact .refl s
   ·cases h
  ·cases h
 | bin op t x y=>simp only [bm] at h; exact same h
 | un op x=>simp only [bm] at h; exact same h
 | len str x=>simp only [bm] at h; exact same h
 | app e es bytes x y=>
  simp only [bm,Option.bind_eq_some_iff] at h;obtain⟨v,_,h⟩:=h;unfold sZ at h;split at h
  ·split at h
   ·injection h with h; injection h with _ e2; subst e2; exact .refl s
   ·cases h
  ·split at h
   ·split at h
    ·injection h with h; injection h with _ e2; subst e2; exact .new s _
    ·cases h
   ·split at h
    ·injection h with h; injection h with _ e2; subst e2; exact .put s _ _
    ·cases h
   ·split at h
    ·injection h with h; injection h with _ e2; subst e2; exact .new s _
    ·cases h
   ·cases h
 | slc3 e es x y z=>
  simp only [bm] at h;split at h
  ·split at h
   ·injection h with h; injection h with _ e2; subst e2; exact .refl s
   ·cases h
  ·injection h with h; injection h with _ e2; subst e2; exact .refl s
  ·cases h
 | slc e es x lo hi=>
  simp only [bm] at h;split at h
  ·exact same h
  ·cases h
 | sslc x lo hi=>
  simp only [bm] at h;split at h
  ·exact same h
  ·cases h
 | mkfn g a b=>simp only [bm] at h; injection h with h; injection h with _ e2; subst e2; exact .refl s
 | ext x i=>
  simp only [bm] at h;split at h
  ·exact same (k:=fun v=>v) h
  ·cases h
 | conv k x=>simp only [bm] at h; exact same h
 | call x a=>cases h
 | mnx mx x y=>simp only [bm] at h; split at h<;>first | (injection h with h; injection h with _ e2; subst e2; exact .refl s) | cases h
 | nck x=>simp only [bm] at h; split at h<;>first | (injection h with h; injection h with _ e2; subst e2; exact .refl s) | cases h
 | mks e es by' z l c=>
  simp only [bm] at h;split at h
  ·split at h
   ·injection h with h; injection h with _ e2; subst e2; exact .new s _
   ·cases h
  ·cases h
 | cpy es x y=>
  simp only [bm,Option.bind_eq_some_iff] at h;obtain⟨v,_,h⟩:=h;split at h
  ·split at h
   ·injection h with h; injection h with _ e2; subst e2; exact .refl s
   ·split at h
    ·rw [Option.map_eq_some_iff] at h;obtain⟨s1,hst,he⟩:=h;injection he with _ e2; subst e2;unfold G6 at hst;simp only at hst;split at hst
     ·injection hst with hst; subst hst; exact .put s _ _
     ·cases hst
    ·cases h
  ·split at h
   ·injection h with h; injection h with _ e2; subst e2; exact .refl s
   ·cases h
  ·cases h
def fa (P:Program) (pu:Nat→Bool) (call:ai):Prop:=∀g args s q s',call g args s=some (q,s')→(∃fn c,P.funcs[g]?=some fn∧fn.body=some c)∧Kp s s'∧
 ∀(A:AS) (β:Nat→Nat) (vs:List Value),cE A→RS A β s→Rs A β s.n vs args→∃u A' β',ep P g vs.toArray A (.ret u) A'∧Fw A A' β β' s.n s'.n s'.w∧RS A' β' s'∧R1 A' β' s'.n u q∧
  (pu g=true→∀c,c < A.next→A'.w.testBit c=true→A.w.testBit c=true)
theorem BP {ops:Array Oper}{o:Oper}{f f':Fr}{A A':AS}{u:Value} (hw:jJ ops.toList f o.guard=some true) (hs:cJ P f A o (.val u) A') (hp:f.put o.dst u=some f'):lN P ops o f A f' A':=by
 refine⟨hs.fr,fun φ T w a hf hr hT hfr K Q hK=>?_⟩;unfold kQ;rw [ga hf hw,if_pos rfl];obtain⟨φ',w',hpp,hnr⟩:=hs.run φ T w a hf hr hT hfr;unfold Oper.wp;generalize hres:(execOp a.eval o).run P w=res at hnr;cases hnr with
 | val _ v' hv=>exact hK φ' w' _ hpp ((hf.mono hpp.ext).put hp hv)
 | skip=>exact hK φ' w' _ hpp ((hf.mono hpp.ext).put hp (iF _))
theorem AC {ops:Array Oper}{o:Oper}{f f':Fr}{A:AS} (hi:cE A) (hw:jJ ops.toList f o.guard=some false) (hp:f.put o.dst undef=some f'):lN P ops o f A f' A:=by
 refine⟨.refl hi,fun φ T w a hf hr hT hfr K Q hK=>?_⟩;unfold kQ;rw [ga hf hw];exact hK φ w _ (.refl hr rfl rfl rfl rfl rfl rfl rfl) (hf.put hp (iF _))
theorem Bg {ops:Array Oper}{o:Oper}{f f':Fr}{A B A':AS}{g:FuncId}{args:Array Value}{v:Value} (hw:jJ ops.toList f o.guard=some true) (hs:cJ P f A o (.enter g args) B) (hcs:ep P g args B (.ret v) A') (hp:f.put o.dst v=some f'):lN P ops o f A f' A':=by
 refine⟨hs.fr.trans hcs.fr,fun φ T w a hf hr hT hfr K Q hK=>?_⟩;unfold kQ;rw [ga hf hw,if_pos rfl];obtain⟨φ',w',hpp,hnr⟩:=hs.run φ T w a hf hr (hT.left hcs.fr) (fun b h1 h2=>hfr b h1 (Nat.lt_of_lt_of_le h2 hcs.fr.next));unfold Oper.wp;generalize hres:(execOp a.eval o).run P w=res at hnr;cases hnr with
 | enter _ _ args' hargs=>
  refine (hcs.run φ' _ w' args' hargs hpp.rel ?_ ?_).mono ?_
  ·intro c hc' hh;by_cases hlt:c < A.next
   ·exact .inl (hT c hlt hh)
   ·exact .inr ⟨by omega,hc'⟩
  ·intro b h3 h4;rw [hpp.out b (.inr h3)];exact hfr b (Nat.le_trans hs.fr.next h3) h4
  ·rintro e2 w2 ⟨φ2,hp2,he2⟩;cases he2 with
   | ret _ v' hv=>exact hK φ2 w2 _ (hpp.trans hs.fr.next hcs.fr hp2) (((hf.mono hpp.ext).mono hp2.ext).put hp hv)
theorem zL {A:AS}{β:Nat→Nat}{n nt:Nat}{f:Fr}{p:aO} (hf:RF A β n nt f p) {ops:List Oper}{g:Option (Nat × Bool)}{g':Option (Nat × Bool)} (hg:CY ops g=some g') {b:Bool} (h:ef p g'=some b):jJ ops f g=some b:=by
 unfold CY at hg;split at hg
 ·injection hg with hg; subst hg;simp only [ef] at h;exact h
 ·rename_i j want;split at hg
  ·rename_i dd hd;injection hg with hg; subst hg;show uZ ops f j want=some b;unfold uZ;rw [hd];have ht:=hf.tmp dd;simp only [ef] at h;split at h
   ·rename_i c hc;rw [hc] at ht;obtain⟨e,_⟩:=ht.sc;simp only [e,DY];exact h
   ·rename_i xs hc;rw [hc] at ht;obtain⟨e,_⟩:=ht.sc;simp only [e,DY];exact h
   ·cases h
  ·cases hg
theorem Eh (hE:yG P) (hO:cP P) {pu:Nat→Bool}{call:ai} (hC:fa P pu call) {ops:Array Oper}{o:Oper}{i:PI}{nt:Nat} (hc:B7 P nt ops.toList o=some i) {A:AS}{β:Nat→Nat}{f:Fr}{p p':aO}{s s':PS} (hi:cE A) (hs:RS A β s) (hf:RF A β s.n nt f p)
  (h:gW P call i p s=some (p',s')):Kp s s'∧∃f' A' β',lN P ops o f A f' A'∧Fw A A' β β' s.n s'.n s'.w∧RS A' β' s'∧RF A' β' s'.n nt f' p'∧(gy pu p i=true→BC A A' β β' s.n s'.n (qd p i))∧(jJ ops.toList f o.guard=some false∨∀cs b,o.op≠.select cs b):=by
 unfold B7 at hc;split at hc
 ·rename_i po g' hpo hg;split at hc
  ·rename_i hd;injection hc with hc; subst hc;unfold gW at h;simp only at h;split at h
   ·rename_i hgd;have hw:=zL hf hg hgd;simp only [Option.map_eq_some_iff] at h;obtain⟨⟨q,s1⟩,hact,he⟩:=h;injection he with e1 e2; subst e1; subst e2;unfold aN at hact;split at hact
    ·rename_i x args;unfold bS at hact;split at hact
     ·rename_i g first cap hx;obtain⟨⟨fn,c,hfn,hbody⟩,hkp,hcall⟩:=hC _ _ _ _ _ hact;refine⟨hkp,?_⟩;obtain⟨d,op,ty,pos,af,gu⟩:=o;cases op with
      | call cc=>
       obtain⟨callee,cargs,tys⟩:=cc;simp only [fj] at hpo;split at hpo
       ·rename_i x';obtain⟨h1,h2⟩:=bF hpo;injection h2 with h2 h3;subst h2; subst h3;rw [Bool.and_eq_true] at h1;obtain⟨vf,f1,f2⟩:=bI hf h1.1;obtain⟨vas,a1,a2⟩:=uY hf _ h1.2;rw [hx] at f2;obtain⟨xs,ys,rfl,r1,r2⟩ : ∃xs ys,vf=.func (.func g) xs ys∧Rs A β s.n xs.toList first∧Rs A β s.n ys.toList cap:=by
         cases f2 with
         | cl _ _ h=>cases h with | fn g=>exact⟨_,_,rfl,.nil,.nil⟩
         | fn _ xs ys _ _ h h'=>exact⟨xs,ys,rfl,h,h'⟩
        obtain⟨u,A',β',c1,c2,c3,c4,c5⟩:=hcall A β (xs.toList ++ (vas ++ ys.toList)) hi hs (r1.app (a2.app r2));have hsd:cJ P f A ⟨d,.call ⟨.value x',cargs,tys⟩,ty,pos,af,gu⟩ (.enter g (xs.toList ++ (vas ++ ys.toList)).toArray) A:=by
         refine sY hE hi x' cargs tys ?_;rw [f1,a1];show vw P g (xs.toList ++ (vas ++ ys.toList)) A=_;unfold vw;rw [hfn];simp only [hbody]
        obtain⟨f',k1,k2⟩:=(hf.mono c2).set hd c4;refine⟨f',A',β',Bg hw hsd c1 k1,c2,c3,k2,fun hpu=>?_,.inr fun cs b he=>by cases he⟩;have hp':pu g=true:=by simpa only [gy,hx] using hpu
        have he:qd p ⟨d,.call x' cargs.toList,g'⟩=⟨[],[],false,true⟩:=by simp only [qd,hgd,cC]
        rw [he];refine⟨fun c hc=>?_,fun c hc=>?_,fun hca=>by cases hca⟩
        ·exact (c1.fr.rb c hc).imp id fun h=>.inr (.inr (.inr ⟨rfl,h⟩))
        ·rcases c1.fr.wb c hc with h | h
         ·exact .inl h
         ·by_cases hlt:c < A.next
          ·exact .inl (c5 hp' c hlt hc)
          ·exact .inr (.inr ⟨by omega,h⟩)
       ·rename_i b hb;exfalso;unfold nK at hpo;split at hpo
        ·split at hpo
         ·obtain⟨_,h2⟩:=bF hpo; cases h2
         ·obtain⟨_,h2⟩:=bF hpo; cases h2
         ·cases hpo
        ·split at hpo
         ·split at hpo
          ·split at hpo
           ·obtain⟨_,h2⟩:=bF hpo; cases h2
           ·cases hpo
          ·cases hpo
         ·cases hpo
        ·obtain⟨_,h2⟩:=bF hpo; cases h2
        ·obtain⟨_,h2⟩:=bF hpo; cases h2
        ·split at hpo
         ·split at hpo
          ·obtain⟨_,h2⟩:=bF hpo; cases h2
          ·cases hpo
         ·cases hpo
        ·cases hpo
       ·cases hpo
      | makeSlice t l c=>
       exfalso;simp only [fj] at hpo
       repeat' split at hpo
       all_goals first | (cases hpo; done) | (obtain⟨_,h2⟩:=bF hpo; cases h2; done)
      | slice t x lo hi' mx=>
       exfalso;cases mx with
       | some m=>
        cases lo with
        | some lo=>cases hi'<;>cases hpo
        | none=>
         cases hi' with
         | none=>cases hpo
         | some y=>
          simp only [fj] at hpo
          repeat' split at hpo
          all_goals first | (cases hpo; done) | (obtain⟨_,h2⟩:=bF hpo; cases h2; done)
       | none=>
        simp only [fj] at hpo
        repeat' split at hpo
        all_goals first | (cases hpo; done) | (obtain⟨_,h2⟩:=bF hpo; cases h2; done)
      | makeFunc fn a b=>
       exfalso;cases fn with
       | func g=>obtain⟨_,h2⟩:=bF hpo; cases h2
       | _=>cases hpo
      | _=>
       exfalso;simp only [fj] at hpo
       repeat' split at hpo
       all_goals first | (cases hpo; done) | (obtain⟨_,h2⟩:=bF hpo; cases h2; done)
     ·cases hact
    ·rename_i hnc;obtain⟨u,A',β',k1,k2,k3,k4,k5⟩:=Ry hO hpo hi hs hf hact;obtain⟨f',m1,m2⟩:=(hf.mono k2).set hd k4;refine⟨NI hact,f',A',β',BP hw k1 m1,k2,k3,m2,fun _=>?_,.inr fun cs b he=>?_⟩
     ·have he:qd p ⟨o.dst,po,g'⟩=cC p po:=by simp only [qd,hgd]
      rw [he]; exact k5
     ·rw [he] at hpo; cases hpo
   ·rename_i hgd;have hw:=zL hf hg hgd;injection h with h; injection h with e1 e2; subst e1; subst e2;obtain⟨f',m1,m2⟩:=hf.set hd (v:=undef) (q:=.sc undef) (.cl _ _ (.sc _ rfl));exact⟨.refl s,f',A,β,AC hi hw m1,.refl A β s.n _,hs,m2,fun _=>.same A β s.n _,.inl hw⟩
   ·cases h
  ·cases hc
 ·cases hc
end
end Go.PE
