/- What functions of the program and of the reference compute, on values. No statement is proved here. -/
import Derived.Test.YtgkggocjoolciaaGreatDoorPeC
import Derived.Test.YtgkggocjoolciaaGreatDoorProg
set_option linter.unusedSimpArgs false
set_option linter.unusedVariables false
set_option linter.defProp false
namespace Go.Proofs.YtgkggocjoolciaaGreatDoor
open Go Go.EvL Go.PE
theorem X4 {α} (l:List α):Array.mk l=l.toArray:=rfl
theorem WW (n:Nat):Int.ofNat (no_index (OfNat.ofNat n))=(OfNat.ofNat n:Int):=rfl
theorem WN (n:Nat) (h:no_index (OfNat.ofNat n) < 2^8):UInt8.ofBitVec (BitVec.ofFin (Fin.mk (no_index (OfNat.ofNat n)) h))=(OfNat.ofNat n:UInt8):=by
 apply UInt8.toNat_inj.1; simp only [UInt8.toNat,BitVec.toNat]; exact (Nat.mod_eq_of_lt h).symm
set_option maxRecDepth 100000
abbrev QA (f:Func) (k:Bool) (c:fJ):=sX Tryz.prog f k=some c
theorem TA {f k c} (h:QA f k c:=by unfold QA; conv=>lhs; reduce; dsimp only [WW,Int.reduceNegSucc,X4]; try simp only [WN]):QA f k c:=h
def OQ:=(fun c (_:QA Tryz.f32 false c)=>c) _ TA
def Hq:=(fun c (_:QA Tryz.f46 false c)=>c) _ TA
def Hp:=(fun c (_:QA Tryz.f59 false c)=>c) _ TA
def Tb:=(fun c (_:QA Tryz.f64 false c)=>c) _ TA
def S5:=(fun c (_:QA Tryz.f65 false c)=>c) _ TA
def TL:=(fun c (_:QA Tryz.f66 false c)=>c) _ TA
def WY:=(fun c (_:QA Tryz.f81 false c)=>c) _ TA
def Sz:=(fun c (_:QA Tryz.f82 false c)=>c) _ TA
def Uw:=(fun c (_:QA Tryz.f83 false c)=>c) _ TA
def X3:=(fun c (_:QA Tryz.f84 false c)=>c) _ TA
def WR:=(fun c (_:QA Tryz.f85 false c)=>c) _ TA
def S7:=(fun c (_:QA Tryz.f86 false c)=>c) _ TA
def Wo:=(fun c (_:QA Tryz.f87 false c)=>c) _ TA
def X7:=(fun c (_:QA Tryz.f88 false c)=>c) _ TA
def Uh:=(fun c (_:QA Tryz.f89 false c)=>c) _ TA
def Vm:=(fun c (_:QA Tryz.f100 false c)=>c) _ TA
def Vd:=(fun c (_:QA Tryz.f101 false c)=>c) _ TA
def VB:=(fun c (_:QA Tryz.f102 false c)=>c) _ TA
def VA:=(fun c (_:QA Tryz.f103 false c)=>c) _ TA
def Vf:=(fun c (_:QA Tryz.f104 false c)=>c) _ TA
def Dg:=(fun c (_:QA Tryz.f141 false c)=>c) _ TA
def Sq:=(fun c (_:QA Tryz.f149 false c)=>c) _ TA
def Va:=(fun c (_:QA Tryz.f176 false c)=>c) _ TA
def B0:=(fun c (_:QA Tryz.f177 false c)=>c) _ TA
end Go.Proofs.YtgkggocjoolciaaGreatDoor
namespace Go.PE
open Go Go.EvL
section
variable {P:Program}{Γ:Nat→Option fJ}{ext:aq}
theorem bO (f:aR) (s:PS):ke P Γ ext [] f s=some (f,s):=(rfl)
theorem xM (i:PI) (l:List PI) (f:aR) (s:PS):ke P Γ ext (i :: l) f s=(vV P Γ ext i f s).bind fun q=>ke P Γ ext l q.1 q.2:=(rfl)
noncomputable def Ci (P:Program) (Γ:Nat→Option fJ) (ext:aq) (r:Option (PV × PS)) (d:Option Nat) (f:aR) (l:List PI):Option (aR × PS):=r.bind fun q=>ke P Γ ext l (AD f d q.1) q.2
noncomputable def HU (P:Program) (Γ:Nat→Option fJ) (ext:aq) (b:Option Bool) (d:Option Nat) (o:lc) (f:aR) (s:PS) (l:List PI):Option (aR × PS):=match b with
 | some true=>Ci P Γ ext (aY P (aD P Γ ext) f s o) d f l
 | some false=>ke P Γ ext l (AD f d (.sc undef)) s
 | none=>none
theorem bj (v:PV) (s:PS) (d:Nat) (f:aR) (l:List PI):Ci P Γ ext (some (v,s)) (some d) f l=ke P Γ ext l (f.set d v) s:=(rfl)
theorem oD (v:PV) (s:PS) (f:aR) (l:List PI):Ci P Γ ext (some (v,s)) none f l=ke P Γ ext l f s:=(rfl)
theorem Gp (d:Option Nat) (o:lc) (f:aR) (s:PS) (l:List PI):HU P Γ ext (some true) d o f s l=Ci P Γ ext (aY P (aD P Γ ext) f s o) d f l:=(rfl)
theorem Cy (d:Nat) (o:lc) (f:aR) (s:PS) (l:List PI):HU P Γ ext (some false) (some d) o f s l=ke P Γ ext l (f.set d (.sc undef)) s:=(rfl)
theorem BB (o:lc) (f:aR) (s:PS) (l:List PI):HU P Γ ext (some false) none o f s l=ke P Γ ext l f s:=(rfl)
theorem de (d:Option Nat) (o:lc) (l:List PI) (f:aR) (s:PS):ke P Γ ext (⟨d,o,none⟩ :: l) f s=Ci P Γ ext (aY P (aD P Γ ext) f s o) d f l:=by
 rw [xM];unfold Ci vV gZ;simp only [bw];cases aY P (aD P Γ ext) f s o<;>rfl
theorem Qx (d:Option Nat) (o:lc) (j:Nat) (w:Bool) (l:List PI) (f:aR) (s:PS):ke P Γ ext (⟨d,o,some (j,w)⟩ :: l) f s=HU P Γ ext (bw f (some (j,w))) d o f s l:=by
 rw [xM];unfold HU Ci vV gZ;simp only;cases bw f (some (j,w)) with
 | none=>rfl
 | some b=>cases b with
  | false=>rfl
  | true=>simp only; cases aY P (aD P Γ ext) f s o<;>rfl
def Jz (r:Option (aR × PS)):kD:=r.map fun q=>(.normal,q.1,q.2)
theorem cJ (f:aR) (s:PS):Jz (some (f,s))=some (.normal,f,s):=(rfl)
theorem dL (l:List PI) (f:aR) (s:PS):aN P Γ ext (.reg l) f s=Jz (ke P Γ ext l f s):=Hk l f s
theorem fu (f:aR) (s:PS) (k:aR→PS→kD):gR (some (.normal,f,s)) k=k f s:=(rfl)
theorem kL (f:aR) (s:PS) (k:aR→PS→kD):gR (some (.ret,f,s)) k=some (.ret,f,s):=(rfl)
theorem nb (id:Nat) (f:aR) (s:PS) (k:aR→PS→kD):gR (some (.exit id,f,s)) k=some (.exit id,f,s):=(rfl)
theorem J8 (id:Nat) (f:aR) (s:PS):jm id (some (.normal,f,s))=some (.normal,f,s):=(rfl)
theorem AZ (id:Nat) (f:aR) (s:PS):jm id (some (.ret,f,s))=some (.ret,f,s):=(rfl)
theorem vL (id i:Nat) (f:aR) (s:PS):jm id (some (.exit i,f,s))=if i=id then some (.normal,f,s) else some (.exit i,f,s):=by
 show some (if i=id then _ else _)=_;split<;>rfl
theorem nQ (x y:kD):nW (some true) x y=x:=(rfl)
theorem ko (x y:kD):nW (some false) x y=y:=(rfl)
theorem eu (b:Bool):jM (.sc (.bool b))=some b:=(rfl)
noncomputable def Ld (fn:fJ) (s:PS) (r:kD):Option (PV × PS):=r.bind fun q=>Ov q (ek fn s)
theorem jI (fn:fJ) (s:PS) (f:aR) (s':PS):Ld fn s (some (.ret,f,s'))=ek fn s f s':=(rfl)
theorem Pu (fn:fJ) (s:PS) (f:aR) (s':PS):Ld fn s (some (.normal,f,s'))=ek fn s f s':=(rfl)
theorem dT {g:Nat}{fn:fJ} (h:Γ g=some fn) (args:List PV) (s:PS) (hl:args.length≤fn.nt):aD P Γ ext g args s=Ld fn s (aN P Γ ext fn.body (br args 0) ⟨s.h,s.n,s.n⟩):=by
 rw [I1 h,if_pos hl]; rfl
theorem fM {fn:fJ}{s:PS}{f:aR}{s':PS}{vs:List PV}{v:PV} (hk:fn.keep=false) (hr:ii f s' fn.res=some vs) (hw:s.n≤s'.w) (hv:frz s.n s' (gD vs)=some v):ek fn s f s'=some (v,s):=by
 unfold ek;rw [hr];simp only [Option.bind_some,hk,Bool.false_eq_true,if_false,if_pos hw,hv,Option.map_some]
theorem H7 (j:Nat) (acc:List (Nat × jc × Nat × Nat)) (f:aR) (s:PS):ng P Γ ext [] j acc f s=some (f,s):=(rfl)
noncomputable def EQ (P:Program) (Γ:Nat→Option fJ) (ext:aq) (r:Option (PV × PS)) (d:Option Nat) (E:jc) (pu:Bool) (un:List Nat) (l:List (PI × List Nat × List Nat)) (j:Nat) (acc:List (Nat × jc × Nat × Nat)) (f:aR) (s:PS):Option (aR × PS):=
 r.bind fun q=>if pu=true∧cO un E acc then ng P Γ ext l (j + 1) ((j,E,s.n,q.2.n) :: acc) (AD f d q.1) q.2 else none
noncomputable def UA (P:Program) (Γ:Nat→Option fJ) (ext:aq) (b:Option Bool) (d:Option Nat) (o:lc) (ls un:List Nat) (l:List (PI × List Nat × List Nat)) (j:Nat) (acc:List (Nat × jc × Nat × Nat)) (f:aR) (s:PS):Option (aR × PS):=match b with
 | some true=>EQ P Γ ext (aY P (aD P Γ ext) (dl ls f) s o) d (cI (dl ls f) o) (fR (ei Γ) (dl ls f) ⟨d,o,none⟩) un l j acc f s
 | some false=>EQ P Γ ext (some (.sc undef,s)) d ⟨[],[],false,false⟩ (fR (ei Γ) (dl ls f) ⟨d,o,none⟩) un l j acc f s
 | none=>none
theorem Kx (v:PV) (s':PS) (d:Nat) (E:jc) (un:List Nat) (l:List (PI × List Nat × List Nat)) (j:Nat) (acc:List (Nat × jc × Nat × Nat)) (f:aR) (s:PS) (h:cO un E acc):EQ P Γ ext (some (v,s')) (some d) E true un l j acc f s=ng P Γ ext l (j + 1) ((j,E,s.n,s'.n) :: acc) (f.set d v) s':=by
 unfold EQ;simp only [Option.bind_some,h,and_self,if_true];rfl
theorem JC (v:PV) (s':PS) (E:jc) (un:List Nat) (l:List (PI × List Nat × List Nat)) (j:Nat) (acc:List (Nat × jc × Nat × Nat)) (f:aR) (s:PS) (h:cO un E acc):EQ P Γ ext (some (v,s')) none E true un l j acc f s=ng P Γ ext l (j + 1) ((j,E,s.n,s'.n) :: acc) f s':=by
 unfold EQ;simp only [Option.bind_some,h,and_self,if_true];rfl
theorem If (f:aR) (d:Nat) (v:PV):aR.set f d v d=v:=if_pos rfl
theorem sR (f h:aR) (d:Option Nat) (v:PV):I0 f d (AD h d v)=AD f d v:=by
 cases d with
 | none=>rfl
 | some d=>show aR.set f d (aR.set h d v d)=_; rw [If]; rfl
theorem zo (d:Option Nat) (o:lc) (ls un:List Nat) (l:List (PI × List Nat × List Nat)) (j:Nat) (acc:List (Nat × jc × Nat × Nat)) (f:aR) (s:PS):ng P Γ ext ((⟨d,o,none⟩,ls,un) :: l) j acc f s =
  EQ P Γ ext (aY P (aD P Γ ext) (dl ls f) s o) d (cI (dl ls f) o) (fR (ei Γ) (dl ls f) ⟨d,o,none⟩) un l j acc f s:=by
 unfold EQ;show (gZ P (aD P Γ ext) ⟨d,o,none⟩ (dl ls f) s).bind _=_;unfold gZ;simp only [bw];cases aY P (aD P Γ ext) (dl ls f) s o with
 | none=>rfl
 | some q=>
  simp only [Option.map_some,Option.bind_some,sR];rfl
theorem LS (d:Option Nat) (o:lc) (x:Nat) (w:Bool) (ls un:List Nat) (l:List (PI × List Nat × List Nat)) (j:Nat) (acc:List (Nat × jc × Nat × Nat)) (f:aR) (s:PS):ng P Γ ext ((⟨d,o,some (x,w)⟩,ls,un) :: l) j acc f s =
  UA P Γ ext (bw (dl ls f) (some (x,w))) d o ls un l j acc f s:=by
 unfold UA;show (gZ P (aD P Γ ext) ⟨d,o,some (x,w)⟩ (dl ls f) s).bind _=_;unfold gZ;simp only;cases hg:bw (dl ls f) (some (x,w)) with
 | none=>rfl
 | some b=>
  cases b with
  | true=>
   unfold EQ;have he:pX (dl ls f) ⟨d,o,some (x,w)⟩=cI (dl ls f) o:=by simp only [pX,hg]
   have hpu:fR (ei Γ) (dl ls f) ⟨d,o,some (x,w)⟩=fR (ei Γ) (dl ls f) ⟨d,o,none⟩:=rfl;cases aY P (aD P Γ ext) (dl ls f) s o with
   | none=>rfl
   | some q=>
    simp only [Option.map_some,Option.bind_some,sR,he,hpu];rfl
  | false=>
   unfold EQ;have he:pX (dl ls f) ⟨d,o,some (x,w)⟩=⟨[],[],false,false⟩:=by simp only [pX,hg]
   have hpu:fR (ei Γ) (dl ls f) ⟨d,o,some (x,w)⟩=fR (ei Γ) (dl ls f) ⟨d,o,none⟩:=rfl;simp only [Option.bind_some,sR,he,hpu];rfl
theorem Lt (l:List (PI × List Nat × List Nat)) (f:aR) (s:PS):aN P Γ ext (.draw l) f s=Jz (ng P Γ ext l 0 [] f s):=C4 l f s
theorem MA (ls:List Nat) (f:aR) (t:Nat):dl ls f t=if t∈ls then f t else .sc undef:=(rfl)
theorem H3 (un:List Nat) (F:jc):cO un F []:=fun e he=>by cases he
theorem Ky (F:jc) (acc:List (Nat × jc × Nat × Nat)):cO [] F acc:=fun e _ he=>by cases he
theorem Mq (un:List Nat) (acc:List (Nat × jc × Nat × Nat)):cO un ⟨[],[],false,false⟩ acc:=fun e _ _=>by
 refine⟨fun k _=>⟨?_,?_⟩,?_,?_,?_,?_,?_,?_⟩<;>simp
theorem Du (un:List Nat) (F:jc) (e:Nat × jc × Nat × Nat) (acc:List (Nat × jc × Nat × Nat)):cO un F (e :: acc)↔(e.1∈un→bZ e.2.1 e.2.2.1 e.2.2.2 F)∧cO un F acc:=by
 unfold cO; simp
theorem J2 (E:jc) (a b:Nat):bZ E a b ⟨[],[],false,false⟩:=by
 refine⟨fun k _=>⟨?_,?_⟩,?_,?_,?_,?_,?_,?_⟩<;>simp
theorem GY (li:Bool) (a b k:Nat) (h:b≤k):bZ ⟨[],[],li,false⟩ a b ⟨[k],[k],false,false⟩:=by
 unfold bZ; simp; omega
theorem Kj (d:Option Nat) (o:lc) (ls un:List Nat) (l:List (PI × List Nat × List Nat)) (j:Nat) (acc:List (Nat × jc × Nat × Nat)) (f:aR) (s:PS):UA P Γ ext (some true) d o ls un l j acc f s=EQ P Γ ext (aY P (aD P Γ ext) (dl ls f) s o) d (cI (dl ls f) o) (fR (ei Γ) (dl ls f) ⟨d,o,none⟩) un l j acc f s:=(rfl)
theorem Hl (d:Option Nat) (o:lc) (ls un:List Nat) (l:List (PI × List Nat × List Nat)) (j:Nat) (acc:List (Nat × jc × Nat × Nat)) (f:aR) (s:PS):UA P Γ ext (some false) d o ls un l j acc f s=EQ P Γ ext (some (.sc undef,s)) d ⟨[],[],false,false⟩ (fR (ei Γ) (dl ls f) ⟨d,o,none⟩) un l j acc f s:=(rfl)
theorem Gi (E:jc) (a b:Nat):bZ E a b ⟨[],[],true,false⟩↔E.ca=false:=by
 unfold bZ; simp
theorem Vl (b:Bool):(b == true)=b:=by cases b<;>rfl
theorem Ve (b:Bool):(b == false)=!b:=by cases b<;>rfl
theorem cZ (f:aR) (t:Nat):cg f (.tmp t)=f t:=(rfl)
theorem bT (f:aR) (v:Value):cg f (.const v)=bY v:=(rfl)
theorem Gs (f:aR) (g:Nat):cg f (.func g)=.fn g [] []:=(rfl)
theorem aU (f:aR) (d:Nat) (v:PV) (j:Nat):aR.set f d v j=if j=d then v else f j:=(rfl)
theorem dG (s:PS) (b:Dk) (j:Nat):(s.new b).h j=if j=s.n then b else s.h j:=(rfl)
theorem cD (s:PS) (b:Dk):(s.new b).n=s.n + 1:=(rfl)
theorem ip (s:PS) (b:Dk):(s.new b).w=s.w:=(rfl)
theorem dz (s:PS) (k:Nat) (b:Dk) (j:Nat):(s.put k b).h j=if j=k then b else s.h j:=(rfl)
theorem dn (s:PS) (k:Nat) (b:Dk):(s.put k b).n=s.n:=(rfl)
theorem jz (s:PS) (k:Nat) (b:Dk):(s.put k b).w=min s.w k:=(rfl)
theorem u9 (t:Nat) (x y:Operand) (a b:Int):fw P .add t x y (.sc (.int .i64 a)) (.sc (.int .i64 b))=some (.sc (.int .i64 (IntKind.i64.wrap (a + b)))):=(rfl)
theorem NE (t:Nat) (x y:Operand) (a b:Int):fw P .sub t x y (.sc (.int .i64 a)) (.sc (.int .i64 b))=some (.sc (.int .i64 (IntKind.i64.wrap (a - b)))):=(rfl)
theorem kK (t:Nat) (x y:Operand) (a b:Int):fw P .lss t x y (.sc (.int .i64 a)) (.sc (.int .i64 b))=some (.sc (.bool (decide (a < b)))):=(rfl)
theorem O3 (t:Nat) (x y:Operand) (a b:Int):fw P .leq t x y (.sc (.int .i64 a)) (.sc (.int .i64 b))=some (.sc (.bool (decide (a≤b)))):=(rfl)
theorem Lv (t:Nat) (x y:Operand) (a b:Int):fw P .gtr t x y (.sc (.int .i64 a)) (.sc (.int .i64 b))=some (.sc (.bool (decide (a > b)))):=(rfl)
theorem KO (t:Nat) (x y:Operand) (a b:Int):fw P .geq t x y (.sc (.int .i64 a)) (.sc (.int .i64 b))=some (.sc (.bool (decide (a ≥ b)))):=(rfl)
theorem Oo (t:Nat) (x y:Operand) (a b:Int):fw P .eql t x y (.sc (.int .i64 a)) (.sc (.int .i64 b))=some (.sc (.bool (a == b))):=(rfl)
theorem jt (t:Nat) (x y:Operand) (a b:Int):fw P .neq t x y (.sc (.int .i64 a)) (.sc (.int .i64 b))=some (.sc (.bool (a != b))):=(rfl)
theorem Kz (t:Nat) (x y:Operand) (a b:ByteArray):fw P .eql t x y (.sc (.string a)) (.sc (.string b))=some (.sc (.bool (a.toList == b.toList))):=(rfl)
theorem JG (t:Nat) (x y:Operand) (a b:ByteArray):fw P .neq t x y (.sc (.string a)) (.sc (.string b))=some (.sc (.bool (!(a.toList == b.toList)))):=(rfl)
theorem bG {α β:Type} (P:Program) (s:Sem α) (k:α→Sem β):bx P (s >>= k)=(bx P s).bind fun a=>bx P (k a):=by
 induction s with
 | pure a=>rfl
 | program k' ih=>exact ih P
 | _=>first | rfl | (rename_i ih; exact ih)
theorem fp {P:Program}{t:Nat}{d:TypeDesc} (h:P.underlying t=some d):bx P (underlying t)=some d:=by
 show bx P ((match P.underlying t with | some d=>pure d | none=>_:Sem TypeDesc))=_;rw [h]; rfl
theorem G4 {P:Program}{t:Nat} (hu:P.underlying t=some .bool) (x y:Operand) (a b:Bool):qF P .eql t x y (.bool a) (.bool b)=some (.bool (a == b)):=by
 have e:qF P .eql t x y (.bool a) (.bool b)=bx P (Op.equalIn Op.maxDepth t (.bool a) (.bool b) >>= fun r=>pure (.bool r)):=(rfl)
 rw [e,bG];have:bx P (Op.equalIn Op.maxDepth t (.bool a) (.bool b))=some (a == b):=by
  show bx P (underlying t >>= _)=_;rw [bG,fp hu];rfl
 rw [this]; rfl
theorem gy {P:Program}{t:Nat} (hu:P.underlying t=some .bool) (x y:Operand) (a b:Bool):fw P .eql t x y (.sc (.bool a)) (.sc (.bool b))=some (.sc (.bool (a == b))):=by
 simp only [fw,i9,G4 hu]; rfl
theorem fF {P:Program}{t:Nat} (hu:P.underlying t=some .bool) (x y:Operand) (a b:Bool):fw P .neq t x y (.sc (.bool a)) (.sc (.bool b))=some (.sc (.bool (!(a == b)))):=by
 have e:qF P .neq t x y (.bool a) (.bool b)=bx P (Op.equalIn Op.maxDepth t (.bool a) (.bool b) >>= fun r=>pure (.bool (!r))):=(rfl)
 have h:bx P (Op.equalIn Op.maxDepth t (.bool a) (.bool b))=some (a == b):=by
  show bx P (underlying t >>= _)=_;rw [bG,fp hu];rfl
 rw [bG,h] at e;have e':qF P .neq t x y (.bool a) (.bool b)=some (.bool (!(a == b))):=e;simp only [fw,i9,e']; rfl
theorem C9 (b:Bool):Vb P .not (.sc (.bool b))=some (.sc (.bool (!b))):=(rfl)
end
theorem sA (k:IntKind) (i:Nat):kH (.sc (.int k (i:Int)))=some i:=by
 simp only [kH]; rw [if_pos (by omega),Int.toNat_natCast]
theorem Gv (k:IntKind):kH (.sc (.int k 0))=some 0:=(rfl)
theorem aB {α:Type}{c:α→List PV}{es:Nat} (hc:∀x,(c x).length=es) (l:List α):(l.flatMap c).length=l.length * es:=by
 induction l with
 | nil=>simp
 | cons x l ih=>rw [List.flatMap_cons,List.length_append,hc,ih,List.length_cons,Nat.succ_mul]; omega
theorem xr {α:Type}{c:α→List PV}{es:Nat} (hc:∀x,(c x).length=es):∀(l:List α) (i:Nat),(l.flatMap c).drop (i * es)=(l.drop i).flatMap c:=by
 intro l
 induction l with
 | nil=>intro i; simp
 | cons x l ih=>
  intro i;cases i with
  | zero=>simp
  | succ i=>rw [List.flatMap_cons,Nat.succ_mul,Nat.add_comm,← List.drop_drop,List.drop_left' (hc x),ih,List.drop_succ_cons]
theorem bU {α:Type}{c:α→List PV}{es:Nat} (hc:∀x,(c x).length=es) {l:List α}{i:Nat}{x:α} (h:l[i]?=some x):∃r,(l.flatMap c).drop (i * es)=c x ++ r:=by
 rw [xr hc];have hi:i < l.length:=(List.getElem?_eq_some_iff.1 h).1;refine⟨(l.drop (i + 1)).flatMap c,?_⟩;rw [List.drop_eq_getElem_cons hi,List.flatMap_cons];congr 1;rw [List.getElem?_eq_getElem hi] at h;injection h with h; rw [h]
def aK {α:Type} (e:Nat) (c:α→List PV) (x:Option (List α)):PV:=match x with
 | none=>.sc (.slice none 0 0)
 | some l=>.lit e l.length (l.flatMap c)
def cd:=And.intro (@aK.eq_1)<|@aK.eq_2
theorem bE {α:Type}{e:Nat}{c:α→List PV} (x:Option (List α)):gq false (aK e c x)=some (.sc (.int .i64 ((x.getD []).length:Int))):=by
 cases x<;>rfl
theorem kB {α:Type}{es:Nat}{c:α→List PV} (hc:∀x,(c x).length=es) {l:List α}{j:Nat}{x:α} (h:l[j]?=some x) (s:PS):BU s (.litp ((l.flatMap c).drop (j * es))) es=some (c x):=by
 obtain⟨r,hr⟩:=bU hc h;simp only [BU,hr];rw [if_pos (by rw [List.length_append,hc]; omega),List.take_left' (hc x)]
theorem CW {s:PS}{k fin:Nat}{ys:List PV} (h1:ys.length=fin) (h2:(s.h k).cells.length=fin) (h3:ys.all cL=true):FA s (.ptr k 0 fin) ys=some (s.put k ⟨ys,fin,(s.h k).e⟩):=by
 simp only [FA];rw [if_pos ⟨by omega,h2.symm,h3⟩,List.take_zero,List.nil_append,List.drop_of_length_le (by omega),List.append_nil]
theorem yb (s:PS) (k off fin sz:Nat):BU s (.ptr k off fin) sz=if off + sz≤fin∧(s.h k).low≤fin∧fin≤(s.h k).cells.length then some (((s.h k).cells.drop off).take sz) else none:=(rfl)
theorem w9 {n:Nat} (h:n < 9223372036854775808):IntKind.i64.wrap (n:Int)=(n:Int):=by
 unfold IntKind.wrap;simp [IntKind.bits,IntKind.signed];omega
theorem fD {i:Nat} (h:i < 4611686018427387904):IntKind.i64.wrap ((i:Int) + 1)=((i + 1:Nat):Int):=by
 rw [← w9 (n:=i + 1) (by omega)]; rfl
def EI (t es:Nat) (z:Array Value) (sl:Nat):fJ:=⟨32,
 (.seq (.reg [⟨some 6,.mv (.const (.bool false)),none⟩])
 (.seq (.seq (.reg [⟨some 10,.mv (.tmp 0),none⟩,
   ⟨some 11,.len false (.tmp 10),none⟩,
   ⟨some 12,.mv (.tmp 1),none⟩,
   ⟨some 13,.len false (.tmp 12),none⟩,
   ⟨some 14,.bin .neq sl (.tmp 11) (.tmp 13),none⟩])
  (.cond (.tmp 14)
   (.seq (.reg [⟨some 6,.mv (.const (.bool false)),none⟩])
   .ret)
   (.skip)))
 (.seq (.seq (.reg [⟨some 15,.mv (.tmp 0),none⟩,
   ⟨some 16,.len false (.tmp 15),none⟩,
   ⟨some 17,.mv (.const (.int .i64 0)),none⟩])
  (.block 0
   (.loop
    (.seq (.reg [⟨some 18,.bin .lss sl (.tmp 17) (.tmp 16),none⟩])
    (.seq (.cond (.tmp 18)
     (.skip)
     (.exit 0))
    (.seq (.block 1
     (.seq (.reg [⟨some 19,.mv (.tmp 17),none⟩,
       ⟨some 20,.iaddr es (.tmp 15) (.tmp 17),none⟩,
       ⟨some 21,.load t true es (.tmp 20),none⟩,
       ⟨some 8,.alloc t (.agg z),none⟩,
       ⟨some 7,.mv (.tmp 19),none⟩,
       ⟨none,.store t es (.tmp 8) (.tmp 21),none⟩])
     (.seq (.reg [⟨some 22,.mv (.tmp 1),none⟩,
       ⟨some 23,.mv (.tmp 7),none⟩,
       ⟨some 24,.iaddr es (.tmp 22) (.tmp 23),none⟩,
       ⟨some 25,.load t true es (.tmp 24),none⟩,
       ⟨some 9,.alloc t (.agg z),none⟩,
       ⟨none,.store t es (.tmp 9) (.tmp 25),none⟩])
     (.seq (.reg [⟨some 26,.mv (.tmp 2),none⟩,
       ⟨some 27,.load t true es (.tmp 8),none⟩,
       ⟨some 28,.load t true es (.tmp 9),none⟩,
       ⟨some 29,.call (.tmp 26) [(.tmp 27),(.tmp 28)],none⟩,
       ⟨some 30,.un .not (.tmp 29),none⟩])
     (.cond (.tmp 30)
      (.seq (.reg [⟨some 6,.mv (.const (.bool false)),none⟩])
      .ret)
      (.skip))))))
    (.reg [⟨some 31,.bin .add sl (.tmp 17) (.const (.int .i64 1)),none⟩,
     ⟨some 17,.mv (.tmp 31),none⟩])))))))
 (.seq (.reg [⟨some 6,.mv (.const (.bool true)),none⟩])
 .ret)))),
 [.tmp 6],false⟩
section
variable {P:Program}{Γ:Nat→Option fJ}{ext:aq}
def sT (t es:Nat) (z:Array Value) (sl:Nat):aW:=(.seq (.reg [⟨some 18,.bin .lss sl (.tmp 17) (.tmp 16),none⟩])
    (.seq (.cond (.tmp 18)
     (.skip)
     (.exit 0))
    (.seq (.block 1
     (.seq (.reg [⟨some 19,.mv (.tmp 17),none⟩,
       ⟨some 20,.iaddr es (.tmp 15) (.tmp 17),none⟩,
       ⟨some 21,.load t true es (.tmp 20),none⟩,
       ⟨some 8,.alloc t (.agg z),none⟩,
       ⟨some 7,.mv (.tmp 19),none⟩,
       ⟨none,.store t es (.tmp 8) (.tmp 21),none⟩])
     (.seq (.reg [⟨some 22,.mv (.tmp 1),none⟩,
       ⟨some 23,.mv (.tmp 7),none⟩,
       ⟨some 24,.iaddr es (.tmp 22) (.tmp 23),none⟩,
       ⟨some 25,.load t true es (.tmp 24),none⟩,
       ⟨some 9,.alloc t (.agg z),none⟩,
       ⟨none,.store t es (.tmp 9) (.tmp 25),none⟩])
     (.seq (.reg [⟨some 26,.mv (.tmp 2),none⟩,
       ⟨some 27,.load t true es (.tmp 8),none⟩,
       ⟨some 28,.load t true es (.tmp 9),none⟩,
       ⟨some 29,.call (.tmp 26) [(.tmp 27),(.tmp 28)],none⟩,
       ⟨some 30,.un .not (.tmp 29),none⟩])
     (.cond (.tmp 30)
      (.seq (.reg [⟨some 6,.mv (.const (.bool false)),none⟩])
      .ret)
      (.skip))))))
    (.reg [⟨some 31,.bin .add sl (.tmp 17) (.const (.int .i64 1)),none⟩,
     ⟨some 17,.mv (.tmp 31),none⟩]))))
structure LU {α:Type} (e:Nat) (c:α→List PV) (l m:Option (List α)) (g:Nat) (i:Nat) (f:aR):Prop where
 a:f 15=aK e c l
 b:f 1=aK e c m
 n:f 16=.sc (.int .i64 ((l.getD []).length:Int))
 i:f 17=.sc (.int .i64 (i:Int))
 g:f 2=.fn g [] []
theorem J3 {α:Type}{e t es sl:Nat}{z:Array Value}{c:α→List PV} (hc:∀x,(c x).length=es) (hz:(z.toList.map PV.sc).length=es) {l m:Option (List α)}{g i:Nat}{x y:α} (hox:(c x).all cL=true) (hoy:(c y).all cL=true) (hl:(l.getD [])[i]?=some x) (hm:(m.getD [])[i]?=some y) (hbig:(l.getD []).length < 4611686018427387904) {r:Bool}
  (hr:∀s,aD P Γ ext g [.agg (c x),.agg (c y)] s=some (.sc (.bool r),s)) {f:aR}{s:PS} (h:LU e c l m g i f) :
  ∃f' s',aN P Γ ext (sT t es z sl) f s=some (if r then (.normal,f',s') else (.ret,f',s'))∧(r=true→LU e c l m g (i + 1) f')∧(r=false→f' 6=.sc (.bool false))∧(∀n0,n0≤s.n→n0≤s.w→n0≤s'.n∧n0≤s'.w):=by
 obtain⟨l,rfl⟩ : ∃k,l=some k:=by cases l with | none=>simp at hl | some k=>exact⟨k,rfl⟩
 obtain⟨m,rfl⟩ : ∃k,m=some k:=by cases m with | none=>simp at hm | some k=>exact⟨k,rfl⟩
 simp only [Option.getD_some] at hl hm hbig;have hi:i < l.length:=(List.getElem?_eq_some_iff.1 hl).1;have hj:i < m.length:=(List.getElem?_eq_some_iff.1 hm).1;have h1:=aB hc l;have h2:=aB hc m;have h3:=kB hc hl;have h4:=kB hc hm;have h5:(decide ((i:Int) < (l.length:Int)))=true:=by simp; exact hi
 have h6:=fD (i:=i) (by omega);have ht:∀x,(c x).take es=c x:=fun x=>List.take_of_length_le (by rw [hc]; omega);obtain⟨ha,hb,hn,hii,hg⟩:=h;simp only [aK,Option.getD_some] at ha hb hn;cases r with
 | true=>
  simp -implicitDefEqProofs only [sT,bN,dL,eJ,cX,gF,db,eA,de,bO,bj,oD,aY,bM,Nat.zero_add,Option.map_some,Option.bind_some,cZ,bT,aU,Nat.reduceEqDiff,az,↓reduceIte,bY,fu,J8,nQ,ko,eu,cJ,dG,cD,dz,dn,yb,cR,Nat.left_eq_add,Nat.one_ne_zero,and_self,List.drop_zero,Nat.le_refl,u9,kK,C9,Bool.not_true,dH,List.map_cons,List.map_nil,List.nil_append,List.append_nil,Bool.true_eq_false,CW,sA,ha,hb,hn,hii,hg,hi,hj,h1,h2,h3,h4,h5,h6,hc,hox,hoy,hz,ht,hr];refine⟨_,_,rfl,fun _=>?_,fun hh=>(by cases hh),?_⟩
  ·constructor<;>simp -implicitDefEqProofs only [aU,Nat.reduceEqDiff,↓reduceIte,ha,hb,hn,hg,aK,Option.getD_some]
  ·intro n0 w1 w2;simp only [dn,jz,cD,ip];omega
 | false=>
  simp -implicitDefEqProofs only [sT,bN,dL,eJ,cX,gF,db,eA,de,bO,bj,oD,aY,bM,Nat.zero_add,Option.map_some,Option.bind_some,cZ,bT,aU,Nat.reduceEqDiff,az,↓reduceIte,bY,fu,kL,AZ,nQ,eu,cJ,dG,cD,dz,dn,yb,cR,Nat.left_eq_add,Nat.one_ne_zero,and_self,List.drop_zero,Nat.le_refl,kK,C9,Bool.not_false,dH,List.map_cons,List.map_nil,List.nil_append,List.append_nil,Bool.false_eq_true,CW,sA,ha,hb,hn,hii,hg,hi,hj,h1,h2,h3,h4,h5,hc,hox,hoy,hz,ht,hr];refine⟨_,_,rfl,fun hh=>(by cases hh),fun _=>?_,?_⟩
  ·simp -implicitDefEqProofs only [aU,↓reduceIte]
  ·intro n0 w1 w2;simp only [dn,jz,cD,ip];omega
def iR (r:Nat→Bool):Nat→Nat→Bool
 | _,0=>true
 | i,k + 1=>r i && iR r (i + 1) k
theorem MR {α:Type}{e t es sl:Nat}{z:Array Value}{c:α→List PV} (hc:∀x,(c x).length=es) (hz:(z.toList.map PV.sc).length=es) {l m:Option (List α)} (ho:∀x,x∈l.getD []∨x∈m.getD []→(c x).all cL=true) {g:Nat} (hlm:(l.getD []).length=(m.getD []).length) (hbig:(l.getD []).length < 4611686018427387904) {r:Nat→Bool}
  (hr:∀i x y,(l.getD [])[i]?=some x→(m.getD [])[i]?=some y→∀s,aD P Γ ext g [.agg (c x),.agg (c y)] s=some (.sc (.bool (r i)),s)):∀(k i:Nat) {f:aR}{s:PS},i + k=(l.getD []).length→LU e c l m g i f→
  ∃f' s',aN P Γ ext (.loop (sT t es z sl)) f s=some (if iR r i k then (.exit 0,f',s') else (.ret,f',s'))∧(iR r i k=false→f' 6=.sc (.bool false))∧(∀n0,n0≤s.n→n0≤s.w→n0≤s'.n∧n0≤s'.w):=by
 intro k
 induction k with
 | zero=>
  intro i f s hik h;have h5:(decide ((i:Int) < ((l.getD []).length:Int)))=false:=by simp only [decide_eq_false_iff_not]; omega
  rw [fO];obtain⟨ha,hb,hn,hii,hg⟩:=h;simp -implicitDefEqProofs only [sT,bN,dL,cX,gF,db,de,bO,bj,aY,bM,Option.map_some,cZ,aU,↓reduceIte,fu,nb,ko,eu,cJ,kK,Bool.true_eq_false,hn,hii,h5,iR];exact⟨_,_,rfl,fun hh=>(by cases hh),fun n0 w1 w2=>⟨w1,w2⟩⟩
 | succ k ih=>
  intro i f s hik h;have hi:i < (l.getD []).length:=by omega
  have hl:(l.getD [])[i]?=some (l.getD [])[i]:=List.getElem?_eq_getElem hi;have hm:(m.getD [])[i]?=some ((m.getD [])[i]'(by omega)):=List.getElem?_eq_getElem (by omega);obtain⟨f1,s1,e1,e2,e3,e4⟩:=J3 (t:=t) (sl:=sl) hc hz (ho _ (.inl (List.mem_of_getElem? hl))) (ho _ (.inr (List.mem_of_getElem? hm))) hl hm hbig (hr i _ _ hl hm) (s:=s) h;rw [fO,e1];cases hri:r i with
  | true=>
   rw [hri] at e2;simp only [hri,if_true,fu,iR,Bool.true_and];obtain⟨f',s',q1,q2,q3⟩:=ih (i + 1) (f:=f1) (s:=s1) (by omega) (e2 rfl);exact⟨f',s',q1,q2,fun n0 w1 w2=>q3 n0 (e4 n0 w1 w2).1 (e4 n0 w1 w2).2⟩
  | false=>
   rw [hri] at e3;simp only [hri,iR,Bool.false_and,Bool.false_eq_true,if_false,kL];exact⟨f1,s1,rfl,fun _=>e3 rfl,e4⟩
theorem tW {α:Type}{e t es sl:Nat}{z:Array Value}{c:α→List PV} (hc:∀x,(c x).length=es) (hz:(z.toList.map PV.sc).length=es) {G:Nat} (hG:Γ G=some (EI t es z sl)) {l m:Option (List α)} (ho:∀x,x∈l.getD []∨x∈m.getD []→(c x).all cL=true) {g:Nat} (hbig:(l.getD []).length < 4611686018427387904) {r:Nat→Bool}
  (hr:∀i x y,(l.getD [])[i]?=some x→(m.getD [])[i]?=some y→∀s,aD P Γ ext g [.agg (c x),.agg (c y)] s=some (.sc (.bool (r i)),s)) (s:PS) :
  aD P Γ ext G [aK e c l,aK e c m,.fn g [] []] s=some (.sc (.bool ((l.getD []).length == (m.getD []).length && iR r 0 (l.getD []).length)),s):=by
 rw [dT hG _ _ (by simp [EI])];have L1:=bE (e:=e) (c:=c) l;have L2:=bE (e:=e) (c:=c) m;by_cases hlm:(l.getD []).length=(m.getD []).length
 ·have hne:((((l.getD []).length:Int)) != ((m.getD []).length:Int))=false:=by simp [hlm]
  have heq:((l.getD []).length == (m.getD []).length)=true:=by simp [hlm]
  have hin:LU e c l m g 0 (aR.set (aR.set (aR.set (aR.set (aR.set (aR.set (aR.set (aR.set (aR.set (br [aK e c l,aK e c m,.fn g [] []] 0) 6 (.sc (.bool false))) 10 (aK e c l)) 11 (.sc (.int .i64 ((l.getD []).length:Int)))) 12 (aK e c m)) 13 (.sc (.int .i64 ((m.getD []).length:Int)))) 14 (.sc (.bool false))) 15 (aK e c l)) 16 (.sc (.int .i64 ((l.getD []).length:Int)))) 17 (.sc (.int .i64 0))):=by
   constructor<;>simp -implicitDefEqProofs only [br,Nat.zero_add,Nat.reduceAdd,aU,Nat.reduceEqDiff,↓reduceIte,Nat.one_ne_zero,reduceCtorEq]<;>rfl
  obtain⟨f',s',q1,q2,q3⟩:=MR (P:=P) (ext:=ext) (t:=t) (sl:=sl) hc hz ho hlm hbig hr (l.getD []).length 0 (s:=⟨s.h,s.n,s.n⟩) (by omega) hin;obtain⟨w1,w2⟩:=q3 s.n (Nat.le_refl _) (Nat.le_refl _);rw [heq,Bool.true_and];have e1:(EI t es z sl).body=.seq (.reg [⟨some 6,.mv (.const (.bool false)),none⟩]) (.seq (.seq (.reg [⟨some 10,.mv (.tmp 0),none⟩,⟨some 11,.len false (.tmp 10),none⟩,⟨some 12,.mv (.tmp 1),none⟩,⟨some 13,.len false (.tmp 12),none⟩,⟨some 14,.bin .neq sl (.tmp 11) (.tmp 13),none⟩]) (.cond (.tmp 14) (.seq (.reg [⟨some 6,.mv (.const (.bool false)),none⟩]) .ret) .skip))
   (.seq (.seq (.reg [⟨some 15,.mv (.tmp 0),none⟩,⟨some 16,.len false (.tmp 15),none⟩,⟨some 17,.mv (.const (.int .i64 0)),none⟩]) (.block 0 (.loop (sT t es z sl)))) (.seq (.reg [⟨some 6,.mv (.const (.bool true)),none⟩]) .ret))):=rfl
  rw [e1];simp only [br] at q1;cases hb:iR r 0 (l.getD []).length with
  | true=>
   rw [hb] at q1;simp -implicitDefEqProofs only [bN,dL,eJ,cX,db,eA,de,bO,bj,aY,bM,br,Nat.zero_add,Nat.reduceAdd,Option.map_some,cZ,bT,aU,Nat.reduceEqDiff,↓reduceIte,bY,fu,vL,ko,eu,cJ,Nat.one_ne_zero,jt,ek,gD,frz,il,fx,jI,reduceCtorEq,L1,L2,hne,q1];simp -implicitDefEqProofs only [EI,Option.map_some,Option.bind_some,aU,↓reduceIte,ii,Bool.false_eq_true,w2]
  | false=>
   rw [hb] at q1 q2;have q2':=q2 rfl;simp -implicitDefEqProofs only [bN,dL,eJ,cX,db,eA,de,bO,bj,aY,bM,br,Nat.zero_add,Nat.reduceAdd,Option.map_some,cZ,bT,aU,Nat.reduceEqDiff,↓reduceIte,bY,fu,kL,AZ,ko,eu,cJ,Nat.one_ne_zero,jt,ek,gD,frz,il,fx,jI,Bool.false_eq_true,reduceCtorEq,L1,L2,hne,q1];simp -implicitDefEqProofs only [EI,Option.map_some,Option.bind_some,↓reduceIte,ii,Bool.false_eq_true,w2,q2']
 ·have hne:((((l.getD []).length:Int)) != ((m.getD []).length:Int))=true:=by simp; omega
  have heq:((l.getD []).length == (m.getD []).length)=false:=by simp [hlm]
  simp -implicitDefEqProofs only [EI,bN,dL,eJ,cX,db,de,bO,bj,aY,bM,br,Nat.zero_add,Nat.reduceAdd,Option.map_some,Option.bind_some,cZ,bT,aU,Nat.reduceEqDiff,↓reduceIte,bY,fu,kL,nQ,eu,cJ,Nat.one_ne_zero,Nat.le_refl,jt,ek,ii,gD,frz,il,fx,jI,Bool.false_eq_true,reduceCtorEq,L1,L2,hne,heq,Bool.false_and]
end
section
variable {P:Program}{Γ:Nat→Option fJ}{ext:aq}
structure pS {α:Type} (e:Nat) (c:α→List PV) (l m:Option (List α)) (i:Nat) (f:aR):Prop where
 a:f 0=aK e c l
 b:f 1=aK e c m
 i:f 5=.sc (.int .i64 (i:Int))
def AK (inner:aW):aW:=(.seq (.seq (.reg [⟨some 11,.mv (.tmp 5),none⟩,⟨some 12,.mv (.tmp 0),none⟩,⟨some 13,.len false (.tmp 12),none⟩,⟨some 14,.bin .lss 3 (.tmp 11) (.tmp 13),none⟩]) (.cond (.tmp 14) (.skip) (.exit 0)))
    (.seq (.block 1 inner) (.reg [⟨some 15,.mv (.tmp 5),none⟩,⟨some 16,.bin .add 3 (.tmp 15) (.const (.int .i64 1)),none⟩,⟨some 5,.mv (.tmp 16),none⟩])))
def mN (nt:Nat) (inner:aW):fJ:=⟨nt,
 (.seq (.reg [⟨some 4,.mv (.const (.bool false)),none⟩])
 (.seq (.seq (.reg [⟨some 6,.mv (.tmp 0),none⟩,⟨some 7,.len false (.tmp 6),none⟩,⟨some 8,.mv (.tmp 1),none⟩,⟨some 9,.len false (.tmp 8),none⟩,⟨some 10,.bin .neq 3 (.tmp 7) (.tmp 9),none⟩])
  (.cond (.tmp 10) (.seq (.reg [⟨some 4,.mv (.const (.bool false)),none⟩]) .ret) (.skip)))
 (.seq (.seq (.reg [⟨some 5,.mv (.const (.int .i64 0)),none⟩]) (.block 0 (.loop (AK inner))))
 (.seq (.reg [⟨some 4,.mv (.const (.bool true)),none⟩]) .ret)))),[.tmp 4],false⟩
theorem H2 {α:Type}{e:Nat}{c:α→List PV}{l m:Option (List α)} (hlm:(l.getD []).length=(m.getD []).length) (hbig:(l.getD []).length < 4611686018427387904) {r:Nat→Bool}{inner:aW}
  (hr:∀i x y,(l.getD [])[i]?=some x→(m.getD [])[i]?=some y→∀f s,pS e c l m i f→∃f' s',aN P Γ ext (.block 1 inner) f s=some (if r i then (.normal,f',s') else (.ret,f',s'))∧(r i=true→f' 0=f 0∧f' 1=f 1∧f' 5=f 5)∧(r i=false→f' 4=.sc (.bool false))∧(∀n0,n0≤s.n→n0≤s.w→n0≤s'.n∧n0≤s'.w)) :
  ∀(k i:Nat) {f:aR}{s:PS},i + k=(l.getD []).length→pS e c l m i f→
  ∃f' s',aN P Γ ext (.loop (AK inner)) f s=some (if iR r i k then (.exit 0,f',s') else (.ret,f',s'))∧(iR r i k=false→f' 4=.sc (.bool false))∧(∀n0,n0≤s.n→n0≤s.w→n0≤s'.n∧n0≤s'.w):=by
 intro k
 induction k with
 | zero=>
  intro i f s hik h;have h5:(decide ((i:Int) < ((l.getD []).length:Int)))=false:=by simp only [decide_eq_false_iff_not]; omega
  have L1:=bE (e:=e) (c:=c) l;rw [fO];obtain⟨ha,hb,hii⟩:=h;simp -implicitDefEqProofs only [AK,bN,dL,cX,gF,db,de,bO,bj,aY,bM,Option.map_some,cZ,aU,Nat.reduceEqDiff,↓reduceIte,fu,nb,ko,eu,cJ,kK,Bool.true_eq_false,reduceCtorEq,ha,hii,L1,h5,iR];exact⟨_,_,rfl,fun hh=>(by cases hh),fun n0 w1 w2=>⟨w1,w2⟩⟩
 | succ k ih=>
  intro i f s hik h;have hi:i < (l.getD []).length:=by omega
  have hl:(l.getD [])[i]?=some (l.getD [])[i]:=List.getElem?_eq_getElem hi;have hm:(m.getD [])[i]?=some ((m.getD [])[i]'(by omega)):=List.getElem?_eq_getElem (by omega);have h5:(decide ((i:Int) < ((l.getD []).length:Int)))=true:=by simp only [decide_eq_true_iff]; omega
  have h6:=fD (i:=i) (by omega);have L1:=bE (e:=e) (c:=c) l;obtain⟨ha,hb,hii⟩:=h;obtain⟨f1,s1,e1,e2,e3,e4⟩:=hr i _ _ hl hm ((((f.set 11 (.sc (.int .i64 (i:Int)))).set 12 (aK e c l)).set 13 (.sc (.int .i64 ((l.getD []).length:Int)))).set 14 (.sc (.bool true))) s ⟨by simp -implicitDefEqProofs only [aU,↓reduceIte,reduceCtorEq,ha],by simp -implicitDefEqProofs only [aU,Nat.reduceEqDiff,↓reduceIte,hb],by simp -implicitDefEqProofs only [aU,Nat.reduceEqDiff,↓reduceIte,hii]⟩;have hstep:aN P Γ ext (AK inner) f s=gR (aN P Γ ext (.block 1 inner) ((((f.set 11 (.sc (.int .i64 (i:Int)))).set 12 (aK e c l)).set 13 (.sc (.int .i64 ((l.getD []).length:Int)))).set 14 (.sc (.bool true))) s) (aN P Γ ext (.reg [⟨some 15,.mv (.tmp 5),none⟩,⟨some 16,.bin .add 3 (.tmp 15) (.const (.int .i64 1)),none⟩,⟨some 5,.mv (.tmp 16),none⟩])):=by
   unfold AK;rw [bN,bN];have:aN P Γ ext (.seq (.block 1 inner) (.reg [⟨some 15,.mv (.tmp 5),none⟩,⟨some 16,.bin .add 3 (.tmp 15) (.const (.int .i64 1)),none⟩,⟨some 5,.mv (.tmp 16),none⟩]))=fun f s=>gR (aN P Γ ext (.block 1 inner) f s) (aN P Γ ext (.reg [⟨some 15,.mv (.tmp 5),none⟩,⟨some 16,.bin .add 3 (.tmp 15) (.const (.int .i64 1)),none⟩,⟨some 5,.mv (.tmp 16),none⟩])):=by
    funext f s; exact bN _ _ f s
   rw [this];simp -implicitDefEqProofs only [dL,db,cX,gF,de,bO,bj,aY,bM,cZ,aU,Nat.reduceEqDiff,↓reduceIte,Option.map_some,cJ,fu,nQ,eu,kK,ha,hii,L1,h5]
  rw [fO,hstep,e1];cases hri:r i with
  | true=>
   rw [hri] at e2;obtain⟨q0,q1,q5⟩:=e2 rfl;simp -implicitDefEqProofs only [aU,Nat.reduceEqDiff,↓reduceIte,reduceCtorEq,ha,hb,hii] at q0 q1 q5;simp -implicitDefEqProofs only [hri,fu,iR,Bool.true_and,dL,de,bO,bj,aY,bM,Option.map_some,cZ,bT,aU,↓reduceIte,bY,fu,cJ,u9,q5,h6];obtain⟨f',s',z1,z2,z3⟩:=ih (i + 1) (f:=((f1.set 15 (.sc (.int .i64 (i:Int)))).set 16 (.sc (.int .i64 ((i + 1:Nat):Int)))).set 5 (.sc (.int .i64 ((i + 1:Nat):Int)))) (s:=s1) (by omega) ⟨by simp -implicitDefEqProofs only [aU,↓reduceIte,reduceCtorEq,q0],by simp -implicitDefEqProofs only [aU,Nat.reduceEqDiff,↓reduceIte,q1],by simp -implicitDefEqProofs only [aU,↓reduceIte]⟩;exact⟨f',s',z1,z2,fun n0 w1 w2=>z3 n0 (e4 n0 w1 w2).1 (e4 n0 w1 w2).2⟩
  | false=>
   rw [hri] at e3;simp only [hri,iR,Bool.false_and,Bool.false_eq_true,if_false,kL];exact⟨f1,s1,rfl,fun _=>e3 rfl,e4⟩
theorem xZ {α:Type}{e:Nat}{c:α→List PV}{l m:Option (List α)} (hbig:(l.getD []).length < 4611686018427387904) {r:Nat→Bool}{inner:aW}{G nt:Nat} (hG:Γ G=some (mN nt inner)) (hnt : 2≤nt)
  (hr:∀i x y,(l.getD [])[i]?=some x→(m.getD [])[i]?=some y→∀f s,pS e c l m i f→∃f' s',aN P Γ ext (.block 1 inner) f s=some (if r i then (.normal,f',s') else (.ret,f',s'))∧(r i=true→f' 0=f 0∧f' 1=f 1∧f' 5=f 5)∧(r i=false→f' 4=.sc (.bool false))∧(∀n0,n0≤s.n→n0≤s.w→n0≤s'.n∧n0≤s'.w)) (s:PS) :
  aD P Γ ext G [aK e c l,aK e c m] s=some (.sc (.bool ((l.getD []).length == (m.getD []).length && iR r 0 (l.getD []).length)),s):=by
 rw [dT hG _ _ (by simpa [mN] using hnt)];have L1:=bE (e:=e) (c:=c) l;have L2:=bE (e:=e) (c:=c) m;by_cases hlm:(l.getD []).length=(m.getD []).length
 ·have hne:((((l.getD []).length:Int)) != ((m.getD []).length:Int))=false:=by simp [hlm]
  have heq:((l.getD []).length == (m.getD []).length)=true:=by simp [hlm]
  have hin:pS e c l m 0 (aR.set (aR.set (aR.set (aR.set (aR.set (aR.set (aR.set (br [aK e c l,aK e c m] 0) 4 (.sc (.bool false))) 6 (aK e c l)) 7 (.sc (.int .i64 ((l.getD []).length:Int)))) 8 (aK e c m)) 9 (.sc (.int .i64 ((m.getD []).length:Int)))) 10 (.sc (.bool false))) 5 (.sc (.int .i64 0))):=by
   constructor<;>simp -implicitDefEqProofs only [br,Nat.zero_add,aU,Nat.reduceEqDiff,↓reduceIte,Nat.one_ne_zero,reduceCtorEq]<;>rfl
  obtain⟨f',s',q1,q2,q3⟩:=H2 (P:=P) (ext:=ext) hlm hbig hr (l.getD []).length 0 (s:=⟨s.h,s.n,s.n⟩) (by omega) hin;obtain⟨w1,w2⟩:=q3 s.n (Nat.le_refl _) (Nat.le_refl _);rw [heq,Bool.true_and];simp only [br] at q1;cases hb:iR r 0 (l.getD []).length with
  | true=>
   rw [hb] at q1;simp -implicitDefEqProofs only [mN,bN,dL,eJ,cX,db,eA,de,bO,bj,aY,bM,br,Nat.zero_add,Option.map_some,Option.bind_some,cZ,bT,aU,Nat.reduceEqDiff,↓reduceIte,bY,fu,vL,ko,eu,cJ,Nat.one_ne_zero,jt,ek,ii,gD,frz,il,fx,jI,Bool.false_eq_true,reduceCtorEq,L1,L2,hne,q1];simp -implicitDefEqProofs only [↓reduceIte,w2]
  | false=>
   rw [hb] at q1 q2;have q2':=q2 rfl;simp -implicitDefEqProofs only [mN,bN,dL,eJ,cX,db,eA,de,bO,bj,aY,bM,br,Nat.zero_add,Option.map_some,Option.bind_some,cZ,bT,aU,Nat.reduceEqDiff,↓reduceIte,bY,fu,kL,AZ,ko,eu,cJ,Nat.one_ne_zero,jt,ek,ii,gD,frz,il,fx,jI,Bool.false_eq_true,reduceCtorEq,L1,L2,hne,q1];simp -implicitDefEqProofs only [Option.map_some,↓reduceIte,w2,q2']
 ·have hne:((((l.getD []).length:Int)) != ((m.getD []).length:Int))=true:=by simp; omega
  have heq:((l.getD []).length == (m.getD []).length)=false:=by simp [hlm]
  simp -implicitDefEqProofs only [mN,bN,dL,eJ,cX,db,de,bO,bj,aY,bM,br,Nat.zero_add,Option.map_some,Option.bind_some,cZ,bT,aU,Nat.reduceEqDiff,↓reduceIte,bY,fu,kL,nQ,eu,cJ,Nat.one_ne_zero,Nat.le_refl,jt,ek,ii,gD,frz,il,fx,jI,Bool.false_eq_true,reduceCtorEq,L1,L2,hne,heq,Bool.false_and]
def Ak (inner:aW):aW:=(.seq (.seq (.reg [⟨some 13,.mv (.tmp 5),none⟩,⟨some 14,.mv (.tmp 0),none⟩,⟨some 15,.len false (.tmp 14),none⟩,⟨some 16,.bin .lss 3 (.tmp 13) (.tmp 15),none⟩]) (.cond (.tmp 16) (.skip) (.exit 0)))
    (.seq (.block 1 inner) (.reg [⟨some 17,.mv (.tmp 5),none⟩,⟨some 18,.bin .add 3 (.tmp 17) (.const (.int .i64 1)),none⟩,⟨some 5,.mv (.tmp 18),none⟩])))
def xI (nt:Nat) (inner:aW):fJ:=⟨nt,
 (.seq (.reg [⟨some 4,.mv (.const (.bool false)),none⟩])
 (.seq (.seq (.reg [⟨some 8,.mv (.tmp 0),none⟩,⟨some 9,.len false (.tmp 8),none⟩,⟨some 10,.mv (.tmp 1),none⟩,⟨some 11,.len false (.tmp 10),none⟩,⟨some 12,.bin .neq 3 (.tmp 9) (.tmp 11),none⟩])
  (.cond (.tmp 12) (.seq (.reg [⟨some 4,.mv (.const (.bool false)),none⟩]) .ret) (.skip)))
 (.seq (.seq (.reg [⟨some 5,.mv (.const (.int .i64 0)),none⟩]) (.block 0 (.loop (Ak inner))))
 (.seq (.reg [⟨some 4,.mv (.const (.bool true)),none⟩]) .ret)))),[.tmp 4],false⟩
theorem Fv {α:Type}{e:Nat}{c:α→List PV}{l m:Option (List α)} (hlm:(l.getD []).length=(m.getD []).length) (hbig:(l.getD []).length < 4611686018427387904) {r:Nat→Bool}{inner:aW}
  (hr:∀i x y,(l.getD [])[i]?=some x→(m.getD [])[i]?=some y→∀f s,pS e c l m i f→∃f' s',aN P Γ ext (.block 1 inner) f s=some (if r i then (.normal,f',s') else (.ret,f',s'))∧(r i=true→f' 0=f 0∧f' 1=f 1∧f' 5=f 5)∧(r i=false→f' 4=.sc (.bool false))∧(∀n0,n0≤s.n→n0≤s.w→n0≤s'.n∧n0≤s'.w)) :
  ∀(k i:Nat) {f:aR}{s:PS},i + k=(l.getD []).length→pS e c l m i f→
  ∃f' s',aN P Γ ext (.loop (Ak inner)) f s=some (if iR r i k then (.exit 0,f',s') else (.ret,f',s'))∧(iR r i k=false→f' 4=.sc (.bool false))∧(∀n0,n0≤s.n→n0≤s.w→n0≤s'.n∧n0≤s'.w):=by
 intro k
 induction k with
 | zero=>
  intro i f s hik h;have h5:(decide ((i:Int) < ((l.getD []).length:Int)))=false:=by simp only [decide_eq_false_iff_not]; omega
  have L1:=bE (e:=e) (c:=c) l;rw [fO];obtain⟨ha,hb,hii⟩:=h;simp -implicitDefEqProofs only [Ak,bN,dL,cX,gF,db,de,bO,bj,aY,bM,Option.map_some,cZ,aU,Nat.reduceEqDiff,↓reduceIte,fu,nb,ko,eu,cJ,kK,Bool.true_eq_false,reduceCtorEq,ha,hii,L1,h5,iR];exact⟨_,_,rfl,fun hh=>(by cases hh),fun n0 w1 w2=>⟨w1,w2⟩⟩
 | succ k ih=>
  intro i f s hik h;have hi:i < (l.getD []).length:=by omega
  have hl:(l.getD [])[i]?=some (l.getD [])[i]:=List.getElem?_eq_getElem hi;have hm:(m.getD [])[i]?=some ((m.getD [])[i]'(by omega)):=List.getElem?_eq_getElem (by omega);have h5:(decide ((i:Int) < ((l.getD []).length:Int)))=true:=by simp only [decide_eq_true_iff]; omega
  have h6:=fD (i:=i) (by omega);have L1:=bE (e:=e) (c:=c) l;obtain⟨ha,hb,hii⟩:=h;obtain⟨f1,s1,e1,e2,e3,e4⟩:=hr i _ _ hl hm ((((f.set 13 (.sc (.int .i64 (i:Int)))).set 14 (aK e c l)).set 15 (.sc (.int .i64 ((l.getD []).length:Int)))).set 16 (.sc (.bool true))) s ⟨by simp -implicitDefEqProofs only [aU,↓reduceIte,reduceCtorEq,ha],by simp -implicitDefEqProofs only [aU,Nat.reduceEqDiff,↓reduceIte,hb],by simp -implicitDefEqProofs only [aU,Nat.reduceEqDiff,↓reduceIte,hii]⟩;have hstep:aN P Γ ext (Ak inner) f s=gR (aN P Γ ext (.block 1 inner) ((((f.set 13 (.sc (.int .i64 (i:Int)))).set 14 (aK e c l)).set 15 (.sc (.int .i64 ((l.getD []).length:Int)))).set 16 (.sc (.bool true))) s) (aN P Γ ext (.reg [⟨some 17,.mv (.tmp 5),none⟩,⟨some 18,.bin .add 3 (.tmp 17) (.const (.int .i64 1)),none⟩,⟨some 5,.mv (.tmp 18),none⟩])):=by
   unfold Ak;rw [bN,bN];have:aN P Γ ext (.seq (.block 1 inner) (.reg [⟨some 17,.mv (.tmp 5),none⟩,⟨some 18,.bin .add 3 (.tmp 17) (.const (.int .i64 1)),none⟩,⟨some 5,.mv (.tmp 18),none⟩]))=fun f s=>gR (aN P Γ ext (.block 1 inner) f s) (aN P Γ ext (.reg [⟨some 17,.mv (.tmp 5),none⟩,⟨some 18,.bin .add 3 (.tmp 17) (.const (.int .i64 1)),none⟩,⟨some 5,.mv (.tmp 18),none⟩])):=by
    funext f s; exact bN _ _ f s
   rw [this];simp -implicitDefEqProofs only [dL,db,cX,gF,de,bO,bj,aY,bM,cZ,aU,Nat.reduceEqDiff,↓reduceIte,Option.map_some,cJ,fu,nQ,eu,kK,ha,hii,L1,h5]
  rw [fO,hstep,e1];cases hri:r i with
  | true=>
   rw [hri] at e2;obtain⟨q0,q1,q5⟩:=e2 rfl;simp -implicitDefEqProofs only [aU,Nat.reduceEqDiff,↓reduceIte,reduceCtorEq,ha,hb,hii] at q0 q1 q5;simp -implicitDefEqProofs only [hri,fu,iR,Bool.true_and,dL,de,bO,bj,aY,bM,Option.map_some,cZ,bT,aU,↓reduceIte,bY,fu,cJ,u9,q5,h6];obtain⟨f',s',z1,z2,z3⟩:=ih (i + 1) (f:=((f1.set 17 (.sc (.int .i64 (i:Int)))).set 18 (.sc (.int .i64 ((i + 1:Nat):Int)))).set 5 (.sc (.int .i64 ((i + 1:Nat):Int)))) (s:=s1) (by omega) ⟨by simp -implicitDefEqProofs only [aU,↓reduceIte,reduceCtorEq,q0],by simp -implicitDefEqProofs only [aU,Nat.reduceEqDiff,↓reduceIte,q1],by simp -implicitDefEqProofs only [aU,↓reduceIte]⟩;exact⟨f',s',z1,z2,fun n0 w1 w2=>z3 n0 (e4 n0 w1 w2).1 (e4 n0 w1 w2).2⟩
  | false=>
   rw [hri] at e3;simp only [hri,iR,Bool.false_and,Bool.false_eq_true,if_false,kL];exact⟨f1,s1,rfl,fun _=>e3 rfl,e4⟩
theorem sN {α:Type}{e:Nat}{c:α→List PV}{l m:Option (List α)} (hbig:(l.getD []).length < 4611686018427387904) {r:Nat→Bool}{inner:aW}{G nt:Nat} (hG:Γ G=some (xI nt inner)) (hnt : 2≤nt)
  (hr:∀i x y,(l.getD [])[i]?=some x→(m.getD [])[i]?=some y→∀f s,pS e c l m i f→∃f' s',aN P Γ ext (.block 1 inner) f s=some (if r i then (.normal,f',s') else (.ret,f',s'))∧(r i=true→f' 0=f 0∧f' 1=f 1∧f' 5=f 5)∧(r i=false→f' 4=.sc (.bool false))∧(∀n0,n0≤s.n→n0≤s.w→n0≤s'.n∧n0≤s'.w)) (s:PS) :
  aD P Γ ext G [aK e c l,aK e c m] s=some (.sc (.bool ((l.getD []).length == (m.getD []).length && iR r 0 (l.getD []).length)),s):=by
 rw [dT hG _ _ (by simpa [xI] using hnt)];have L1:=bE (e:=e) (c:=c) l;have L2:=bE (e:=e) (c:=c) m;by_cases hlm:(l.getD []).length=(m.getD []).length
 ·have hne:((((l.getD []).length:Int)) != ((m.getD []).length:Int))=false:=by simp [hlm]
  have heq:((l.getD []).length == (m.getD []).length)=true:=by simp [hlm]
  have hin:pS e c l m 0 (aR.set (aR.set (aR.set (aR.set (aR.set (aR.set (aR.set (br [aK e c l,aK e c m] 0) 4 (.sc (.bool false))) 8 (aK e c l)) 9 (.sc (.int .i64 ((l.getD []).length:Int)))) 10 (aK e c m)) 11 (.sc (.int .i64 ((m.getD []).length:Int)))) 12 (.sc (.bool false))) 5 (.sc (.int .i64 0))):=by
   constructor<;>simp -implicitDefEqProofs only [br,Nat.zero_add,aU,Nat.reduceEqDiff,↓reduceIte,Nat.one_ne_zero,reduceCtorEq]<;>rfl
  obtain⟨f',s',q1,q2,q3⟩:=Fv (P:=P) (ext:=ext) hlm hbig hr (l.getD []).length 0 (s:=⟨s.h,s.n,s.n⟩) (by omega) hin;obtain⟨w1,w2⟩:=q3 s.n (Nat.le_refl _) (Nat.le_refl _);rw [heq,Bool.true_and];simp only [br] at q1;cases hb:iR r 0 (l.getD []).length with
  | true=>
   rw [hb] at q1;simp -implicitDefEqProofs only [xI,bN,dL,eJ,cX,db,eA,de,bO,bj,aY,bM,br,Nat.zero_add,Option.map_some,Option.bind_some,cZ,bT,aU,Nat.reduceEqDiff,↓reduceIte,bY,fu,vL,ko,eu,cJ,Nat.one_ne_zero,jt,ek,ii,gD,frz,il,fx,jI,Bool.false_eq_true,reduceCtorEq,L1,L2,hne,q1];simp -implicitDefEqProofs only [↓reduceIte,w2]
  | false=>
   rw [hb] at q1 q2;have q2':=q2 rfl;simp -implicitDefEqProofs only [xI,bN,dL,eJ,cX,db,eA,de,bO,bj,aY,bM,br,Nat.zero_add,Option.map_some,Option.bind_some,cZ,bT,aU,Nat.reduceEqDiff,↓reduceIte,bY,fu,kL,AZ,ko,eu,cJ,Nat.one_ne_zero,jt,ek,ii,gD,frz,il,fx,jI,Bool.false_eq_true,reduceCtorEq,L1,L2,hne,q1];simp -implicitDefEqProofs only [Option.map_some,↓reduceIte,w2,q2']
 ·have hne:((((l.getD []).length:Int)) != ((m.getD []).length:Int))=true:=by simp; omega
  have heq:((l.getD []).length == (m.getD []).length)=false:=by simp [hlm]
  simp -implicitDefEqProofs only [xI,bN,dL,eJ,cX,db,de,bO,bj,aY,bM,br,Nat.zero_add,Option.map_some,Option.bind_some,cZ,bT,aU,Nat.reduceEqDiff,↓reduceIte,bY,fu,kL,nQ,eu,cJ,Nat.one_ne_zero,Nat.le_refl,jt,ek,ii,gD,frz,il,fx,jI,Bool.false_eq_true,reduceCtorEq,L1,L2,hne,heq,Bool.false_and]
end
section
variable {P:Program}{Γ:Nat→Option fJ}{ext:aq}
theorem au (s:PS) (cs:List PV) (sz:Nat):BU s (.litp cs) sz=if sz≤cs.length then some (cs.take sz) else none:=(rfl)
def kP (P:Program) (Γ:Nat→Option fJ) (ext:aq) {α:Type} (e:Nat) (c:α→List PV) (inner:aW) (x y:α) (r:Bool):Prop:=
 ∀(l m:Option (List α)) (i:Nat),(l.getD [])[i]?=some x→(m.getD [])[i]?=some y→∀f s,pS e c l m i f→∃f' s',aN P Γ ext (.block 1 inner) f s=some (if r then (.normal,f',s') else (.ret,f',s'))∧(r=true→f' 0=f 0∧f' 1=f 1∧f' 5=f 5)∧(r=false→f' 4=.sc (.bool false))∧(∀n0,n0≤s.n→n0≤s.w→n0≤s'.n∧n0≤s'.w)
theorem nM {α:Type}{e t es sl:Nat}{z:Array Value}{c:α→List PV} (hc:∀x,(c x).length=es) (hz:(z.toList.map PV.sc).length=es) {G H nt g:Nat} (hG:Γ G=some (EI t es z sl)) {inner:aW} (hH:Γ H=some (mN nt inner)) (hnt : 2≤nt) {l m:Option (List α)} (ho:∀x,x∈l.getD []∨x∈m.getD []→(c x).all cL=true) (hbig:(l.getD []).length < 4611686018427387904)
  (hel:∀x∈l.getD [],∀y∈m.getD [],∃r,(∀s,aD P Γ ext g [.agg (c x),.agg (c y)] s=some (.sc (.bool r),s))∧kP P Γ ext e c inner x y r) :
  ∃r,(∀s,aD P Γ ext G [aK e c l,aK e c m,.fn g [] []] s=some (.sc (.bool r),s))∧∀s,aD P Γ ext H [aK e c l,aK e c m] s=some (.sc (.bool r),s):=by
 have key:∀i:Nat,∃r:Bool,∀x y:α,(l.getD [])[i]?=some x→(m.getD [])[i]?=some y→(∀s,aD P Γ ext g [.agg (c x),.agg (c y)] s=some (.sc (.bool r),s))∧kP P Γ ext e c inner x y r:=by
  intro i;cases hx:(l.getD [])[i]? with
  | none=>exact⟨true,fun x y h=>by cases h⟩
  | some x=>
   cases hy:(m.getD [])[i]? with
   | none=>exact⟨true,fun x y _ h=>by cases h⟩
   | some y=>
    obtain⟨r,hr⟩:=hel x (List.mem_of_getElem? hx) y (List.mem_of_getElem? hy);exact⟨r,fun x' y' h1 h2=>by injection h1 with h1; injection h2 with h2; subst h1; subst h2; exact hr⟩
 obtain⟨r,hr⟩:=Classical.axiomOfChoice key;refine⟨(l.getD []).length == (m.getD []).length && iR r 0 (l.getD []).length,fun s=>?_,fun s=>?_⟩
 ·exact tW hc hz hG ho hbig (fun i x y h1 h2=>(hr i x y h1 h2).1) s
 ·exact xZ hbig hH hnt (fun i x y h1 h2 f s hin=>(hr i x y h1 h2).2 l m i h1 h2 f s hin) s
end
section
variable {P:Program}{Γ:Nat→Option fJ}{ext:aq}
def W (r:kD) (Q:xf→aR→PS→Prop):Prop:=∃x f s,r=some (x,f,s)∧Q x f s
theorem QI (x:xf) (f:aR) (s:PS) (Q:xf→aR→PS→Prop):W (some (x,f,s)) Q↔Q x f s:=
 ⟨fun ⟨_,_,_,h,q⟩=>by injection h with h; injection h with h1 h; injection h with h2 h3; subst h1; subst h2; subst h3; exact q,fun q=>⟨_,_,_,rfl,q⟩⟩
theorem W.mono {r:kD}{Q Q':xf→aR→PS→Prop} (h:W r Q) (k:∀x f s,Q x f s→Q' x f s):W r Q':=
 let ⟨x,f,s,e,q⟩:=h; ⟨x,f,s,e,k x f s q⟩
def Dn (id:Nat) (N:aR→PS→Prop) (J:aR→PS→Prop) (R:aR→PS→Prop) (x:xf) (f:aR) (s:PS):Prop:=match x with
 | .normal=>N f s
 | .exit j=>j=id∧J f s
 | .ret=>R f s
theorem HT {body:aW}{id n:Nat}{I:Nat→aR→PS→Prop}{J R:aR→PS→Prop}
  (hr:∀i f s,i≤n→I i f s→W (aN P Γ ext body f s) (Dn id (fun f' s'=>i < n∧I (i + 1) f' s') J R)):∀(m i:Nat) (f:aR) (s:PS),i + m=n→I i f s→W (aN P Γ ext (.loop body) f s) (Dn id (fun _ _=>False) J R):=by
 intro m
 induction m with
 | zero=>
  intro i f s him h;obtain⟨x,f',s',e,q⟩:=hr i f s (by omega) h;rw [fO,e];cases x with
  | normal=>exact absurd q.1 (by omega)
  | exit j=>exact⟨_,_,_,rfl,q⟩
  | ret=>exact⟨_,_,_,rfl,q⟩
 | succ m ih=>
  intro i f s him h;obtain⟨x,f',s',e,q⟩:=hr i f s (by omega) h;rw [fO,e];cases x with
  | normal=>exact ih (i + 1) f' s' (by omega) q.2
  | exit j=>exact⟨_,_,_,rfl,q⟩
  | ret=>exact⟨_,_,_,rfl,q⟩
theorem Rz {body:aW}{id:Nat} (n:Nat) (I:Nat→aR→PS→Prop) (J:aR→PS→Prop) {k:aR→PS→kD}{Q:xf→aR→PS→Prop}{f:aR}{s:PS} (h0:I 0 f s)
  (hr:∀i f s,i≤n→I i f s→W (aN P Γ ext body f s) (Dn id (fun f' s'=>i < n∧I (i + 1) f' s') J (Q .ret))) (hk:∀f s,J f s→W (k f s) Q):W (gR (jm id (aN P Γ ext (.loop body) f s)) k) Q:=by
 obtain⟨x,f',s',e,q⟩:=HT hr n 0 f s (by omega) h0;rw [e];cases x with
 | normal=>exact q.elim
 | exit j=>
  obtain⟨rfl,q⟩:=q;rw [vL,if_pos rfl,fu];exact hk _ _ q
 | ret=>exact⟨_,_,_,rfl,q⟩
theorem SK {fn:fJ}{s:PS}{r:kD}{R:PV × PS→Prop} (h:W r fun x f' s'=>match x with | .exit _=>False | _=>∃q,ek fn s f' s'=some q∧R q):∃q,Ld fn s r=some q∧R q:=by
 obtain⟨x,f,s',rfl,q⟩:=h;cases x with
 | normal=>exact q
 | exit id=>exact q.elim
 | ret=>exact q
theorem Up (id:Nat) (N J R:aR→PS→Prop) (f:aR) (s:PS):Dn id N J R .normal f s↔N f s:=Iff.rfl
theorem TV (id j:Nat) (N J R:aR→PS→Prop) (f:aR) (s:PS):Dn id N J R (.exit j) f s↔(j=id∧J f s):=Iff.rfl
theorem U4 (id:Nat) (N J R:aR→PS→Prop) (f:aR) (s:PS):Dn id N J R .ret f s↔R f s:=Iff.rfl
def G6 (fn:fJ) (s:PS) (R:PV × PS→Prop) (x:xf) (f':aR) (s':PS):Prop:=match x with
 | .exit _=>False
 | _=>∃q,ek fn s f' s'=some q∧R q
theorem yS {fn:fJ}{s:PS}{R:PV × PS→Prop}{f':aR}{s':PS}{q:PV × PS} (h:ek fn s f' s'=some q) (hR:R q):G6 fn s R .ret f' s':=⟨q,h,hR⟩
theorem yE {g:Nat}{fn:fJ} (hg:Γ g=some fn) {args:List PV}{s:PS} (hl:args.length≤fn.nt) {R:PV × PS→Prop} (h:W (aN P Γ ext fn.body (br args 0) ⟨s.h,s.n,s.n⟩) (G6 fn s R)):∃q,aD P Γ ext g args s=some q∧R q:=by
 rw [dT hg _ _ hl];exact SK h
theorem kO {a b c:aW}{f:aR}{s:PS}{Q:xf→aR→PS→Prop} (h:W (aN P Γ ext (.seq a (.seq b c)) f s) Q):W (aN P Γ ext (.seq (.seq a b) c) f s) Q:=by
 obtain⟨x,f',s',e,q⟩:=h;refine⟨x,f',s',?_,q⟩;rw [bN] at e ⊢;rw [bN];cases h1:aN P Γ ext a f s with
 | none=>rw [h1] at e; cases e
 | some r=>
  obtain⟨y,f1,s1⟩:=r;rw [h1] at e;cases y with
  | normal=>rw [fu] at e ⊢; rw [bN] at e; exact e
  | exit id=>rw [nb] at e; rw [nb,nb]; exact e
  | ret=>rw [kL] at e; rw [kL,kL]; exact e
theorem fB {l:List PI}{b:aW}{f:aR}{s:PS}{Q:xf→aR→PS→Prop} (N:aR→PS→Prop) (h:∃f' s',ke P Γ ext l f s=some (f',s')∧N f' s') (hk:∀f s,N f s→W (aN P Γ ext b f s) Q):W (aN P Γ ext (.seq (.reg l) b) f s) Q:=by
 obtain⟨f',s',e,q⟩:=h;rw [bN,dL,e,cJ,fu];exact hk _ _ q
theorem ow {body b:aW}{id:Nat} (n:Nat) (I:Nat→aR→PS→Prop) (J:aR→PS→Prop) {Q:xf→aR→PS→Prop}{f:aR}{s:PS} (h0:I 0 f s)
  (hr:∀i f s,i≤n→I i f s→W (aN P Γ ext body f s) (Dn id (fun f' s'=>i < n∧I (i + 1) f' s') J (Q .ret))) (hk:∀f s,J f s→W (aN P Γ ext b f s) Q):W (aN P Γ ext (.seq (.block id (.loop body)) b) f s) Q:=by
 rw [bN,eA];exact Rz n I J h0 hr hk
theorem zk {l:List PI}{f:aR}{s:PS}{Q:xf→aR→PS→Prop} (h:∃f' s',ke P Γ ext l f s=some (f',s')∧Q .ret f' s'):W (aN P Γ ext (.seq (.reg l) .ret) f s) Q:=by
 obtain⟨f',s',e,q⟩:=h;rw [bN,dL,e,cJ,fu,eJ];exact⟨_,_,_,rfl,q⟩
theorem Ma (s:ByteArray):gq true (.sc (.string s))=some (.sc (.int .i64 (s.data.toList.length:Int))):=(rfl)
end
def dx {α:Type} (l:List α):Option (List α):=match l with
 | []=>none
 | l=>some l
theorem bV {α:Type} (l:List α):(dx l).getD []=l:=by cases l<;>rfl
def gL {α:Type} (e es:Nat) (c:α→List PV) (b:Nat) (l:List α) (v:PV) (s:PS):Prop:=
 (l=[]∧v=.sc (.slice none 0 0))∨(l≠[]∧∃k,b≤k∧k < s.n∧v=.own k 0 l.length (l.length * es)∧s.h k=⟨l.flatMap c,0,e⟩)
theorem gL.nil {α:Type} (e es:Nat) (c:α→List PV) (b:Nat) (s:PS):gL e es c b [] (.sc (.slice none 0 0)) s:=.inl ⟨rfl,rfl⟩
theorem GI {α:Type}{c:α→List PV}{m:List α} (ho:∀x∈m,(c x).all cL=true):(m.flatMap c).all cL=true:=by
 rw [List.all_flatMap];exact List.all_eq_true.2 ho
theorem gL.app {α:Type}{e es bytes b:Nat}{c:α→List PV}{l:List α}{v:PV}{s:PS} (hc:∀x,(c x).length=es) (h:gL e es c b l v s) (m:List α) (hes:es≠0) (hb:(l.length + m.length) * bytes≤140737488355328) (hn:l.length + m.length≤1073741824) (ho:∀x∈m,(c x).all cL=true) (hbn:b≤s.n) :
  ∃v' s',tO s e es bytes v (m.flatMap c) m.length=some (v',s')∧gL e es c b (l ++ m) v' s'∧(∀j,j < b→s'.h j=s.h j)∧s.n≤s'.n∧(∀n0,n0≤b→n0≤s.w→n0≤s'.w):=by
 by_cases hm:m=[]
 ·subst hm;refine⟨v,s,?_,by rw [List.append_nil]; exact h,fun _ _=>rfl,Nat.le_refl _,fun _ _ h=>h⟩;unfold tO;rw [if_pos (by rfl)];rw [if_pos];rcases h with ⟨_,rfl⟩ | ⟨_,k,_,_,rfl,_⟩<;>rfl
 ·have hm0:m.length≠0:=by simpa using hm
  have hfl:=aB hc m;have hone:=GI ho;rcases h with ⟨rfl,rfl⟩ | ⟨hl,k,k1,k2,rfl,k3⟩
  ·refine⟨.own s.n 0 m.length (m.flatMap c).length,s.new ⟨m.flatMap c,0,e⟩,?_,.inr ⟨hm,s.n,hbn,by rw [cD]; omega,?_,?_⟩,fun j hj=>?_,by rw [cD]; omega,fun n0 _ hw=>by rw [ip]; exact hw⟩
   ·unfold tO;rw [if_neg hm0];simp only;rw [if_pos ⟨hes,hfl,by simpa using hb,by simpa using hn,hone⟩]
   ·rw [List.nil_append,hfl]
   ·rw [dG,if_pos rfl,List.nil_append]
   ·rw [dG,if_neg (by omega)]
  ·have hfl':=aB hc l;refine⟨.own k 0 (l.length + m.length) (l.length * es + (m.flatMap c).length),s.put k ⟨l.flatMap c ++ m.flatMap c,0,e⟩,?_,.inr ⟨by simp [hm],k,k1,by rw [dn]; exact k2,?_,?_⟩,fun j hj=>?_,by rw [dn]; exact Nat.le_refl _,fun n0 h1 h2=>by rw [jz]; omega⟩
   ·unfold tO;rw [if_neg hm0];simp only [k3];rw [if_pos ⟨⟨hes,hfl,hb,hn,hone⟩,by omega,hfl'.symm,Nat.zero_le _,trivial,trivial⟩]
   ·rw [List.length_append,hfl,Nat.add_mul]
   ·rw [dz,if_pos rfl,List.flatMap_append]
   ·rw [dz,if_neg (by omega)]
theorem gL.frz {α:Type}{e es b n0:Nat}{c:α→List PV}{l:List α}{v:PV}{s:PS} (hc:∀x,(c x).length=es) (h:gL e es c b l v s) (hn:n0≤b) (hcl:∀x∈l,(c x).all cP=true):fx n0 s v=some (aK e c (dx l)):=by
 rcases h with ⟨rfl,rfl⟩ | ⟨hl,k,k1,k2,rfl,k3⟩
 ·rfl
 ·have hfl:=aB hc l;have hall:(l.flatMap c).all cP=true:=by rw [List.all_flatMap]; exact List.all_eq_true.2 hcl
  unfold fx;simp only [k3,List.drop_zero,Nat.sub_zero];rw [if_neg (by omega)];rw [List.take_of_length_le (by omega),if_pos ⟨Nat.zero_le _,by omega,Nat.zero_le _,hall⟩];cases l with
  | nil=>exact absurd rfl hl
  | cons a l=>rfl
theorem zl {n:Nat}{s:PS}{v p:PV} (h:fx n s v=some p):frz n s v=some p:=by
 cases v with
 | tup vs=>cases h
 | agg cs=>cases h
 | _=>exact h
theorem gL.new {α:Type}{e es b:Nat}{c:α→List PV}{l:List α}{v:PV}{s:PS} (h:gL e es c b l v s) (k:Dk):gL e es c b l v (s.new k):=by
 rcases h with h | ⟨hl,k,k1,k2,rfl,k3⟩
 ·exact .inl h
 ·exact .inr ⟨hl,k,k1,by rw [cD]; omega,rfl,by rw [dG,if_neg (by omega)]; exact k3⟩
theorem gL.frame {α:Type}{e es b:Nat}{c:α→List PV}{l:List α}{v:PV}{s s':PS} (h:gL e es c b l v s) (hn:s.n≤s'.n) (hh:∀j,j < s.n→s'.h j=s.h j):gL e es c b l v s':=by
 rcases h with h | ⟨hl,k,k1,k2,rfl,k3⟩
 ·exact .inl h
 ·exact .inr ⟨hl,k,k1,by omega,rfl,by rw [hh k k2]; exact k3⟩
theorem rH {α:Type}{e es:Nat}{c:α→List PV} (hc:∀x,(c x).length=es) (l:Option (List α)) (s:PS):i5 s es (aK e c l)=some ((l.getD []).flatMap c,(l.getD []).length):=by
 cases l with
 | none=>rfl
 | some l=>
  show (if (l.flatMap c).length=l.length * es then some (l.flatMap c,l.length) else none)=_;rw [if_pos (aB hc l)]; rfl
def BP (v:Value):Nat:=match v with
 | .string b=>b.data.toList.length + 1
 | _=>1
theorem Mz (v:Value) : 1≤BP v:=by cases v<;>simp [BP]
mutual
def PV.bulk:PV→Nat
 | .sc v=>BP v
 | .agg cs=>aM cs + 1
 | .tup vs=>aM vs + 1
 | .lit _ _ cs=>aM cs + 1
 | .litp cs=>aM cs + 1
 | .litx _ _ cs=>aM cs + 1
 | .own ..=>1
 | .ptr ..=>1
 | .fn ..=>1
def aM:List PV→Nat
 | []=>0
 | p :: l=>p.bulk + aM l
end
theorem rR (p:PV) : 1≤p.bulk:=by cases p<;>simp [PV.bulk,Mz]
theorem ch (p:PV) (l:List PV):aM (p :: l)=p.bulk + aM l:=by simp [aM]
theorem ck:aM []=0:=by simp [aM]
theorem iL (l m:List PV):aM (l ++ m)=aM l + aM m:=by
 induction l with
 | nil=>simp [ck]
 | cons p l ih=>simp only [List.cons_append,ch,ih]; omega
theorem sB (l:List PV):l.length≤aM l:=by
 induction l with
 | nil=>simp
 | cons p l ih=>have:=rR p; rw [ch,List.length_cons]; omega
theorem ga {p:PV}{l:List PV} (h:p∈l):p.bulk≤aM l:=by
 induction l with
 | nil=>cases h
 | cons q l ih=>
  rw [ch];rcases List.mem_cons.1 h with rfl | h
  ·omega
  ·have:=ih h; omega
theorem gw {α:Type}{c:α→List PV}{x:α}{l:List α} (h:x∈l):aM (c x)≤aM (l.flatMap c):=by
 induction l with
 | nil=>cases h
 | cons y l ih=>
  rw [List.flatMap_cons,iL];rcases List.mem_cons.1 h with rfl | h
  ·omega
  ·have:=ih h; omega
theorem dB {α:Type} (e:Nat) (c:α→List PV) (l:Option (List α)):aM ((l.getD []).flatMap c) + 1=(aK e c l).bulk:=by
 cases l with
 | none=>simp [aK,PV.bulk,ck,BP]
 | some l=>simp [aK,PV.bulk]
theorem gY {α:Type}{e:Nat}{c:α→List PV} (hc:∀x,1≤(c x).length) (l:Option (List α)):(l.getD []).length + 1≤(aK e c l).bulk:=by
 rw [← dB];have h:=sB ((l.getD []).flatMap c);have:∀m:List α,m.length≤(m.flatMap c).length:=by
  intro m
  induction m with
  | nil=>simp
  | cons a m ih=>have:=hc a; simp only [List.flatMap_cons,List.length_append,List.length_cons]; omega
 have:=this (l.getD []);omega
theorem Aw {α β:Type}{c:α→List PV}{g:α→List β} : ∀(l:List α),(∀x∈l,(g x).length≤aM (c x))→(l.flatMap g).length≤aM (l.flatMap c):=by
 intro l
 induction l with
 | nil=>intro _; simp
 | cons a l ih=>
  intro h;have h1:=h a List.mem_cons_self;have h2:=ih fun x hx=>h x (List.mem_cons_of_mem _ hx);rw [List.flatMap_cons,List.flatMap_cons,iL,List.length_append]; omega
section
variable {P:Program}{Γ:Nat→Option fJ}{ext:aq}
theorem sU {e:Nat} (s:PS) (cs:List PV):i5 (s.new ⟨cs,0,e⟩) cs.length (.own s.n 0 1 cs.length)=some (cs,1):=by
 unfold i5;simp only [dG,if_true,Nat.zero_add,Nat.one_mul,Nat.zero_le,Nat.le_refl,and_self,List.drop_zero,List.take_length]
end
def mt (d t:Nat):PI:=⟨some d,.mv (.tmp t),none⟩
def mk (d:Nat) (v:Value):PI:=⟨some d,.mv (.const v),none⟩
def gt (j:Nat) (w:Bool) (d t:Nat):PI:=⟨some d,.mv (.tmp t),some (j,w)⟩
def ob (d:Nat) (p:lc):PI:=⟨some d,p,none⟩
def og (j:Nat) (w:Bool) (d:Nat) (p:lc):PI:=⟨some d,p,some (j,w)⟩
def o0 (p:lc):PI:=⟨none,p,none⟩
def g0 (j:Nat) (w:Bool) (p:lc):PI:=⟨none,p,some (j,w)⟩
abbrev tp (n:Nat):Operand:=.tmp n
abbrev ki (n:Int):Operand:=.const (.int .i64 n)
abbrev kb (b:Bool):Operand:=.const (.bool b)
abbrev ks (l:Array UInt8):Operand:=.const (.string ⟨l⟩)
def bn (o:BinOp) (t x y:Nat):lc:=.bin o t (.tmp x) (.tmp y)
def bi (o:BinOp) (x:Nat) (n:Int):lc:=.bin o 3 (.tmp x) (.const (.int .i64 n))
def bc (o:BinOp) (x:Nat) (n:Int):lc:=.bin o 5 (.tmp x) (.const (.int .u8 n))
def pk (a b:Nat):lc:=.pick (.tmp a) (.tmp b) (.const (.bool false))
def po (a b:Nat):lc:=.pick (.tmp a) (.const (.bool true)) (.tmp b)
def cl (g:Nat) (l:List Operand):lc:=.call (.func g) l
def t7 (l:List PI) (t:Nat) (a b:aW):aW:=.seq (.reg l) (.cond (.tmp t) a b)
def sr (l:List PI) (c:aW):aW:=.seq (.reg l) c
def lt (id:Nat) (b r:aW):aW:=.seq (.block id (.loop b)) r
end Go.PE
