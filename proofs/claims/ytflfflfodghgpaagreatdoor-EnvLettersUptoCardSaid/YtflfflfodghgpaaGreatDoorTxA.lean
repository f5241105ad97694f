/- What functions of the program and of the reference compute, on values. No statement is proved here. -/
import Derived.Test.YtflfflfodghgpaaGreatDoorPeB
import Derived.Test.YtflfflfodghgpaaGreatDoorProg
set_option linter.unusedSimpArgs false
set_option linter.unusedVariables false
namespace Go.Proofs.YtflfflfodghgpaaGreatDoor
open Go Go.EvL Go.PE
theorem UR {α} (l:List α):Array.mk l=l.toArray:=rfl
theorem UP (n:Nat):Int.ofNat (no_index (OfNat.ofNat n))=(OfNat.ofNat n:Int):=rfl
theorem UO (n:Nat) (h:no_index (OfNat.ofNat n) < 2^8):UInt8.ofBitVec (BitVec.ofFin (Fin.mk (no_index (OfNat.ofNat n)) h))=(OfNat.ofNat n:UInt8):=by
 apply UInt8.toNat_inj.1; simp only [UInt8.toNat,BitVec.toNat]; exact (Nat.mod_eq_of_lt h).symm
set_option maxRecDepth 100000
abbrev QA (f:Func) (k:Bool) (c:fN):=sV Tryz.prog f k=some c
theorem TA {f k c} (h:QA f k c:=by unfold QA; conv=>lhs; reduce; dsimp only [UP,Int.reduceNegSucc,UR]; try simp only [UO]):QA f k c:=h
def iw:=(fun c (_:QA Tryz.f15 false c)=>c) _ TA
def Sf:=(fun c (_:QA Tryz.f57 false c)=>c) _ TA
def QY:=(fun c (_:QA Tryz.f58 false c)=>c) _ TA
def Tb:=(fun c (_:QA Tryz.f59 false c)=>c) _ TA
def Rz:=(fun c (_:QA Tryz.f185 false c)=>c) _ TA
def L0:=(fun c (_:QA Tryz.f186 false c)=>c) _ TA
def U8:=(fun c (_:QA Tryz.f248 false c)=>c) _ TA
def B1:=(fun c (_:QA Tryz.f249 false c)=>c) _ TA
end Go.Proofs.YtflfflfodghgpaaGreatDoor
namespace Go.PE
open Go Go.EvL
section
variable {P:Program}{Γ:Nat→Option fN}{ext:ai}
theorem ax (f:aO) (s:PS):kg P Γ ext [] f s=some (f,s):=(rfl)
theorem xm (i:PI) (l:List PI) (f:aO) (s:PS):kg P Γ ext (i :: l) f s=(vC P Γ ext i f s).bind fun q=>kg P Γ ext l q.1 q.2:=(rfl)
noncomputable def BX (P:Program) (Γ:Nat→Option fN) (ext:ai) (r:Option (PV × PS)) (d:Option Nat) (f:aO) (l:List PI):Option (aO × PS):=r.bind fun q=>kg P Γ ext l (Bi f d q.1) q.2
noncomputable def JF (P:Program) (Γ:Nat→Option fN) (ext:ai) (b:Option Bool) (d:Option Nat) (o:kK) (f:aO) (s:PS) (l:List PI):Option (aO × PS):=match b with
 | some true=>BX P Γ ext (aN P (aU P Γ ext) f s o) d f l
 | some false=>kg P Γ ext l (Bi f d (.sc undef)) s
 | none=>none
theorem aq (v:PV) (s:PS) (d:Nat) (f:aO) (l:List PI):BX P Γ ext (some (v,s)) (some d) f l=kg P Γ ext l (f.set d v) s:=(rfl)
theorem jK (v:PV) (s:PS) (f:aO) (l:List PI):BX P Γ ext (some (v,s)) none f l=kg P Γ ext l f s:=(rfl)
theorem fD (d:Option Nat) (o:kK) (f:aO) (s:PS) (l:List PI):JF P Γ ext (some true) d o f s l=BX P Γ ext (aN P (aU P Γ ext) f s o) d f l:=(rfl)
theorem fq (d:Nat) (o:kK) (f:aO) (s:PS) (l:List PI):JF P Γ ext (some false) (some d) o f s l=kg P Γ ext l (f.set d (.sc undef)) s:=(rfl)
theorem sT (o:kK) (f:aO) (s:PS) (l:List PI):JF P Γ ext (some false) none o f s l=kg P Γ ext l f s:=(rfl)
theorem bg (d:Option Nat) (o:kK) (l:List PI) (f:aO) (s:PS):kg P Γ ext (⟨d,o,none⟩ :: l) f s=BX P Γ ext (aN P (aU P Γ ext) f s o) d f l:=by
 rw [xm];unfold BX vC gW;simp only [ef];cases aN P (aU P Γ ext) f s o<;>rfl
theorem j8 (d:Option Nat) (o:kK) (j:Nat) (w:Bool) (l:List PI) (f:aO) (s:PS):kg P Γ ext (⟨d,o,some (j,w)⟩ :: l) f s=JF P Γ ext (ef f (some (j,w))) d o f s l:=by
 rw [xm];unfold JF BX vC gW;simp only;cases ef f (some (j,w)) with
 | none=>rfl
 | some b=>cases b with
  | false=>rfl
  | true=>simp only; cases aN P (aU P Γ ext) f s o<;>rfl
def I3 (r:Option (aO × PS)):jI:=r.map fun q=>(.normal,q.1,q.2)
theorem aK (f:aO) (s:PS):I3 (some (f,s))=some (.normal,f,s):=(rfl)
theorem bB (l:List PI) (f:aO) (s:PS):aS P Γ ext (.reg l) f s=I3 (kg P Γ ext l f s):=GY l f s
theorem cG (f:aO) (s:PS) (k:aO→PS→jI):gR (some (.normal,f,s)) k=k f s:=(rfl)
theorem mq (f:aO) (s:PS) (k:aO→PS→jI):gR (some (.ret,f,s)) k=some (.ret,f,s):=(rfl)
theorem iT (id:Nat) (f:aO) (s:PS) (k:aO→PS→jI):gR (some (.exit id,f,s)) k=some (.exit id,f,s):=(rfl)
theorem lF (id:Nat) (f:aO) (s:PS):ip id (some (.normal,f,s))=some (.normal,f,s):=(rfl)
theorem pw (id:Nat) (f:aO) (s:PS):ip id (some (.ret,f,s))=some (.ret,f,s):=(rfl)
theorem w8 (id i:Nat) (f:aO) (s:PS):ip id (some (.exit i,f,s))=if i=id then some (.normal,f,s) else some (.exit i,f,s):=by
 show some (if i=id then _ else _)=_;split<;>rfl
theorem fy (x y:jI):mL (some true) x y=x:=(rfl)
theorem gq (x y:jI):mL (some false) x y=y:=(rfl)
theorem bz (b:Bool):jy (.sc (.bool b))=some b:=(rfl)
noncomputable def LM (fn:fN) (s:PS) (r:jI):Option (PV × PS):=r.bind fun q=>N5 q (aP fn s)
theorem i4 (fn:fN) (s:PS) (f:aO) (s':PS):LM fn s (some (.ret,f,s'))=aP fn s f s':=(rfl)
theorem K6 (fn:fN) (s:PS) (f:aO) (s':PS):LM fn s (some (.normal,f,s'))=aP fn s f s':=(rfl)
theorem gv {g:Nat}{fn:fN} (h:Γ g=some fn) (args:List PV) (s:PS) (hl:args.length≤fn.nt):aU P Γ ext g args s=LM fn s (aS P Γ ext fn.body (cK args 0) ⟨s.h,s.n,s.n⟩):=by
 rw [HL h,if_pos hl]; rfl
theorem fJ {fn:fN}{s:PS}{f:aO}{s':PS}{vs:List PV}{v:PV} (hk:fn.keep=false) (hr:ck f s' fn.res=some vs) (hw:s.n≤s'.w) (hv:frz s.n s' (br vs)=some v):aP fn s f s'=some (v,s):=by
 unfold aP;rw [hr];simp only [Option.bind_some,hk,Bool.false_eq_true,if_false,if_pos hw,hv,Option.map_some]
theorem s7 (j:Nat) (acc:List (Nat × iY × Nat × Nat)) (f:aO) (s:PS):mZ P Γ ext [] j acc f s=some (f,s):=(rfl)
noncomputable def Dx (P:Program) (Γ:Nat→Option fN) (ext:ai) (r:Option (PV × PS)) (d:Option Nat) (E:iY) (pu:Bool) (un:List Nat) (l:List (PI × List Nat × List Nat)) (j:Nat) (acc:List (Nat × iY × Nat × Nat)) (f:aO) (s:PS):Option (aO × PS):=
 r.bind fun q=>if pu=true∧cH un E acc then mZ P Γ ext l (j + 1) ((j,E,s.n,q.2.n) :: acc) (Bi f d q.1) q.2 else none
noncomputable def Tm (P:Program) (Γ:Nat→Option fN) (ext:ai) (b:Option Bool) (d:Option Nat) (o:kK) (ls un:List Nat) (l:List (PI × List Nat × List Nat)) (j:Nat) (acc:List (Nat × iY × Nat × Nat)) (f:aO) (s:PS):Option (aO × PS):=match b with
 | some true=>Dx P Γ ext (aN P (aU P Γ ext) (dj ls f) s o) d (cC (dj ls f) o) (gy (ez Γ) (dj ls f) ⟨d,o,none⟩) un l j acc f s
 | some false=>Dx P Γ ext (some (.sc undef,s)) d ⟨[],[],false,false⟩ (gy (ez Γ) (dj ls f) ⟨d,o,none⟩) un l j acc f s
 | none=>none
theorem uB (v:PV) (s':PS) (d:Nat) (E:iY) (un:List Nat) (l:List (PI × List Nat × List Nat)) (j:Nat) (acc:List (Nat × iY × Nat × Nat)) (f:aO) (s:PS) (h:cH un E acc):Dx P Γ ext (some (v,s')) (some d) E true un l j acc f s=mZ P Γ ext l (j + 1) ((j,E,s.n,s'.n) :: acc) (f.set d v) s':=by
 unfold Dx;simp only [Option.bind_some,h,and_self,if_true];rfl
theorem vj (v:PV) (s':PS) (E:iY) (un:List Nat) (l:List (PI × List Nat × List Nat)) (j:Nat) (acc:List (Nat × iY × Nat × Nat)) (f:aO) (s:PS) (h:cH un E acc):Dx P Γ ext (some (v,s')) none E true un l j acc f s=mZ P Γ ext l (j + 1) ((j,E,s.n,s'.n) :: acc) f s':=by
 unfold Dx;simp only [Option.bind_some,h,and_self,if_true];rfl
theorem Jt (f:aO) (d:Nat) (v:PV):aO.set f d v d=v:=if_pos rfl
theorem rL (f h:aO) (d:Option Nat) (v:PV):Hy f d (Bi h d v)=Bi f d v:=by
 cases d with
 | none=>rfl
 | some d=>show aO.set f d (aO.set h d v d)=_; rw [Jt]; rfl
theorem rj (d:Option Nat) (o:kK) (ls un:List Nat) (l:List (PI × List Nat × List Nat)) (j:Nat) (acc:List (Nat × iY × Nat × Nat)) (f:aO) (s:PS):mZ P Γ ext ((⟨d,o,none⟩,ls,un) :: l) j acc f s =
  Dx P Γ ext (aN P (aU P Γ ext) (dj ls f) s o) d (cC (dj ls f) o) (gy (ez Γ) (dj ls f) ⟨d,o,none⟩) un l j acc f s:=by
 unfold Dx;show (gW P (aU P Γ ext) ⟨d,o,none⟩ (dj ls f) s).bind _=_;unfold gW;simp only [ef];cases aN P (aU P Γ ext) (dj ls f) s o with
 | none=>rfl
 | some q=>
  simp only [Option.map_some,Option.bind_some,rL];rfl
theorem E9 (d:Option Nat) (o:kK) (x:Nat) (w:Bool) (ls un:List Nat) (l:List (PI × List Nat × List Nat)) (j:Nat) (acc:List (Nat × iY × Nat × Nat)) (f:aO) (s:PS):mZ P Γ ext ((⟨d,o,some (x,w)⟩,ls,un) :: l) j acc f s =
  Tm P Γ ext (ef (dj ls f) (some (x,w))) d o ls un l j acc f s:=by
 unfold Tm;show (gW P (aU P Γ ext) ⟨d,o,some (x,w)⟩ (dj ls f) s).bind _=_;unfold gW;simp only;cases hg:ef (dj ls f) (some (x,w)) with
 | none=>rfl
 | some b=>
  cases b with
  | true=>
   unfold Dx;have he:qd (dj ls f) ⟨d,o,some (x,w)⟩=cC (dj ls f) o:=by simp only [qd,hg]
   have hpu:gy (ez Γ) (dj ls f) ⟨d,o,some (x,w)⟩=gy (ez Γ) (dj ls f) ⟨d,o,none⟩:=rfl;cases aN P (aU P Γ ext) (dj ls f) s o with
   | none=>rfl
   | some q=>
    simp only [Option.map_some,Option.bind_some,rL,he,hpu];rfl
  | false=>
   unfold Dx;have he:qd (dj ls f) ⟨d,o,some (x,w)⟩=⟨[],[],false,false⟩:=by simp only [qd,hg]
   have hpu:gy (ez Γ) (dj ls f) ⟨d,o,some (x,w)⟩=gy (ez Γ) (dj ls f) ⟨d,o,none⟩:=rfl;simp only [Option.bind_some,rL,he,hpu];rfl
theorem zm (l:List (PI × List Nat × List Nat)) (f:aO) (s:PS):aS P Γ ext (.draw l) f s=I3 (mZ P Γ ext l 0 [] f s):=CL l f s
theorem zh (ls:List Nat) (f:aO) (t:Nat):dj ls f t=if t∈ls then f t else .sc undef:=(rfl)
theorem se (un:List Nat) (F:iY):cH un F []:=fun e he=>by cases he
theorem Bb (F:iY) (acc:List (Nat × iY × Nat × Nat)):cH [] F acc:=fun e _ he=>by cases he
theorem Ez (un:List Nat) (acc:List (Nat × iY × Nat × Nat)):cH un ⟨[],[],false,false⟩ acc:=fun e _ _=>by
 refine⟨fun k _=>⟨?_,?_⟩,?_,?_,?_,?_,?_,?_⟩<;>simp
theorem pY (un:List Nat) (F:iY) (e:Nat × iY × Nat × Nat) (acc:List (Nat × iY × Nat × Nat)):cH un F (e :: acc)↔(e.1∈un→bM e.2.1 e.2.2.1 e.2.2.2 F)∧cH un F acc:=by
 unfold cH; simp
theorem uW (E:iY) (a b:Nat):bM E a b ⟨[],[],false,false⟩:=by
 refine⟨fun k _=>⟨?_,?_⟩,?_,?_,?_,?_,?_,?_⟩<;>simp
theorem rW (li:Bool) (a b k:Nat) (h:b≤k):bM ⟨[],[],li,false⟩ a b ⟨[k],[k],false,false⟩:=by
 unfold bM; simp; omega
theorem zN (d:Option Nat) (o:kK) (ls un:List Nat) (l:List (PI × List Nat × List Nat)) (j:Nat) (acc:List (Nat × iY × Nat × Nat)) (f:aO) (s:PS):Tm P Γ ext (some true) d o ls un l j acc f s=Dx P Γ ext (aN P (aU P Γ ext) (dj ls f) s o) d (cC (dj ls f) o) (gy (ez Γ) (dj ls f) ⟨d,o,none⟩) un l j acc f s:=(rfl)
theorem wM (d:Option Nat) (o:kK) (ls un:List Nat) (l:List (PI × List Nat × List Nat)) (j:Nat) (acc:List (Nat × iY × Nat × Nat)) (f:aO) (s:PS):Tm P Γ ext (some false) d o ls un l j acc f s=Dx P Γ ext (some (.sc undef,s)) d ⟨[],[],false,false⟩ (gy (ez Γ) (dj ls f) ⟨d,o,none⟩) un l j acc f s:=(rfl)
theorem rY (E:iY) (a b:Nat):bM E a b ⟨[],[],true,false⟩↔E.ca=false:=by
 unfold bM; simp
theorem G9 (b:Bool):(b == true)=b:=by cases b<;>rfl
theorem Gw (b:Bool):(b == false)=!b:=by cases b<;>rfl
theorem aI (f:aO) (t:Nat):bU f (.tmp t)=f t:=(rfl)
theorem aC (f:aO) (v:Value):bU f (.const v)=bH v:=(rfl)
theorem fB (f:aO) (g:Nat):bU f (.func g)=.fn g [] []:=(rfl)
theorem aM (f:aO) (d:Nat) (v:PV) (j:Nat):aO.set f d v j=if j=d then v else f j:=(rfl)
theorem dw (s:PS) (b:BN) (j:Nat):(s.new b).h j=if j=s.n then b else s.h j:=(rfl)
theorem cR (s:PS) (b:BN):(s.new b).n=s.n + 1:=(rfl)
theorem gV (s:PS) (b:BN):(s.new b).w=s.w:=(rfl)
theorem dD (s:PS) (k:Nat) (b:BN) (j:Nat):(s.put k b).h j=if j=k then b else s.h j:=(rfl)
theorem ek (s:PS) (k:Nat) (b:BN):(s.put k b).n=s.n:=(rfl)
theorem kC (s:PS) (k:Nat) (b:BN):(s.put k b).w=min s.w k:=(rfl)
theorem gN (t:Nat) (x y:Operand) (a b:Int):gP P .add t x y (.sc (.int .i64 a)) (.sc (.int .i64 b))=some (.sc (.int .i64 (IntKind.i64.wrap (a + b)))):=(rfl)
theorem Es (t:Nat) (x y:Operand) (a b:Int):gP P .sub t x y (.sc (.int .i64 a)) (.sc (.int .i64 b))=some (.sc (.int .i64 (IntKind.i64.wrap (a - b)))):=(rfl)
theorem dI (t:Nat) (x y:Operand) (a b:Int):gP P .lss t x y (.sc (.int .i64 a)) (.sc (.int .i64 b))=some (.sc (.bool (decide (a < b)))):=(rfl)
theorem E0 (t:Nat) (x y:Operand) (a b:Int):gP P .leq t x y (.sc (.int .i64 a)) (.sc (.int .i64 b))=some (.sc (.bool (decide (a≤b)))):=(rfl)
theorem EJ (t:Nat) (x y:Operand) (a b:Int):gP P .gtr t x y (.sc (.int .i64 a)) (.sc (.int .i64 b))=some (.sc (.bool (decide (a > b)))):=(rfl)
theorem Ea (t:Nat) (x y:Operand) (a b:Int):gP P .geq t x y (.sc (.int .i64 a)) (.sc (.int .i64 b))=some (.sc (.bool (decide (a ≥ b)))):=(rfl)
theorem lR (t:Nat) (x y:Operand) (a b:Int):gP P .eql t x y (.sc (.int .i64 a)) (.sc (.int .i64 b))=some (.sc (.bool (a == b))):=(rfl)
theorem gw (t:Nat) (x y:Operand) (a b:Int):gP P .neq t x y (.sc (.int .i64 a)) (.sc (.int .i64 b))=some (.sc (.bool (a != b))):=(rfl)
theorem kX (t:Nat) (x y:Operand) (a b:ByteArray):gP P .eql t x y (.sc (.string a)) (.sc (.string b))=some (.sc (.bool (a.toList == b.toList))):=(rfl)
theorem jV (t:Nat) (x y:Operand) (a b:ByteArray):gP P .neq t x y (.sc (.string a)) (.sc (.string b))=some (.sc (.bool (!(a.toList == b.toList)))):=(rfl)
theorem jD {α β:Type} (P:Program) (s:Sem α) (k:α→Sem β):eb P (s >>= k)=(eb P s).bind fun a=>eb P (k a):=by
 induction s with
 | pure a=>rfl
 | program k' ih=>exact ih P
 | _=>first | rfl | (rename_i ih; exact ih)
theorem oV {P:Program}{t:Nat}{d:TypeDesc} (h:P.underlying t=some d):eb P (underlying t)=some d:=by
 show eb P ((match P.underlying t with | some d=>pure d | none=>_:Sem TypeDesc))=_;rw [h]; rfl
theorem H7 {P:Program}{t:Nat} (hu:P.underlying t=some .bool) (x y:Operand) (a b:Bool):Dj P .eql t x y (.bool a) (.bool b)=some (.bool (a == b)):=by
 have e:Dj P .eql t x y (.bool a) (.bool b)=eb P (Op.equalIn Op.maxDepth t (.bool a) (.bool b) >>= fun r=>pure (.bool r)):=(rfl)
 rw [e,jD];have:eb P (Op.equalIn Op.maxDepth t (.bool a) (.bool b))=some (a == b):=by
  show eb P (underlying t >>= _)=_;rw [jD,oV hu];rfl
 rw [this]; rfl
theorem B6 {P:Program}{t:Nat} (hu:P.underlying t=some .bool) (x y:Operand) (a b:Bool):gP P .eql t x y (.sc (.bool a)) (.sc (.bool b))=some (.sc (.bool (a == b))):=by
 simp only [gP,jz,H7 hu]; rfl
theorem qX {P:Program}{t:Nat} (hu:P.underlying t=some .bool) (x y:Operand) (a b:Bool):gP P .neq t x y (.sc (.bool a)) (.sc (.bool b))=some (.sc (.bool (!(a == b)))):=by
 have e:Dj P .neq t x y (.bool a) (.bool b)=eb P (Op.equalIn Op.maxDepth t (.bool a) (.bool b) >>= fun r=>pure (.bool (!r))):=(rfl)
 have h:eb P (Op.equalIn Op.maxDepth t (.bool a) (.bool b))=some (a == b):=by
  show eb P (underlying t >>= _)=_;rw [jD,oV hu];rfl
 rw [jD,h] at e;have e':Dj P .neq t x y (.bool a) (.bool b)=some (.bool (!(a == b))):=e;simp only [gP,jz,e']; rfl
theorem rU (b:Bool):U2 P .not (.sc (.bool b))=some (.sc (.bool (!b))):=(rfl)
end
end Go.PE
namespace Go.PE
open Go Go.EvL
theorem eE (k:IntKind) (i:Nat):kw (.sc (.int k (i:Int)))=some i:=by
 simp only [kw]; rw [if_pos (by omega),Int.toNat_natCast]
theorem xj (k:IntKind):kw (.sc (.int k 0))=some 0:=(rfl)
theorem aQ {α:Type}{c:α→List PV}{es:Nat} (hc:∀x,(c x).length=es) (l:List α):(l.flatMap c).length=l.length * es:=by
 induction l with
 | nil=>simp
 | cons x l ih=>rw [List.flatMap_cons,List.length_append,hc,ih,List.length_cons,Nat.succ_mul]; omega
theorem wJ {α:Type}{c:α→List PV}{es:Nat} (hc:∀x,(c x).length=es):∀(l:List α) (i:Nat),(l.flatMap c).drop (i * es)=(l.drop i).flatMap c:=by
 intro l
 induction l with
 | nil=>intro i; simp
 | cons x l ih=>
  intro i;cases i with
  | zero=>simp
  | succ i=>rw [List.flatMap_cons,Nat.succ_mul,Nat.add_comm,← List.drop_drop,List.drop_left' (hc x),ih,List.drop_succ_cons]
theorem de {α:Type}{c:α→List PV}{es:Nat} (hc:∀x,(c x).length=es) {l:List α}{i:Nat}{x:α} (h:l[i]?=some x):∃r,(l.flatMap c).drop (i * es)=c x ++ r:=by
 rw [wJ hc];have hi:i < l.length:=(List.getElem?_eq_some_iff.1 h).1;refine⟨(l.drop (i + 1)).flatMap c,?_⟩;rw [List.drop_eq_getElem_cons hi,List.flatMap_cons];congr 1;rw [List.getElem?_eq_getElem hi] at h;injection h with h; rw [h]
def b9 {α:Type} (e:Nat) (c:α→List PV) (x:Option (List α)):PV:=match x with
 | none=>.sc (.slice none 0 0)
 | some l=>.lit e l.length (l.flatMap c)
theorem bW:type_of% (And.intro (@b9.eq_1)<|@b9.eq_2):=And.intro (@b9.eq_1)<|@b9.eq_2
theorem cA {α:Type}{e:Nat}{c:α→List PV} (x:Option (List α)):eA false (b9 e c x)=some (.sc (.int .i64 ((x.getD []).length:Int))):=by
 cases x<;>rfl
theorem mO {α:Type}{es:Nat}{c:α→List PV} (hc:∀x,(c x).length=es) {l:List α}{j:Nat}{x:α} (h:l[j]?=some x) (s:PS):AB s (.litp ((l.flatMap c).drop (j * es))) es=some (c x):=by
 obtain⟨r,hr⟩:=de hc h;simp only [AB,hr];rw [if_pos (by rw [List.length_append,hc]; omega),List.take_left' (hc x)]
theorem uN {s:PS}{k fin:Nat}{ys:List PV} (h1:ys.length=fin) (h2:(s.h k).cells.length=fin) (h3:ys.all cX=true):G6 s (.ptr k 0 fin) ys=some (s.put k ⟨ys,fin,(s.h k).e⟩):=by
 simp only [G6];rw [if_pos ⟨by omega,h2.symm,h3⟩,List.take_zero,List.nil_append,List.drop_of_length_le (by omega),List.append_nil]
theorem dl (s:PS) (k off fin sz:Nat):AB s (.ptr k off fin) sz=if off + sz≤fin∧(s.h k).low≤fin∧fin≤(s.h k).cells.length then some (((s.h k).cells.drop off).take sz) else none:=(rfl)
theorem vJ {n:Nat} (h:n < 9223372036854775808):IntKind.i64.wrap (n:Int)=(n:Int):=by
 unfold IntKind.wrap;simp [IntKind.bits,IntKind.signed];omega
theorem fX {i:Nat} (h:i < 4611686018427387904):IntKind.i64.wrap ((i:Int) + 1)=((i + 1:Nat):Int):=by
 rw [← vJ (n:=i + 1) (by omega)]; rfl
def Py (t es:Nat) (z:Array Value) (sl:Nat):fN:=⟨32,
 (.seq (.reg [⟨some 6,.mv (.const (.bool false)),none⟩])
 (.seq (.seq (.reg [⟨some 10,.mv (.tmp 0),none⟩,
   ⟨some 11,.len false (.tmp 10),none⟩,
   ⟨some 12,.mv (.tmp 1),none⟩,
   ⟨some 13,.len false (.tmp 12),none⟩,
   ⟨some 14,.bin .neq sl (.tmp 11) (.tmp 13),none⟩])
  (.cond (.tmp 14)
   (.seq (.reg [⟨some 6,.mv (.const (.bool false)),none⟩])
   .ret)
   (.skip)))
 (.seq (.seq (.reg [⟨some 15,.mv (.tmp 0),none⟩,
   ⟨some 16,.len false (.tmp 15),none⟩,
   ⟨some 17,.mv (.const (.int .i64 0)),none⟩])
  (.block 0
   (.loop
    (.seq (.reg [⟨some 18,.bin .lss sl (.tmp 17) (.tmp 16),none⟩])
    (.seq (.cond (.tmp 18)
     (.skip)
     (.exit 0))
    (.seq (.block 1
     (.seq (.reg [⟨some 19,.mv (.tmp 17),none⟩,
       ⟨some 20,.iaddr es (.tmp 15) (.tmp 17),none⟩,
       ⟨some 21,.load t true es (.tmp 20),none⟩,
       ⟨some 8,.alloc t (.agg z),none⟩,
       ⟨some 7,.mv (.tmp 19),none⟩,
       ⟨none,.store t es (.tmp 8) (.tmp 21),none⟩])
     (.seq (.reg [⟨some 22,.mv (.tmp 1),none⟩,
       ⟨some 23,.mv (.tmp 7),none⟩,
       ⟨some 24,.iaddr es (.tmp 22) (.tmp 23),none⟩,
       ⟨some 25,.load t true es (.tmp 24),none⟩,
       ⟨some 9,.alloc t (.agg z),none⟩,
       ⟨none,.store t es (.tmp 9) (.tmp 25),none⟩])
     (.seq (.reg [⟨some 26,.mv (.tmp 2),none⟩,
       ⟨some 27,.load t true es (.tmp 8),none⟩,
       ⟨some 28,.load t true es (.tmp 9),none⟩,
       ⟨some 29,.call (.tmp 26) [(.tmp 27),(.tmp 28)],none⟩,
       ⟨some 30,.un .not (.tmp 29),none⟩])
     (.cond (.tmp 30)
      (.seq (.reg [⟨some 6,.mv (.const (.bool false)),none⟩])
      .ret)
      (.skip))))))
    (.reg [⟨some 31,.bin .add sl (.tmp 17) (.const (.int .i64 1)),none⟩,
     ⟨some 17,.mv (.tmp 31),none⟩])))))))
 (.seq (.reg [⟨some 6,.mv (.const (.bool true)),none⟩])
 .ret)))),
 [.tmp 6],false⟩
section
variable {P:Program}{Γ:Nat→Option fN}{ext:ai}
def rN (t es:Nat) (z:Array Value) (sl:Nat):bw:=(.seq (.reg [⟨some 18,.bin .lss sl (.tmp 17) (.tmp 16),none⟩])
    (.seq (.cond (.tmp 18)
     (.skip)
     (.exit 0))
    (.seq (.block 1
     (.seq (.reg [⟨some 19,.mv (.tmp 17),none⟩,
       ⟨some 20,.iaddr es (.tmp 15) (.tmp 17),none⟩,
       ⟨some 21,.load t true es (.tmp 20),none⟩,
       ⟨some 8,.alloc t (.agg z),none⟩,
       ⟨some 7,.mv (.tmp 19),none⟩,
       ⟨none,.store t es (.tmp 8) (.tmp 21),none⟩])
     (.seq (.reg [⟨some 22,.mv (.tmp 1),none⟩,
       ⟨some 23,.mv (.tmp 7),none⟩,
       ⟨some 24,.iaddr es (.tmp 22) (.tmp 23),none⟩,
       ⟨some 25,.load t true es (.tmp 24),none⟩,
       ⟨some 9,.alloc t (.agg z),none⟩,
       ⟨none,.store t es (.tmp 9) (.tmp 25),none⟩])
     (.seq (.reg [⟨some 26,.mv (.tmp 2),none⟩,
       ⟨some 27,.load t true es (.tmp 8),none⟩,
       ⟨some 28,.load t true es (.tmp 9),none⟩,
       ⟨some 29,.call (.tmp 26) [(.tmp 27),(.tmp 28)],none⟩,
       ⟨some 30,.un .not (.tmp 29),none⟩])
     (.cond (.tmp 30)
      (.seq (.reg [⟨some 6,.mv (.const (.bool false)),none⟩])
      .ret)
      (.skip))))))
    (.reg [⟨some 31,.bin .add sl (.tmp 17) (.const (.int .i64 1)),none⟩,
     ⟨some 17,.mv (.tmp 31),none⟩]))))
structure KZ {α:Type} (e:Nat) (c:α→List PV) (l m:Option (List α)) (g:Nat) (i:Nat) (f:aO):Prop where
 a:f 15=b9 e c l
 b:f 1=b9 e c m
 n:f 16=.sc (.int .i64 ((l.getD []).length:Int))
 i:f 17=.sc (.int .i64 (i:Int))
 g:f 2=.fn g [] []
theorem Im {α:Type}{e t es sl:Nat}{z:Array Value}{c:α→List PV} (hc:∀x,(c x).length=es) (hz:(z.toList.map PV.sc).length=es) {l m:Option (List α)}{g i:Nat}{x y:α} (hox:(c x).all cX=true) (hoy:(c y).all cX=true) (hl:(l.getD [])[i]?=some x) (hm:(m.getD [])[i]?=some y) (hbig:(l.getD []).length < 4611686018427387904) {r:Bool}
  (hr:∀s,aU P Γ ext g [.agg (c x),.agg (c y)] s=some (.sc (.bool r),s)) {f:aO}{s:PS} (h:KZ e c l m g i f) :
  ∃f' s',aS P Γ ext (rN t es z sl) f s=some (if r then (.normal,f',s') else (.ret,f',s'))∧(r=true→KZ e c l m g (i + 1) f')∧(r=false→f' 6=.sc (.bool false))∧(∀n0,n0≤s.n→n0≤s.w→n0≤s'.n∧n0≤s'.w):=by
 obtain⟨l,rfl⟩ : ∃k,l=some k:=by cases l with | none=>simp at hl | some k=>exact⟨k,rfl⟩
 obtain⟨m,rfl⟩ : ∃k,m=some k:=by cases m with | none=>simp at hm | some k=>exact⟨k,rfl⟩
 simp only [Option.getD_some] at hl hm hbig;have hi:i < l.length:=(List.getElem?_eq_some_iff.1 hl).1;have hj:i < m.length:=(List.getElem?_eq_some_iff.1 hm).1;have h1:=aQ hc l;have h2:=aQ hc m;have h3:=mO hc hl;have h4:=mO hc hm;have h5:(decide ((i:Int) < (l.length:Int)))=true:=by simp; exact hi
 have h6:=fX (i:=i) (by omega);have ht:∀x,(c x).take es=c x:=fun x=>List.take_of_length_le (by rw [hc]; omega);obtain⟨ha,hb,hn,hii,hg⟩:=h;simp only [b9,Option.getD_some] at ha hb hn;cases r with
 | true=>
  simp -implicitDefEqProofs only [rN,aD,bB,cq,aY,bV,aW,ce,bg,ax,aq,jK,aN,bm,Nat.zero_add,Option.map_some,Option.bind_some,aI,aC,aM,Nat.reduceEqDiff,bx,↓reduceIte,bH,cG,lF,fy,gq,bz,aK,dw,cR,dD,ek,dl,au,Nat.left_eq_add,Nat.one_ne_zero,and_self,List.drop_zero,Nat.le_refl,gN,dI,rU,Bool.not_true,bS,List.map_cons,List.map_nil,List.nil_append,List.append_nil,Bool.true_eq_false,uN,eE,ha,hb,hn,hii,hg,hi,hj,h1,h2,h3,h4,h5,h6,hc,hox,hoy,hz,ht,hr];refine⟨_,_,rfl,fun _=>?_,fun hh=>(by cases hh),?_⟩
  ·constructor<;>simp -implicitDefEqProofs only [aM,Nat.reduceEqDiff,↓reduceIte,ha,hb,hn,hg,b9,Option.getD_some]
  ·intro n0 w1 w2;simp only [ek,kC,cR,gV];omega
 | false=>
  simp -implicitDefEqProofs only [rN,aD,bB,cq,aY,bV,aW,ce,bg,ax,aq,jK,aN,bm,Nat.zero_add,Option.map_some,Option.bind_some,aI,aC,aM,Nat.reduceEqDiff,bx,↓reduceIte,bH,cG,mq,pw,fy,bz,aK,dw,cR,dD,ek,dl,au,Nat.left_eq_add,Nat.one_ne_zero,and_self,List.drop_zero,Nat.le_refl,dI,rU,Bool.not_false,bS,List.map_cons,List.map_nil,List.nil_append,List.append_nil,Bool.false_eq_true,uN,eE,ha,hb,hn,hii,hg,hi,hj,h1,h2,h3,h4,h5,hc,hox,hoy,hz,ht,hr];refine⟨_,_,rfl,fun hh=>(by cases hh),fun _=>?_,?_⟩
  ·simp -implicitDefEqProofs only [aM,↓reduceIte]
  ·intro n0 w1 w2;simp only [ek,kC,cR,gV];omega
def oH (r:Nat→Bool):Nat→Nat→Bool
 | _,0=>true
 | i,k + 1=>r i && oH r (i + 1) k
theorem Mi {α:Type}{e t es sl:Nat}{z:Array Value}{c:α→List PV} (hc:∀x,(c x).length=es) (hz:(z.toList.map PV.sc).length=es) {l m:Option (List α)} (ho:∀x,x∈l.getD []∨x∈m.getD []→(c x).all cX=true) {g:Nat} (hlm:(l.getD []).length=(m.getD []).length) (hbig:(l.getD []).length < 4611686018427387904) {r:Nat→Bool}
  (hr:∀i x y,(l.getD [])[i]?=some x→(m.getD [])[i]?=some y→∀s,aU P Γ ext g [.agg (c x),.agg (c y)] s=some (.sc (.bool (r i)),s)):∀(k i:Nat) {f:aO}{s:PS},i + k=(l.getD []).length→KZ e c l m g i f→
  ∃f' s',aS P Γ ext (.loop (rN t es z sl)) f s=some (if oH r i k then (.exit 0,f',s') else (.ret,f',s'))∧(oH r i k=false→f' 6=.sc (.bool false))∧(∀n0,n0≤s.n→n0≤s.w→n0≤s'.n∧n0≤s'.w):=by
 intro k
 induction k with
 | zero=>
  intro i f s hik h;have h5:(decide ((i:Int) < ((l.getD []).length:Int)))=false:=by simp only [decide_eq_false_iff_not]; omega
  rw [iv];obtain⟨ha,hb,hn,hii,hg⟩:=h;simp -implicitDefEqProofs only [rN,aD,bB,aY,bV,aW,bg,ax,aq,aN,bm,Option.map_some,aI,aM,↓reduceIte,cG,iT,gq,bz,aK,dI,Bool.true_eq_false,hn,hii,h5,oH];exact⟨_,_,rfl,fun hh=>(by cases hh),fun n0 w1 w2=>⟨w1,w2⟩⟩
 | succ k ih=>
  intro i f s hik h;have hi:i < (l.getD []).length:=by omega
  have hl:(l.getD [])[i]?=some (l.getD [])[i]:=List.getElem?_eq_getElem hi;have hm:(m.getD [])[i]?=some ((m.getD [])[i]'(by omega)):=List.getElem?_eq_getElem (by omega);obtain⟨f1,s1,e1,e2,e3,e4⟩:=Im (t:=t) (sl:=sl) hc hz (ho _ (.inl (List.mem_of_getElem? hl))) (ho _ (.inr (List.mem_of_getElem? hm))) hl hm hbig (hr i _ _ hl hm) (s:=s) h;rw [iv,e1];cases hri:r i with
  | true=>
   rw [hri] at e2;simp only [hri,if_true,cG,oH,Bool.true_and];obtain⟨f',s',q1,q2,q3⟩:=ih (i + 1) (f:=f1) (s:=s1) (by omega) (e2 rfl);exact⟨f',s',q1,q2,fun n0 w1 w2=>q3 n0 (e4 n0 w1 w2).1 (e4 n0 w1 w2).2⟩
  | false=>
   rw [hri] at e3;simp only [hri,oH,Bool.false_and,Bool.false_eq_true,if_false,mq];exact⟨f1,s1,rfl,fun _=>e3 rfl,e4⟩
theorem Kt {α:Type}{e t es sl:Nat}{z:Array Value}{c:α→List PV} (hc:∀x,(c x).length=es) (hz:(z.toList.map PV.sc).length=es) {G:Nat} (hG:Γ G=some (Py t es z sl)) {l m:Option (List α)} (ho:∀x,x∈l.getD []∨x∈m.getD []→(c x).all cX=true) {g:Nat} (hbig:(l.getD []).length < 4611686018427387904) {r:Nat→Bool}
  (hr:∀i x y,(l.getD [])[i]?=some x→(m.getD [])[i]?=some y→∀s,aU P Γ ext g [.agg (c x),.agg (c y)] s=some (.sc (.bool (r i)),s)) (s:PS) :
  aU P Γ ext G [b9 e c l,b9 e c m,.fn g [] []] s=some (.sc (.bool ((l.getD []).length == (m.getD []).length && oH r 0 (l.getD []).length)),s):=by
 rw [gv hG _ _ (by simp [Py])];have L1:=cA (e:=e) (c:=c) l;have L2:=cA (e:=e) (c:=c) m;by_cases hlm:(l.getD []).length=(m.getD []).length
 ·have hne:((((l.getD []).length:Int)) != ((m.getD []).length:Int))=false:=by simp [hlm]
  have heq:((l.getD []).length == (m.getD []).length)=true:=by simp [hlm]
  have hin:KZ e c l m g 0 (aO.set (aO.set (aO.set (aO.set (aO.set (aO.set (aO.set (aO.set (aO.set (cK [b9 e c l,b9 e c m,.fn g [] []] 0) 6 (.sc (.bool false))) 10 (b9 e c l)) 11 (.sc (.int .i64 ((l.getD []).length:Int)))) 12 (b9 e c m)) 13 (.sc (.int .i64 ((m.getD []).length:Int)))) 14 (.sc (.bool false))) 15 (b9 e c l)) 16 (.sc (.int .i64 ((l.getD []).length:Int)))) 17 (.sc (.int .i64 0))):=by
   constructor<;>simp -implicitDefEqProofs only [cK,Nat.zero_add,Nat.reduceAdd,aM,Nat.reduceEqDiff,↓reduceIte,Nat.one_ne_zero,reduceCtorEq]<;>rfl
  obtain⟨f',s',q1,q2,q3⟩:=Mi (P:=P) (ext:=ext) (t:=t) (sl:=sl) hc hz ho hlm hbig hr (l.getD []).length 0 (s:=⟨s.h,s.n,s.n⟩) (by omega) hin;obtain⟨w1,w2⟩:=q3 s.n (Nat.le_refl _) (Nat.le_refl _);rw [heq,Bool.true_and];have e1:(Py t es z sl).body=.seq (.reg [⟨some 6,.mv (.const (.bool false)),none⟩]) (.seq (.seq (.reg [⟨some 10,.mv (.tmp 0),none⟩,⟨some 11,.len false (.tmp 10),none⟩,⟨some 12,.mv (.tmp 1),none⟩,⟨some 13,.len false (.tmp 12),none⟩,⟨some 14,.bin .neq sl (.tmp 11) (.tmp 13),none⟩]) (.cond (.tmp 14) (.seq (.reg [⟨some 6,.mv (.const (.bool false)),none⟩]) .ret) .skip))
   (.seq (.seq (.reg [⟨some 15,.mv (.tmp 0),none⟩,⟨some 16,.len false (.tmp 15),none⟩,⟨some 17,.mv (.const (.int .i64 0)),none⟩]) (.block 0 (.loop (rN t es z sl)))) (.seq (.reg [⟨some 6,.mv (.const (.bool true)),none⟩]) .ret))):=rfl
  rw [e1];simp only [cK] at q1;cases hb:oH r 0 (l.getD []).length with
  | true=>
   rw [hb] at q1;simp -implicitDefEqProofs only [aD,bB,cq,aY,aW,ce,bg,ax,aq,aN,bm,cK,Nat.zero_add,Nat.reduceAdd,Option.map_some,aI,aC,aM,Nat.reduceEqDiff,↓reduceIte,bH,cG,w8,gq,bz,aK,Nat.one_ne_zero,gw,aP,br,frz,cx,bQ,i4,reduceCtorEq,L1,L2,hne,q1];simp -implicitDefEqProofs only [Py,Option.map_some,Option.bind_some,aM,↓reduceIte,ck,Bool.false_eq_true,w2]
  | false=>
   rw [hb] at q1 q2;have q2':=q2 rfl;simp -implicitDefEqProofs only [aD,bB,cq,aY,aW,ce,bg,ax,aq,aN,bm,cK,Nat.zero_add,Nat.reduceAdd,Option.map_some,aI,aC,aM,Nat.reduceEqDiff,↓reduceIte,bH,cG,mq,pw,gq,bz,aK,Nat.one_ne_zero,gw,aP,br,frz,cx,bQ,i4,Bool.false_eq_true,reduceCtorEq,L1,L2,hne,q1];simp -implicitDefEqProofs only [Py,Option.map_some,Option.bind_some,↓reduceIte,ck,Bool.false_eq_true,w2,q2']
 ·have hne:((((l.getD []).length:Int)) != ((m.getD []).length:Int))=true:=by simp; omega
  have heq:((l.getD []).length == (m.getD []).length)=false:=by simp [hlm]
  simp -implicitDefEqProofs only [Py,aD,bB,cq,aY,aW,bg,ax,aq,aN,bm,cK,Nat.zero_add,Nat.reduceAdd,Option.map_some,Option.bind_some,aI,aC,aM,Nat.reduceEqDiff,↓reduceIte,bH,cG,mq,fy,bz,aK,Nat.one_ne_zero,Nat.le_refl,gw,aP,ck,br,frz,cx,bQ,i4,Bool.false_eq_true,reduceCtorEq,L1,L2,hne,heq,Bool.false_and]
end
end Go.PE
namespace Go.PE
open Go Go.EvL
section
variable {P:Program}{Γ:Nat→Option fN}{ext:ai}
structure Av {α:Type} (e:Nat) (c:α→List PV) (l m:Option (List α)) (i:Nat) (f:aO):Prop where
 a:f 0=b9 e c l
 b:f 1=b9 e c m
 i:f 5=.sc (.int .i64 (i:Int))
def Ae (inner:bw):bw:=(.seq (.seq (.reg [⟨some 13,.mv (.tmp 5),none⟩,⟨some 14,.mv (.tmp 0),none⟩,⟨some 15,.len false (.tmp 14),none⟩,⟨some 16,.bin .lss 3 (.tmp 13) (.tmp 15),none⟩]) (.cond (.tmp 16) (.skip) (.exit 0)))
    (.seq (.block 1 inner) (.reg [⟨some 17,.mv (.tmp 5),none⟩,⟨some 18,.bin .add 3 (.tmp 17) (.const (.int .i64 1)),none⟩,⟨some 5,.mv (.tmp 18),none⟩])))
def wW (nt:Nat) (inner:bw):fN:=⟨nt,
 (.seq (.reg [⟨some 4,.mv (.const (.bool false)),none⟩])
 (.seq (.seq (.reg [⟨some 8,.mv (.tmp 0),none⟩,⟨some 9,.len false (.tmp 8),none⟩,⟨some 10,.mv (.tmp 1),none⟩,⟨some 11,.len false (.tmp 10),none⟩,⟨some 12,.bin .neq 3 (.tmp 9) (.tmp 11),none⟩])
  (.cond (.tmp 12) (.seq (.reg [⟨some 4,.mv (.const (.bool false)),none⟩]) .ret) (.skip)))
 (.seq (.seq (.reg [⟨some 5,.mv (.const (.int .i64 0)),none⟩]) (.block 0 (.loop (Ae inner))))
 (.seq (.reg [⟨some 4,.mv (.const (.bool true)),none⟩]) .ret)))),[.tmp 4],false⟩
theorem Hh {α:Type}{e:Nat}{c:α→List PV}{l m:Option (List α)} (hlm:(l.getD []).length=(m.getD []).length) (hbig:(l.getD []).length < 4611686018427387904) {r:Nat→Bool}{inner:bw}
  (hr:∀i x y,(l.getD [])[i]?=some x→(m.getD [])[i]?=some y→∀f s,Av e c l m i f→∃f' s',aS P Γ ext (.block 1 inner) f s=some (if r i then (.normal,f',s') else (.ret,f',s'))∧(r i=true→f' 0=f 0∧f' 1=f 1∧f' 5=f 5)∧(r i=false→f' 4=.sc (.bool false))∧(∀n0,n0≤s.n→n0≤s.w→n0≤s'.n∧n0≤s'.w)) :
  ∀(k i:Nat) {f:aO}{s:PS},i + k=(l.getD []).length→Av e c l m i f→
  ∃f' s',aS P Γ ext (.loop (Ae inner)) f s=some (if oH r i k then (.exit 0,f',s') else (.ret,f',s'))∧(oH r i k=false→f' 4=.sc (.bool false))∧(∀n0,n0≤s.n→n0≤s.w→n0≤s'.n∧n0≤s'.w):=by
 intro k
 induction k with
 | zero=>
  intro i f s hik h;have h5:(decide ((i:Int) < ((l.getD []).length:Int)))=false:=by simp only [decide_eq_false_iff_not]; omega
  have L1:=cA (e:=e) (c:=c) l;rw [iv];obtain⟨ha,hb,hii⟩:=h;simp -implicitDefEqProofs only [Ae,aD,bB,aY,bV,aW,bg,ax,aq,aN,bm,Option.map_some,aI,aM,Nat.reduceEqDiff,↓reduceIte,cG,iT,gq,bz,aK,dI,Bool.true_eq_false,reduceCtorEq,ha,hii,L1,h5,oH];exact⟨_,_,rfl,fun hh=>(by cases hh),fun n0 w1 w2=>⟨w1,w2⟩⟩
 | succ k ih=>
  intro i f s hik h;have hi:i < (l.getD []).length:=by omega
  have hl:(l.getD [])[i]?=some (l.getD [])[i]:=List.getElem?_eq_getElem hi;have hm:(m.getD [])[i]?=some ((m.getD [])[i]'(by omega)):=List.getElem?_eq_getElem (by omega);have h5:(decide ((i:Int) < ((l.getD []).length:Int)))=true:=by simp only [decide_eq_true_iff]; omega
  have h6:=fX (i:=i) (by omega);have L1:=cA (e:=e) (c:=c) l;obtain⟨ha,hb,hii⟩:=h;obtain⟨f1,s1,e1,e2,e3,e4⟩:=hr i _ _ hl hm ((((f.set 13 (.sc (.int .i64 (i:Int)))).set 14 (b9 e c l)).set 15 (.sc (.int .i64 ((l.getD []).length:Int)))).set 16 (.sc (.bool true))) s ⟨by simp -implicitDefEqProofs only [aM,↓reduceIte,reduceCtorEq,ha],by simp -implicitDefEqProofs only [aM,Nat.reduceEqDiff,↓reduceIte,hb],by simp -implicitDefEqProofs only [aM,Nat.reduceEqDiff,↓reduceIte,hii]⟩;have hstep:aS P Γ ext (Ae inner) f s=gR (aS P Γ ext (.block 1 inner) ((((f.set 13 (.sc (.int .i64 (i:Int)))).set 14 (b9 e c l)).set 15 (.sc (.int .i64 ((l.getD []).length:Int)))).set 16 (.sc (.bool true))) s) (aS P Γ ext (.reg [⟨some 17,.mv (.tmp 5),none⟩,⟨some 18,.bin .add 3 (.tmp 17) (.const (.int .i64 1)),none⟩,⟨some 5,.mv (.tmp 18),none⟩])):=by
   unfold Ae;rw [aD,aD];have:aS P Γ ext (.seq (.block 1 inner) (.reg [⟨some 17,.mv (.tmp 5),none⟩,⟨some 18,.bin .add 3 (.tmp 17) (.const (.int .i64 1)),none⟩,⟨some 5,.mv (.tmp 18),none⟩]))=fun f s=>gR (aS P Γ ext (.block 1 inner) f s) (aS P Γ ext (.reg [⟨some 17,.mv (.tmp 5),none⟩,⟨some 18,.bin .add 3 (.tmp 17) (.const (.int .i64 1)),none⟩,⟨some 5,.mv (.tmp 18),none⟩])):=by
    funext f s; exact aD _ _ f s
   rw [this];simp -implicitDefEqProofs only [bB,aW,aY,bV,bg,ax,aq,aN,bm,aI,aM,Nat.reduceEqDiff,↓reduceIte,Option.map_some,aK,cG,fy,bz,dI,ha,hii,L1,h5]
  rw [iv,hstep,e1];cases hri:r i with
  | true=>
   rw [hri] at e2;obtain⟨q0,q1,q5⟩:=e2 rfl;simp -implicitDefEqProofs only [aM,Nat.reduceEqDiff,↓reduceIte,reduceCtorEq,ha,hb,hii] at q0 q1 q5;simp -implicitDefEqProofs only [hri,cG,oH,Bool.true_and,bB,bg,ax,aq,aN,bm,Option.map_some,aI,aC,aM,↓reduceIte,bH,cG,aK,gN,q5,h6];obtain⟨f',s',z1,z2,z3⟩:=ih (i + 1) (f:=((f1.set 17 (.sc (.int .i64 (i:Int)))).set 18 (.sc (.int .i64 ((i + 1:Nat):Int)))).set 5 (.sc (.int .i64 ((i + 1:Nat):Int)))) (s:=s1) (by omega) ⟨by simp -implicitDefEqProofs only [aM,↓reduceIte,reduceCtorEq,q0],by simp -implicitDefEqProofs only [aM,Nat.reduceEqDiff,↓reduceIte,q1],by simp -implicitDefEqProofs only [aM,↓reduceIte]⟩;exact⟨f',s',z1,z2,fun n0 w1 w2=>z3 n0 (e4 n0 w1 w2).1 (e4 n0 w1 w2).2⟩
  | false=>
   rw [hri] at e3;simp only [hri,oH,Bool.false_and,Bool.false_eq_true,if_false,mq];exact⟨f1,s1,rfl,fun _=>e3 rfl,e4⟩
theorem Gk {α:Type}{e:Nat}{c:α→List PV}{l m:Option (List α)} (hbig:(l.getD []).length < 4611686018427387904) {r:Nat→Bool}{inner:bw}{G nt:Nat} (hG:Γ G=some (wW nt inner)) (hnt : 2≤nt)
  (hr:∀i x y,(l.getD [])[i]?=some x→(m.getD [])[i]?=some y→∀f s,Av e c l m i f→∃f' s',aS P Γ ext (.block 1 inner) f s=some (if r i then (.normal,f',s') else (.ret,f',s'))∧(r i=true→f' 0=f 0∧f' 1=f 1∧f' 5=f 5)∧(r i=false→f' 4=.sc (.bool false))∧(∀n0,n0≤s.n→n0≤s.w→n0≤s'.n∧n0≤s'.w)) (s:PS) :
  aU P Γ ext G [b9 e c l,b9 e c m] s=some (.sc (.bool ((l.getD []).length == (m.getD []).length && oH r 0 (l.getD []).length)),s):=by
 rw [gv hG _ _ (by simpa [wW] using hnt)];have L1:=cA (e:=e) (c:=c) l;have L2:=cA (e:=e) (c:=c) m;by_cases hlm:(l.getD []).length=(m.getD []).length
 ·have hne:((((l.getD []).length:Int)) != ((m.getD []).length:Int))=false:=by simp [hlm]
  have heq:((l.getD []).length == (m.getD []).length)=true:=by simp [hlm]
  have hin:Av e c l m 0 (aO.set (aO.set (aO.set (aO.set (aO.set (aO.set (aO.set (cK [b9 e c l,b9 e c m] 0) 4 (.sc (.bool false))) 8 (b9 e c l)) 9 (.sc (.int .i64 ((l.getD []).length:Int)))) 10 (b9 e c m)) 11 (.sc (.int .i64 ((m.getD []).length:Int)))) 12 (.sc (.bool false))) 5 (.sc (.int .i64 0))):=by
   constructor<;>simp -implicitDefEqProofs only [cK,Nat.zero_add,aM,Nat.reduceEqDiff,↓reduceIte,Nat.one_ne_zero,reduceCtorEq]<;>rfl
  obtain⟨f',s',q1,q2,q3⟩:=Hh (P:=P) (ext:=ext) hlm hbig hr (l.getD []).length 0 (s:=⟨s.h,s.n,s.n⟩) (by omega) hin;obtain⟨w1,w2⟩:=q3 s.n (Nat.le_refl _) (Nat.le_refl _);rw [heq,Bool.true_and];simp only [cK] at q1;cases hb:oH r 0 (l.getD []).length with
  | true=>
   rw [hb] at q1;simp -implicitDefEqProofs only [wW,aD,bB,cq,aY,aW,ce,bg,ax,aq,aN,bm,cK,Nat.zero_add,Option.map_some,Option.bind_some,aI,aC,aM,Nat.reduceEqDiff,↓reduceIte,bH,cG,w8,gq,bz,aK,Nat.one_ne_zero,gw,aP,ck,br,frz,cx,bQ,i4,Bool.false_eq_true,reduceCtorEq,L1,L2,hne,q1];simp -implicitDefEqProofs only [↓reduceIte,w2]
  | false=>
   rw [hb] at q1 q2;have q2':=q2 rfl;simp -implicitDefEqProofs only [wW,aD,bB,cq,aY,aW,ce,bg,ax,aq,aN,bm,cK,Nat.zero_add,Option.map_some,Option.bind_some,aI,aC,aM,Nat.reduceEqDiff,↓reduceIte,bH,cG,mq,pw,gq,bz,aK,Nat.one_ne_zero,gw,aP,ck,br,frz,cx,bQ,i4,Bool.false_eq_true,reduceCtorEq,L1,L2,hne,q1];simp -implicitDefEqProofs only [Option.map_some,↓reduceIte,w2,q2']
 ·have hne:((((l.getD []).length:Int)) != ((m.getD []).length:Int))=true:=by simp; omega
  have heq:((l.getD []).length == (m.getD []).length)=false:=by simp [hlm]
  simp -implicitDefEqProofs only [wW,aD,bB,cq,aY,aW,bg,ax,aq,aN,bm,cK,Nat.zero_add,Option.map_some,Option.bind_some,aI,aC,aM,Nat.reduceEqDiff,↓reduceIte,bH,cG,mq,fy,bz,aK,Nat.one_ne_zero,Nat.le_refl,gw,aP,ck,br,frz,cx,bQ,i4,Bool.false_eq_true,reduceCtorEq,L1,L2,hne,heq,Bool.false_and]
end
end Go.PE
namespace Go.PE
open Go Go.EvL
section
variable {P:Program}{Γ:Nat→Option fN}{ext:ai}
theorem ap (s:PS) (cs:List PV) (sz:Nat):AB s (.litp cs) sz=if sz≤cs.length then some (cs.take sz) else none:=(rfl)
end
end Go.PE
namespace Go.PE
open Go Go.EvL
section
variable {P:Program}{Γ:Nat→Option fN}{ext:ai}
def W (r:jI) (Q:xM→aO→PS→Prop):Prop:=∃x f s,r=some (x,f,s)∧Q x f s
theorem gp (x:xM) (f:aO) (s:PS) (Q:xM→aO→PS→Prop):W (some (x,f,s)) Q↔Q x f s:=
 ⟨fun ⟨_,_,_,h,q⟩=>by injection h with h; injection h with h1 h; injection h with h2 h3; subst h1; subst h2; subst h3; exact q,fun q=>⟨_,_,_,rfl,q⟩⟩
def BR (id:Nat) (N:aO→PS→Prop) (J:aO→PS→Prop) (R:aO→PS→Prop) (x:xM) (f:aO) (s:PS):Prop:=match x with
 | .normal=>N f s
 | .exit j=>j=id∧J f s
 | .ret=>R f s
theorem HY {body:bw}{id n:Nat}{I:Nat→aO→PS→Prop}{J R:aO→PS→Prop}
  (hr:∀i f s,i≤n→I i f s→W (aS P Γ ext body f s) (BR id (fun f' s'=>i < n∧I (i + 1) f' s') J R)):∀(m i:Nat) (f:aO) (s:PS),i + m=n→I i f s→W (aS P Γ ext (.loop body) f s) (BR id (fun _ _=>False) J R):=by
 intro m
 induction m with
 | zero=>
  intro i f s him h;obtain⟨x,f',s',e,q⟩:=hr i f s (by omega) h;rw [iv,e];cases x with
  | normal=>exact absurd q.1 (by omega)
  | exit j=>exact⟨_,_,_,rfl,q⟩
  | ret=>exact⟨_,_,_,rfl,q⟩
 | succ m ih=>
  intro i f s him h;obtain⟨x,f',s',e,q⟩:=hr i f s (by omega) h;rw [iv,e];cases x with
  | normal=>exact ih (i + 1) f' s' (by omega) q.2
  | exit j=>exact⟨_,_,_,rfl,q⟩
  | ret=>exact⟨_,_,_,rfl,q⟩
theorem OI {body:bw}{id:Nat} (n:Nat) (I:Nat→aO→PS→Prop) (J:aO→PS→Prop) {k:aO→PS→jI}{Q:xM→aO→PS→Prop}{f:aO}{s:PS} (h0:I 0 f s)
  (hr:∀i f s,i≤n→I i f s→W (aS P Γ ext body f s) (BR id (fun f' s'=>i < n∧I (i + 1) f' s') J (Q .ret))) (hk:∀f s,J f s→W (k f s) Q):W (gR (ip id (aS P Γ ext (.loop body) f s)) k) Q:=by
 obtain⟨x,f',s',e,q⟩:=HY hr n 0 f s (by omega) h0;rw [e];cases x with
 | normal=>exact q.elim
 | exit j=>
  obtain⟨rfl,q⟩:=q;rw [w8,if_pos rfl,cG];exact hk _ _ q
 | ret=>exact⟨_,_,_,rfl,q⟩
theorem Rh {fn:fN}{s:PS}{r:jI}{R:PV × PS→Prop} (h:W r fun x f' s'=>match x with | .exit _=>False | _=>∃q,aP fn s f' s'=some q∧R q):∃q,LM fn s r=some q∧R q:=by
 obtain⟨x,f,s',rfl,q⟩:=h;cases x with
 | normal=>exact q
 | exit id=>exact q.elim
 | ret=>exact q
theorem oZ (id:Nat) (N J R:aO→PS→Prop) (f:aO) (s:PS):BR id N J R .normal f s↔N f s:=Iff.rfl
theorem pj (id j:Nat) (N J R:aO→PS→Prop) (f:aO) (s:PS):BR id N J R (.exit j) f s↔(j=id∧J f s):=Iff.rfl
theorem NL (id:Nat) (N J R:aO→PS→Prop) (f:aO) (s:PS):BR id N J R .ret f s↔R f s:=Iff.rfl
def H8 (fn:fN) (s:PS) (R:PV × PS→Prop) (x:xM) (f':aO) (s':PS):Prop:=match x with
 | .exit _=>False
 | _=>∃q,aP fn s f' s'=some q∧R q
theorem yU {fn:fN}{s:PS}{R:PV × PS→Prop}{f':aO}{s':PS}{q:PV × PS} (h:aP fn s f' s'=some q) (hR:R q):H8 fn s R .ret f' s':=⟨q,h,hR⟩
theorem yL {g:Nat}{fn:fN} (hg:Γ g=some fn) {args:List PV}{s:PS} (hl:args.length≤fn.nt) {R:PV × PS→Prop} (h:W (aS P Γ ext fn.body (cK args 0) ⟨s.h,s.n,s.n⟩) (H8 fn s R)):∃q,aU P Γ ext g args s=some q∧R q:=by
 rw [gv hg _ _ hl];exact Rh h
theorem kD {a b c:bw}{f:aO}{s:PS}{Q:xM→aO→PS→Prop} (h:W (aS P Γ ext (.seq a (.seq b c)) f s) Q):W (aS P Γ ext (.seq (.seq a b) c) f s) Q:=by
 obtain⟨x,f',s',e,q⟩:=h;refine⟨x,f',s',?_,q⟩;rw [aD] at e ⊢;rw [aD];cases h1:aS P Γ ext a f s with
 | none=>rw [h1] at e; cases e
 | some r=>
  obtain⟨y,f1,s1⟩:=r;rw [h1] at e;cases y with
  | normal=>rw [cG] at e ⊢; rw [aD] at e; exact e
  | exit id=>rw [iT] at e; rw [iT,iT]; exact e
  | ret=>rw [mq] at e; rw [mq,mq]; exact e
theorem fA {l:List PI}{b:bw}{f:aO}{s:PS}{Q:xM→aO→PS→Prop} (N:aO→PS→Prop) (h:∃f' s',kg P Γ ext l f s=some (f',s')∧N f' s') (hk:∀f s,N f s→W (aS P Γ ext b f s) Q):W (aS P Γ ext (.seq (.reg l) b) f s) Q:=by
 obtain⟨f',s',e,q⟩:=h;rw [aD,bB,e,aK,cG];exact hk _ _ q
theorem nc {body b:bw}{id:Nat} (n:Nat) (I:Nat→aO→PS→Prop) (J:aO→PS→Prop) {Q:xM→aO→PS→Prop}{f:aO}{s:PS} (h0:I 0 f s)
  (hr:∀i f s,i≤n→I i f s→W (aS P Γ ext body f s) (BR id (fun f' s'=>i < n∧I (i + 1) f' s') J (Q .ret))) (hk:∀f s,J f s→W (aS P Γ ext b f s) Q):W (aS P Γ ext (.seq (.block id (.loop body)) b) f s) Q:=by
 rw [aD,ce];exact OI n I J h0 hr hk
theorem yN {l:List PI}{f:aO}{s:PS}{Q:xM→aO→PS→Prop} (h:∃f' s',kg P Γ ext l f s=some (f',s')∧Q .ret f' s'):W (aS P Γ ext (.seq (.reg l) .ret) f s) Q:=by
 obtain⟨f',s',e,q⟩:=h;rw [aD,bB,e,aK,cG,cq];exact⟨_,_,_,rfl,q⟩
theorem iE (r:List Nat) (li ca:Bool) (a k:Nat):bM ⟨r,[],li,ca⟩ a a ⟨[k],[],false,false⟩:=by
 unfold bM; simp; omega
theorem rl (s:ByteArray):eA true (.sc (.string s))=some (.sc (.int .i64 (s.data.toList.length:Int))):=(rfl)
end
def eH {α:Type} (l:List α):Option (List α):=match l with
 | []=>none
 | l=>some l
theorem fU {α:Type} (l:List α):(eH l).getD []=l:=by cases l<;>rfl
def jv {α:Type} (e es:Nat) (c:α→List PV) (b:Nat) (l:List α) (v:PV) (s:PS):Prop:=
 (l=[]∧v=.sc (.slice none 0 0))∨(l≠[]∧∃k,b≤k∧k < s.n∧v=.own k 0 l.length (l.length * es)∧s.h k=⟨l.flatMap c,0,e⟩)
theorem jv.nil {α:Type} (e es:Nat) (c:α→List PV) (b:Nat) (s:PS):jv e es c b [] (.sc (.slice none 0 0)) s:=.inl ⟨rfl,rfl⟩
theorem H5 {α:Type}{c:α→List PV}{m:List α} (ho:∀x∈m,(c x).all cX=true):(m.flatMap c).all cX=true:=by
 rw [List.all_flatMap];exact List.all_eq_true.2 ho
theorem jv.app {α:Type}{e es bytes b:Nat}{c:α→List PV}{l:List α}{v:PV}{s:PS} (hc:∀x,(c x).length=es) (h:jv e es c b l v s) (m:List α) (hes:es≠0) (hb:(l.length + m.length) * bytes≤140737488355328) (hn:l.length + m.length≤1073741824) (ho:∀x∈m,(c x).all cX=true) (hbn:b≤s.n) :
  ∃v' s',sZ s e es bytes v (m.flatMap c) m.length=some (v',s')∧jv e es c b (l ++ m) v' s'∧(∀j,j < b→s'.h j=s.h j)∧s.n≤s'.n∧(∀n0,n0≤b→n0≤s.w→n0≤s'.w):=by
 by_cases hm:m=[]
 ·subst hm;refine⟨v,s,?_,by rw [List.append_nil]; exact h,fun _ _=>rfl,Nat.le_refl _,fun _ _ h=>h⟩;unfold sZ;rw [if_pos (by rfl)];rw [if_pos];rcases h with ⟨_,rfl⟩ | ⟨_,k,_,_,rfl,_⟩<;>rfl
 ·have hm0:m.length≠0:=by simpa using hm
  have hfl:=aQ hc m;have hone:=H5 ho;rcases h with ⟨rfl,rfl⟩ | ⟨hl,k,k1,k2,rfl,k3⟩
  ·refine⟨.own s.n 0 m.length (m.flatMap c).length,s.new ⟨m.flatMap c,0,e⟩,?_,.inr ⟨hm,s.n,hbn,by rw [cR]; omega,?_,?_⟩,fun j hj=>?_,by rw [cR]; omega,fun n0 _ hw=>by rw [gV]; exact hw⟩
   ·unfold sZ;rw [if_neg hm0];simp only;rw [if_pos ⟨hes,hfl,by simpa using hb,by simpa using hn,hone⟩]
   ·rw [List.nil_append,hfl]
   ·rw [dw,if_pos rfl,List.nil_append]
   ·rw [dw,if_neg (by omega)]
  ·have hfl':=aQ hc l;refine⟨.own k 0 (l.length + m.length) (l.length * es + (m.flatMap c).length),s.put k ⟨l.flatMap c ++ m.flatMap c,0,e⟩,?_,.inr ⟨by simp [hm],k,k1,by rw [ek]; exact k2,?_,?_⟩,fun j hj=>?_,by rw [ek]; exact Nat.le_refl _,fun n0 h1 h2=>by rw [kC]; omega⟩
   ·unfold sZ;rw [if_neg hm0];simp only [k3];rw [if_pos ⟨⟨hes,hfl,hb,hn,hone⟩,by omega,hfl'.symm,Nat.zero_le _,trivial,trivial⟩]
   ·rw [List.length_append,hfl,Nat.add_mul]
   ·rw [dD,if_pos rfl,List.flatMap_append]
   ·rw [dD,if_neg (by omega)]
theorem jv.frz {α:Type}{e es b n0:Nat}{c:α→List PV}{l:List α}{v:PV}{s:PS} (hc:∀x,(c x).length=es) (h:jv e es c b l v s) (hn:n0≤b) (hcl:∀x∈l,(c x).all cM=true):bQ n0 s v=some (b9 e c (eH l)):=by
 rcases h with ⟨rfl,rfl⟩ | ⟨hl,k,k1,k2,rfl,k3⟩
 ·rfl
 ·have hfl:=aQ hc l;have hall:(l.flatMap c).all cM=true:=by rw [List.all_flatMap]; exact List.all_eq_true.2 hcl
  unfold bQ;simp only [k3,List.drop_zero,Nat.sub_zero];rw [if_neg (by omega)];rw [List.take_of_length_le (by omega),if_pos ⟨Nat.zero_le _,by omega,Nat.zero_le _,hall⟩];cases l with
  | nil=>exact absurd rfl hl
  | cons a l=>rfl
theorem Cq {n:Nat}{s:PS}{v p:PV} (h:bQ n s v=some p):frz n s v=some p:=by
 cases v with
 | tup vs=>cases h
 | agg cs=>cases h
 | _=>exact h
theorem jv.new {α:Type}{e es b:Nat}{c:α→List PV}{l:List α}{v:PV}{s:PS} (h:jv e es c b l v s) (k:BN):jv e es c b l v (s.new k):=by
 rcases h with h | ⟨hl,k,k1,k2,rfl,k3⟩
 ·exact .inl h
 ·exact .inr ⟨hl,k,k1,by rw [cR]; omega,rfl,by rw [dw,if_neg (by omega)]; exact k3⟩
theorem jv.frame {α:Type}{e es b:Nat}{c:α→List PV}{l:List α}{v:PV}{s s':PS} (h:jv e es c b l v s) (hn:s.n≤s'.n) (hh:∀j,j < s.n→s'.h j=s.h j):jv e es c b l v s':=by
 rcases h with h | ⟨hl,k,k1,k2,rfl,k3⟩
 ·exact .inl h
 ·exact .inr ⟨hl,k,k1,by omega,rfl,by rw [hh k k2]; exact k3⟩
theorem rh {α:Type}{e es:Nat}{c:α→List PV} (hc:∀x,(c x).length=es) (l:Option (List α)) (s:PS):eU s es (b9 e c l)=some ((l.getD []).flatMap c,(l.getD []).length):=by
 cases l with
 | none=>rfl
 | some l=>
  show (if (l.flatMap c).length=l.length * es then some (l.flatMap c,l.length) else none)=_;rw [if_pos (aQ hc l)]; rfl
def JO (v:Value):Nat:=match v with
 | .string b=>b.data.toList.length + 1
 | _=>1
theorem MH (v:Value) : 1≤JO v:=by cases v<;>simp [JO]
mutual
def PV.bulk:PV→Nat
 | .sc v=>JO v
 | .agg cs=>bj cs + 1
 | .tup vs=>bj vs + 1
 | .lit _ _ cs=>bj cs + 1
 | .litp cs=>bj cs + 1
 | .litx _ _ cs=>bj cs + 1
 | .own ..=>1
 | .ptr ..=>1
 | .fn ..=>1
def bj:List PV→Nat
 | []=>0
 | p :: l=>p.bulk + bj l
end
theorem qj (p:PV) : 1≤p.bulk:=by cases p<;>simp [PV.bulk,MH]
theorem db (p:PV) (l:List PV):bj (p :: l)=p.bulk + bj l:=by simp [bj]
theorem dk:bj []=0:=by simp [bj]
theorem jR (l m:List PV):bj (l ++ m)=bj l + bj m:=by
 induction l with
 | nil=>simp [dk]
 | cons p l ih=>simp only [List.cons_append,db,ih]; omega
theorem rD (l:List PV):l.length≤bj l:=by
 induction l with
 | nil=>simp
 | cons p l ih=>have:=qj p; rw [db,List.length_cons]; omega
theorem iz {p:PV}{l:List PV} (h:p∈l):p.bulk≤bj l:=by
 induction l with
 | nil=>cases h
 | cons q l ih=>
  rw [db];rcases List.mem_cons.1 h with rfl | h
  ·omega
  ·have:=ih h; omega
theorem gD {α:Type}{c:α→List PV}{x:α}{l:List α} (h:x∈l):bj (c x)≤bj (l.flatMap c):=by
 induction l with
 | nil=>cases h
 | cons y l ih=>
  rw [List.flatMap_cons,jR];rcases List.mem_cons.1 h with rfl | h
  ·omega
  ·have:=ih h; omega
theorem eC {α:Type} (e:Nat) (c:α→List PV) (l:Option (List α)):bj ((l.getD []).flatMap c) + 1=(b9 e c l).bulk:=by
 cases l with
 | none=>simp [b9,PV.bulk,dk,JO]
 | some l=>simp [b9,PV.bulk]
theorem gL {α:Type}{e:Nat}{c:α→List PV} (hc:∀x,1≤(c x).length) (l:Option (List α)):(l.getD []).length + 1≤(b9 e c l).bulk:=by
 rw [← eC];have h:=rD ((l.getD []).flatMap c);have:∀m:List α,m.length≤(m.flatMap c).length:=by
  intro m
  induction m with
  | nil=>simp
  | cons a m ih=>have:=hc a; simp only [List.flatMap_cons,List.length_append,List.length_cons]; omega
 have:=this (l.getD []);omega
theorem zG {α β:Type}{c:α→List PV}{g:α→List β} : ∀(l:List α),(∀x∈l,(g x).length≤bj (c x))→(l.flatMap g).length≤bj (l.flatMap c):=by
 intro l
 induction l with
 | nil=>intro _; simp
 | cons a l ih=>
  intro h;have h1:=h a List.mem_cons_self;have h2:=ih fun x hx=>h x (List.mem_cons_of_mem _ hx);rw [List.flatMap_cons,List.flatMap_cons,jR,List.length_append]; omega
end Go.PE
namespace Go.PE
open Go Go.EvL
section
variable {P:Program}{Γ:Nat→Option fN}{ext:ai}
theorem rV {e:Nat} (s:PS) (cs:List PV):eU (s.new ⟨cs,0,e⟩) cs.length (.own s.n 0 1 cs.length)=some (cs,1):=by
 unfold eU;simp only [dw,if_true,Nat.zero_add,Nat.one_mul,Nat.zero_le,Nat.le_refl,and_self,List.drop_zero,List.take_length]
end
end Go.PE
namespace Go.PE
open Go Go.EvL
def mt (d t:Nat):PI:=⟨some d,.mv (.tmp t),none⟩
def mk (d:Nat) (v:Value):PI:=⟨some d,.mv (.const v),none⟩
def gt (j:Nat) (w:Bool) (d t:Nat):PI:=⟨some d,.mv (.tmp t),some (j,w)⟩
def ob (d:Nat) (p:kK):PI:=⟨some d,p,none⟩
def og (j:Nat) (w:Bool) (d:Nat) (p:kK):PI:=⟨some d,p,some (j,w)⟩
def o0 (p:kK):PI:=⟨none,p,none⟩
def g0 (j:Nat) (w:Bool) (p:kK):PI:=⟨none,p,some (j,w)⟩
abbrev tp (n:Nat):Operand:=.tmp n
abbrev ki (n:Int):Operand:=.const (.int .i64 n)
abbrev kb (b:Bool):Operand:=.const (.bool b)
abbrev ks (l:Array UInt8):Operand:=.const (.string ⟨l⟩)
def bn (o:BinOp) (t x y:Nat):kK:=.bin o t (.tmp x) (.tmp y)
def bi (o:BinOp) (x:Nat) (n:Int):kK:=.bin o 3 (.tmp x) (.const (.int .i64 n))
def bc (o:BinOp) (x:Nat) (n:Int):kK:=.bin o 5 (.tmp x) (.const (.int .u8 n))
def pk (a b:Nat):kK:=.pick (.tmp a) (.tmp b) (.const (.bool false))
def po (a b:Nat):kK:=.pick (.tmp a) (.const (.bool true)) (.tmp b)
def cl (g:Nat) (l:List Operand):kK:=.call (.func g) l
def uH (l:List PI) (t:Nat) (a b:bw):bw:=.seq (.reg l) (.cond (.tmp t) a b)
def sr (l:List PI) (c:bw):bw:=.seq (.reg l) c
def lt (id:Nat) (b r:bw):bw:=.seq (.block id (.loop b)) r
end Go.PE
