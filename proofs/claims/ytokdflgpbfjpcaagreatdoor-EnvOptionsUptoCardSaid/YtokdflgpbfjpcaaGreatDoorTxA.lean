/- What functions of the program and of the reference compute, on values. No statement is proved here. -/
import Derived.Test.YtokdflgpbfjpcaaGreatDoorPeC
import Derived.Test.YtokdflgpbfjpcaaGreatDoorProg
set_option linter.unusedSimpArgs false
set_option linter.unusedVariables false
set_option linter.defProp false
namespace Go.Proofs.YtokdflgpbfjpcaaGreatDoor
open Go Go.EvL Go.PE
theorem XF {α} (l:List α):Array.mk l=l.toArray:=rfl
theorem XC (n:Nat):Int.ofNat (no_index (OfNat.ofNat n))=(OfNat.ofNat n:Int):=rfl
theorem Xw (n:Nat) (h:no_index (OfNat.ofNat n) < 2^8):UInt8.ofBitVec (BitVec.ofFin (Fin.mk (no_index (OfNat.ofNat n)) h))=(OfNat.ofNat n:UInt8):=by
 apply UInt8.toNat_inj.1; simp only [UInt8.toNat,BitVec.toNat]; exact (Nat.mod_eq_of_lt h).symm
set_option maxRecDepth 100000
abbrev QA (f:Func) (k:Bool) (c:gk):=tI Tryz.prog f k=some c
theorem TA {f k c} (h:QA f k c:=by unfold QA; conv=>lhs; reduce; dsimp only [XC,Int.reduceNegSucc,XF]; try simp only [Xw]):QA f k c:=h
def Lg:=(fun c (_:QA Tryz.f35 false c)=>c) _ TA
def Ii:=(fun c (_:QA Tryz.f48 false c)=>c) _ TA
def Ie:=(fun c (_:QA Tryz.f61 false c)=>c) _ TA
def TU:=(fun c (_:QA Tryz.f66 false c)=>c) _ TA
def Tl:=(fun c (_:QA Tryz.f67 false c)=>c) _ TA
def Uk:=(fun c (_:QA Tryz.f68 false c)=>c) _ TA
def XJ:=(fun c (_:QA Tryz.f83 false c)=>c) _ TA
def Um:=(fun c (_:QA Tryz.f84 false c)=>c) _ TA
def Vq:=(fun c (_:QA Tryz.f85 false c)=>c) _ TA
def Xq:=(fun c (_:QA Tryz.f86 false c)=>c) _ TA
def Xi:=(fun c (_:QA Tryz.f87 false c)=>c) _ TA
def Tg:=(fun c (_:QA Tryz.f88 false c)=>c) _ TA
def Xr:=(fun c (_:QA Tryz.f89 false c)=>c) _ TA
def XG:=(fun c (_:QA Tryz.f90 false c)=>c) _ TA
def Ve:=(fun c (_:QA Tryz.f91 false c)=>c) _ TA
def W4:=(fun c (_:QA Tryz.f102 false c)=>c) _ TA
def VL:=(fun c (_:QA Tryz.f103 false c)=>c) _ TA
def Wv:=(fun c (_:QA Tryz.f104 false c)=>c) _ TA
def W1:=(fun c (_:QA Tryz.f105 false c)=>c) _ TA
def VK:=(fun c (_:QA Tryz.f106 false c)=>c) _ TA
def xG:=(fun c (_:QA Tryz.f143 false c)=>c) _ TA
def UM:=(fun c (_:QA Tryz.f151 false c)=>c) _ TA
def Wd:=(fun c (_:QA Tryz.f178 false c)=>c) _ TA
def B0:=(fun c (_:QA Tryz.f179 false c)=>c) _ TA
end Go.Proofs.YtokdflgpbfjpcaaGreatDoor
namespace Go.PE
open Go Go.EvL
section
variable {P:Program}{Γ:Nat→Option gk}{ext:ar}
theorem bY (f:aX) (s:PS):kT P Γ ext [] f s=some (f,s):=(rfl)
theorem yr (i:PI) (l:List PI) (f:aX) (s:PS):kT P Γ ext (i :: l) f s=(wY P Γ ext i f s).bind fun q=>kT P Γ ext l q.1 q.2:=(rfl)
noncomputable def Dh (P:Program) (Γ:Nat→Option gk) (ext:ar) (r:Option (PV × PS)) (d:Option Nat) (f:aX) (l:List PI):Option (aX × PS):=r.bind fun q=>kT P Γ ext l (BH f d q.1) q.2
noncomputable def JI (P:Program) (Γ:Nat→Option gk) (ext:ar) (b:Option Bool) (d:Option Nat) (o:lM) (f:aX) (s:PS) (l:List PI):Option (aX × PS):=match b with
 | some true=>Dh P Γ ext (bE P (aH P Γ ext) f s o) d f l
 | some false=>kT P Γ ext l (BH f d (.sc undef)) s
 | none=>none
theorem bD (v:PV) (s:PS) (d:Nat) (f:aX) (l:List PI):Dh P Γ ext (some (v,s)) (some d) f l=kT P Γ ext l (f.set d v) s:=(rfl)
theorem qd (v:PV) (s:PS) (f:aX) (l:List PI):Dh P Γ ext (some (v,s)) none f l=kT P Γ ext l f s:=(rfl)
theorem Gy (d:Option Nat) (o:lM) (f:aX) (s:PS) (l:List PI):JI P Γ ext (some true) d o f s l=Dh P Γ ext (bE P (aH P Γ ext) f s o) d f l:=(rfl)
theorem EG (d:Nat) (o:lM) (f:aX) (s:PS) (l:List PI):JI P Γ ext (some false) (some d) o f s l=kT P Γ ext l (f.set d (.sc undef)) s:=(rfl)
theorem Cd (o:lM) (f:aX) (s:PS) (l:List PI):JI P Γ ext (some false) none o f s l=kT P Γ ext l f s:=(rfl)
theorem dA (d:Option Nat) (o:lM) (l:List PI) (f:aX) (s:PS):kT P Γ ext (⟨d,o,none⟩ :: l) f s=Dh P Γ ext (bE P (aH P Γ ext) f s o) d f l:=by
 rw [yr];unfold Dh wY iw;simp only [bG];cases bE P (aH P Γ ext) f s o<;>rfl
theorem Sa (d:Option Nat) (o:lM) (j:Nat) (w:Bool) (l:List PI) (f:aX) (s:PS):kT P Γ ext (⟨d,o,some (j,w)⟩ :: l) f s=JI P Γ ext (bG f (some (j,w))) d o f s l:=by
 rw [yr];unfold JI Dh wY iw;simp only;cases bG f (some (j,w)) with
 | none=>rfl
 | some b=>cases b with
  | false=>rfl
  | true=>simp only; cases bE P (aH P Γ ext) f s o<;>rfl
def KF (r:Option (aX × PS)):kY:=r.map fun q=>(.normal,q.1,q.2)
theorem de (f:aX) (s:PS):KF (some (f,s))=some (.normal,f,s):=(rfl)
theorem dX (l:List PI) (f:aX) (s:PS):aT P Γ ext (.reg l) f s=KF (kT P Γ ext l f s):=HC l f s
theorem fW (f:aX) (s:PS) (k:aX→PS→kY):im (some (.normal,f,s)) k=k f s:=(rfl)
theorem lz (f:aX) (s:PS) (k:aX→PS→kY):im (some (.ret,f,s)) k=some (.ret,f,s):=(rfl)
theorem oh (id:Nat) (f:aX) (s:PS) (k:aX→PS→kY):im (some (.exit id,f,s)) k=some (.exit id,f,s):=(rfl)
theorem Kf (id:Nat) (f:aX) (s:PS):jC id (some (.normal,f,s))=some (.normal,f,s):=(rfl)
theorem BP (id:Nat) (f:aX) (s:PS):jC id (some (.ret,f,s))=some (.ret,f,s):=(rfl)
theorem wC (id i:Nat) (f:aX) (s:PS):jC id (some (.exit i,f,s))=if i=id then some (.normal,f,s) else some (.exit i,f,s):=by
 show some (if i=id then _ else _)=_;split<;>rfl
theorem oM (x y:kY):nX (some true) x y=x:=(rfl)
theorem kM (x y:kY):nX (some false) x y=y:=(rfl)
theorem eQ (b:Bool):jY (.sc (.bool b))=some b:=(rfl)
noncomputable def Pg (fn:gk) (s:PS) (r:kY):Option (PV × PS):=r.bind fun q=>OF q (b9 fn s)
theorem ke (fn:gk) (s:PS) (f:aX) (s':PS):Pg fn s (some (.ret,f,s'))=b9 fn s f s':=(rfl)
theorem RR (fn:gk) (s:PS) (f:aX) (s':PS):Pg fn s (some (.normal,f,s'))=b9 fn s f s':=(rfl)
theorem ej {g:Nat}{fn:gk} (h:Γ g=some fn) (args:List PV) (s:PS) (hl:args.length≤fn.nt):aH P Γ ext g args s=Pg fn s (aT P Γ ext fn.body (bC args 0) ⟨s.h,s.n,s.n⟩):=by
 rw [JC h,if_pos hl]; rfl
theorem gx {fn:gk}{s:PS}{f:aX}{s':PS}{vs:List PV}{v:PV} (hk:fn.keep=false) (hr:cV f s' fn.res=some vs) (hw:s.n≤s'.w) (hv:frz s.n s' (bz vs)=some v):b9 fn s f s'=some (v,s):=by
 unfold b9;rw [hr];simp only [Option.bind_some,hk,Bool.false_eq_true,if_false,if_pos hw,hv,Option.map_some]
theorem Hu (j:Nat) (acc:List (Nat × jt × Nat × Nat)) (f:aX) (s:PS):pd P Γ ext [] j acc f s=some (f,s):=(rfl)
noncomputable def Fa (P:Program) (Γ:Nat→Option gk) (ext:ar) (r:Option (PV × PS)) (d:Option Nat) (E:jt) (pu:Bool) (un:List Nat) (l:List (PI × List Nat × List Nat)) (j:Nat) (acc:List (Nat × jt × Nat × Nat)) (f:aX) (s:PS):Option (aX × PS):=
 r.bind fun q=>if pu=true∧cZ un E acc then pd P Γ ext l (j + 1) ((j,E,s.n,q.2.n) :: acc) (BH f d q.1) q.2 else none
noncomputable def Vp (P:Program) (Γ:Nat→Option gk) (ext:ar) (b:Option Bool) (d:Option Nat) (o:lM) (ls un:List Nat) (l:List (PI × List Nat × List Nat)) (j:Nat) (acc:List (Nat × jt × Nat × Nat)) (f:aX) (s:PS):Option (aX × PS):=match b with
 | some true=>Fa P Γ ext (bE P (aH P Γ ext) (dI ls f) s o) d (da (dI ls f) o) (gE (ek Γ) (dI ls f) ⟨d,o,none⟩) un l j acc f s
 | some false=>Fa P Γ ext (some (.sc undef,s)) d ⟨[],[],false,false⟩ (gE (ek Γ) (dI ls f) ⟨d,o,none⟩) un l j acc f s
 | none=>none
theorem K3 (v:PV) (s':PS) (d:Nat) (E:jt) (un:List Nat) (l:List (PI × List Nat × List Nat)) (j:Nat) (acc:List (Nat × jt × Nat × Nat)) (f:aX) (s:PS) (h:cZ un E acc):Fa P Γ ext (some (v,s')) (some d) E true un l j acc f s=pd P Γ ext l (j + 1) ((j,E,s.n,s'.n) :: acc) (f.set d v) s':=by
 unfold Fa;simp only [Option.bind_some,h,and_self,if_true];rfl
theorem IV (v:PV) (s':PS) (E:jt) (un:List Nat) (l:List (PI × List Nat × List Nat)) (j:Nat) (acc:List (Nat × jt × Nat × Nat)) (f:aX) (s:PS) (h:cZ un E acc):Fa P Γ ext (some (v,s')) none E true un l j acc f s=pd P Γ ext l (j + 1) ((j,E,s.n,s'.n) :: acc) f s':=by
 unfold Fa;simp only [Option.bind_some,h,and_self,if_true];rfl
theorem Jr (f:aX) (d:Nat) (v:PV):aX.set f d v d=v:=if_pos rfl
theorem tA (f h:aX) (d:Option Nat) (v:PV):IS f d (BH h d v)=BH f d v:=by
 cases d with
 | none=>rfl
 | some d=>show aX.set f d (aX.set h d v d)=_; rw [Jr]; rfl
theorem zR (d:Option Nat) (o:lM) (ls un:List Nat) (l:List (PI × List Nat × List Nat)) (j:Nat) (acc:List (Nat × jt × Nat × Nat)) (f:aX) (s:PS):pd P Γ ext ((⟨d,o,none⟩,ls,un) :: l) j acc f s =
  Fa P Γ ext (bE P (aH P Γ ext) (dI ls f) s o) d (da (dI ls f) o) (gE (ek Γ) (dI ls f) ⟨d,o,none⟩) un l j acc f s:=by
 unfold Fa;show (iw P (aH P Γ ext) ⟨d,o,none⟩ (dI ls f) s).bind _=_;unfold iw;simp only [bG];cases bE P (aH P Γ ext) (dI ls f) s o with
 | none=>rfl
 | some q=>
  simp only [Option.map_some,Option.bind_some,tA];rfl
theorem OT (d:Option Nat) (o:lM) (x:Nat) (w:Bool) (ls un:List Nat) (l:List (PI × List Nat × List Nat)) (j:Nat) (acc:List (Nat × jt × Nat × Nat)) (f:aX) (s:PS):pd P Γ ext ((⟨d,o,some (x,w)⟩,ls,un) :: l) j acc f s =
  Vp P Γ ext (bG (dI ls f) (some (x,w))) d o ls un l j acc f s:=by
 unfold Vp;show (iw P (aH P Γ ext) ⟨d,o,some (x,w)⟩ (dI ls f) s).bind _=_;unfold iw;simp only;cases hg:bG (dI ls f) (some (x,w)) with
 | none=>rfl
 | some b=>
  cases b with
  | true=>
   unfold Fa;have he:rA (dI ls f) ⟨d,o,some (x,w)⟩=da (dI ls f) o:=by simp only [rA,hg]
   have hpu:gE (ek Γ) (dI ls f) ⟨d,o,some (x,w)⟩=gE (ek Γ) (dI ls f) ⟨d,o,none⟩:=rfl;cases bE P (aH P Γ ext) (dI ls f) s o with
   | none=>rfl
   | some q=>
    simp only [Option.map_some,Option.bind_some,tA,he,hpu];rfl
  | false=>
   unfold Fa;have he:rA (dI ls f) ⟨d,o,some (x,w)⟩=⟨[],[],false,false⟩:=by simp only [rA,hg]
   have hpu:gE (ek Γ) (dI ls f) ⟨d,o,some (x,w)⟩=gE (ek Γ) (dI ls f) ⟨d,o,none⟩:=rfl;simp only [Option.bind_some,tA,he,hpu];rfl
theorem Ma (l:List (PI × List Nat × List Nat)) (f:aX) (s:PS):aT P Γ ext (.draw l) f s=KF (pd P Γ ext l 0 [] f s):=Ds l f s
theorem OY (ls:List Nat) (f:aX) (t:Nat):dI ls f t=if t∈ls then f t else .sc undef:=(rfl)
theorem Hd (un:List Nat) (F:jt):cZ un F []:=fun e he=>by cases he
theorem KN (F:jt) (acc:List (Nat × jt × Nat × Nat)):cZ [] F acc:=fun e _ he=>by cases he
theorem OH (un:List Nat) (acc:List (Nat × jt × Nat × Nat)):cZ un ⟨[],[],false,false⟩ acc:=fun e _ _=>by
 refine⟨fun k _=>⟨?_,?_⟩,?_,?_,?_,?_,?_,?_⟩<;>simp
theorem Ec (un:List Nat) (F:jt) (e:Nat × jt × Nat × Nat) (acc:List (Nat × jt × Nat × Nat)):cZ un F (e :: acc)↔(e.1∈un→cd e.2.1 e.2.2.1 e.2.2.2 F)∧cZ un F acc:=by
 unfold cZ; simp
theorem Jy (E:jt) (a b:Nat):cd E a b ⟨[],[],false,false⟩:=by
 refine⟨fun k _=>⟨?_,?_⟩,?_,?_,?_,?_,?_,?_⟩<;>simp
theorem GY (li:Bool) (a b k:Nat) (h:b≤k):cd ⟨[],[],li,false⟩ a b ⟨[k],[k],false,false⟩:=by
 unfold cd; simp; omega
theorem Je (d:Option Nat) (o:lM) (ls un:List Nat) (l:List (PI × List Nat × List Nat)) (j:Nat) (acc:List (Nat × jt × Nat × Nat)) (f:aX) (s:PS):Vp P Γ ext (some true) d o ls un l j acc f s=Fa P Γ ext (bE P (aH P Γ ext) (dI ls f) s o) d (da (dI ls f) o) (gE (ek Γ) (dI ls f) ⟨d,o,none⟩) un l j acc f s:=(rfl)
theorem I3 (d:Option Nat) (o:lM) (ls un:List Nat) (l:List (PI × List Nat × List Nat)) (j:Nat) (acc:List (Nat × jt × Nat × Nat)) (f:aX) (s:PS):Vp P Γ ext (some false) d o ls un l j acc f s=Fa P Γ ext (some (.sc undef,s)) d ⟨[],[],false,false⟩ (gE (ek Γ) (dI ls f) ⟨d,o,none⟩) un l j acc f s:=(rfl)
theorem Hz (E:jt) (a b:Nat):cd E a b ⟨[],[],true,false⟩↔E.ca=false:=by
 unfold cd; simp
theorem VS (b:Bool):(b == true)=b:=by cases b<;>rfl
theorem Wt (b:Bool):(b == false)=!b:=by cases b<;>rfl
theorem du (f:aX) (t:Nat):cB f (.tmp t)=f t:=(rfl)
theorem ci (f:aX) (v:Value):cB f (.const v)=cI v:=(rfl)
theorem Hk (f:aX) (g:Nat):cB f (.func g)=.fn g [] []:=(rfl)
theorem aZ (f:aX) (d:Nat) (v:PV) (j:Nat):aX.set f d v j=if j=d then v else f j:=(rfl)
theorem eY (s:PS) (b:Eq) (j:Nat):(s.new b).h j=if j=s.n then b else s.h j:=(rfl)
theorem dN (s:PS) (b:Eq):(s.new b).n=s.n + 1:=(rfl)
theorem kq (s:PS) (b:Eq):(s.new b).w=s.w:=(rfl)
theorem eZ (s:PS) (k:Nat) (b:Eq) (j:Nat):(s.put k b).h j=if j=k then b else s.h j:=(rfl)
theorem eU (s:PS) (k:Nat) (b:Eq):(s.put k b).n=s.n:=(rfl)
theorem mo (s:PS) (k:Nat) (b:Eq):(s.put k b).w=min s.w k:=(rfl)
theorem uJ (t:Nat) (x y:Operand) (a b:Int):fJ P .add t x y (.sc (.int .i64 a)) (.sc (.int .i64 b))=some (.sc (.int .i64 (IntKind.i64.wrap (a + b)))):=(rfl)
theorem O8 (t:Nat) (x y:Operand) (a b:Int):fJ P .sub t x y (.sc (.int .i64 a)) (.sc (.int .i64 b))=some (.sc (.int .i64 (IntKind.i64.wrap (a - b)))):=(rfl)
theorem lg (t:Nat) (x y:Operand) (a b:Int):fJ P .lss t x y (.sc (.int .i64 a)) (.sc (.int .i64 b))=some (.sc (.bool (decide (a < b)))):=(rfl)
theorem MK (t:Nat) (x y:Operand) (a b:Int):fJ P .leq t x y (.sc (.int .i64 a)) (.sc (.int .i64 b))=some (.sc (.bool (decide (a≤b)))):=(rfl)
theorem M8 (t:Nat) (x y:Operand) (a b:Int):fJ P .gtr t x y (.sc (.int .i64 a)) (.sc (.int .i64 b))=some (.sc (.bool (decide (a > b)))):=(rfl)
theorem MU (t:Nat) (x y:Operand) (a b:Int):fJ P .geq t x y (.sc (.int .i64 a)) (.sc (.int .i64 b))=some (.sc (.bool (decide (a ≥ b)))):=(rfl)
theorem NU (t:Nat) (x y:Operand) (a b:Int):fJ P .eql t x y (.sc (.int .i64 a)) (.sc (.int .i64 b))=some (.sc (.bool (a == b))):=(rfl)
theorem jJ (t:Nat) (x y:Operand) (a b:Int):fJ P .neq t x y (.sc (.int .i64 a)) (.sc (.int .i64 b))=some (.sc (.bool (a != b))):=(rfl)
theorem Jn (t:Nat) (x y:Operand) (a b:ByteArray):fJ P .eql t x y (.sc (.string a)) (.sc (.string b))=some (.sc (.bool (a.toList == b.toList))):=(rfl)
theorem Kw (t:Nat) (x y:Operand) (a b:ByteArray):fJ P .neq t x y (.sc (.string a)) (.sc (.string b))=some (.sc (.bool (!(a.toList == b.toList)))):=(rfl)
theorem ch {α β:Type} (P:Program) (s:Sem α) (k:α→Sem β):bH P (s >>= k)=(bH P s).bind fun a=>bH P (k a):=by
 induction s with
 | pure a=>rfl
 | program k' ih=>exact ih P
 | _=>first | rfl | (rename_i ih; exact ih)
theorem fM {P:Program}{t:Nat}{d:TypeDesc} (h:P.underlying t=some d):bH P (underlying t)=some d:=by
 show bH P ((match P.underlying t with | some d=>pure d | none=>_:Sem TypeDesc))=_;rw [h]; rfl
theorem Gp {P:Program}{t:Nat} (hu:P.underlying t=some .bool) (x y:Operand) (a b:Bool):ry P .eql t x y (.bool a) (.bool b)=some (.bool (a == b)):=by
 have e:ry P .eql t x y (.bool a) (.bool b)=bH P (Op.equalIn Op.maxDepth t (.bool a) (.bool b) >>= fun r=>pure (.bool r)):=(rfl)
 rw [e,ch];have:bH P (Op.equalIn Op.maxDepth t (.bool a) (.bool b))=some (a == b):=by
  show bH P (underlying t >>= _)=_;rw [ch,fM hu];rfl
 rw [this]; rfl
theorem gV {P:Program}{t:Nat} (hu:P.underlying t=some .bool) (x y:Operand) (a b:Bool):fJ P .eql t x y (.sc (.bool a)) (.sc (.bool b))=some (.sc (.bool (a == b))):=by
 simp only [fJ,iD,Gp hu]; rfl
theorem g9 {P:Program}{t:Nat} (hu:P.underlying t=some .bool) (x y:Operand) (a b:Bool):fJ P .neq t x y (.sc (.bool a)) (.sc (.bool b))=some (.sc (.bool (!(a == b)))):=by
 have e:ry P .neq t x y (.bool a) (.bool b)=bH P (Op.equalIn Op.maxDepth t (.bool a) (.bool b) >>= fun r=>pure (.bool (!r))):=(rfl)
 have h:bH P (Op.equalIn Op.maxDepth t (.bool a) (.bool b))=some (a == b):=by
  show bH P (underlying t >>= _)=_;rw [ch,fM hu];rfl
 rw [ch,h] at e;have e':ry P .neq t x y (.bool a) (.bool b)=some (.bool (!(a == b))):=e;simp only [fJ,iD,e']; rfl
theorem EJ (b:Bool):W5 P .not (.sc (.bool b))=some (.sc (.bool (!b))):=(rfl)
end
theorem sO (k:IntKind) (i:Nat):l8 (.sc (.int k (i:Int)))=some i:=by
 simp only [l8]; rw [if_pos (by omega),Int.toNat_natCast]
theorem H5 (k:IntKind):l8 (.sc (.int k 0))=some 0:=(rfl)
theorem aJ {α:Type}{c:α→List PV}{es:Nat} (hc:∀x,(c x).length=es) (l:List α):(l.flatMap c).length=l.length * es:=by
 induction l with
 | nil=>simp
 | cons x l ih=>rw [List.flatMap_cons,List.length_append,hc,ih,List.length_cons,Nat.succ_mul]; omega
theorem yt {α:Type}{c:α→List PV}{es:Nat} (hc:∀x,(c x).length=es):∀(l:List α) (i:Nat),(l.flatMap c).drop (i * es)=(l.drop i).flatMap c:=by
 intro l
 induction l with
 | nil=>intro i; simp
 | cons x l ih=>
  intro i;cases i with
  | zero=>simp
  | succ i=>rw [List.flatMap_cons,Nat.succ_mul,Nat.add_comm,← List.drop_drop,List.drop_left' (hc x),ih,List.drop_succ_cons]
theorem cm {α:Type}{c:α→List PV}{es:Nat} (hc:∀x,(c x).length=es) {l:List α}{i:Nat}{x:α} (h:l[i]?=some x):∃r,(l.flatMap c).drop (i * es)=c x ++ r:=by
 rw [yt hc];have hi:i < l.length:=(List.getElem?_eq_some_iff.1 h).1;refine⟨(l.drop (i + 1)).flatMap c,?_⟩;rw [List.drop_eq_getElem_cons hi,List.flatMap_cons];congr 1;rw [List.getElem?_eq_getElem hi] at h;injection h with h; rw [h]
def aU {α:Type} (e:Nat) (c:α→List PV) (x:Option (List α)):PV:=match x with
 | none=>.sc (.slice none 0 0)
 | some l=>.lit e l.length (l.flatMap c)
def bU:=And.intro (@aU.eq_1)<|@aU.eq_2
theorem bT {α:Type}{e:Nat}{c:α→List PV} (x:Option (List α)):gB false (aU e c x)=some (.sc (.int .i64 ((x.getD []).length:Int))):=by
 cases x<;>rfl
theorem kX {α:Type}{es:Nat}{c:α→List PV} (hc:∀x,(c x).length=es) {l:List α}{j:Nat}{x:α} (h:l[j]?=some x) (s:PS):xr s (.litp ((l.flatMap c).drop (j * es))) es=some (c x):=by
 obtain⟨r,hr⟩:=cm hc h;simp only [xr,hr];rw [if_pos (by rw [List.length_append,hc]; omega),List.take_left' (hc x)]
theorem DZ {s:PS}{k fin:Nat}{ys:List PV} (h1:ys.length=fin) (h2:(s.h k).cells.length=fin) (h3:ys.all db=true):Gb s (.ptr k 0 fin) ys=some (s.put k ⟨ys,fin,(s.h k).e⟩):=by
 simp only [Gb];rw [if_pos ⟨by omega,h2.symm,h3⟩,List.take_zero,List.nil_append,List.drop_of_length_le (by omega),List.append_nil]
theorem yY (s:PS) (k off fin sz:Nat):xr s (.ptr k off fin) sz=if off + sz≤fin∧(s.h k).low≤fin∧fin≤(s.h k).cells.length then some (((s.h k).cells.drop off).take sz) else none:=(rfl)
theorem uR {n:Nat} (h:n < 9223372036854775808):IntKind.i64.wrap (n:Int)=(n:Int):=by
 unfold IntKind.wrap;simp [IntKind.bits,IntKind.signed];omega
theorem fY {i:Nat} (h:i < 4611686018427387904):IntKind.i64.wrap ((i:Int) + 1)=((i + 1:Nat):Int):=by
 rw [← uR (n:=i + 1) (by omega)]; rfl
def DG (t es:Nat) (z:Array Value) (sl:Nat):gk:=⟨32,
 (.seq (.reg [⟨some 6,.mv (.const (.bool false)),none⟩])
 (.seq (.seq (.reg [⟨some 10,.mv (.tmp 0),none⟩,
   ⟨some 11,.len false (.tmp 10),none⟩,
   ⟨some 12,.mv (.tmp 1),none⟩,
   ⟨some 13,.len false (.tmp 12),none⟩,
   ⟨some 14,.bin .neq sl (.tmp 11) (.tmp 13),none⟩])
  (.cond (.tmp 14)
   (.seq (.reg [⟨some 6,.mv (.const (.bool false)),none⟩])
   .ret)
   (.skip)))
 (.seq (.seq (.reg [⟨some 15,.mv (.tmp 0),none⟩,
   ⟨some 16,.len false (.tmp 15),none⟩,
   ⟨some 17,.mv (.const (.int .i64 0)),none⟩])
  (.block 0
   (.loop
    (.seq (.reg [⟨some 18,.bin .lss sl (.tmp 17) (.tmp 16),none⟩])
    (.seq (.cond (.tmp 18)
     (.skip)
     (.exit 0))
    (.seq (.block 1
     (.seq (.reg [⟨some 19,.mv (.tmp 17),none⟩,
       ⟨some 20,.iaddr es (.tmp 15) (.tmp 17),none⟩,
       ⟨some 21,.load t true es (.tmp 20),none⟩,
       ⟨some 8,.alloc t (.agg z),none⟩,
       ⟨some 7,.mv (.tmp 19),none⟩,
       ⟨none,.store t es (.tmp 8) (.tmp 21),none⟩])
     (.seq (.reg [⟨some 22,.mv (.tmp 1),none⟩,
       ⟨some 23,.mv (.tmp 7),none⟩,
       ⟨some 24,.iaddr es (.tmp 22) (.tmp 23),none⟩,
       ⟨some 25,.load t true es (.tmp 24),none⟩,
       ⟨some 9,.alloc t (.agg z),none⟩,
       ⟨none,.store t es (.tmp 9) (.tmp 25),none⟩])
     (.seq (.reg [⟨some 26,.mv (.tmp 2),none⟩,
       ⟨some 27,.load t true es (.tmp 8),none⟩,
       ⟨some 28,.load t true es (.tmp 9),none⟩,
       ⟨some 29,.call (.tmp 26) [(.tmp 27),(.tmp 28)],none⟩,
       ⟨some 30,.un .not (.tmp 29),none⟩])
     (.cond (.tmp 30)
      (.seq (.reg [⟨some 6,.mv (.const (.bool false)),none⟩])
      .ret)
      (.skip))))))
    (.reg [⟨some 31,.bin .add sl (.tmp 17) (.const (.int .i64 1)),none⟩,
     ⟨some 17,.mv (.tmp 31),none⟩])))))))
 (.seq (.reg [⟨some 6,.mv (.const (.bool true)),none⟩])
 .ret)))),
 [.tmp 6],false⟩
section
variable {P:Program}{Γ:Nat→Option gk}{ext:ar}
def tq (t es:Nat) (z:Array Value) (sl:Nat):bj:=(.seq (.reg [⟨some 18,.bin .lss sl (.tmp 17) (.tmp 16),none⟩])
    (.seq (.cond (.tmp 18)
     (.skip)
     (.exit 0))
    (.seq (.block 1
     (.seq (.reg [⟨some 19,.mv (.tmp 17),none⟩,
       ⟨some 20,.iaddr es (.tmp 15) (.tmp 17),none⟩,
       ⟨some 21,.load t true es (.tmp 20),none⟩,
       ⟨some 8,.alloc t (.agg z),none⟩,
       ⟨some 7,.mv (.tmp 19),none⟩,
       ⟨none,.store t es (.tmp 8) (.tmp 21),none⟩])
     (.seq (.reg [⟨some 22,.mv (.tmp 1),none⟩,
       ⟨some 23,.mv (.tmp 7),none⟩,
       ⟨some 24,.iaddr es (.tmp 22) (.tmp 23),none⟩,
       ⟨some 25,.load t true es (.tmp 24),none⟩,
       ⟨some 9,.alloc t (.agg z),none⟩,
       ⟨none,.store t es (.tmp 9) (.tmp 25),none⟩])
     (.seq (.reg [⟨some 26,.mv (.tmp 2),none⟩,
       ⟨some 27,.load t true es (.tmp 8),none⟩,
       ⟨some 28,.load t true es (.tmp 9),none⟩,
       ⟨some 29,.call (.tmp 26) [(.tmp 27),(.tmp 28)],none⟩,
       ⟨some 30,.un .not (.tmp 29),none⟩])
     (.cond (.tmp 30)
      (.seq (.reg [⟨some 6,.mv (.const (.bool false)),none⟩])
      .ret)
      (.skip))))))
    (.reg [⟨some 31,.bin .add sl (.tmp 17) (.const (.int .i64 1)),none⟩,
     ⟨some 17,.mv (.tmp 31),none⟩]))))
structure Ni {α:Type} (e:Nat) (c:α→List PV) (l m:Option (List α)) (g:Nat) (i:Nat) (f:aX):Prop where
 a:f 15=aU e c l
 b:f 1=aU e c m
 n:f 16=.sc (.int .i64 ((l.getD []).length:Int))
 i:f 17=.sc (.int .i64 (i:Int))
 g:f 2=.fn g [] []
theorem Lo {α:Type}{e t es sl:Nat}{z:Array Value}{c:α→List PV} (hc:∀x,(c x).length=es) (hz:(z.toList.map PV.sc).length=es) {l m:Option (List α)}{g i:Nat}{x y:α} (hox:(c x).all db=true) (hoy:(c y).all db=true) (hl:(l.getD [])[i]?=some x) (hm:(m.getD [])[i]?=some y) (hbig:(l.getD []).length < 4611686018427387904) {r:Bool}
  (hr:∀s,aH P Γ ext g [.agg (c x),.agg (c y)] s=some (.sc (.bool r),s)) {f:aX}{s:PS} (h:Ni e c l m g i f) :
  ∃f' s',aT P Γ ext (tq t es z sl) f s=some (if r then (.normal,f',s') else (.ret,f',s'))∧(r=true→Ni e c l m g (i + 1) f')∧(r=false→f' 6=.sc (.bool false))∧(∀n0,n0≤s.n→n0≤s.w→n0≤s'.n∧n0≤s'.w):=by
 obtain⟨l,rfl⟩ : ∃k,l=some k:=by cases l with | none=>simp at hl | some k=>exact⟨k,rfl⟩
 obtain⟨m,rfl⟩ : ∃k,m=some k:=by cases m with | none=>simp at hm | some k=>exact⟨k,rfl⟩
 simp only [Option.getD_some] at hl hm hbig;have hi:i < l.length:=(List.getElem?_eq_some_iff.1 hl).1;have hj:i < m.length:=(List.getElem?_eq_some_iff.1 hm).1;have h1:=aJ hc l;have h2:=aJ hc m;have h3:=kX hc hl;have h4:=kX hc hm;have h5:(decide ((i:Int) < (l.length:Int)))=true:=by simp; exact hi
 have h6:=fY (i:=i) (by omega);have ht:∀x,(c x).take es=c x:=fun x=>List.take_of_length_le (by rw [hc]; omega);obtain⟨ha,hb,hn,hii,hg⟩:=h;simp only [aU,Option.getD_some] at ha hb hn;cases r with
 | true=>
  simp -implicitDefEqProofs only [tq,bV,dX,ff,dx,gX,dr,eM,dA,bY,bD,qd,bE,cg,Nat.zero_add,Option.map_some,Option.bind_some,du,ci,aZ,Nat.reduceEqDiff,aC,↓reduceIte,cI,fW,Kf,oM,kM,eQ,de,eY,dN,eZ,eU,yY,aW,Nat.left_eq_add,Nat.one_ne_zero,and_self,List.drop_zero,Nat.le_refl,uJ,lg,EJ,Bool.not_true,cP,List.map_cons,List.map_nil,List.nil_append,List.append_nil,Bool.true_eq_false,DZ,sO,ha,hb,hn,hii,hg,hi,hj,h1,h2,h3,h4,h5,h6,hc,hox,hoy,hz,ht,hr];refine⟨_,_,rfl,fun _=>?_,fun hh=>(by cases hh),?_⟩
  ·constructor<;>simp -implicitDefEqProofs only [aZ,Nat.reduceEqDiff,↓reduceIte,ha,hb,hn,hg,aU,Option.getD_some]
  ·intro n0 w1 w2;simp only [eU,mo,dN,kq];omega
 | false=>
  simp -implicitDefEqProofs only [tq,bV,dX,ff,dx,gX,dr,eM,dA,bY,bD,qd,bE,cg,Nat.zero_add,Option.map_some,Option.bind_some,du,ci,aZ,Nat.reduceEqDiff,aC,↓reduceIte,cI,fW,lz,BP,oM,eQ,de,eY,dN,eZ,eU,yY,aW,Nat.left_eq_add,Nat.one_ne_zero,and_self,List.drop_zero,Nat.le_refl,lg,EJ,Bool.not_false,cP,List.map_cons,List.map_nil,List.nil_append,List.append_nil,Bool.false_eq_true,DZ,sO,ha,hb,hn,hii,hg,hi,hj,h1,h2,h3,h4,h5,hc,hox,hoy,hz,ht,hr];refine⟨_,_,rfl,fun hh=>(by cases hh),fun _=>?_,?_⟩
  ·simp -implicitDefEqProofs only [aZ,↓reduceIte]
  ·intro n0 w1 w2;simp only [eU,mo,dN,kq];omega
def iH (r:Nat→Bool):Nat→Nat→Bool
 | _,0=>true
 | i,k + 1=>r i && iH r (i + 1) k
theorem OQ {α:Type}{e t es sl:Nat}{z:Array Value}{c:α→List PV} (hc:∀x,(c x).length=es) (hz:(z.toList.map PV.sc).length=es) {l m:Option (List α)} (ho:∀x,x∈l.getD []∨x∈m.getD []→(c x).all db=true) {g:Nat} (hlm:(l.getD []).length=(m.getD []).length) (hbig:(l.getD []).length < 4611686018427387904) {r:Nat→Bool}
  (hr:∀i x y,(l.getD [])[i]?=some x→(m.getD [])[i]?=some y→∀s,aH P Γ ext g [.agg (c x),.agg (c y)] s=some (.sc (.bool (r i)),s)):∀(k i:Nat) {f:aX}{s:PS},i + k=(l.getD []).length→Ni e c l m g i f→
  ∃f' s',aT P Γ ext (.loop (tq t es z sl)) f s=some (if iH r i k then (.exit 0,f',s') else (.ret,f',s'))∧(iH r i k=false→f' 6=.sc (.bool false))∧(∀n0,n0≤s.n→n0≤s.w→n0≤s'.n∧n0≤s'.w):=by
 intro k
 induction k with
 | zero=>
  intro i f s hik h;have h5:(decide ((i:Int) < ((l.getD []).length:Int)))=false:=by simp only [decide_eq_false_iff_not]; omega
  rw [gw];obtain⟨ha,hb,hn,hii,hg⟩:=h;simp -implicitDefEqProofs only [tq,bV,dX,dx,gX,dr,dA,bY,bD,bE,cg,Option.map_some,du,aZ,↓reduceIte,fW,oh,kM,eQ,de,lg,Bool.true_eq_false,hn,hii,h5,iH];exact⟨_,_,rfl,fun hh=>(by cases hh),fun n0 w1 w2=>⟨w1,w2⟩⟩
 | succ k ih=>
  intro i f s hik h;have hi:i < (l.getD []).length:=by omega
  have hl:(l.getD [])[i]?=some (l.getD [])[i]:=List.getElem?_eq_getElem hi;have hm:(m.getD [])[i]?=some ((m.getD [])[i]'(by omega)):=List.getElem?_eq_getElem (by omega);obtain⟨f1,s1,e1,e2,e3,e4⟩:=Lo (t:=t) (sl:=sl) hc hz (ho _ (.inl (List.mem_of_getElem? hl))) (ho _ (.inr (List.mem_of_getElem? hm))) hl hm hbig (hr i _ _ hl hm) (s:=s) h;rw [gw,e1];cases hri:r i with
  | true=>
   rw [hri] at e2;simp only [hri,if_true,fW,iH,Bool.true_and];obtain⟨f',s',q1,q2,q3⟩:=ih (i + 1) (f:=f1) (s:=s1) (by omega) (e2 rfl);exact⟨f',s',q1,q2,fun n0 w1 w2=>q3 n0 (e4 n0 w1 w2).1 (e4 n0 w1 w2).2⟩
  | false=>
   rw [hri] at e3;simp only [hri,iH,Bool.false_and,Bool.false_eq_true,if_false,lz];exact⟨f1,s1,rfl,fun _=>e3 rfl,e4⟩
theorem s9 {α:Type}{e t es sl:Nat}{z:Array Value}{c:α→List PV} (hc:∀x,(c x).length=es) (hz:(z.toList.map PV.sc).length=es) {G:Nat} (hG:Γ G=some (DG t es z sl)) {l m:Option (List α)} (ho:∀x,x∈l.getD []∨x∈m.getD []→(c x).all db=true) {g:Nat} (hbig:(l.getD []).length < 4611686018427387904) {r:Nat→Bool}
  (hr:∀i x y,(l.getD [])[i]?=some x→(m.getD [])[i]?=some y→∀s,aH P Γ ext g [.agg (c x),.agg (c y)] s=some (.sc (.bool (r i)),s)) (s:PS) :
  aH P Γ ext G [aU e c l,aU e c m,.fn g [] []] s=some (.sc (.bool ((l.getD []).length == (m.getD []).length && iH r 0 (l.getD []).length)),s):=by
 rw [ej hG _ _ (by simp [DG])];have L1:=bT (e:=e) (c:=c) l;have L2:=bT (e:=e) (c:=c) m;by_cases hlm:(l.getD []).length=(m.getD []).length
 ·have hne:((((l.getD []).length:Int)) != ((m.getD []).length:Int))=false:=by simp [hlm]
  have heq:((l.getD []).length == (m.getD []).length)=true:=by simp [hlm]
  have hin:Ni e c l m g 0 (aX.set (aX.set (aX.set (aX.set (aX.set (aX.set (aX.set (aX.set (aX.set (bC [aU e c l,aU e c m,.fn g [] []] 0) 6 (.sc (.bool false))) 10 (aU e c l)) 11 (.sc (.int .i64 ((l.getD []).length:Int)))) 12 (aU e c m)) 13 (.sc (.int .i64 ((m.getD []).length:Int)))) 14 (.sc (.bool false))) 15 (aU e c l)) 16 (.sc (.int .i64 ((l.getD []).length:Int)))) 17 (.sc (.int .i64 0))):=by
   constructor<;>simp -implicitDefEqProofs only [bC,Nat.zero_add,Nat.reduceAdd,aZ,Nat.reduceEqDiff,↓reduceIte,Nat.one_ne_zero,reduceCtorEq]<;>rfl
  obtain⟨f',s',q1,q2,q3⟩:=OQ (P:=P) (ext:=ext) (t:=t) (sl:=sl) hc hz ho hlm hbig hr (l.getD []).length 0 (s:=⟨s.h,s.n,s.n⟩) (by omega) hin;obtain⟨w1,w2⟩:=q3 s.n (Nat.le_refl _) (Nat.le_refl _);rw [heq,Bool.true_and];have e1:(DG t es z sl).body=.seq (.reg [⟨some 6,.mv (.const (.bool false)),none⟩]) (.seq (.seq (.reg [⟨some 10,.mv (.tmp 0),none⟩,⟨some 11,.len false (.tmp 10),none⟩,⟨some 12,.mv (.tmp 1),none⟩,⟨some 13,.len false (.tmp 12),none⟩,⟨some 14,.bin .neq sl (.tmp 11) (.tmp 13),none⟩]) (.cond (.tmp 14) (.seq (.reg [⟨some 6,.mv (.const (.bool false)),none⟩]) .ret) .skip))
   (.seq (.seq (.reg [⟨some 15,.mv (.tmp 0),none⟩,⟨some 16,.len false (.tmp 15),none⟩,⟨some 17,.mv (.const (.int .i64 0)),none⟩]) (.block 0 (.loop (tq t es z sl)))) (.seq (.reg [⟨some 6,.mv (.const (.bool true)),none⟩]) .ret))):=rfl
  rw [e1];simp only [bC] at q1;cases hb:iH r 0 (l.getD []).length with
  | true=>
   rw [hb] at q1;simp -implicitDefEqProofs only [bV,dX,ff,dx,dr,eM,dA,bY,bD,bE,cg,bC,Nat.zero_add,Nat.reduceAdd,Option.map_some,du,ci,aZ,Nat.reduceEqDiff,↓reduceIte,cI,fW,wC,kM,eQ,de,Nat.one_ne_zero,jJ,b9,bz,frz,cT,cM,ke,reduceCtorEq,L1,L2,hne,q1];simp -implicitDefEqProofs only [DG,Option.map_some,Option.bind_some,aZ,↓reduceIte,cV,Bool.false_eq_true,w2]
  | false=>
   rw [hb] at q1 q2;have q2':=q2 rfl;simp -implicitDefEqProofs only [bV,dX,ff,dx,dr,eM,dA,bY,bD,bE,cg,bC,Nat.zero_add,Nat.reduceAdd,Option.map_some,du,ci,aZ,Nat.reduceEqDiff,↓reduceIte,cI,fW,lz,BP,kM,eQ,de,Nat.one_ne_zero,jJ,b9,bz,frz,cT,cM,ke,Bool.false_eq_true,reduceCtorEq,L1,L2,hne,q1];simp -implicitDefEqProofs only [DG,Option.map_some,Option.bind_some,↓reduceIte,cV,Bool.false_eq_true,w2,q2']
 ·have hne:((((l.getD []).length:Int)) != ((m.getD []).length:Int))=true:=by simp; omega
  have heq:((l.getD []).length == (m.getD []).length)=false:=by simp [hlm]
  simp -implicitDefEqProofs only [DG,bV,dX,ff,dx,dr,dA,bY,bD,bE,cg,bC,Nat.zero_add,Nat.reduceAdd,Option.map_some,Option.bind_some,du,ci,aZ,Nat.reduceEqDiff,↓reduceIte,cI,fW,lz,oM,eQ,de,Nat.one_ne_zero,Nat.le_refl,jJ,b9,cV,bz,frz,cT,cM,ke,Bool.false_eq_true,reduceCtorEq,L1,L2,hne,heq,Bool.false_and]
end
section
variable {P:Program}{Γ:Nat→Option gk}{ext:ar}
structure qG {α:Type} (e:Nat) (c:α→List PV) (l m:Option (List α)) (i:Nat) (f:aX):Prop where
 a:f 0=aU e c l
 b:f 1=aU e c m
 i:f 5=.sc (.int .i64 (i:Int))
def B5 (inner:bj):bj:=(.seq (.seq (.reg [⟨some 11,.mv (.tmp 5),none⟩,⟨some 12,.mv (.tmp 0),none⟩,⟨some 13,.len false (.tmp 12),none⟩,⟨some 14,.bin .lss 3 (.tmp 11) (.tmp 13),none⟩]) (.cond (.tmp 14) (.skip) (.exit 0)))
    (.seq (.block 1 inner) (.reg [⟨some 15,.mv (.tmp 5),none⟩,⟨some 16,.bin .add 3 (.tmp 15) (.const (.int .i64 1)),none⟩,⟨some 5,.mv (.tmp 16),none⟩])))
def nE (nt:Nat) (inner:bj):gk:=⟨nt,
 (.seq (.reg [⟨some 4,.mv (.const (.bool false)),none⟩])
 (.seq (.seq (.reg [⟨some 6,.mv (.tmp 0),none⟩,⟨some 7,.len false (.tmp 6),none⟩,⟨some 8,.mv (.tmp 1),none⟩,⟨some 9,.len false (.tmp 8),none⟩,⟨some 10,.bin .neq 3 (.tmp 7) (.tmp 9),none⟩])
  (.cond (.tmp 10) (.seq (.reg [⟨some 4,.mv (.const (.bool false)),none⟩]) .ret) (.skip)))
 (.seq (.seq (.reg [⟨some 5,.mv (.const (.int .i64 0)),none⟩]) (.block 0 (.loop (B5 inner))))
 (.seq (.reg [⟨some 4,.mv (.const (.bool true)),none⟩]) .ret)))),[.tmp 4],false⟩
theorem I4 {α:Type}{e:Nat}{c:α→List PV}{l m:Option (List α)} (hlm:(l.getD []).length=(m.getD []).length) (hbig:(l.getD []).length < 4611686018427387904) {r:Nat→Bool}{inner:bj}
  (hr:∀i x y,(l.getD [])[i]?=some x→(m.getD [])[i]?=some y→∀f s,qG e c l m i f→∃f' s',aT P Γ ext (.block 1 inner) f s=some (if r i then (.normal,f',s') else (.ret,f',s'))∧(r i=true→f' 0=f 0∧f' 1=f 1∧f' 5=f 5)∧(r i=false→f' 4=.sc (.bool false))∧(∀n0,n0≤s.n→n0≤s.w→n0≤s'.n∧n0≤s'.w)) :
  ∀(k i:Nat) {f:aX}{s:PS},i + k=(l.getD []).length→qG e c l m i f→
  ∃f' s',aT P Γ ext (.loop (B5 inner)) f s=some (if iH r i k then (.exit 0,f',s') else (.ret,f',s'))∧(iH r i k=false→f' 4=.sc (.bool false))∧(∀n0,n0≤s.n→n0≤s.w→n0≤s'.n∧n0≤s'.w):=by
 intro k
 induction k with
 | zero=>
  intro i f s hik h;have h5:(decide ((i:Int) < ((l.getD []).length:Int)))=false:=by simp only [decide_eq_false_iff_not]; omega
  have L1:=bT (e:=e) (c:=c) l;rw [gw];obtain⟨ha,hb,hii⟩:=h;simp -implicitDefEqProofs only [B5,bV,dX,dx,gX,dr,dA,bY,bD,bE,cg,Option.map_some,du,aZ,Nat.reduceEqDiff,↓reduceIte,fW,oh,kM,eQ,de,lg,Bool.true_eq_false,reduceCtorEq,ha,hii,L1,h5,iH];exact⟨_,_,rfl,fun hh=>(by cases hh),fun n0 w1 w2=>⟨w1,w2⟩⟩
 | succ k ih=>
  intro i f s hik h;have hi:i < (l.getD []).length:=by omega
  have hl:(l.getD [])[i]?=some (l.getD [])[i]:=List.getElem?_eq_getElem hi;have hm:(m.getD [])[i]?=some ((m.getD [])[i]'(by omega)):=List.getElem?_eq_getElem (by omega);have h5:(decide ((i:Int) < ((l.getD []).length:Int)))=true:=by simp only [decide_eq_true_iff]; omega
  have h6:=fY (i:=i) (by omega);have L1:=bT (e:=e) (c:=c) l;obtain⟨ha,hb,hii⟩:=h;obtain⟨f1,s1,e1,e2,e3,e4⟩:=hr i _ _ hl hm ((((f.set 11 (.sc (.int .i64 (i:Int)))).set 12 (aU e c l)).set 13 (.sc (.int .i64 ((l.getD []).length:Int)))).set 14 (.sc (.bool true))) s ⟨by simp -implicitDefEqProofs only [aZ,↓reduceIte,reduceCtorEq,ha],by simp -implicitDefEqProofs only [aZ,Nat.reduceEqDiff,↓reduceIte,hb],by simp -implicitDefEqProofs only [aZ,Nat.reduceEqDiff,↓reduceIte,hii]⟩;have hstep:aT P Γ ext (B5 inner) f s=im (aT P Γ ext (.block 1 inner) ((((f.set 11 (.sc (.int .i64 (i:Int)))).set 12 (aU e c l)).set 13 (.sc (.int .i64 ((l.getD []).length:Int)))).set 14 (.sc (.bool true))) s) (aT P Γ ext (.reg [⟨some 15,.mv (.tmp 5),none⟩,⟨some 16,.bin .add 3 (.tmp 15) (.const (.int .i64 1)),none⟩,⟨some 5,.mv (.tmp 16),none⟩])):=by
   unfold B5;rw [bV,bV];have:aT P Γ ext (.seq (.block 1 inner) (.reg [⟨some 15,.mv (.tmp 5),none⟩,⟨some 16,.bin .add 3 (.tmp 15) (.const (.int .i64 1)),none⟩,⟨some 5,.mv (.tmp 16),none⟩]))=fun f s=>im (aT P Γ ext (.block 1 inner) f s) (aT P Γ ext (.reg [⟨some 15,.mv (.tmp 5),none⟩,⟨some 16,.bin .add 3 (.tmp 15) (.const (.int .i64 1)),none⟩,⟨some 5,.mv (.tmp 16),none⟩])):=by
    funext f s; exact bV _ _ f s
   rw [this];simp -implicitDefEqProofs only [dX,dr,dx,gX,dA,bY,bD,bE,cg,du,aZ,Nat.reduceEqDiff,↓reduceIte,Option.map_some,de,fW,oM,eQ,lg,ha,hii,L1,h5]
  rw [gw,hstep,e1];cases hri:r i with
  | true=>
   rw [hri] at e2;obtain⟨q0,q1,q5⟩:=e2 rfl;simp -implicitDefEqProofs only [aZ,Nat.reduceEqDiff,↓reduceIte,reduceCtorEq,ha,hb,hii] at q0 q1 q5;simp -implicitDefEqProofs only [hri,fW,iH,Bool.true_and,dX,dA,bY,bD,bE,cg,Option.map_some,du,ci,aZ,↓reduceIte,cI,fW,de,uJ,q5,h6];obtain⟨f',s',z1,z2,z3⟩:=ih (i + 1) (f:=((f1.set 15 (.sc (.int .i64 (i:Int)))).set 16 (.sc (.int .i64 ((i + 1:Nat):Int)))).set 5 (.sc (.int .i64 ((i + 1:Nat):Int)))) (s:=s1) (by omega) ⟨by simp -implicitDefEqProofs only [aZ,↓reduceIte,reduceCtorEq,q0],by simp -implicitDefEqProofs only [aZ,Nat.reduceEqDiff,↓reduceIte,q1],by simp -implicitDefEqProofs only [aZ,↓reduceIte]⟩;exact⟨f',s',z1,z2,fun n0 w1 w2=>z3 n0 (e4 n0 w1 w2).1 (e4 n0 w1 w2).2⟩
  | false=>
   rw [hri] at e3;simp only [hri,iH,Bool.false_and,Bool.false_eq_true,if_false,lz];exact⟨f1,s1,rfl,fun _=>e3 rfl,e4⟩
theorem yH {α:Type}{e:Nat}{c:α→List PV}{l m:Option (List α)} (hbig:(l.getD []).length < 4611686018427387904) {r:Nat→Bool}{inner:bj}{G nt:Nat} (hG:Γ G=some (nE nt inner)) (hnt : 2≤nt)
  (hr:∀i x y,(l.getD [])[i]?=some x→(m.getD [])[i]?=some y→∀f s,qG e c l m i f→∃f' s',aT P Γ ext (.block 1 inner) f s=some (if r i then (.normal,f',s') else (.ret,f',s'))∧(r i=true→f' 0=f 0∧f' 1=f 1∧f' 5=f 5)∧(r i=false→f' 4=.sc (.bool false))∧(∀n0,n0≤s.n→n0≤s.w→n0≤s'.n∧n0≤s'.w)) (s:PS) :
  aH P Γ ext G [aU e c l,aU e c m] s=some (.sc (.bool ((l.getD []).length == (m.getD []).length && iH r 0 (l.getD []).length)),s):=by
 rw [ej hG _ _ (by simpa [nE] using hnt)];have L1:=bT (e:=e) (c:=c) l;have L2:=bT (e:=e) (c:=c) m;by_cases hlm:(l.getD []).length=(m.getD []).length
 ·have hne:((((l.getD []).length:Int)) != ((m.getD []).length:Int))=false:=by simp [hlm]
  have heq:((l.getD []).length == (m.getD []).length)=true:=by simp [hlm]
  have hin:qG e c l m 0 (aX.set (aX.set (aX.set (aX.set (aX.set (aX.set (aX.set (bC [aU e c l,aU e c m] 0) 4 (.sc (.bool false))) 6 (aU e c l)) 7 (.sc (.int .i64 ((l.getD []).length:Int)))) 8 (aU e c m)) 9 (.sc (.int .i64 ((m.getD []).length:Int)))) 10 (.sc (.bool false))) 5 (.sc (.int .i64 0))):=by
   constructor<;>simp -implicitDefEqProofs only [bC,Nat.zero_add,aZ,Nat.reduceEqDiff,↓reduceIte,Nat.one_ne_zero,reduceCtorEq]<;>rfl
  obtain⟨f',s',q1,q2,q3⟩:=I4 (P:=P) (ext:=ext) hlm hbig hr (l.getD []).length 0 (s:=⟨s.h,s.n,s.n⟩) (by omega) hin;obtain⟨w1,w2⟩:=q3 s.n (Nat.le_refl _) (Nat.le_refl _);rw [heq,Bool.true_and];simp only [bC] at q1;cases hb:iH r 0 (l.getD []).length with
  | true=>
   rw [hb] at q1;simp -implicitDefEqProofs only [nE,bV,dX,ff,dx,dr,eM,dA,bY,bD,bE,cg,bC,Nat.zero_add,Option.map_some,Option.bind_some,du,ci,aZ,Nat.reduceEqDiff,↓reduceIte,cI,fW,wC,kM,eQ,de,Nat.one_ne_zero,jJ,b9,cV,bz,frz,cT,cM,ke,Bool.false_eq_true,reduceCtorEq,L1,L2,hne,q1];simp -implicitDefEqProofs only [↓reduceIte,w2]
  | false=>
   rw [hb] at q1 q2;have q2':=q2 rfl;simp -implicitDefEqProofs only [nE,bV,dX,ff,dx,dr,eM,dA,bY,bD,bE,cg,bC,Nat.zero_add,Option.map_some,Option.bind_some,du,ci,aZ,Nat.reduceEqDiff,↓reduceIte,cI,fW,lz,BP,kM,eQ,de,Nat.one_ne_zero,jJ,b9,cV,bz,frz,cT,cM,ke,Bool.false_eq_true,reduceCtorEq,L1,L2,hne,q1];simp -implicitDefEqProofs only [Option.map_some,↓reduceIte,w2,q2']
 ·have hne:((((l.getD []).length:Int)) != ((m.getD []).length:Int))=true:=by simp; omega
  have heq:((l.getD []).length == (m.getD []).length)=false:=by simp [hlm]
  simp -implicitDefEqProofs only [nE,bV,dX,ff,dx,dr,dA,bY,bD,bE,cg,bC,Nat.zero_add,Option.map_some,Option.bind_some,du,ci,aZ,Nat.reduceEqDiff,↓reduceIte,cI,fW,lz,oM,eQ,de,Nat.one_ne_zero,Nat.le_refl,jJ,b9,cV,bz,frz,cT,cM,ke,Bool.false_eq_true,reduceCtorEq,L1,L2,hne,heq,Bool.false_and]
def BZ (inner:bj):bj:=(.seq (.seq (.reg [⟨some 13,.mv (.tmp 5),none⟩,⟨some 14,.mv (.tmp 0),none⟩,⟨some 15,.len false (.tmp 14),none⟩,⟨some 16,.bin .lss 3 (.tmp 13) (.tmp 15),none⟩]) (.cond (.tmp 16) (.skip) (.exit 0)))
    (.seq (.block 1 inner) (.reg [⟨some 17,.mv (.tmp 5),none⟩,⟨some 18,.bin .add 3 (.tmp 17) (.const (.int .i64 1)),none⟩,⟨some 5,.mv (.tmp 18),none⟩])))
def yp (nt:Nat) (inner:bj):gk:=⟨nt,
 (.seq (.reg [⟨some 4,.mv (.const (.bool false)),none⟩])
 (.seq (.seq (.reg [⟨some 8,.mv (.tmp 0),none⟩,⟨some 9,.len false (.tmp 8),none⟩,⟨some 10,.mv (.tmp 1),none⟩,⟨some 11,.len false (.tmp 10),none⟩,⟨some 12,.bin .neq 3 (.tmp 9) (.tmp 11),none⟩])
  (.cond (.tmp 12) (.seq (.reg [⟨some 4,.mv (.const (.bool false)),none⟩]) .ret) (.skip)))
 (.seq (.seq (.reg [⟨some 5,.mv (.const (.int .i64 0)),none⟩]) (.block 0 (.loop (BZ inner))))
 (.seq (.reg [⟨some 4,.mv (.const (.bool true)),none⟩]) .ret)))),[.tmp 4],false⟩
theorem I9 {α:Type}{e:Nat}{c:α→List PV}{l m:Option (List α)} (hlm:(l.getD []).length=(m.getD []).length) (hbig:(l.getD []).length < 4611686018427387904) {r:Nat→Bool}{inner:bj}
  (hr:∀i x y,(l.getD [])[i]?=some x→(m.getD [])[i]?=some y→∀f s,qG e c l m i f→∃f' s',aT P Γ ext (.block 1 inner) f s=some (if r i then (.normal,f',s') else (.ret,f',s'))∧(r i=true→f' 0=f 0∧f' 1=f 1∧f' 5=f 5)∧(r i=false→f' 4=.sc (.bool false))∧(∀n0,n0≤s.n→n0≤s.w→n0≤s'.n∧n0≤s'.w)) :
  ∀(k i:Nat) {f:aX}{s:PS},i + k=(l.getD []).length→qG e c l m i f→
  ∃f' s',aT P Γ ext (.loop (BZ inner)) f s=some (if iH r i k then (.exit 0,f',s') else (.ret,f',s'))∧(iH r i k=false→f' 4=.sc (.bool false))∧(∀n0,n0≤s.n→n0≤s.w→n0≤s'.n∧n0≤s'.w):=by
 intro k
 induction k with
 | zero=>
  intro i f s hik h;have h5:(decide ((i:Int) < ((l.getD []).length:Int)))=false:=by simp only [decide_eq_false_iff_not]; omega
  have L1:=bT (e:=e) (c:=c) l;rw [gw];obtain⟨ha,hb,hii⟩:=h;simp -implicitDefEqProofs only [BZ,bV,dX,dx,gX,dr,dA,bY,bD,bE,cg,Option.map_some,du,aZ,Nat.reduceEqDiff,↓reduceIte,fW,oh,kM,eQ,de,lg,Bool.true_eq_false,reduceCtorEq,ha,hii,L1,h5,iH];exact⟨_,_,rfl,fun hh=>(by cases hh),fun n0 w1 w2=>⟨w1,w2⟩⟩
 | succ k ih=>
  intro i f s hik h;have hi:i < (l.getD []).length:=by omega
  have hl:(l.getD [])[i]?=some (l.getD [])[i]:=List.getElem?_eq_getElem hi;have hm:(m.getD [])[i]?=some ((m.getD [])[i]'(by omega)):=List.getElem?_eq_getElem (by omega);have h5:(decide ((i:Int) < ((l.getD []).length:Int)))=true:=by simp only [decide_eq_true_iff]; omega
  have h6:=fY (i:=i) (by omega);have L1:=bT (e:=e) (c:=c) l;obtain⟨ha,hb,hii⟩:=h;obtain⟨f1,s1,e1,e2,e3,e4⟩:=hr i _ _ hl hm ((((f.set 13 (.sc (.int .i64 (i:Int)))).set 14 (aU e c l)).set 15 (.sc (.int .i64 ((l.getD []).length:Int)))).set 16 (.sc (.bool true))) s ⟨by simp -implicitDefEqProofs only [aZ,↓reduceIte,reduceCtorEq,ha],by simp -implicitDefEqProofs only [aZ,Nat.reduceEqDiff,↓reduceIte,hb],by simp -implicitDefEqProofs only [aZ,Nat.reduceEqDiff,↓reduceIte,hii]⟩;have hstep:aT P Γ ext (BZ inner) f s=im (aT P Γ ext (.block 1 inner) ((((f.set 13 (.sc (.int .i64 (i:Int)))).set 14 (aU e c l)).set 15 (.sc (.int .i64 ((l.getD []).length:Int)))).set 16 (.sc (.bool true))) s) (aT P Γ ext (.reg [⟨some 17,.mv (.tmp 5),none⟩,⟨some 18,.bin .add 3 (.tmp 17) (.const (.int .i64 1)),none⟩,⟨some 5,.mv (.tmp 18),none⟩])):=by
   unfold BZ;rw [bV,bV];have:aT P Γ ext (.seq (.block 1 inner) (.reg [⟨some 17,.mv (.tmp 5),none⟩,⟨some 18,.bin .add 3 (.tmp 17) (.const (.int .i64 1)),none⟩,⟨some 5,.mv (.tmp 18),none⟩]))=fun f s=>im (aT P Γ ext (.block 1 inner) f s) (aT P Γ ext (.reg [⟨some 17,.mv (.tmp 5),none⟩,⟨some 18,.bin .add 3 (.tmp 17) (.const (.int .i64 1)),none⟩,⟨some 5,.mv (.tmp 18),none⟩])):=by
    funext f s; exact bV _ _ f s
   rw [this];simp -implicitDefEqProofs only [dX,dr,dx,gX,dA,bY,bD,bE,cg,du,aZ,Nat.reduceEqDiff,↓reduceIte,Option.map_some,de,fW,oM,eQ,lg,ha,hii,L1,h5]
  rw [gw,hstep,e1];cases hri:r i with
  | true=>
   rw [hri] at e2;obtain⟨q0,q1,q5⟩:=e2 rfl;simp -implicitDefEqProofs only [aZ,Nat.reduceEqDiff,↓reduceIte,reduceCtorEq,ha,hb,hii] at q0 q1 q5;simp -implicitDefEqProofs only [hri,fW,iH,Bool.true_and,dX,dA,bY,bD,bE,cg,Option.map_some,du,ci,aZ,↓reduceIte,cI,fW,de,uJ,q5,h6];obtain⟨f',s',z1,z2,z3⟩:=ih (i + 1) (f:=((f1.set 17 (.sc (.int .i64 (i:Int)))).set 18 (.sc (.int .i64 ((i + 1:Nat):Int)))).set 5 (.sc (.int .i64 ((i + 1:Nat):Int)))) (s:=s1) (by omega) ⟨by simp -implicitDefEqProofs only [aZ,↓reduceIte,reduceCtorEq,q0],by simp -implicitDefEqProofs only [aZ,Nat.reduceEqDiff,↓reduceIte,q1],by simp -implicitDefEqProofs only [aZ,↓reduceIte]⟩;exact⟨f',s',z1,z2,fun n0 w1 w2=>z3 n0 (e4 n0 w1 w2).1 (e4 n0 w1 w2).2⟩
  | false=>
   rw [hri] at e3;simp only [hri,iH,Bool.false_and,Bool.false_eq_true,if_false,lz];exact⟨f1,s1,rfl,fun _=>e3 rfl,e4⟩
theorem tj {α:Type}{e:Nat}{c:α→List PV}{l m:Option (List α)} (hbig:(l.getD []).length < 4611686018427387904) {r:Nat→Bool}{inner:bj}{G nt:Nat} (hG:Γ G=some (yp nt inner)) (hnt : 2≤nt)
  (hr:∀i x y,(l.getD [])[i]?=some x→(m.getD [])[i]?=some y→∀f s,qG e c l m i f→∃f' s',aT P Γ ext (.block 1 inner) f s=some (if r i then (.normal,f',s') else (.ret,f',s'))∧(r i=true→f' 0=f 0∧f' 1=f 1∧f' 5=f 5)∧(r i=false→f' 4=.sc (.bool false))∧(∀n0,n0≤s.n→n0≤s.w→n0≤s'.n∧n0≤s'.w)) (s:PS) :
  aH P Γ ext G [aU e c l,aU e c m] s=some (.sc (.bool ((l.getD []).length == (m.getD []).length && iH r 0 (l.getD []).length)),s):=by
 rw [ej hG _ _ (by simpa [yp] using hnt)];have L1:=bT (e:=e) (c:=c) l;have L2:=bT (e:=e) (c:=c) m;by_cases hlm:(l.getD []).length=(m.getD []).length
 ·have hne:((((l.getD []).length:Int)) != ((m.getD []).length:Int))=false:=by simp [hlm]
  have heq:((l.getD []).length == (m.getD []).length)=true:=by simp [hlm]
  have hin:qG e c l m 0 (aX.set (aX.set (aX.set (aX.set (aX.set (aX.set (aX.set (bC [aU e c l,aU e c m] 0) 4 (.sc (.bool false))) 8 (aU e c l)) 9 (.sc (.int .i64 ((l.getD []).length:Int)))) 10 (aU e c m)) 11 (.sc (.int .i64 ((m.getD []).length:Int)))) 12 (.sc (.bool false))) 5 (.sc (.int .i64 0))):=by
   constructor<;>simp -implicitDefEqProofs only [bC,Nat.zero_add,aZ,Nat.reduceEqDiff,↓reduceIte,Nat.one_ne_zero,reduceCtorEq]<;>rfl
  obtain⟨f',s',q1,q2,q3⟩:=I9 (P:=P) (ext:=ext) hlm hbig hr (l.getD []).length 0 (s:=⟨s.h,s.n,s.n⟩) (by omega) hin;obtain⟨w1,w2⟩:=q3 s.n (Nat.le_refl _) (Nat.le_refl _);rw [heq,Bool.true_and];simp only [bC] at q1;cases hb:iH r 0 (l.getD []).length with
  | true=>
   rw [hb] at q1;simp -implicitDefEqProofs only [yp,bV,dX,ff,dx,dr,eM,dA,bY,bD,bE,cg,bC,Nat.zero_add,Option.map_some,Option.bind_some,du,ci,aZ,Nat.reduceEqDiff,↓reduceIte,cI,fW,wC,kM,eQ,de,Nat.one_ne_zero,jJ,b9,cV,bz,frz,cT,cM,ke,Bool.false_eq_true,reduceCtorEq,L1,L2,hne,q1];simp -implicitDefEqProofs only [↓reduceIte,w2]
  | false=>
   rw [hb] at q1 q2;have q2':=q2 rfl;simp -implicitDefEqProofs only [yp,bV,dX,ff,dx,dr,eM,dA,bY,bD,bE,cg,bC,Nat.zero_add,Option.map_some,Option.bind_some,du,ci,aZ,Nat.reduceEqDiff,↓reduceIte,cI,fW,lz,BP,kM,eQ,de,Nat.one_ne_zero,jJ,b9,cV,bz,frz,cT,cM,ke,Bool.false_eq_true,reduceCtorEq,L1,L2,hne,q1];simp -implicitDefEqProofs only [Option.map_some,↓reduceIte,w2,q2']
 ·have hne:((((l.getD []).length:Int)) != ((m.getD []).length:Int))=true:=by simp; omega
  have heq:((l.getD []).length == (m.getD []).length)=false:=by simp [hlm]
  simp -implicitDefEqProofs only [yp,bV,dX,ff,dx,dr,dA,bY,bD,bE,cg,bC,Nat.zero_add,Option.map_some,Option.bind_some,du,ci,aZ,Nat.reduceEqDiff,↓reduceIte,cI,fW,lz,oM,eQ,de,Nat.one_ne_zero,Nat.le_refl,jJ,b9,cV,bz,frz,cT,cM,ke,Bool.false_eq_true,reduceCtorEq,L1,L2,hne,heq,Bool.false_and]
end
section
variable {P:Program}{Γ:Nat→Option gk}{ext:ar}
theorem aw (s:PS) (cs:List PV) (sz:Nat):xr s (.litp cs) sz=if sz≤cs.length then some (cs.take sz) else none:=(rfl)
def lC (P:Program) (Γ:Nat→Option gk) (ext:ar) {α:Type} (e:Nat) (c:α→List PV) (inner:bj) (x y:α) (r:Bool):Prop:=
 ∀(l m:Option (List α)) (i:Nat),(l.getD [])[i]?=some x→(m.getD [])[i]?=some y→∀f s,qG e c l m i f→∃f' s',aT P Γ ext (.block 1 inner) f s=some (if r then (.normal,f',s') else (.ret,f',s'))∧(r=true→f' 0=f 0∧f' 1=f 1∧f' 5=f 5)∧(r=false→f' 4=.sc (.bool false))∧(∀n0,n0≤s.n→n0≤s.w→n0≤s'.n∧n0≤s'.w)
theorem pj {α:Type}{e t es sl:Nat}{z:Array Value}{c:α→List PV} (hc:∀x,(c x).length=es) (hz:(z.toList.map PV.sc).length=es) {G H nt g:Nat} (hG:Γ G=some (DG t es z sl)) {inner:bj} (hH:Γ H=some (nE nt inner)) (hnt : 2≤nt) {l m:Option (List α)} (ho:∀x,x∈l.getD []∨x∈m.getD []→(c x).all db=true) (hbig:(l.getD []).length < 4611686018427387904)
  (hel:∀x∈l.getD [],∀y∈m.getD [],∃r,(∀s,aH P Γ ext g [.agg (c x),.agg (c y)] s=some (.sc (.bool r),s))∧lC P Γ ext e c inner x y r) :
  ∃r,(∀s,aH P Γ ext G [aU e c l,aU e c m,.fn g [] []] s=some (.sc (.bool r),s))∧∀s,aH P Γ ext H [aU e c l,aU e c m] s=some (.sc (.bool r),s):=by
 have key:∀i:Nat,∃r:Bool,∀x y:α,(l.getD [])[i]?=some x→(m.getD [])[i]?=some y→(∀s,aH P Γ ext g [.agg (c x),.agg (c y)] s=some (.sc (.bool r),s))∧lC P Γ ext e c inner x y r:=by
  intro i;cases hx:(l.getD [])[i]? with
  | none=>exact⟨true,fun x y h=>by cases h⟩
  | some x=>
   cases hy:(m.getD [])[i]? with
   | none=>exact⟨true,fun x y _ h=>by cases h⟩
   | some y=>
    obtain⟨r,hr⟩:=hel x (List.mem_of_getElem? hx) y (List.mem_of_getElem? hy);exact⟨r,fun x' y' h1 h2=>by injection h1 with h1; injection h2 with h2; subst h1; subst h2; exact hr⟩
 obtain⟨r,hr⟩:=Classical.axiomOfChoice key;refine⟨(l.getD []).length == (m.getD []).length && iH r 0 (l.getD []).length,fun s=>?_,fun s=>?_⟩
 ·exact s9 hc hz hG ho hbig (fun i x y h1 h2=>(hr i x y h1 h2).1) s
 ·exact yH hbig hH hnt (fun i x y h1 h2 f s hin=>(hr i x y h1 h2).2 l m i h1 h2 f s hin) s
end
section
variable {P:Program}{Γ:Nat→Option gk}{ext:ar}
def W (r:kY) (Q:yB→aX→PS→Prop):Prop:=∃x f s,r=some (x,f,s)∧Q x f s
theorem Qt (x:yB) (f:aX) (s:PS) (Q:yB→aX→PS→Prop):W (some (x,f,s)) Q↔Q x f s:=
 ⟨fun ⟨_,_,_,h,q⟩=>by injection h with h; injection h with h1 h; injection h with h2 h3; subst h1; subst h2; subst h3; exact q,fun q=>⟨_,_,_,rfl,q⟩⟩
theorem W.mono {r:kY}{Q Q':yB→aX→PS→Prop} (h:W r Q) (k:∀x f s,Q x f s→Q' x f s):W r Q':=
 let ⟨x,f,s,e,q⟩:=h; ⟨x,f,s,e,k x f s q⟩
def De (id:Nat) (N:aX→PS→Prop) (J:aX→PS→Prop) (R:aX→PS→Prop) (x:yB) (f:aX) (s:PS):Prop:=match x with
 | .normal=>N f s
 | .exit j=>j=id∧J f s
 | .ret=>R f s
theorem L9 {body:bj}{id n:Nat}{I:Nat→aX→PS→Prop}{J R:aX→PS→Prop}
  (hr:∀i f s,i≤n→I i f s→W (aT P Γ ext body f s) (De id (fun f' s'=>i < n∧I (i + 1) f' s') J R)):∀(m i:Nat) (f:aX) (s:PS),i + m=n→I i f s→W (aT P Γ ext (.loop body) f s) (De id (fun _ _=>False) J R):=by
 intro m
 induction m with
 | zero=>
  intro i f s him h;obtain⟨x,f',s',e,q⟩:=hr i f s (by omega) h;rw [gw,e];cases x with
  | normal=>exact absurd q.1 (by omega)
  | exit j=>exact⟨_,_,_,rfl,q⟩
  | ret=>exact⟨_,_,_,rfl,q⟩
 | succ m ih=>
  intro i f s him h;obtain⟨x,f',s',e,q⟩:=hr i f s (by omega) h;rw [gw,e];cases x with
  | normal=>exact ih (i + 1) f' s' (by omega) q.2
  | exit j=>exact⟨_,_,_,rfl,q⟩
  | ret=>exact⟨_,_,_,rfl,q⟩
theorem Sk {body:bj}{id:Nat} (n:Nat) (I:Nat→aX→PS→Prop) (J:aX→PS→Prop) {k:aX→PS→kY}{Q:yB→aX→PS→Prop}{f:aX}{s:PS} (h0:I 0 f s)
  (hr:∀i f s,i≤n→I i f s→W (aT P Γ ext body f s) (De id (fun f' s'=>i < n∧I (i + 1) f' s') J (Q .ret))) (hk:∀f s,J f s→W (k f s) Q):W (im (jC id (aT P Γ ext (.loop body) f s)) k) Q:=by
 obtain⟨x,f',s',e,q⟩:=L9 hr n 0 f s (by omega) h0;rw [e];cases x with
 | normal=>exact q.elim
 | exit j=>
  obtain⟨rfl,q⟩:=q;rw [wC,if_pos rfl,fW];exact hk _ _ q
 | ret=>exact⟨_,_,_,rfl,q⟩
theorem Us {fn:gk}{s:PS}{r:kY}{R:PV × PS→Prop} (h:W r fun x f' s'=>match x with | .exit _=>False | _=>∃q,b9 fn s f' s'=some q∧R q):∃q,Pg fn s r=some q∧R q:=by
 obtain⟨x,f,s',rfl,q⟩:=h;cases x with
 | normal=>exact q
 | exit id=>exact q.elim
 | ret=>exact q
theorem UA (id:Nat) (N J R:aX→PS→Prop) (f:aX) (s:PS):De id N J R .normal f s↔N f s:=Iff.rfl
theorem Uv (id j:Nat) (N J R:aX→PS→Prop) (f:aX) (s:PS):De id N J R (.exit j) f s↔(j=id∧J f s):=Iff.rfl
theorem UG (id:Nat) (N J R:aX→PS→Prop) (f:aX) (s:PS):De id N J R .ret f s↔R f s:=Iff.rfl
def Hr (fn:gk) (s:PS) (R:PV × PS→Prop) (x:yB) (f':aX) (s':PS):Prop:=match x with
 | .exit _=>False
 | _=>∃q,b9 fn s f' s'=some q∧R q
theorem zh {fn:gk}{s:PS}{R:PV × PS→Prop}{f':aX}{s':PS}{q:PV × PS} (h:b9 fn s f' s'=some q) (hR:R q):Hr fn s R .ret f' s':=⟨q,h,hR⟩
theorem zg {g:Nat}{fn:gk} (hg:Γ g=some fn) {args:List PV}{s:PS} (hl:args.length≤fn.nt) {R:PV × PS→Prop} (h:W (aT P Γ ext fn.body (bC args 0) ⟨s.h,s.n,s.n⟩) (Hr fn s R)):∃q,aH P Γ ext g args s=some q∧R q:=by
 rw [ej hg _ _ hl];exact Us h
theorem ll {a b c:bj}{f:aX}{s:PS}{Q:yB→aX→PS→Prop} (h:W (aT P Γ ext (.seq a (.seq b c)) f s) Q):W (aT P Γ ext (.seq (.seq a b) c) f s) Q:=by
 obtain⟨x,f',s',e,q⟩:=h;refine⟨x,f',s',?_,q⟩;rw [bV] at e ⊢;rw [bV];cases h1:aT P Γ ext a f s with
 | none=>rw [h1] at e; cases e
 | some r=>
  obtain⟨y,f1,s1⟩:=r;rw [h1] at e;cases y with
  | normal=>rw [fW] at e ⊢; rw [bV] at e; exact e
  | exit id=>rw [oh] at e; rw [oh,oh]; exact e
  | ret=>rw [lz] at e; rw [lz,lz]; exact e
theorem gg {l:List PI}{b:bj}{f:aX}{s:PS}{Q:yB→aX→PS→Prop} (N:aX→PS→Prop) (h:∃f' s',kT P Γ ext l f s=some (f',s')∧N f' s') (hk:∀f s,N f s→W (aT P Γ ext b f s) Q):W (aT P Γ ext (.seq (.reg l) b) f s) Q:=by
 obtain⟨f',s',e,q⟩:=h;rw [bV,dX,e,de,fW];exact hk _ _ q
theorem nR {body b:bj}{id:Nat} (n:Nat) (I:Nat→aX→PS→Prop) (J:aX→PS→Prop) {Q:yB→aX→PS→Prop}{f:aX}{s:PS} (h0:I 0 f s)
  (hr:∀i f s,i≤n→I i f s→W (aT P Γ ext body f s) (De id (fun f' s'=>i < n∧I (i + 1) f' s') J (Q .ret))) (hk:∀f s,J f s→W (aT P Γ ext b f s) Q):W (aT P Γ ext (.seq (.block id (.loop body)) b) f s) Q:=by
 rw [bV,eM];exact Sk n I J h0 hr hk
theorem zI {l:List PI}{f:aX}{s:PS}{Q:yB→aX→PS→Prop} (h:∃f' s',kT P Γ ext l f s=some (f',s')∧Q .ret f' s'):W (aT P Γ ext (.seq (.reg l) .ret) f s) Q:=by
 obtain⟨f',s',e,q⟩:=h;rw [bV,dX,e,de,fW,ff];exact⟨_,_,_,rfl,q⟩
theorem j8 (r:List Nat) (li ca:Bool) (a k:Nat):cd ⟨r,[],li,ca⟩ a a ⟨[k],[],false,false⟩:=by
 unfold cd; simp; omega
theorem Pi (s:ByteArray):gB true (.sc (.string s))=some (.sc (.int .i64 (s.data.toList.length:Int))):=(rfl)
theorem pM {α:Type}{e t es sl:Nat}{z:Array Value}{c:α→List PV} (hc:∀x,(c x).length=es) (hz:(z.toList.map PV.sc).length=es) {G:Nat} (hG:Γ G=some (DG t es z sl)) {l:Option (List α)} (ho:∀x∈l.getD [],(c x).all db=true) {g:Nat} (hbig:(l.getD []).length < 4611686018427387904)
  (hr:∀x∈l.getD [],∀s,aH P Γ ext g [.agg (c x),.agg (c x)] s=some (.sc (.bool true),s)) (s:PS) :
  aH P Γ ext G [aU e c l,aU e c l,.fn g [] []] s=some (.sc (.bool true),s):=by
 have h:=s9 (e:=e) hc hz hG (l:=l) (m:=l) (fun x hx=>ho x (hx.elim id id)) (g:=g) hbig (r:=fun _=>true) (fun i x y h1 h2 s=>by
  rw [h1] at h2; injection h2 with h2; subst h2; exact hr x (List.mem_of_getElem? h1) s) s
 have ha:∀k i,iH (fun _=>true) i k=true:=by
  intro k
  induction k with
  | zero=>intro i; rfl
  | succ k ih=>intro i; simp [iH,ih]
 rw [h,ha,beq_self_eq_true,Bool.and_true]
end
def eo {α:Type} (l:List α):Option (List α):=match l with
 | []=>none
 | l=>some l
theorem cE {α:Type} (l:List α):(eo l).getD []=l:=by cases l<;>rfl
def jX {α:Type} (e es:Nat) (c:α→List PV) (b:Nat) (l:List α) (v:PV) (s:PS):Prop:=
 (l=[]∧v=.sc (.slice none 0 0))∨(l≠[]∧∃k,b≤k∧k < s.n∧v=.own k 0 l.length (l.length * es)∧s.h k=⟨l.flatMap c,0,e⟩)
theorem jX.nil {α:Type} (e es:Nat) (c:α→List PV) (b:Nat) (s:PS):jX e es c b [] (.sc (.slice none 0 0)) s:=.inl ⟨rfl,rfl⟩
theorem Ga {α:Type}{c:α→List PV}{m:List α} (ho:∀x∈m,(c x).all db=true):(m.flatMap c).all db=true:=by
 rw [List.all_flatMap];exact List.all_eq_true.2 ho
theorem jX.app {α:Type}{e es bytes b:Nat}{c:α→List PV}{l:List α}{v:PV}{s:PS} (hc:∀x,(c x).length=es) (h:jX e es c b l v s) (m:List α) (hes:es≠0) (hb:(l.length + m.length) * bytes≤140737488355328) (hn:l.length + m.length≤1073741824) (ho:∀x∈m,(c x).all db=true) (hbn:b≤s.n) :
  ∃v' s',uk s e es bytes v (m.flatMap c) m.length=some (v',s')∧jX e es c b (l ++ m) v' s'∧(∀j,j < b→s'.h j=s.h j)∧s.n≤s'.n∧(∀n0,n0≤b→n0≤s.w→n0≤s'.w):=by
 by_cases hm:m=[]
 ·subst hm;refine⟨v,s,?_,by rw [List.append_nil]; exact h,fun _ _=>rfl,Nat.le_refl _,fun _ _ h=>h⟩;unfold uk;rw [if_pos (by rfl)];rw [if_pos];rcases h with ⟨_,rfl⟩ | ⟨_,k,_,_,rfl,_⟩<;>rfl
 ·have hm0:m.length≠0:=by simpa using hm
  have hfl:=aJ hc m;have hone:=Ga ho;rcases h with ⟨rfl,rfl⟩ | ⟨hl,k,k1,k2,rfl,k3⟩
  ·refine⟨.own s.n 0 m.length (m.flatMap c).length,s.new ⟨m.flatMap c,0,e⟩,?_,.inr ⟨hm,s.n,hbn,by rw [dN]; omega,?_,?_⟩,fun j hj=>?_,by rw [dN]; omega,fun n0 _ hw=>by rw [kq]; exact hw⟩
   ·unfold uk;rw [if_neg hm0];simp only;rw [if_pos ⟨hes,hfl,by simpa using hb,by simpa using hn,hone⟩]
   ·rw [List.nil_append,hfl]
   ·rw [eY,if_pos rfl,List.nil_append]
   ·rw [eY,if_neg (by omega)]
  ·have hfl':=aJ hc l;refine⟨.own k 0 (l.length + m.length) (l.length * es + (m.flatMap c).length),s.put k ⟨l.flatMap c ++ m.flatMap c,0,e⟩,?_,.inr ⟨by simp [hm],k,k1,by rw [eU]; exact k2,?_,?_⟩,fun j hj=>?_,by rw [eU]; exact Nat.le_refl _,fun n0 h1 h2=>by rw [mo]; omega⟩
   ·unfold uk;rw [if_neg hm0];simp only [k3];rw [if_pos ⟨⟨hes,hfl,hb,hn,hone⟩,by omega,hfl'.symm,Nat.zero_le _,trivial,trivial⟩]
   ·rw [List.length_append,hfl,Nat.add_mul]
   ·rw [eZ,if_pos rfl,List.flatMap_append]
   ·rw [eZ,if_neg (by omega)]
theorem jX.frz {α:Type}{e es b n0:Nat}{c:α→List PV}{l:List α}{v:PV}{s:PS} (hc:∀x,(c x).length=es) (h:jX e es c b l v s) (hn:n0≤b) (hcl:∀x∈l,(c x).all dj=true):cM n0 s v=some (aU e c (eo l)):=by
 rcases h with ⟨rfl,rfl⟩ | ⟨hl,k,k1,k2,rfl,k3⟩
 ·rfl
 ·have hfl:=aJ hc l;have hall:(l.flatMap c).all dj=true:=by rw [List.all_flatMap]; exact List.all_eq_true.2 hcl
  unfold cM;simp only [k3,List.drop_zero,Nat.sub_zero];rw [if_neg (by omega)];rw [List.take_of_length_le (by omega),if_pos ⟨Nat.zero_le _,by omega,Nat.zero_le _,hall⟩];cases l with
  | nil=>exact absurd rfl hl
  | cons a l=>rfl
theorem Ek {n:Nat}{s:PS}{v p:PV} (h:cM n s v=some p):frz n s v=some p:=by
 cases v with
 | tup vs=>cases h
 | agg cs=>cases h
 | _=>exact h
theorem jX.new {α:Type}{e es b:Nat}{c:α→List PV}{l:List α}{v:PV}{s:PS} (h:jX e es c b l v s) (k:Eq):jX e es c b l v (s.new k):=by
 rcases h with h | ⟨hl,k,k1,k2,rfl,k3⟩
 ·exact .inl h
 ·exact .inr ⟨hl,k,k1,by rw [dN]; omega,rfl,by rw [eY,if_neg (by omega)]; exact k3⟩
theorem jX.frame {α:Type}{e es b:Nat}{c:α→List PV}{l:List α}{v:PV}{s s':PS} (h:jX e es c b l v s) (hn:s.n≤s'.n) (hh:∀j,j < s.n→s'.h j=s.h j):jX e es c b l v s':=by
 rcases h with h | ⟨hl,k,k1,k2,rfl,k3⟩
 ·exact .inl h
 ·exact .inr ⟨hl,k,k1,by omega,rfl,by rw [hh k k2]; exact k3⟩
theorem rG {α:Type}{e es:Nat}{c:α→List PV} (hc:∀x,(c x).length=es) (l:Option (List α)) (s:PS):iy s es (aU e c l)=some ((l.getD []).flatMap c,(l.getD []).length):=by
 cases l with
 | none=>rfl
 | some l=>
  show (if (l.flatMap c).length=l.length * es then some (l.flatMap c,l.length) else none)=_;rw [if_pos (aJ hc l)]; rfl
def Cv (v:Value):Nat:=match v with
 | .string b=>b.data.toList.length + 1
 | _=>1
theorem No (v:Value) : 1≤Cv v:=by cases v<;>simp [Cv]
mutual
def PV.bulk:PV→Nat
 | .sc v=>Cv v
 | .agg cs=>aR cs + 1
 | .tup vs=>aR vs + 1
 | .lit _ _ cs=>aR cs + 1
 | .litp cs=>aR cs + 1
 | .litx _ _ cs=>aR cs + 1
 | .own ..=>1
 | .ptr ..=>1
 | .fn ..=>1
def aR:List PV→Nat
 | []=>0
 | p :: l=>p.bulk + aR l
end
theorem sq (p:PV) : 1≤p.bulk:=by cases p<;>simp [PV.bulk,No]
theorem cx (p:PV) (l:List PV):aR (p :: l)=p.bulk + aR l:=by simp [aR]
theorem cH:aR []=0:=by simp [aR]
theorem j7 (l m:List PV):aR (l ++ m)=aR l + aR m:=by
 induction l with
 | nil=>simp [cH]
 | cons p l ih=>simp only [List.cons_append,cx,ih]; omega
theorem sY (l:List PV):l.length≤aR l:=by
 induction l with
 | nil=>simp
 | cons p l ih=>have:=sq p; rw [cx,List.length_cons]; omega
theorem gQ {p:PV}{l:List PV} (h:p∈l):p.bulk≤aR l:=by
 induction l with
 | nil=>cases h
 | cons q l ih=>
  rw [cx];rcases List.mem_cons.1 h with rfl | h
  ·omega
  ·have:=ih h; omega
theorem gY {α:Type}{c:α→List PV}{x:α}{l:List α} (h:x∈l):aR (c x)≤aR (l.flatMap c):=by
 induction l with
 | nil=>cases h
 | cons y l ih=>
  rw [List.flatMap_cons,j7];rcases List.mem_cons.1 h with rfl | h
  ·omega
  ·have:=ih h; omega
theorem dO {α:Type} (e:Nat) (c:α→List PV) (l:Option (List α)):aR ((l.getD []).flatMap c) + 1=(aU e c l).bulk:=by
 cases l with
 | none=>simp [aU,PV.bulk,cH,Cv]
 | some l=>simp [aU,PV.bulk]
theorem ip {α:Type}{e:Nat}{c:α→List PV} (hc:∀x,1≤(c x).length) (l:Option (List α)):(l.getD []).length + 1≤(aU e c l).bulk:=by
 rw [← dO];have h:=sY ((l.getD []).flatMap c);have:∀m:List α,m.length≤(m.flatMap c).length:=by
  intro m
  induction m with
  | nil=>simp
  | cons a m ih=>have:=hc a; simp only [List.flatMap_cons,List.length_append,List.length_cons]; omega
 have:=this (l.getD []);omega
theorem BK {α β:Type}{c:α→List PV}{g:α→List β} : ∀(l:List α),(∀x∈l,(g x).length≤aR (c x))→(l.flatMap g).length≤aR (l.flatMap c):=by
 intro l
 induction l with
 | nil=>intro _; simp
 | cons a l ih=>
  intro h;have h1:=h a List.mem_cons_self;have h2:=ih fun x hx=>h x (List.mem_cons_of_mem _ hx);rw [List.flatMap_cons,List.flatMap_cons,j7,List.length_append]; omega
section
variable {P:Program}{Γ:Nat→Option gk}{ext:ar}
theorem t6 {e:Nat} (s:PS) (cs:List PV):iy (s.new ⟨cs,0,e⟩) cs.length (.own s.n 0 1 cs.length)=some (cs,1):=by
 unfold iy;simp only [eY,if_true,Nat.zero_add,Nat.one_mul,Nat.zero_le,Nat.le_refl,and_self,List.drop_zero,List.take_length]
end
def mt (d t:Nat):PI:=⟨some d,.mv (.tmp t),none⟩
def mk (d:Nat) (v:Value):PI:=⟨some d,.mv (.const v),none⟩
def gt (j:Nat) (w:Bool) (d t:Nat):PI:=⟨some d,.mv (.tmp t),some (j,w)⟩
def ob (d:Nat) (p:lM):PI:=⟨some d,p,none⟩
def og (j:Nat) (w:Bool) (d:Nat) (p:lM):PI:=⟨some d,p,some (j,w)⟩
def o0 (p:lM):PI:=⟨none,p,none⟩
def g0 (j:Nat) (w:Bool) (p:lM):PI:=⟨none,p,some (j,w)⟩
abbrev tp (n:Nat):Operand:=.tmp n
abbrev ki (n:Int):Operand:=.const (.int .i64 n)
abbrev kc (n:Int):Operand:=.const (.int .u8 n)
abbrev kb (b:Bool):Operand:=.const (.bool b)
abbrev ks (l:Array UInt8):Operand:=.const (.string ⟨l⟩)
def bn (o:BinOp) (t x y:Nat):lM:=.bin o t (.tmp x) (.tmp y)
def bi (o:BinOp) (x:Nat) (n:Int):lM:=.bin o 3 (.tmp x) (.const (.int .i64 n))
def bc (o:BinOp) (x:Nat) (n:Int):lM:=.bin o 5 (.tmp x) (.const (.int .u8 n))
def pk (a b:Nat):lM:=.pick (.tmp a) (.tmp b) (.const (.bool false))
def po (a b:Nat):lM:=.pick (.tmp a) (.const (.bool true)) (.tmp b)
def cl (g:Nat) (l:List Operand):lM:=.call (.func g) l
def tO (l:List PI) (t:Nat) (a b:bj):bj:=.seq (.reg l) (.cond (.tmp t) a b)
def sr (l:List PI) (c:bj):bj:=.seq (.reg l) c
def lt (id:Nat) (b r:bj):bj:=.seq (.block id (.loop b)) r
end Go.PE
