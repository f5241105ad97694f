/- What functions of the program and of the reference compute, on values. No statement is proved here. -/
import Derived.Test.YtioblbopbilmaaaGreatDoorTxA
import Derived.Test.YtioblbopbilmaaaGreatDoorProg
import Derived.KernelRfl
set_option linter.unusedSimpArgs false
set_option linter.unusedVariables false
set_option linter.defProp false
namespace Go.Proofs.YtioblbopbilmaaaGreatDoor
open Go Go.EvL Go.PE
theorem WV {α} (l:List α):Array.mk l=l.toArray:=rfl
theorem Xb (n:Nat):Int.ofNat (no_index (OfNat.ofNat n))=(OfNat.ofNat n:Int):=rfl
theorem WN (n:Nat) (h:no_index (OfNat.ofNat n) < 2^8):UInt8.ofBitVec (BitVec.ofFin (Fin.mk (no_index (OfNat.ofNat n)) h))=(OfNat.ofNat n:UInt8):=by
 apply UInt8.toNat_inj.1; simp only [UInt8.toNat,BitVec.toNat]; exact (Nat.mod_eq_of_lt h).symm
set_option maxRecDepth 100000
section
variable (d t j x y n a b g:Nat) (w u:Bool) (p:gw) (i:Int) (k:IntKind) (s:ByteArray) (o:BinOp) (l:List PI) (c e:aR) (z:List Operand)
theorem WW:PI.mk (some d) (.mv (.tmp t)) none=mt d t:=rfl
theorem WF:PI.mk (some d) (.mv (.tmp t)) (some (j,w))=gt j w d t:=rfl
theorem WE:PI.mk (some d) (.mv (.const (.bool w))) none=mk d (.bool w):=rfl
theorem Xa:PI.mk (some d) (.mv (.const (.int k i))) none=mk d (.int k i):=rfl
theorem X7:PI.mk (some d) (.mv (.const (.string s))) none=mk d (.string s):=rfl
theorem X0 (m x y):PI.mk (some d) (.mv (.const (.slice m x y))) none=mk d (.slice m x y):=rfl
theorem WQ (m):PI.mk (some d) (.mv (.const (.pointer m))) none=mk d (.pointer m):=rfl
theorem WH:PI.mk (some d) (.mv (.const .nilFunc)) none=mk d .nilFunc:=rfl
theorem WR:PI.mk (some d) (.mv (.const .nilIface)) none=mk d .nilIface:=rfl
theorem WJ (m):PI.mk (some d) (.mv (.const (.tuple m))) none=mk d (.tuple m):=rfl
theorem Xc:gw.bin o t (.tmp x) (.tmp y)=bn o t x y:=rfl
theorem X9:gw.bin o 3 (.tmp x) (.const (.int .i64 i))=bi o x i:=rfl
theorem X2:gw.bin o 5 (.tmp x) (.const (.int .u8 i))=bc o x i:=rfl
theorem WM:gw.pick (.tmp a) (.tmp b) (.const (.bool false))=pk a b:=rfl
theorem X8:gw.pick (.tmp a) (.const (.bool true)) (.tmp b)=po a b:=rfl
theorem X1:gw.call (.func g) z=cl g z:=rfl
theorem WP:aR.seq (.reg l) (.cond (.tmp t) c e)=Qn l t c e:=rfl
theorem Xe:aR.seq (.block j (.loop c)) e=lt j c e:=rfl
theorem WZ:PI.mk (some d) p none=ob d p:=rfl
theorem X5:PI.mk (some d) p (some (j,w))=og j w d p:=rfl
theorem X6:PI.mk none p none=o0 p:=rfl
theorem Xd:PI.mk none p (some (j,w))=g0 j w p:=rfl
theorem WL:aR.seq (.reg l) c=sr l c:=rfl
end
def LJ:aR→Bool
 | .block _ (.loop _)=>true
 | .seq _ b=>LJ b
 | _=>false
def WS:List aR→aR
 | x :: _=>x
 | []=>.skip
def LN {α:Type} : aR→List aR→List aR→List aR→(aR→List aR→List aR→List aR→α)→α
 | .seq a b,x,y,d,k=>LN a x y d fun c x y d=>LN b x y d fun e x y d=>match LJ a with
  | true=>k (.seq c (WS y)) x y.tail (e :: d)
  | false=>k (.seq c e) x y d
 | .cond o a b,x,y,d,k=>LN a x y d fun c x y d=>LN b x y d fun e x y d=>k (.cond o c e) x y d
 | .block i b,x,y,d,k=>LN b x y d fun e x y d=>k (.block i e) x y d
 | .loop b,x,y,d,k=>LN b x y d fun e x y d=>k (.loop (WS x)) x.tail y (e :: d)
 | c,x,y,d,k=>k c x y d
noncomputable def K1 (f:Func) (k:Bool) (b r b' r':aR):Option fe:=(qV Tryz.prog f k).map fun c=>LN c.body [b,b'] [r,r'] [] fun x _ _ _=>⟨c.nt,x,c.res,c.keep⟩
noncomputable def K2 (f:Func) (j:Nat) (b r b' r':aR):Option aR:=(qV Tryz.prog f false).bind fun c=>LN c.body [b,b'] [r,r'] [] fun _ _ _ d=>d[j]?
abbrev QB (f:Func) (k:Bool) (c:aR→aR→aR→aR→fe):=∀b r b' r',K1 f k b r b' r'=some (c b r b' r')
abbrev QC (f:Func) (j:Nat) (c:aR→aR→aR→aR→aR):=∀b r b' r',K2 f j b r b' r'=some (c b r b' r')
theorem TB {f k c} (h:QB f k c:=by intro b r b' r'; conv=>lhs; reduce; dsimp only [Xb,Int.reduceNegSucc,WV]; try simp only [WN]; dsimp only [WW,WF,WE,Xa,X7,X0,WQ,WH,WR,WJ,Xc,X9,X2,WM,X8,X1,WP,Xe]; dsimp only [WZ,X5,X6,Xd,WL]):QB f k c:=h
theorem TC {f j c} (h:QC f j c:=by intro b r b' r'; conv=>lhs; reduce; dsimp only [Xb,Int.reduceNegSucc,WV]; try simp only [WN]; dsimp only [WW,WF,WE,Xa,X7,X0,WQ,WH,WR,WJ,Xc,X9,X2,WM,X8,X1,WP,Xe]; dsimp only [WZ,X5,X6,Xd,WL]):QC f j c:=h
def p3:=(fun c (_:QB Tryz.f3 false c)=>c .skip .skip .skip .skip) _ TB
def Do:=(fun c (_:QC Tryz.f5 1 c)=>c .skip .skip .skip .skip) _ TC
def nB:=(fun c (_:QC Tryz.f5 0 c)=>c Do .skip .skip .skip) _ TC
def p5:=(fun c (_:QB Tryz.f5 false c)=>c Do nB .skip .skip) _ TB
def p6:=(fun c (_:QB Tryz.f6 false c)=>c .skip .skip .skip .skip) _ TB
def DC:=(fun c (_:QC Tryz.f7 1 c)=>c .skip .skip .skip .skip) _ TC
def Hv:=(fun c (_:QC Tryz.f7 0 c)=>c DC .skip .skip .skip) _ TC
def p7:=(fun c (_:QB Tryz.f7 false c)=>c DC Hv .skip .skip) _ TB
def p11:=(fun c (_:QB Tryz.f11 false c)=>c .skip .skip .skip .skip) _ TB
def qQ:=(fun c (_:QC Tryz.f12 3 c)=>c .skip .skip .skip .skip) _ TC
def t9:=(fun c (_:QC Tryz.f12 2 c)=>c qQ .skip .skip .skip) _ TC
def uG:=(fun c (_:QC Tryz.f12 1 c)=>c qQ .skip t9 .skip) _ TC
def lm:=(fun c (_:QC Tryz.f12 0 c)=>c qQ uG t9 .skip) _ TC
def Vq:=(fun c (_:QB Tryz.f12 false c)=>c qQ uG t9 lm) _ TB
def nY:=(fun c (_:QC Tryz.f13 0 c)=>c .skip .skip .skip .skip) _ TC
def VJ:=(fun c (_:QB Tryz.f13 false c)=>c nY .skip .skip .skip) _ TB
def UP:=(fun c (_:QB Tryz.f14 false c)=>c .skip .skip .skip .skip) _ TB
def m8:=(fun c (_:QB Tryz.f15 true c)=>c .skip .skip .skip .skip) _ TB
def Pu:=(fun c (_:QB Tryz.f16 false c)=>c .skip .skip .skip .skip) _ TB
def RU:=(fun c (_:QB Tryz.f17 false c)=>c .skip .skip .skip .skip) _ TB
def uR:=(fun c (_:QC Tryz.f18 1 c)=>c .skip .skip .skip .skip) _ TC
def lg:=(fun c (_:QC Tryz.f18 0 c)=>c uR .skip .skip .skip) _ TC
def yf:=(fun c (_:QB Tryz.f18 false c)=>c uR lg .skip .skip) _ TB
def Vr:=(fun c (_:QB Tryz.f19 false c)=>c .skip .skip .skip .skip) _ TB
def Uv:=(fun c (_:QB Tryz.f26 false c)=>c .skip .skip .skip .skip) _ TB
def qK:=(fun c (_:QC Tryz.f27 3 c)=>c .skip .skip .skip .skip) _ TC
def l9:=(fun c (_:QC Tryz.f27 2 c)=>c qK .skip .skip .skip) _ TC
def lL:=(fun c (_:QC Tryz.f27 1 c)=>c qK .skip l9 .skip) _ TC
def xh:=(fun c (_:QC Tryz.f27 0 c)=>c qK lL l9 .skip) _ TC
def Oc:=(fun c (_:QB Tryz.f27 false c)=>c qK lL l9 xh) _ TB
def UN:=(fun c (_:QB Tryz.f28 false c)=>c .skip .skip .skip .skip) _ TB
def VX:=(fun c (_:QB Tryz.f29 false c)=>c .skip .skip .skip .skip) _ TB
def Uh:=(fun c (_:QB Tryz.f30 false c)=>c .skip .skip .skip .skip) _ TB
def ip:=(fun c (_:QC Tryz.f31 2 c)=>c .skip .skip .skip .skip) _ TC
def jZ:=(fun c (_:QC Tryz.f31 1 c)=>c ip .skip .skip .skip) _ TC
def lb:=(fun c (_:QC Tryz.f31 0 c)=>c ip .skip jZ .skip) _ TC
def QR:=(fun c (_:QB Tryz.f31 false c)=>c ip lb jZ .skip) _ TB
def U3:=(fun c (_:QB Tryz.f32 false c)=>c .skip .skip .skip .skip) _ TB
def qn:=(fun c (_:QC Tryz.f34 3 c)=>c .skip .skip .skip .skip) _ TC
def qN:=(fun c (_:QC Tryz.f34 2 c)=>c qn .skip .skip .skip) _ TC
def tn:=(fun c (_:QC Tryz.f34 1 c)=>c qn .skip qN .skip) _ TC
def ji:=(fun c (_:QC Tryz.f34 0 c)=>c qn tn qN .skip) _ TC
def Ww:=(fun c (_:QB Tryz.f34 false c)=>c qn tn qN ji) _ TB
def S6:=(fun c (_:QB Tryz.f35 false c)=>c .skip .skip .skip .skip) _ TB
def yE:=(fun c (_:QC Tryz.f36 1 c)=>c .skip .skip .skip .skip) _ TC
def Cw:=(fun c (_:QC Tryz.f36 0 c)=>c yE .skip .skip .skip) _ TC
def Vy:=(fun c (_:QB Tryz.f36 false c)=>c yE Cw .skip .skip) _ TB
def mS:=(fun c (_:QB Tryz.f37 false c)=>c .skip .skip .skip .skip) _ TB
def Mv:=(fun c (_:QB Tryz.f38 false c)=>c .skip .skip .skip .skip) _ TB
def Kj:=(fun c (_:QB Tryz.f39 false c)=>c .skip .skip .skip .skip) _ TB
def UG:=(fun c (_:QB Tryz.f41 false c)=>c .skip .skip .skip .skip) _ TB
def oL:=(fun c (_:QC Tryz.f58 1 c)=>c .skip .skip .skip .skip) _ TC
def qP:=(fun c (_:QC Tryz.f58 0 c)=>c oL .skip .skip .skip) _ TC
def Wq:=(fun c (_:QB Tryz.f58 false c)=>c oL qP .skip .skip) _ TB
def W6:=(fun c (_:QB Tryz.f59 false c)=>c .skip .skip .skip .skip) _ TB
def Vz:=(fun c (_:QB Tryz.f60 false c)=>c .skip .skip .skip .skip) _ TB
def VP:=(fun c (_:QB Tryz.f61 false c)=>c .skip .skip .skip .skip) _ TB
def Wo:=(fun c (_:QB Tryz.f62 false c)=>c .skip .skip .skip .skip) _ TB
def xr:=(fun c (_:QC Tryz.f63 1 c)=>c .skip .skip .skip .skip) _ TC
def C6:=(fun c (_:QC Tryz.f63 0 c)=>c xr .skip .skip .skip) _ TC
def Sz:=(fun c (_:QB Tryz.f63 false c)=>c xr C6 .skip .skip) _ TB
def ve:=(fun c (_:QC Tryz.f64 1 c)=>c .skip .skip .skip .skip) _ TC
def xy:=(fun c (_:QC Tryz.f64 0 c)=>c ve .skip .skip .skip) _ TC
def Wi:=(fun c (_:QB Tryz.f64 false c)=>c ve xy .skip .skip) _ TB
def M4:=(fun c (_:QC Tryz.f65 1 c)=>c .skip .skip .skip .skip) _ TC
def SQ:=(fun c (_:QC Tryz.f65 0 c)=>c M4 .skip .skip .skip) _ TC
def Su:=(fun c (_:QB Tryz.f65 false c)=>c M4 SQ .skip .skip) _ TB
def W2:=(fun c (_:QB Tryz.f67 true c)=>c .skip .skip .skip .skip) _ TB
def TT:=(fun c (_:QB Tryz.f68 true c)=>c .skip .skip .skip .skip) _ TB
def Tp:=(fun c (_:QB Tryz.f69 false c)=>c .skip .skip .skip .skip) _ TB
def V4:=(fun c (_:QB Tryz.f70 false c)=>c .skip .skip .skip .skip) _ TB
def tg:=(fun c (_:QC Tryz.f71 1 c)=>c .skip .skip .skip .skip) _ TC
def uS:=(fun c (_:QC Tryz.f71 0 c)=>c tg .skip .skip .skip) _ TC
def W5:=(fun c (_:QB Tryz.f71 false c)=>c tg uS .skip .skip) _ TB
def W0:=(fun c (_:QB Tryz.f72 false c)=>c .skip .skip .skip .skip) _ TB
def UT:=(fun c (_:QB Tryz.f73 false c)=>c .skip .skip .skip .skip) _ TB
def MQ:=(fun c (_:QB Tryz.f74 false c)=>c .skip .skip .skip .skip) _ TB
def iR:=(fun c (_:QC Tryz.f75 2 c)=>c .skip .skip .skip .skip) _ TC
def jM:=(fun c (_:QC Tryz.f75 1 c)=>c iR .skip .skip .skip) _ TC
def lc:=(fun c (_:QC Tryz.f75 0 c)=>c iR .skip jM .skip) _ TC
def TM:=(fun c (_:QB Tryz.f75 false c)=>c iR lc jM .skip) _ TB
def xU:=(fun c (_:QC Tryz.f76 1 c)=>c .skip .skip .skip .skip) _ TC
def BY:=(fun c (_:QC Tryz.f76 0 c)=>c xU .skip .skip .skip) _ TC
def VN:=(fun c (_:QB Tryz.f76 false c)=>c xU BY .skip .skip) _ TB
def v6:=(fun c (_:QC Tryz.f77 1 c)=>c .skip .skip .skip .skip) _ TC
def yH:=(fun c (_:QC Tryz.f77 0 c)=>c v6 .skip .skip .skip) _ TC
def K9:=(fun c (_:QB Tryz.f77 false c)=>c v6 yH .skip .skip) _ TB
def Vm:=(fun c (_:QB Tryz.f78 false c)=>c .skip .skip .skip .skip) _ TB
def VV:=(fun c (_:QB Tryz.f93 false c)=>c .skip .skip .skip .skip) _ TB
def UA:=(fun c (_:QB Tryz.f94 false c)=>c .skip .skip .skip .skip) _ TB
def VQ:=(fun c (_:QB Tryz.f95 false c)=>c .skip .skip .skip .skip) _ TB
def Uu:=(fun c (_:QB Tryz.f96 false c)=>c .skip .skip .skip .skip) _ TB
def Wj:=(fun c (_:QB Tryz.f97 false c)=>c .skip .skip .skip .skip) _ TB
def CN:=(fun c (_:QC Tryz.f98 1 c)=>c .skip .skip .skip .skip) _ TC
def GB:=(fun c (_:QC Tryz.f98 0 c)=>c CN .skip .skip .skip) _ TC
def UQ:=(fun c (_:QB Tryz.f98 false c)=>c CN GB .skip .skip) _ TB
def D3:=(fun c (_:QC Tryz.f99 1 c)=>c .skip .skip .skip .skip) _ TC
def ES:=(fun c (_:QC Tryz.f99 0 c)=>c D3 .skip .skip .skip) _ TC
def UW:=(fun c (_:QB Tryz.f99 false c)=>c D3 ES .skip .skip) _ TB
def vQ:=(fun c (_:QC Tryz.f100 1 c)=>c .skip .skip .skip .skip) _ TC
def Aa:=(fun c (_:QC Tryz.f100 0 c)=>c vQ .skip .skip .skip) _ TC
def Mk:=(fun c (_:QB Tryz.f100 false c)=>c vQ Aa .skip .skip) _ TB
def vC:=(fun c (_:QC Tryz.f101 1 c)=>c .skip .skip .skip .skip) _ TC
def AZ:=(fun c (_:QC Tryz.f101 0 c)=>c vC .skip .skip .skip) _ TC
def OO:=(fun c (_:QB Tryz.f101 false c)=>c vC AZ .skip .skip) _ TB
def vB:=(fun c (_:QC Tryz.f102 1 c)=>c .skip .skip .skip .skip) _ TC
def B1:=(fun c (_:QC Tryz.f102 0 c)=>c vB .skip .skip .skip) _ TC
def Mf:=(fun c (_:QB Tryz.f102 false c)=>c vB B1 .skip .skip) _ TB
def P5:=(fun c (_:QB Tryz.f103 false c)=>c .skip .skip .skip .skip) _ TB
def Mt:=(fun c (_:QB Tryz.f104 false c)=>c .skip .skip .skip .skip) _ TB
def Py:=(fun c (_:QB Tryz.f105 false c)=>c .skip .skip .skip .skip) _ TB
def MM:=(fun c (_:QB Tryz.f110 false c)=>c .skip .skip .skip .skip) _ TB
def nN:=(fun c (_:QC Tryz.f111 1 c)=>c .skip .skip .skip .skip) _ TC
def nq:=(fun c (_:QC Tryz.f111 0 c)=>c nN .skip .skip .skip) _ TC
def Ob:=(fun c (_:QB Tryz.f111 true c)=>c nN nq .skip .skip) _ TB
def G3:=(fun c (_:QB Tryz.f112 true c)=>c .skip .skip .skip .skip) _ TB
def PD:=(fun c (_:QB Tryz.f113 false c)=>c .skip .skip .skip .skip) _ TB
def MJ:=(fun c (_:QB Tryz.f114 false c)=>c .skip .skip .skip .skip) _ TB
def mj:=(fun c (_:QB Tryz.f115 false c)=>c .skip .skip .skip .skip) _ TB
def gK:=(fun c (_:QC Tryz.f116 3 c)=>c .skip .skip .skip .skip) _ TC
def fg:=(fun c (_:QC Tryz.f116 2 c)=>c gK .skip .skip .skip) _ TC
def mb:=(fun c (_:QC Tryz.f116 1 c)=>c gK fg .skip .skip) _ TC
def nw:=(fun c (_:QC Tryz.f116 0 c)=>c gK fg mb .skip) _ TC
def P0:=(fun c (_:QB Tryz.f116 false c)=>c gK fg mb nw) _ TB
def OF:=(fun c (_:QB Tryz.f138 false c)=>c .skip .skip .skip .skip) _ TB
def NY:=(fun c (_:QB Tryz.f141 false c)=>c .skip .skip .skip .skip) _ TB
def eS:=(fun c (_:QB Tryz.f142 true c)=>c .skip .skip .skip .skip) _ TB
def BQ:=(fun c (_:QB Tryz.f143 true c)=>c .skip .skip .skip .skip) _ TB
def kD:=(fun c (_:QC Tryz.f145 1 c)=>c .skip .skip .skip .skip) _ TC
def mm:=(fun c (_:QC Tryz.f145 0 c)=>c kD .skip .skip .skip) _ TC
def NC:=(fun c (_:QB Tryz.f145 false c)=>c kD mm .skip .skip) _ TB
def nl:=(fun c (_:QC Tryz.f146 1 c)=>c .skip .skip .skip .skip) _ TC
def pT:=(fun c (_:QC Tryz.f146 0 c)=>c nl .skip .skip .skip) _ TC
def Ou:=(fun c (_:QB Tryz.f146 false c)=>c nl pT .skip .skip) _ TB
def jK:=(fun c (_:QC Tryz.f147 1 c)=>c .skip .skip .skip .skip) _ TC
def kC:=(fun c (_:QC Tryz.f147 0 c)=>c jK .skip .skip .skip) _ TC
def Pb:=(fun c (_:QB Tryz.f147 false c)=>c jK kC .skip .skip) _ TB
def pI:=(fun c (_:QC Tryz.f148 1 c)=>c .skip .skip .skip .skip) _ TC
def sA:=(fun c (_:QC Tryz.f148 0 c)=>c pI .skip .skip .skip) _ TC
def Pk:=(fun c (_:QB Tryz.f148 false c)=>c pI sA .skip .skip) _ TB
def Q5:=(fun c (_:QB Tryz.f149 false c)=>c .skip .skip .skip .skip) _ TB
def O0:=(fun c (_:QB Tryz.f150 false c)=>c .skip .skip .skip .skip) _ TB
def w8:=(fun c (_:QC Tryz.f151 1 c)=>c .skip .skip .skip .skip) _ TC
def Ao:=(fun c (_:QC Tryz.f151 0 c)=>c w8 .skip .skip .skip) _ TC
def Na:=(fun c (_:QB Tryz.f151 false c)=>c w8 Ao .skip .skip) _ TB
def Nl:=(fun c (_:QB Tryz.f152 false c)=>c .skip .skip .skip .skip) _ TB
def vp:=(fun c (_:QB Tryz.f153 true c)=>c .skip .skip .skip .skip) _ TB
def nm:=(fun c (_:QB Tryz.f168 true c)=>c .skip .skip .skip .skip) _ TB
def eX:=(fun c (_:QB Tryz.f169 true c)=>c .skip .skip .skip .skip) _ TB
def lI:=(fun c (_:QC Tryz.f170 1 c)=>c .skip .skip .skip .skip) _ TC
def kN:=(fun c (_:QC Tryz.f170 0 c)=>c lI .skip .skip .skip) _ TC
def Gi:=(fun c (_:QB Tryz.f170 true c)=>c lI kN .skip .skip) _ TB
def jA:=(fun c (_:QB Tryz.f171 true c)=>c .skip .skip .skip .skip) _ TB
def Ft:=(fun c (_:QB Tryz.f172 true c)=>c .skip .skip .skip .skip) _ TB
def Of:=(fun c (_:QB Tryz.f173 false c)=>c .skip .skip .skip .skip) _ TB
def tG:=(fun c (_:QC Tryz.f174 1 c)=>c .skip .skip .skip .skip) _ TC
def vD:=(fun c (_:QC Tryz.f174 0 c)=>c tG .skip .skip .skip) _ TC
def N7:=(fun c (_:QB Tryz.f174 false c)=>c tG vD .skip .skip) _ TB
def Nx:=(fun c (_:QB Tryz.f175 false c)=>c .skip .skip .skip .skip) _ TB
def Pj:=(fun c (_:QB Tryz.f176 false c)=>c .skip .skip .skip .skip) _ TB
def OI:=(fun c (_:QB Tryz.f177 false c)=>c .skip .skip .skip .skip) _ TB
def MF:=(fun c (_:QB Tryz.f178 false c)=>c .skip .skip .skip .skip) _ TB
def P6:=(fun c (_:QB Tryz.f179 false c)=>c .skip .skip .skip .skip) _ TB
def Mw:=(fun c (_:QB Tryz.f180 false c)=>c .skip .skip .skip .skip) _ TB
def Mp:=(fun c (_:QB Tryz.f181 false c)=>c .skip .skip .skip .skip) _ TB
def N4:=(fun c (_:QB Tryz.f182 false c)=>c .skip .skip .skip .skip) _ TB
def lV:=(fun c (_:QC Tryz.f183 1 c)=>c .skip .skip .skip .skip) _ TC
def kA:=(fun c (_:QC Tryz.f183 0 c)=>c lV .skip .skip .skip) _ TC
def MI:=(fun c (_:QB Tryz.f183 false c)=>c lV kA .skip .skip) _ TB
def Mn:=(fun c (_:QB Tryz.f184 false c)=>c .skip .skip .skip .skip) _ TB
def Ol:=(fun c (_:QB Tryz.f185 false c)=>c .skip .skip .skip .skip) _ TB
def Oj:=(fun c (_:QB Tryz.f186 false c)=>c .skip .skip .skip .skip) _ TB
def GL:=(fun c (_:QB Tryz.f194 true c)=>c .skip .skip .skip .skip) _ TB
def OR:=(fun c (_:QB Tryz.f195 false c)=>c .skip .skip .skip .skip) _ TB
def Bn:=(fun c (_:QB Tryz.f196 false c)=>c .skip .skip .skip .skip) _ TB
def Nv:=(fun c (_:QB Tryz.f197 false c)=>c .skip .skip .skip .skip) _ TB
def ez:=(fun c (_:QB Tryz.f198 false c)=>c .skip .skip .skip .skip) _ TB
def Q6:=(fun c (_:QB Tryz.f199 false c)=>c .skip .skip .skip .skip) _ TB
def sd:=(fun c (_:QC Tryz.f200 1 c)=>c .skip .skip .skip .skip) _ TC
def wF:=(fun c (_:QC Tryz.f200 0 c)=>c sd .skip .skip .skip) _ TC
def Qb:=(fun c (_:QB Tryz.f200 false c)=>c sd .skip wF .skip) _ TB
def PU:=(fun c (_:QB Tryz.f201 false c)=>c .skip .skip .skip .skip) _ TB
def IC:=(fun c (_:QB Tryz.f202 false c)=>c .skip .skip .skip .skip) _ TB
def sF:=(fun c (_:QC Tryz.f203 1 c)=>c .skip .skip .skip .skip) _ TC
def wM:=(fun c (_:QC Tryz.f203 0 c)=>c sF .skip .skip .skip) _ TC
def Qg:=(fun c (_:QB Tryz.f203 false c)=>c sF wM .skip .skip) _ TB
def wU:=(fun c (_:QC Tryz.f204 1 c)=>c .skip .skip .skip .skip) _ TC
def Bz:=(fun c (_:QC Tryz.f204 0 c)=>c wU .skip .skip .skip) _ TC
def Nm:=(fun c (_:QB Tryz.f204 false c)=>c wU Bz .skip .skip) _ TB
def OL:=(fun c (_:QB Tryz.f205 false c)=>c .skip .skip .skip .skip) _ TB
def Ov:=(fun c (_:QB Tryz.f206 false c)=>c .skip .skip .skip .skip) _ TB
def rY:=(fun c (_:QC Tryz.f207 1 c)=>c .skip .skip .skip .skip) _ TC
def vZ:=(fun c (_:QC Tryz.f207 0 c)=>c rY .skip .skip .skip) _ TC
def Nh:=(fun c (_:QB Tryz.f207 false c)=>c rY vZ .skip .skip) _ TB
def wB:=(fun c (_:QC Tryz.f208 1 c)=>c .skip .skip .skip .skip) _ TC
def BL:=(fun c (_:QC Tryz.f208 0 c)=>c wB .skip .skip .skip) _ TC
def Oo:=(fun c (_:QB Tryz.f208 false c)=>c wB BL .skip .skip) _ TB
def OY:=(fun c (_:QB Tryz.f209 false c)=>c .skip .skip .skip .skip) _ TB
def NN:=(fun c (_:QB Tryz.f210 false c)=>c .skip .skip .skip .skip) _ TB
def Nn:=(fun c (_:QB Tryz.f211 false c)=>c .skip .skip .skip .skip) _ TB
def F9:=(fun c (_:QB Tryz.f216 false c)=>c .skip .skip .skip .skip) _ TB
def Iy:=(fun c (_:QB Tryz.f217 false c)=>c .skip .skip .skip .skip) _ TB
def OG:=(fun c (_:QB Tryz.f218 false c)=>c .skip .skip .skip .skip) _ TB
def Pv:=(fun c (_:QB Tryz.f219 false c)=>c .skip .skip .skip .skip) _ TB
def Q9:=(fun c (_:QB Tryz.f220 false c)=>c .skip .skip .skip .skip) _ TB
def vu:=(fun c (_:QC Tryz.f221 1 c)=>c .skip .skip .skip .skip) _ TC
def BU:=(fun c (_:QC Tryz.f221 0 c)=>c vu .skip .skip .skip) _ TC
def Q3:=(fun c (_:QB Tryz.f221 false c)=>c vu BU .skip .skip) _ TB
def wZ:=(fun c (_:QC Tryz.f222 1 c)=>c .skip .skip .skip .skip) _ TC
def zQ:=(fun c (_:QC Tryz.f222 0 c)=>c wZ .skip .skip .skip) _ TC
def Oa:=(fun c (_:QB Tryz.f222 false c)=>c wZ zQ .skip .skip) _ TB
def wE:=(fun c (_:QC Tryz.f223 1 c)=>c .skip .skip .skip .skip) _ TC
def AD:=(fun c (_:QC Tryz.f223 0 c)=>c wE .skip .skip .skip) _ TC
def Mx:=(fun c (_:QB Tryz.f223 false c)=>c wE AD .skip .skip) _ TB
def Od:=(fun c (_:QB Tryz.f224 false c)=>c .skip .skip .skip .skip) _ TB
def Pz:=(fun c (_:QB Tryz.f225 false c)=>c .skip .skip .skip .skip) _ TB
def nA:=(fun c (_:QC Tryz.f226 1 c)=>c .skip .skip .skip .skip) _ TC
def q9:=(fun c (_:QC Tryz.f226 0 c)=>c nA .skip .skip .skip) _ TC
def Oi:=(fun c (_:QB Tryz.f226 false c)=>c nA q9 .skip .skip) _ TB
def PN:=(fun c (_:QB Tryz.f227 false c)=>c .skip .skip .skip .skip) _ TB
def Pr:=(fun c (_:QB Tryz.f228 false c)=>c .skip .skip .skip .skip) _ TB
def tq:=(fun c (_:QC Tryz.f229 1 c)=>c .skip .skip .skip .skip) _ TC
def wX:=(fun c (_:QC Tryz.f229 0 c)=>c tq .skip .skip .skip) _ TC
def Pf:=(fun c (_:QB Tryz.f229 false c)=>c tq wX .skip .skip) _ TB
end Go.Proofs.YtioblbopbilmaaaGreatDoor
