/- What functions of the program and of the reference compute, on values. No statement is proved here. -/
import Derived.Test.YtokdflgpbfjpcaaGreatDoorTxA
import Derived.Test.YtokdflgpbfjpcaaGreatDoorProg
set_option linter.unusedSimpArgs false
set_option linter.unusedVariables false
set_option linter.defProp false
namespace Go.Proofs.YtokdflgpbfjpcaaGreatDoor
open Go Go.EvL Go.PE
theorem Xe {α} (l:List α):Array.mk l=l.toArray:=rfl
theorem X2 (n:Nat):Int.ofNat (no_index (OfNat.ofNat n))=(OfNat.ofNat n:Int):=rfl
theorem WP (n:Nat) (h:no_index (OfNat.ofNat n) < 2^8):UInt8.ofBitVec (BitVec.ofFin (Fin.mk (no_index (OfNat.ofNat n)) h))=(OfNat.ofNat n:UInt8):=by
 apply UInt8.toNat_inj.1; simp only [UInt8.toNat,BitVec.toNat]; exact (Nat.mod_eq_of_lt h).symm
set_option maxRecDepth 100000
section
variable (d t j x y n a b g:Nat) (w u:Bool) (p:lM) (i:Int) (k:IntKind) (s:ByteArray) (o:BinOp) (l:List PI) (c e:bj) (z:List Operand)
theorem Xa:PI.mk (some d) (.mv (.tmp t)) none=mt d t:=rfl
theorem Wz:PI.mk (some d) (.mv (.tmp t)) (some (j,w))=gt j w d t:=rfl
theorem X4:PI.mk (some d) (.mv (.const (.bool w))) none=mk d (.bool w):=rfl
theorem Xb:PI.mk (some d) (.mv (.const (.int k i))) none=mk d (.int k i):=rfl
theorem WN:PI.mk (some d) (.mv (.const (.string s))) none=mk d (.string s):=rfl
theorem WE (m x y):PI.mk (some d) (.mv (.const (.slice m x y))) none=mk d (.slice m x y):=rfl
theorem Xf (m):PI.mk (some d) (.mv (.const (.pointer m))) none=mk d (.pointer m):=rfl
theorem WL:PI.mk (some d) (.mv (.const .nilFunc)) none=mk d .nilFunc:=rfl
theorem Xc:PI.mk (some d) (.mv (.const .nilIface)) none=mk d .nilIface:=rfl
theorem WW (m):PI.mk (some d) (.mv (.const (.tuple m))) none=mk d (.tuple m):=rfl
theorem X7:lM.bin o t (.tmp x) (.tmp y)=bn o t x y:=rfl
theorem WQ:lM.bin o 3 (.tmp x) (.const (.int .i64 i))=bi o x i:=rfl
theorem X0:lM.bin o 5 (.tmp x) (.const (.int .u8 i))=bc o x i:=rfl
theorem X9:lM.pick (.tmp a) (.tmp b) (.const (.bool false))=pk a b:=rfl
theorem WU:lM.pick (.tmp a) (.const (.bool true)) (.tmp b)=po a b:=rfl
theorem Xd:lM.call (.func g) z=cl g z:=rfl
theorem WZ:bj.seq (.reg l) (.cond (.tmp t) c e)=tO l t c e:=rfl
theorem X3:bj.seq (.block j (.loop c)) e=lt j c e:=rfl
theorem WX:PI.mk (some d) p none=ob d p:=rfl
theorem WI:PI.mk (some d) p (some (j,w))=og j w d p:=rfl
theorem Xg:PI.mk none p none=o0 p:=rfl
theorem WJ:PI.mk none p (some (j,w))=g0 j w p:=rfl
theorem WH:bj.seq (.reg l) c=sr l c:=rfl
end
def PY:bj→Bool
 | .block _ (.loop _)=>true
 | .seq _ b=>PY b
 | _=>false
def X5:List bj→bj
 | x :: _=>x
 | []=>.skip
def Q1 {α:Type} : bj→List bj→List bj→List bj→(bj→List bj→List bj→List bj→α)→α
 | .seq a b,x,y,d,k=>Q1 a x y d fun c x y d=>Q1 b x y d fun e x y d=>match PY a with
  | true=>k (.seq c (X5 y)) x y.tail (e :: d)
  | false=>k (.seq c e) x y d
 | .cond o a b,x,y,d,k=>Q1 a x y d fun c x y d=>Q1 b x y d fun e x y d=>k (.cond o c e) x y d
 | .block i b,x,y,d,k=>Q1 b x y d fun e x y d=>k (.block i e) x y d
 | .loop b,x,y,d,k=>Q1 b x y d fun e x y d=>k (.loop (X5 x)) x.tail y (e :: d)
 | c,x,y,d,k=>k c x y d
noncomputable def K1 (f:Func) (k:Bool) (b r b' r':bj):Option gk:=(tI Tryz.prog f k).map fun c=>Q1 c.body [b,b'] [r,r'] [] fun x _ _ _=>⟨c.nt,x,c.res,c.keep⟩
noncomputable def K2 (f:Func) (j:Nat) (b r b' r':bj):Option bj:=(tI Tryz.prog f false).bind fun c=>Q1 c.body [b,b'] [r,r'] [] fun _ _ _ d=>d[j]?
abbrev QB (f:Func) (k:Bool) (c:bj→bj→bj→bj→gk):=∀b r b' r',K1 f k b r b' r'=some (c b r b' r')
abbrev QC (f:Func) (j:Nat) (c:bj→bj→bj→bj→bj):=∀b r b' r',K2 f j b r b' r'=some (c b r b' r')
theorem TB {f k c} (h:QB f k c:=by intro b r b' r'; conv=>lhs; reduce; dsimp only [X2,Int.reduceNegSucc,Xe]; try simp only [WP]; dsimp only [Xa,Wz,X4,Xb,WN,WE,Xf,WL,Xc,WW,X7,WQ,X0,X9,WU,Xd,WZ,X3]; dsimp only [WX,WI,Xg,WJ,WH]):QB f k c:=h
theorem TC {f j c} (h:QC f j c:=by intro b r b' r'; conv=>lhs; reduce; dsimp only [X2,Int.reduceNegSucc,Xe]; try simp only [WP]; dsimp only [Xa,Wz,X4,Xb,WN,WE,Xf,WL,Xc,WW,X7,WQ,X0,X9,WU,Xd,WZ,X3]; dsimp only [WX,WI,Xg,WJ,WH]):QC f j c:=h
def p3:=(fun c (_:QB Tryz.f3 false c)=>c .skip .skip .skip .skip) _ TB
def p4:=(fun c (_:QB Tryz.f4 false c)=>c .skip .skip .skip .skip) _ TB
def p6:=(fun c (_:QB Tryz.f6 false c)=>c .skip .skip .skip .skip) _ TB
def p7:=(fun c (_:QB Tryz.f7 false c)=>c .skip .skip .skip .skip) _ TB
def p8:=(fun c (_:QB Tryz.f8 false c)=>c .skip .skip .skip .skip) _ TB
def Hi:=(fun c (_:QC Tryz.f9 1 c)=>c .skip .skip .skip .skip) _ TC
def QH:=(fun c (_:QC Tryz.f9 0 c)=>c Hi .skip .skip .skip) _ TC
def p9:=(fun c (_:QB Tryz.f9 false c)=>c Hi QH .skip .skip) _ TB
def fN:=(fun c (_:QB Tryz.f10 false c)=>c .skip .skip .skip .skip) _ TB
def fS:=(fun c (_:QB Tryz.f11 false c)=>c .skip .skip .skip .skip) _ TB
def sn:=(fun c (_:QC Tryz.f12 3 c)=>c .skip .skip .skip .skip) _ TC
def tP:=(fun c (_:QC Tryz.f12 2 c)=>c sn .skip .skip .skip) _ TC
def yd:=(fun c (_:QC Tryz.f12 1 c)=>c sn .skip tP .skip) _ TC
def xN:=(fun c (_:QC Tryz.f12 0 c)=>c sn yd tP .skip) _ TC
def gL:=(fun c (_:QB Tryz.f12 false c)=>c sn yd tP xN) _ TB
def ko:=(fun c (_:QB Tryz.f16 false c)=>c .skip .skip .skip .skip) _ TB
def kh:=(fun c (_:QB Tryz.f17 false c)=>c .skip .skip .skip .skip) _ TB
def kj:=(fun c (_:QB Tryz.f18 false c)=>c .skip .skip .skip .skip) _ TB
def wn:=(fun c (_:QC Tryz.f19 1 c)=>c .skip .skip .skip .skip) _ TC
def AY:=(fun c (_:QC Tryz.f19 0 c)=>c wn .skip .skip .skip) _ TC
def nq:=(fun c (_:QB Tryz.f19 false c)=>c wn AY .skip .skip) _ TB
def PU:=(fun c (_:QC Tryz.f20 1 c)=>c .skip .skip .skip .skip) _ TC
def V7:=(fun c (_:QC Tryz.f20 0 c)=>c PU .skip .skip .skip) _ TC
def nF:=(fun c (_:QB Tryz.f20 false c)=>c PU V7 .skip .skip) _ TB
def Q0:=(fun c (_:QC Tryz.f21 1 c)=>c .skip .skip .skip .skip) _ TC
def TS:=(fun c (_:QC Tryz.f21 0 c)=>c Q0 .skip .skip .skip) _ TC
def nK:=(fun c (_:QB Tryz.f21 false c)=>c Q0 TS .skip .skip) _ TB
def sE:=(fun c (_:QC Tryz.f22 1 c)=>c .skip .skip .skip .skip) _ TC
def wP:=(fun c (_:QC Tryz.f22 0 c)=>c sE .skip .skip .skip) _ TC
def sN:=(fun c (_:QB Tryz.f22 false c)=>c sE wP .skip .skip) _ TB
def Q2:=(fun c (_:QC Tryz.f23 1 c)=>c .skip .skip .skip .skip) _ TC
def Vl:=(fun c (_:QC Tryz.f23 0 c)=>c Q2 .skip .skip .skip) _ TC
def ur:=(fun c (_:QB Tryz.f23 false c)=>c Q2 Vl .skip .skip) _ TB
def PZ:=(fun c (_:QC Tryz.f24 1 c)=>c .skip .skip .skip .skip) _ TC
def Uc:=(fun c (_:QC Tryz.f24 0 c)=>c PZ .skip .skip .skip) _ TC
def ui:=(fun c (_:QB Tryz.f24 false c)=>c PZ Uc .skip .skip) _ TB
def yI:=(fun c (_:QC Tryz.f25 1 c)=>c .skip .skip .skip .skip) _ TC
def Lu:=(fun c (_:QC Tryz.f25 0 c)=>c yI .skip .skip .skip) _ TC
def tr:=(fun c (_:QB Tryz.f25 false c)=>c yI Lu .skip .skip) _ TB
def kS:=(fun c (_:QC Tryz.f26 1 c)=>c .skip .skip .skip .skip) _ TC
def qE:=(fun c (_:QC Tryz.f26 0 c)=>c kS .skip .skip .skip) _ TC
def xh:=(fun c (_:QB Tryz.f26 false c)=>c kS qE .skip .skip) _ TB
def u0:=(fun c (_:QC Tryz.f27 1 c)=>c .skip .skip .skip .skip) _ TC
def yf:=(fun c (_:QC Tryz.f27 0 c)=>c u0 .skip .skip .skip) _ TC
def xi:=(fun c (_:QB Tryz.f27 false c)=>c u0 yf .skip .skip) _ TB
def qJ:=(fun c (_:QC Tryz.f28 1 c)=>c .skip .skip .skip .skip) _ TC
def xe:=(fun c (_:QC Tryz.f28 0 c)=>c qJ .skip .skip .skip) _ TC
def xg:=(fun c (_:QB Tryz.f28 false c)=>c qJ xe .skip .skip) _ TB
def nM:=(fun c (_:QC Tryz.f29 1 c)=>c .skip .skip .skip .skip) _ TC
def tH:=(fun c (_:QC Tryz.f29 0 c)=>c nM .skip .skip .skip) _ TC
def xj:=(fun c (_:QB Tryz.f29 false c)=>c nM tH .skip .skip) _ TB
def ny:=(fun c (_:QC Tryz.f30 1 c)=>c .skip .skip .skip .skip) _ TC
def se:=(fun c (_:QC Tryz.f30 0 c)=>c ny .skip .skip .skip) _ TC
def xR:=(fun c (_:QB Tryz.f30 false c)=>c ny se .skip .skip) _ TB
def AA:=(fun c (_:QB Tryz.f31 false c)=>c .skip .skip .skip .skip) _ TB
def qL:=(fun c (_:QC Tryz.f32 1 c)=>c .skip .skip .skip .skip) _ TC
def vF:=(fun c (_:QC Tryz.f32 0 c)=>c qL .skip .skip .skip) _ TC
def LN:=(fun c (_:QB Tryz.f32 false c)=>c qL vF .skip .skip) _ TB
def tQ:=(fun c (_:QC Tryz.f33 1 c)=>c .skip .skip .skip .skip) _ TC
def yk:=(fun c (_:QC Tryz.f33 0 c)=>c tQ .skip .skip .skip) _ TC
def LL:=(fun c (_:QB Tryz.f33 false c)=>c tQ yk .skip .skip) _ TB
def Oz:=(fun c (_:QB Tryz.f34 false c)=>c .skip .skip .skip .skip) _ TB
def VT:=(fun c (_:QB Tryz.f47 false c)=>c .skip .skip .skip .skip) _ TB
def PK:=(fun c (_:QC Tryz.f49 1 c)=>c .skip .skip .skip .skip) _ TC
def TE:=(fun c (_:QC Tryz.f49 0 c)=>c PK .skip .skip .skip) _ TC
def Xj:=(fun c (_:QB Tryz.f49 false c)=>c PK TE .skip .skip) _ TB
def PL:=(fun c (_:QC Tryz.f50 1 c)=>c .skip .skip .skip .skip) _ TC
def UN:=(fun c (_:QC Tryz.f50 0 c)=>c PL .skip .skip .skip) _ TC
def XB:=(fun c (_:QB Tryz.f50 false c)=>c PL UN .skip .skip) _ TB
def Pu:=(fun c (_:QC Tryz.f51 1 c)=>c .skip .skip .skip .skip) _ TC
def Ul:=(fun c (_:QC Tryz.f51 0 c)=>c Pu .skip .skip .skip) _ TC
def Xl:=(fun c (_:QB Tryz.f51 false c)=>c Pu Ul .skip .skip) _ TB
def Pr:=(fun c (_:QC Tryz.f52 1 c)=>c .skip .skip .skip .skip) _ TC
def U3:=(fun c (_:QC Tryz.f52 0 c)=>c Pr .skip .skip .skip) _ TC
def Xh:=(fun c (_:QB Tryz.f52 false c)=>c Pr U3 .skip .skip) _ TB
def Pv:=(fun c (_:QC Tryz.f53 1 c)=>c .skip .skip .skip .skip) _ TC
def Ub:=(fun c (_:QC Tryz.f53 0 c)=>c Pv .skip .skip .skip) _ TC
def XK:=(fun c (_:QB Tryz.f53 false c)=>c Pv Ub .skip .skip) _ TB
def XQ:=(fun c (_:QB Tryz.f54 false c)=>c .skip .skip .skip .skip) _ TB
def Xp:=(fun c (_:QB Tryz.f55 false c)=>c .skip .skip .skip .skip) _ TB
def XO:=(fun c (_:QB Tryz.f56 false c)=>c .skip .skip .skip .skip) _ TB
def XD:=(fun c (_:QB Tryz.f57 false c)=>c .skip .skip .skip .skip) _ TB
def PO:=(fun c (_:QC Tryz.f58 1 c)=>c .skip .skip .skip .skip) _ TC
def U5:=(fun c (_:QC Tryz.f58 0 c)=>c PO .skip .skip .skip) _ TC
def XL:=(fun c (_:QB Tryz.f58 false c)=>c PO U5 .skip .skip) _ TB
def VQ:=(fun c (_:QB Tryz.f59 false c)=>c .skip .skip .skip .skip) _ TB
def VG:=(fun c (_:QB Tryz.f60 false c)=>c .skip .skip .skip .skip) _ TB
def yl:=(fun c (_:QC Tryz.f62 1 c)=>c .skip .skip .skip .skip) _ TC
def Fe:=(fun c (_:QC Tryz.f62 0 c)=>c yl .skip .skip .skip) _ TC
def VZ:=(fun c (_:QB Tryz.f62 false c)=>c yl Fe .skip .skip) _ TB
def Wk:=(fun c (_:QB Tryz.f63 false c)=>c .skip .skip .skip .skip) _ TB
def RH:=(fun c (_:QB Tryz.f64 false c)=>c .skip .skip .skip .skip) _ TB
def xQ:=(fun c (_:QC Tryz.f65 1 c)=>c .skip .skip .skip .skip) _ TC
def G4:=(fun c (_:QC Tryz.f65 0 c)=>c xQ .skip .skip .skip) _ TC
def Cw:=(fun c (_:QB Tryz.f65 false c)=>c xQ G4 .skip .skip) _ TB
def Xs:=(fun c (_:QB Tryz.f92 true c)=>c .skip .skip .skip .skip) _ TB
def PT:=(fun c (_:QC Tryz.f93 1 c)=>c .skip .skip .skip .skip) _ TC
def TR:=(fun c (_:QC Tryz.f93 0 c)=>c PT .skip .skip .skip) _ TC
def XA:=(fun c (_:QB Tryz.f93 false c)=>c PT TR .skip .skip) _ TB
def VU:=(fun c (_:QB Tryz.f94 false c)=>c .skip .skip .skip .skip) _ TB
def VO:=(fun c (_:QB Tryz.f95 false c)=>c .skip .skip .skip .skip) _ TB
def PN:=(fun c (_:QC Tryz.f96 1 c)=>c .skip .skip .skip .skip) _ TC
def UY:=(fun c (_:QC Tryz.f96 0 c)=>c PN .skip .skip .skip) _ TC
def XS:=(fun c (_:QB Tryz.f96 false c)=>c PN UY .skip .skip) _ TB
def PW:=(fun c (_:QC Tryz.f97 1 c)=>c .skip .skip .skip .skip) _ TC
def TD:=(fun c (_:QC Tryz.f97 0 c)=>c PW .skip .skip .skip) _ TC
def XU:=(fun c (_:QB Tryz.f97 false c)=>c PW TD .skip .skip) _ TB
def Wg:=(fun c (_:QB Tryz.f98 false c)=>c .skip .skip .skip .skip) _ TB
def PM:=(fun c (_:QC Tryz.f99 1 c)=>c .skip .skip .skip .skip) _ TC
def TX:=(fun c (_:QC Tryz.f99 0 c)=>c PM .skip .skip .skip) _ TC
def Xk:=(fun c (_:QB Tryz.f99 false c)=>c PM TX .skip .skip) _ TB
def IE:=(fun c (_:QC Tryz.f100 1 c)=>c .skip .skip .skip .skip) _ TC
def Se:=(fun c (_:QC Tryz.f100 0 c)=>c IE .skip .skip .skip) _ TC
def Vw:=(fun c (_:QB Tryz.f100 false c)=>c IE Se .skip .skip) _ TB
def QG:=(fun c (_:QB Tryz.f101 false c)=>c .skip .skip .skip .skip) _ TB
def Hv:=(fun c (_:QB Tryz.f107 false c)=>c .skip .skip .skip .skip) _ TB
def Em:=(fun c (_:QB Tryz.f108 false c)=>c .skip .skip .skip .skip) _ TB
def SN:=(fun c (_:QB Tryz.f109 false c)=>c .skip .skip .skip .skip) _ TB
def Ss:=(fun c (_:QB Tryz.f110 false c)=>c .skip .skip .skip .skip) _ TB
def rl:=(fun c (_:QC Tryz.f111 1 c)=>c .skip .skip .skip .skip) _ TC
def zo:=(fun c (_:QC Tryz.f111 0 c)=>c rl .skip .skip .skip) _ TC
def Rn:=(fun c (_:QB Tryz.f111 false c)=>c rl zo .skip .skip) _ TB
def Sp:=(fun c (_:QB Tryz.f112 false c)=>c .skip .skip .skip .skip) _ TB
def ti:=(fun c (_:QC Tryz.f113 1 c)=>c .skip .skip .skip .skip) _ TC
def DF:=(fun c (_:QC Tryz.f113 0 c)=>c ti .skip .skip .skip) _ TC
def P0:=(fun c (_:QB Tryz.f113 false c)=>c ti DF .skip .skip) _ TB
def rz:=(fun c (_:QC Tryz.f114 1 c)=>c .skip .skip .skip .skip) _ TC
def vH:=(fun c (_:QC Tryz.f114 0 c)=>c rz .skip .skip .skip) _ TC
def qu:=(fun c (_:QB Tryz.f114 false c)=>c rz vH .skip .skip) _ TB
def W7:=(fun c (_:QB Tryz.f144 true c)=>c .skip .skip .skip .skip) _ TB
def Iy:=(fun c (_:QC Tryz.f145 1 c)=>c .skip .skip .skip .skip) _ TC
def SH:=(fun c (_:QC Tryz.f145 0 c)=>c Iy .skip .skip .skip) _ TC
def Vx:=(fun c (_:QB Tryz.f145 false c)=>c Iy SH .skip .skip) _ TB
def SG:=(fun c (_:QB Tryz.f146 false c)=>c .skip .skip .skip .skip) _ TB
def VE:=(fun c (_:QB Tryz.f147 true c)=>c .skip .skip .skip .skip) _ TB
def Wh:=(fun c (_:QB Tryz.f148 true c)=>c .skip .skip .skip .skip) _ TB
def Ws:=(fun c (_:QB Tryz.f149 true c)=>c .skip .skip .skip .skip) _ TB
def W0:=(fun c (_:QB Tryz.f150 true c)=>c .skip .skip .skip .skip) _ TB
def xB:=(fun c (_:QB Tryz.f152 false c)=>c .skip .skip .skip .skip) _ TB
def tw:=(fun c (_:QC Tryz.f153 1 c)=>c .skip .skip .skip .skip) _ TC
def Ap:=(fun c (_:QC Tryz.f153 0 c)=>c tw .skip .skip .skip) _ TC
def Q9:=(fun c (_:QB Tryz.f153 false c)=>c tw Ap .skip .skip) _ TB
def sP:=(fun c (_:QC Tryz.f154 1 c)=>c .skip .skip .skip .skip) _ TC
def Ay:=(fun c (_:QC Tryz.f154 0 c)=>c sP .skip .skip .skip) _ TC
def Qq:=(fun c (_:QB Tryz.f154 false c)=>c sP Ay .skip .skip) _ TB
def qZ:=(fun c (_:QC Tryz.f155 1 c)=>c .skip .skip .skip .skip) _ TC
def wN:=(fun c (_:QC Tryz.f155 0 c)=>c qZ .skip .skip .skip) _ TC
def Qe:=(fun c (_:QB Tryz.f155 false c)=>c qZ wN .skip .skip) _ TB
def tl:=(fun c (_:QC Tryz.f156 1 c)=>c .skip .skip .skip .skip) _ TC
def EA:=(fun c (_:QC Tryz.f156 0 c)=>c tl .skip .skip .skip) _ TC
def QT:=(fun c (_:QB Tryz.f156 false c)=>c tl EA .skip .skip) _ TB
def Wl:=(fun c (_:QB Tryz.f180 true c)=>c .skip .skip .skip .skip) _ TB
def RQ:=(fun c (_:QB Tryz.f181 false c)=>c .skip .skip .skip .skip) _ TB
def iF:=(fun c (_:QC Tryz.f216 1 c)=>c .skip .skip .skip .skip) _ TC
def kI:=(fun c (_:QC Tryz.f216 0 c)=>c iF .skip .skip .skip) _ TC
def S3:=(fun c (_:QB Tryz.f216 false c)=>c iF kI .skip .skip) _ TB
def ru:=(fun c (_:QC Tryz.f217 1 c)=>c .skip .skip .skip .skip) _ TC
def uX:=(fun c (_:QC Tryz.f217 0 c)=>c ru .skip .skip .skip) _ TC
def Mk:=(fun c (_:QB Tryz.f217 false c)=>c ru uX .skip .skip) _ TB
def jF:=(fun c (_:QC Tryz.f218 1 c)=>c .skip .skip .skip .skip) _ TC
def lT:=(fun c (_:QC Tryz.f218 0 c)=>c jF .skip .skip .skip) _ TC
def NY:=(fun c (_:QB Tryz.f218 false c)=>c jF lT .skip .skip) _ TB
def nc:=(fun c (_:QC Tryz.f219 1 c)=>c .skip .skip .skip .skip) _ TC
def qP:=(fun c (_:QC Tryz.f219 0 c)=>c nc .skip .skip .skip) _ TC
def NQ:=(fun c (_:QB Tryz.f219 false c)=>c nc qP .skip .skip) _ TB
def ol:=(fun c (_:QC Tryz.f220 1 c)=>c .skip .skip .skip .skip) _ TC
def wJ:=(fun c (_:QC Tryz.f220 0 c)=>c ol .skip .skip .skip) _ TC
def Sv:=(fun c (_:QB Tryz.f220 false c)=>c ol wJ .skip .skip) _ TB
def RY:=(fun c (_:QB Tryz.f236 false c)=>c .skip .skip .skip .skip) _ TB
def Qy:=(fun c (_:QB Tryz.f237 false c)=>c .skip .skip .skip .skip) _ TB
def Ry:=(fun c (_:QB Tryz.f238 false c)=>c .skip .skip .skip .skip) _ TB
def mG:=(fun c (_:QC Tryz.f239 1 c)=>c .skip .skip .skip .skip) _ TC
def qQ:=(fun c (_:QC Tryz.f239 0 c)=>c mG .skip .skip .skip) _ TC
def Oq:=(fun c (_:QB Tryz.f239 false c)=>c mG qQ .skip .skip) _ TB
def S1:=(fun c (_:QB Tryz.f240 false c)=>c .skip .skip .skip .skip) _ TB
def Qg:=(fun c (_:QB Tryz.f241 false c)=>c .skip .skip .skip .skip) _ TB
def Rr:=(fun c (_:QB Tryz.f242 false c)=>c .skip .skip .skip .skip) _ TB
def Oa:=(fun c (_:QB Tryz.f243 false c)=>c .skip .skip .skip .skip) _ TB
def S0:=(fun c (_:QB Tryz.f244 false c)=>c .skip .skip .skip .skip) _ TB
def Or:=(fun c (_:QB Tryz.f252 false c)=>c .skip .skip .skip .skip) _ TB
def P4:=(fun c (_:QB Tryz.f253 false c)=>c .skip .skip .skip .skip) _ TB
def xC:=(fun c (_:QB Tryz.f254 false c)=>c .skip .skip .skip .skip) _ TB
def iY:=(fun c (_:QC Tryz.f255 1 c)=>c .skip .skip .skip .skip) _ TC
def As:=(fun c (_:QC Tryz.f255 0 c)=>c iY .skip .skip .skip) _ TC
def O2:=(fun c (_:QB Tryz.f255 false c)=>c iY As .skip .skip) _ TB
def R7:=(fun c (_:QB Tryz.f256 false c)=>c .skip .skip .skip .skip) _ TB
def xw:=(fun c (_:QB Tryz.f263 false c)=>c .skip .skip .skip .skip) _ TB
def rk:=(fun c (_:QC Tryz.f264 3 c)=>c .skip .skip .skip .skip) _ TC
def th:=(fun c (_:QC Tryz.f264 2 c)=>c rk .skip .skip .skip) _ TC
def eG:=(fun c (_:QC Tryz.f264 1 c)=>c rk th .skip .skip) _ TC
def eK:=(fun c (_:QC Tryz.f264 0 c)=>c rk th eG .skip) _ TC
def N4:=(fun c (_:QB Tryz.f264 false c)=>c rk th eG eK) _ TB
def Rm:=(fun c (_:QB Tryz.f265 false c)=>c .skip .skip .skip .skip) _ TB
def tu:=(fun c (_:QC Tryz.f266 1 c)=>c .skip .skip .skip .skip) _ TC
def vu:=(fun c (_:QC Tryz.f266 0 c)=>c tu .skip .skip .skip) _ TC
def SR:=(fun c (_:QB Tryz.f266 false c)=>c tu vu .skip .skip) _ TB
def Q3:=(fun c (_:QB Tryz.f267 false c)=>c .skip .skip .skip .skip) _ TB
def sZ:=(fun c (_:QC Tryz.f268 1 c)=>c .skip .skip .skip .skip) _ TC
def zT:=(fun c (_:QC Tryz.f268 0 c)=>c sZ .skip .skip .skip) _ TC
def Qh:=(fun c (_:QB Tryz.f268 false c)=>c sZ zT .skip .skip) _ TB
def R9:=(fun c (_:QB Tryz.f277 false c)=>c .skip .skip .skip .skip) _ TB
def Oy:=(fun c (_:QB Tryz.f278 false c)=>c .skip .skip .skip .skip) _ TB
def nZ:=(fun c (_:QC Tryz.f279 1 c)=>c .skip .skip .skip .skip) _ TC
def sT:=(fun c (_:QC Tryz.f279 0 c)=>c nZ .skip .skip .skip) _ TC
def Rt:=(fun c (_:QB Tryz.f279 false c)=>c nZ sT .skip .skip) _ TB
def jo:=(fun c (_:QB Tryz.f280 false c)=>c .skip .skip .skip .skip) _ TB
def OZ:=(fun c (_:QB Tryz.f281 true c)=>c .skip .skip .skip .skip) _ TB
def SO:=(fun c (_:QB Tryz.f282 false c)=>c .skip .skip .skip .skip) _ TB
def QQ:=(fun c (_:QB Tryz.f283 false c)=>c .skip .skip .skip .skip) _ TB
def Qs:=(fun c (_:QB Tryz.f284 false c)=>c .skip .skip .skip .skip) _ TB
def S2:=(fun c (_:QB Tryz.f296 false c)=>c .skip .skip .skip .skip) _ TB
def mP:=(fun c (_:QB Tryz.f297 false c)=>c .skip .skip .skip .skip) _ TB
def mJ:=(fun c (_:QC Tryz.f298 1 c)=>c .skip .skip .skip .skip) _ TC
def iz:=(fun c (_:QC Tryz.f298 0 c)=>c mJ .skip .skip .skip) _ TC
def D4:=(fun c (_:QB Tryz.f298 false c)=>c mJ iz .skip .skip) _ TB
def vJ:=(fun c (_:QB Tryz.f299 false c)=>c .skip .skip .skip .skip) _ TB
def uY:=(fun c (_:QB Tryz.f300 false c)=>c .skip .skip .skip .skip) _ TB
def Gu:=(fun c (_:QB Tryz.f301 false c)=>c .skip .skip .skip .skip) _ TB
def wI:=(fun c (_:QB Tryz.f302 false c)=>c .skip .skip .skip .skip) _ TB
def QM:=(fun c (_:QB Tryz.f303 false c)=>c .skip .skip .skip .skip) _ TB
def jZ:=(fun c (_:QB Tryz.f313 false c)=>c .skip .skip .skip .skip) _ TB
def QK:=(fun c (_:QB Tryz.f314 false c)=>c .skip .skip .skip .skip) _ TB
def Ri:=(fun c (_:QB Tryz.f315 false c)=>c .skip .skip .skip .skip) _ TB
def lU:=(fun c (_:QB Tryz.f316 false c)=>c .skip .skip .skip .skip) _ TB
def oq:=(fun c (_:QC Tryz.f321 1 c)=>c .skip .skip .skip .skip) _ TC
def Es:=(fun c (_:QC Tryz.f321 0 c)=>c oq .skip .skip .skip) _ TC
def NT:=(fun c (_:QB Tryz.f321 false c)=>c oq Es .skip .skip) _ TB
def qq:=(fun c (_:QB Tryz.f322 false c)=>c .skip .skip .skip .skip) _ TB
def tB:=(fun c (_:QC Tryz.f323 1 c)=>c .skip .skip .skip .skip) _ TC
def DY:=(fun c (_:QC Tryz.f323 0 c)=>c tB .skip .skip .skip) _ TC
def O0:=(fun c (_:QB Tryz.f323 false c)=>c tB DY .skip .skip) _ TB
def qT:=(fun c (_:QC Tryz.f324 1 c)=>c .skip .skip .skip .skip) _ TC
def CM:=(fun c (_:QC Tryz.f324 0 c)=>c qT .skip .skip .skip) _ TC
def LY:=(fun c (_:QB Tryz.f324 false c)=>c qT CM .skip .skip) _ TB
def RN:=(fun c (_:QB Tryz.f325 false c)=>c .skip .skip .skip .skip) _ TB
def Vu:=(fun c (_:QB Tryz.f326 false c)=>c .skip .skip .skip .skip) _ TB
def QR:=(fun c (_:QB Tryz.f327 false c)=>c .skip .skip .skip .skip) _ TB
def lK:=(fun c (_:QC Tryz.f330 1 c)=>c .skip .skip .skip .skip) _ TC
def CP:=(fun c (_:QC Tryz.f330 0 c)=>c lK .skip .skip .skip) _ TC
def P9:=(fun c (_:QB Tryz.f330 false c)=>c lK CP .skip .skip) _ TB
def jD:=(fun c (_:QC Tryz.f331 1 c)=>c .skip .skip .skip .skip) _ TC
def Et:=(fun c (_:QC Tryz.f331 0 c)=>c jD .skip .skip .skip) _ TC
def OC:=(fun c (_:QB Tryz.f331 false c)=>c jD Et .skip .skip) _ TB
def dM:=(fun c (_:QC Tryz.f332 1 c)=>c .skip .skip .skip .skip) _ TC
def vV:=(fun c (_:QC Tryz.f332 0 c)=>c dM .skip .skip .skip) _ TC
def Of:=(fun c (_:QB Tryz.f332 false c)=>c dM vV .skip .skip) _ TB
def lV:=(fun c (_:QC Tryz.f333 1 c)=>c .skip .skip .skip .skip) _ TC
def oK:=(fun c (_:QC Tryz.f333 0 c)=>c lV .skip .skip .skip) _ TC
def QS:=(fun c (_:QB Tryz.f333 false c)=>c lV oK .skip .skip) _ TB
def N2:=(fun c (_:QB Tryz.f334 false c)=>c .skip .skip .skip .skip) _ TB
def sM:=(fun c (_:QC Tryz.f343 1 c)=>c .skip .skip .skip .skip) _ TC
def zP:=(fun c (_:QC Tryz.f343 0 c)=>c sM .skip .skip .skip) _ TC
def Rp:=(fun c (_:QB Tryz.f343 false c)=>c sM zP .skip .skip) _ TB
def QV:=(fun c (_:QB Tryz.f344 false c)=>c .skip .skip .skip .skip) _ TB
def sG:=(fun c (_:QC Tryz.f345 1 c)=>c .skip .skip .skip .skip) _ TC
def yR:=(fun c (_:QC Tryz.f345 0 c)=>c sG .skip .skip .skip) _ TC
def OI:=(fun c (_:QB Tryz.f345 false c)=>c sG yR .skip .skip) _ TB
end Go.Proofs.YtokdflgpbfjpcaaGreatDoor
