/- What functions of the program and of the reference compute, on values. No statement is proved here. -/
import Derived.Test.YtgkggocjoolciaaGreatDoorTxA
import Derived.Test.YtgkggocjoolciaaGreatDoorProg
set_option linter.unusedSimpArgs false
set_option linter.unusedVariables false
set_option linter.defProp false
namespace Go.Proofs.YtgkggocjoolciaaGreatDoor
open Go Go.EvL Go.PE
theorem VZ {α} (l:List α):Array.mk l=l.toArray:=rfl
theorem VP (n:Nat):Int.ofNat (no_index (OfNat.ofNat n))=(OfNat.ofNat n:Int):=rfl
theorem Wc (n:Nat) (h:no_index (OfNat.ofNat n) < 2^8):UInt8.ofBitVec (BitVec.ofFin (Fin.mk (no_index (OfNat.ofNat n)) h))=(OfNat.ofNat n:UInt8):=by
 apply UInt8.toNat_inj.1; simp only [UInt8.toNat,BitVec.toNat]; exact (Nat.mod_eq_of_lt h).symm
set_option maxRecDepth 100000
section
variable (d t j x y n a b g:Nat) (w u:Bool) (p:lc) (i:Int) (k:IntKind) (s:ByteArray) (o:BinOp) (l:List PI) (c e:aW) (z:List Operand)
theorem VN:PI.mk (some d) (.mv (.tmp t)) none=mt d t:=rfl
theorem Wb:PI.mk (some d) (.mv (.tmp t)) (some (j,w))=gt j w d t:=rfl
theorem Wj:PI.mk (some d) (.mv (.const (.bool w))) none=mk d (.bool w):=rfl
theorem VV:PI.mk (some d) (.mv (.const (.int k i))) none=mk d (.int k i):=rfl
theorem Wm:PI.mk (some d) (.mv (.const (.string s))) none=mk d (.string s):=rfl
theorem W0 (m x y):PI.mk (some d) (.mv (.const (.slice m x y))) none=mk d (.slice m x y):=rfl
theorem W7 (m):PI.mk (some d) (.mv (.const (.pointer m))) none=mk d (.pointer m):=rfl
theorem Wh:PI.mk (some d) (.mv (.const .nilFunc)) none=mk d .nilFunc:=rfl
theorem W9:PI.mk (some d) (.mv (.const .nilIface)) none=mk d .nilIface:=rfl
theorem W4 (m):PI.mk (some d) (.mv (.const (.tuple m))) none=mk d (.tuple m):=rfl
theorem VU:lc.bin o t (.tmp x) (.tmp y)=bn o t x y:=rfl
theorem W2:lc.bin o 3 (.tmp x) (.const (.int .i64 i))=bi o x i:=rfl
theorem W5:lc.bin o 5 (.tmp x) (.const (.int .u8 i))=bc o x i:=rfl
theorem VT:lc.pick (.tmp a) (.tmp b) (.const (.bool false))=pk a b:=rfl
theorem Wg:lc.pick (.tmp a) (.const (.bool true)) (.tmp b)=po a b:=rfl
theorem W3:lc.call (.func g) z=cl g z:=rfl
theorem VO:aW.seq (.reg l) (.cond (.tmp t) c e)=t7 l t c e:=rfl
theorem VK:aW.seq (.block j (.loop c)) e=lt j c e:=rfl
theorem VX:PI.mk (some d) p none=ob d p:=rfl
theorem VQ:PI.mk (some d) p (some (j,w))=og j w d p:=rfl
theorem Wd:PI.mk none p none=o0 p:=rfl
theorem Wi:PI.mk none p (some (j,w))=g0 j w p:=rfl
theorem VW:aW.seq (.reg l) c=sr l c:=rfl
end
def P2:aW→Bool
 | .block _ (.loop _)=>true
 | .seq _ b=>P2 b
 | _=>false
def Wa:List aW→aW
 | x :: _=>x
 | []=>.skip
def OX {α:Type} : aW→List aW→List aW→List aW→(aW→List aW→List aW→List aW→α)→α
 | .seq a b,x,y,d,k=>OX a x y d fun c x y d=>OX b x y d fun e x y d=>match P2 a with
  | true=>k (.seq c (Wa y)) x y.tail (e :: d)
  | false=>k (.seq c e) x y d
 | .cond o a b,x,y,d,k=>OX a x y d fun c x y d=>OX b x y d fun e x y d=>k (.cond o c e) x y d
 | .block i b,x,y,d,k=>OX b x y d fun e x y d=>k (.block i e) x y d
 | .loop b,x,y,d,k=>OX b x y d fun e x y d=>k (.loop (Wa x)) x.tail y (e :: d)
 | c,x,y,d,k=>k c x y d
noncomputable def K1 (f:Func) (k:Bool) (b r b' r':aW):Option fJ:=(sX Tryz.prog f k).map fun c=>OX c.body [b,b'] [r,r'] [] fun x _ _ _=>⟨c.nt,x,c.res,c.keep⟩
noncomputable def K2 (f:Func) (j:Nat) (b r b' r':aW):Option aW:=(sX Tryz.prog f false).bind fun c=>OX c.body [b,b'] [r,r'] [] fun _ _ _ d=>d[j]?
abbrev QB (f:Func) (k:Bool) (c:aW→aW→aW→aW→fJ):=∀b r b' r',K1 f k b r b' r'=some (c b r b' r')
abbrev QC (f:Func) (j:Nat) (c:aW→aW→aW→aW→aW):=∀b r b' r',K2 f j b r b' r'=some (c b r b' r')
theorem TB {f k c} (h:QB f k c:=by intro b r b' r'; conv=>lhs; reduce; dsimp only [VP,Int.reduceNegSucc,VZ]; try simp only [Wc]; dsimp only [VN,Wb,Wj,VV,Wm,W0,W7,Wh,W9,W4,VU,W2,W5,VT,Wg,W3,VO,VK]; dsimp only [VX,VQ,Wd,Wi,VW]):QB f k c:=h
theorem TC {f j c} (h:QC f j c:=by intro b r b' r'; conv=>lhs; reduce; dsimp only [VP,Int.reduceNegSucc,VZ]; try simp only [Wc]; dsimp only [VN,Wb,Wj,VV,Wm,W0,W7,Wh,W9,W4,VU,W2,W5,VT,Wg,W3,VO,VK]; dsimp only [VX,VQ,Wd,Wi,VW]):QC f j c:=h
def p3:=(fun c (_:QB Tryz.f3 false c)=>c .skip .skip .skip .skip) _ TB
def p4:=(fun c (_:QB Tryz.f4 false c)=>c .skip .skip .skip .skip) _ TB
def DF:=(fun c (_:QC Tryz.f6 1 c)=>c .skip .skip .skip .skip) _ TC
def Qq:=(fun c (_:QC Tryz.f6 0 c)=>c DF .skip .skip .skip) _ TC
def p6:=(fun c (_:QB Tryz.f6 false c)=>c DF Qq .skip .skip) _ TB
def p7:=(fun c (_:QB Tryz.f7 false c)=>c .skip .skip .skip .skip) _ TB
def p8:=(fun c (_:QB Tryz.f8 false c)=>c .skip .skip .skip .skip) _ TB
def p9:=(fun c (_:QB Tryz.f9 false c)=>c .skip .skip .skip .skip) _ TB
def OK:=(fun c (_:QC Tryz.f10 1 c)=>c .skip .skip .skip .skip) _ TC
def Ti:=(fun c (_:QC Tryz.f10 0 c)=>c OK .skip .skip .skip) _ TC
def i3:=(fun c (_:QB Tryz.f10 false c)=>c OK Ti .skip .skip) _ TB
def OT:=(fun c (_:QC Tryz.f11 1 c)=>c .skip .skip .skip .skip) _ TC
def TS:=(fun c (_:QC Tryz.f11 0 c)=>c OT .skip .skip .skip) _ TC
def i4:=(fun c (_:QB Tryz.f11 false c)=>c OT TS .skip .skip) _ TB
def OG:=(fun c (_:QC Tryz.f12 1 c)=>c .skip .skip .skip .skip) _ TC
def U5:=(fun c (_:QC Tryz.f12 0 c)=>c OG .skip .skip .skip) _ TC
def jb:=(fun c (_:QB Tryz.f12 false c)=>c OG U5 .skip .skip) _ TB
def rh:=(fun c (_:QC Tryz.f13 3 c)=>c .skip .skip .skip .skip) _ TC
def tw:=(fun c (_:QC Tryz.f13 2 c)=>c rh .skip .skip .skip) _ TC
def xL:=(fun c (_:QC Tryz.f13 1 c)=>c rh .skip tw .skip) _ TC
def xX:=(fun c (_:QC Tryz.f13 0 c)=>c rh xL tw .skip) _ TC
def iQ:=(fun c (_:QB Tryz.f13 false c)=>c rh xL tw xX) _ TB
def lu:=(fun c (_:QB Tryz.f18 false c)=>c .skip .skip .skip .skip) _ TB
def pM:=(fun c (_:QB Tryz.f19 false c)=>c .skip .skip .skip .skip) _ TB
def r7:=(fun c (_:QC Tryz.f20 1 c)=>c .skip .skip .skip .skip) _ TC
def uL:=(fun c (_:QC Tryz.f20 0 c)=>c r7 .skip .skip .skip) _ TC
def pG:=(fun c (_:QB Tryz.f20 false c)=>c r7 uL .skip .skip) _ TB
def OJ:=(fun c (_:QC Tryz.f21 1 c)=>c .skip .skip .skip .skip) _ TC
def TW:=(fun c (_:QC Tryz.f21 0 c)=>c OJ .skip .skip .skip) _ TC
def qh:=(fun c (_:QB Tryz.f21 false c)=>c OJ TW .skip .skip) _ TB
def sZ:=(fun c (_:QC Tryz.f22 1 c)=>c .skip .skip .skip .skip) _ TC
def Ee:=(fun c (_:QC Tryz.f22 0 c)=>c sZ .skip .skip .skip) _ TC
def tU:=(fun c (_:QB Tryz.f22 false c)=>c sZ Ee .skip .skip) _ TB
def kr:=(fun c (_:QC Tryz.f23 1 c)=>c .skip .skip .skip .skip) _ TC
def pQ:=(fun c (_:QC Tryz.f23 0 c)=>c kr .skip .skip .skip) _ TC
def s6:=(fun c (_:QB Tryz.f23 false c)=>c kr pQ .skip .skip) _ TB
def tn:=(fun c (_:QC Tryz.f24 1 c)=>c .skip .skip .skip .skip) _ TC
def y8:=(fun c (_:QC Tryz.f24 0 c)=>c tn .skip .skip .skip) _ TC
def s5:=(fun c (_:QB Tryz.f24 false c)=>c tn y8 .skip .skip) _ TB
def pW:=(fun c (_:QC Tryz.f25 1 c)=>c .skip .skip .skip .skip) _ TC
def vn:=(fun c (_:QC Tryz.f25 0 c)=>c pW .skip .skip .skip) _ TC
def s7:=(fun c (_:QB Tryz.f25 false c)=>c pW vn .skip .skip) _ TB
def od:=(fun c (_:QC Tryz.f26 1 c)=>c .skip .skip .skip .skip) _ TC
def t6:=(fun c (_:QC Tryz.f26 0 c)=>c od .skip .skip .skip) _ TC
def zb:=(fun c (_:QB Tryz.f26 false c)=>c od t6 .skip .skip) _ TB
def mJ:=(fun c (_:QC Tryz.f27 1 c)=>c .skip .skip .skip .skip) _ TC
def r6:=(fun c (_:QC Tryz.f27 0 c)=>c mJ .skip .skip .skip) _ TC
def Ae:=(fun c (_:QB Tryz.f27 false c)=>c mJ r6 .skip .skip) _ TB
def DN:=(fun c (_:QB Tryz.f28 false c)=>c .skip .skip .skip .skip) _ TB
def pO:=(fun c (_:QC Tryz.f29 1 c)=>c .skip .skip .skip .skip) _ TC
def vZ:=(fun c (_:QC Tryz.f29 0 c)=>c pO .skip .skip .skip) _ TC
def BO:=(fun c (_:QB Tryz.f29 false c)=>c pO vZ .skip .skip) _ TB
def th:=(fun c (_:QC Tryz.f30 1 c)=>c .skip .skip .skip .skip) _ TC
def xj:=(fun c (_:QC Tryz.f30 0 c)=>c th .skip .skip .skip) _ TC
def BN:=(fun c (_:QB Tryz.f30 false c)=>c th xj .skip .skip) _ TB
def DU:=(fun c (_:QB Tryz.f31 false c)=>c .skip .skip .skip .skip) _ TB
def US:=(fun c (_:QB Tryz.f45 false c)=>c .skip .skip .skip .skip) _ TB
def P6:=(fun c (_:QC Tryz.f47 1 c)=>c .skip .skip .skip .skip) _ TC
def TF:=(fun c (_:QC Tryz.f47 0 c)=>c P6 .skip .skip .skip) _ TC
def Xe:=(fun c (_:QB Tryz.f47 false c)=>c P6 TF .skip .skip) _ TB
def P0:=(fun c (_:QC Tryz.f48 1 c)=>c .skip .skip .skip .skip) _ TC
def Sf:=(fun c (_:QC Tryz.f48 0 c)=>c P0 .skip .skip .skip) _ TC
def WO:=(fun c (_:QB Tryz.f48 false c)=>c P0 Sf .skip .skip) _ TB
def P3:=(fun c (_:QC Tryz.f49 1 c)=>c .skip .skip .skip .skip) _ TC
def TD:=(fun c (_:QC Tryz.f49 0 c)=>c P3 .skip .skip .skip) _ TC
def WV:=(fun c (_:QB Tryz.f49 false c)=>c P3 TD .skip .skip) _ TB
def OS:=(fun c (_:QC Tryz.f50 1 c)=>c .skip .skip .skip .skip) _ TC
def SA:=(fun c (_:QC Tryz.f50 0 c)=>c OS .skip .skip .skip) _ TC
def Xd:=(fun c (_:QB Tryz.f50 false c)=>c OS SA .skip .skip) _ TB
def OV:=(fun c (_:QC Tryz.f51 1 c)=>c .skip .skip .skip .skip) _ TC
def Ug:=(fun c (_:QC Tryz.f51 0 c)=>c OV .skip .skip .skip) _ TC
def X1:=(fun c (_:QB Tryz.f51 false c)=>c OV Ug .skip .skip) _ TB
def Wn:=(fun c (_:QB Tryz.f52 false c)=>c .skip .skip .skip .skip) _ TB
def Wp:=(fun c (_:QB Tryz.f53 false c)=>c .skip .skip .skip .skip) _ TB
def WJ:=(fun c (_:QB Tryz.f54 false c)=>c .skip .skip .skip .skip) _ TB
def WL:=(fun c (_:QB Tryz.f55 false c)=>c .skip .skip .skip .skip) _ TB
def P4:=(fun c (_:QC Tryz.f56 1 c)=>c .skip .skip .skip .skip) _ TC
def Si:=(fun c (_:QC Tryz.f56 0 c)=>c P4 .skip .skip .skip) _ TC
def WM:=(fun c (_:QB Tryz.f56 false c)=>c P4 Si .skip .skip) _ TB
def Vj:=(fun c (_:QB Tryz.f57 false c)=>c .skip .skip .skip .skip) _ TB
def UP:=(fun c (_:QB Tryz.f58 false c)=>c .skip .skip .skip .skip) _ TB
def xT:=(fun c (_:QC Tryz.f60 1 c)=>c .skip .skip .skip .skip) _ TC
def EM:=(fun c (_:QC Tryz.f60 0 c)=>c xT .skip .skip .skip) _ TC
def Vq:=(fun c (_:QB Tryz.f60 false c)=>c xT EM .skip .skip) _ TB
def Vx:=(fun c (_:QB Tryz.f61 false c)=>c .skip .skip .skip .skip) _ TB
def Rn:=(fun c (_:QB Tryz.f62 false c)=>c .skip .skip .skip .skip) _ TB
def xK:=(fun c (_:QC Tryz.f63 1 c)=>c .skip .skip .skip .skip) _ TC
def Ev:=(fun c (_:QC Tryz.f63 0 c)=>c xK .skip .skip .skip) _ TC
def BV:=(fun c (_:QB Tryz.f63 false c)=>c xK Ev .skip .skip) _ TB
def Xf:=(fun c (_:QB Tryz.f90 true c)=>c .skip .skip .skip .skip) _ TB
def P5:=(fun c (_:QC Tryz.f91 1 c)=>c .skip .skip .skip .skip) _ TC
def Ur:=(fun c (_:QC Tryz.f91 0 c)=>c P5 .skip .skip .skip) _ TC
def WG:=(fun c (_:QB Tryz.f91 false c)=>c P5 Ur .skip .skip) _ TB
def VD:=(fun c (_:QB Tryz.f92 false c)=>c .skip .skip .skip .skip) _ TB
def UO:=(fun c (_:QB Tryz.f93 false c)=>c .skip .skip .skip .skip) _ TB
def OI:=(fun c (_:QC Tryz.f94 1 c)=>c .skip .skip .skip .skip) _ TC
def TR:=(fun c (_:QC Tryz.f94 0 c)=>c OI .skip .skip .skip) _ TC
def X2:=(fun c (_:QB Tryz.f94 false c)=>c OI TR .skip .skip) _ TB
def ON:=(fun c (_:QC Tryz.f95 1 c)=>c .skip .skip .skip .skip) _ TC
def SY:=(fun c (_:QC Tryz.f95 0 c)=>c ON .skip .skip .skip) _ TC
def X9:=(fun c (_:QB Tryz.f95 false c)=>c ON SY .skip .skip) _ TB
def Vn:=(fun c (_:QB Tryz.f96 false c)=>c .skip .skip .skip .skip) _ TB
def P1:=(fun c (_:QC Tryz.f97 1 c)=>c .skip .skip .skip .skip) _ TC
def SZ:=(fun c (_:QC Tryz.f97 0 c)=>c P1 .skip .skip .skip) _ TC
def WQ:=(fun c (_:QB Tryz.f97 false c)=>c P1 SZ .skip .skip) _ TB
def OZ:=(fun c (_:QC Tryz.f98 1 c)=>c .skip .skip .skip .skip) _ TC
def Sg:=(fun c (_:QC Tryz.f98 0 c)=>c OZ .skip .skip .skip) _ TC
def WT:=(fun c (_:QB Tryz.f98 false c)=>c OZ Sg .skip .skip) _ TB
def VJ:=(fun c (_:QB Tryz.f99 false c)=>c .skip .skip .skip .skip) _ TB
def FN:=(fun c (_:QB Tryz.f105 false c)=>c .skip .skip .skip .skip) _ TB
def Cr:=(fun c (_:QB Tryz.f106 false c)=>c .skip .skip .skip .skip) _ TB
def PM:=(fun c (_:QB Tryz.f107 false c)=>c .skip .skip .skip .skip) _ TB
def QK:=(fun c (_:QB Tryz.f108 false c)=>c .skip .skip .skip .skip) _ TB
def qx:=(fun c (_:QC Tryz.f109 1 c)=>c .skip .skip .skip .skip) _ TC
def yh:=(fun c (_:QC Tryz.f109 0 c)=>c qx .skip .skip .skip) _ TC
def Qk:=(fun c (_:QB Tryz.f109 false c)=>c qx yh .skip .skip) _ TB
def Rx:=(fun c (_:QB Tryz.f110 false c)=>c .skip .skip .skip .skip) _ TB
def su:=(fun c (_:QC Tryz.f111 1 c)=>c .skip .skip .skip .skip) _ TC
def Ea:=(fun c (_:QC Tryz.f111 0 c)=>c su .skip .skip .skip) _ TC
def ME:=(fun c (_:QB Tryz.f111 false c)=>c su Ea .skip .skip) _ TB
def pY:=(fun c (_:QC Tryz.f112 1 c)=>c .skip .skip .skip .skip) _ TC
def vC:=(fun c (_:QC Tryz.f112 0 c)=>c pY .skip .skip .skip) _ TC
def pH:=(fun c (_:QB Tryz.f112 false c)=>c pY vC .skip .skip) _ TB
def Vo:=(fun c (_:QB Tryz.f142 true c)=>c .skip .skip .skip .skip) _ TB
def HY:=(fun c (_:QC Tryz.f143 1 c)=>c .skip .skip .skip .skip) _ TC
def Qt:=(fun c (_:QC Tryz.f143 0 c)=>c HY .skip .skip .skip) _ TC
def VF:=(fun c (_:QB Tryz.f143 false c)=>c HY Qt .skip .skip) _ TB
def PO:=(fun c (_:QB Tryz.f144 false c)=>c .skip .skip .skip .skip) _ TB
def Vv:=(fun c (_:QB Tryz.f145 true c)=>c .skip .skip .skip .skip) _ TB
def Vz:=(fun c (_:QB Tryz.f146 true c)=>c .skip .skip .skip .skip) _ TB
def Vh:=(fun c (_:QB Tryz.f147 true c)=>c .skip .skip .skip .skip) _ TB
def UD:=(fun c (_:QB Tryz.f148 true c)=>c .skip .skip .skip .skip) _ TB
def wX:=(fun c (_:QB Tryz.f150 false c)=>c .skip .skip .skip .skip) _ TB
def so:=(fun c (_:QC Tryz.f151 1 c)=>c .skip .skip .skip .skip) _ TC
def yK:=(fun c (_:QC Tryz.f151 0 c)=>c so .skip .skip .skip) _ TC
def Q7:=(fun c (_:QB Tryz.f151 false c)=>c so yK .skip .skip) _ TB
def sH:=(fun c (_:QC Tryz.f152 1 c)=>c .skip .skip .skip .skip) _ TC
def ym:=(fun c (_:QC Tryz.f152 0 c)=>c sH .skip .skip .skip) _ TC
def Pg:=(fun c (_:QB Tryz.f152 false c)=>c sH ym .skip .skip) _ TB
def qS:=(fun c (_:QC Tryz.f153 1 c)=>c .skip .skip .skip .skip) _ TC
def wE:=(fun c (_:QC Tryz.f153 0 c)=>c qS .skip .skip .skip) _ TC
def R9:=(fun c (_:QB Tryz.f153 false c)=>c qS wE .skip .skip) _ TB
def s9:=(fun c (_:QC Tryz.f154 1 c)=>c .skip .skip .skip .skip) _ TC
def D2:=(fun c (_:QC Tryz.f154 0 c)=>c s9 .skip .skip .skip) _ TC
def QS:=(fun c (_:QB Tryz.f154 false c)=>c s9 D2 .skip .skip) _ TB
def VE:=(fun c (_:QB Tryz.f178 true c)=>c .skip .skip .skip .skip) _ TB
def QX:=(fun c (_:QB Tryz.f179 false c)=>c .skip .skip .skip .skip) _ TB
def i6:=(fun c (_:QC Tryz.f214 1 c)=>c .skip .skip .skip .skip) _ TC
def kx:=(fun c (_:QC Tryz.f214 0 c)=>c i6 .skip .skip .skip) _ TC
def RH:=(fun c (_:QB Tryz.f214 false c)=>c i6 kx .skip .skip) _ TB
def qG:=(fun c (_:QC Tryz.f215 1 c)=>c .skip .skip .skip .skip) _ TC
def wi:=(fun c (_:QC Tryz.f215 0 c)=>c qG .skip .skip .skip) _ TC
def Lk:=(fun c (_:QB Tryz.f215 false c)=>c qG wi .skip .skip) _ TB
def ji:=(fun c (_:QC Tryz.f216 1 c)=>c .skip .skip .skip .skip) _ TC
def ll:=(fun c (_:QC Tryz.f216 0 c)=>c ji .skip .skip .skip) _ TC
def Lc:=(fun c (_:QB Tryz.f216 false c)=>c ji ll .skip .skip) _ TB
def mI:=(fun c (_:QC Tryz.f217 1 c)=>c .skip .skip .skip .skip) _ TC
def qD:=(fun c (_:QC Tryz.f217 0 c)=>c mI .skip .skip .skip) _ TC
def Mn:=(fun c (_:QB Tryz.f217 false c)=>c mI qD .skip .skip) _ TB
def nL:=(fun c (_:QC Tryz.f218 1 c)=>c .skip .skip .skip .skip) _ TC
def vk:=(fun c (_:QC Tryz.f218 0 c)=>c nL .skip .skip .skip) _ TC
def RD:=(fun c (_:QB Tryz.f218 false c)=>c nL vk .skip .skip) _ TB
def Q0:=(fun c (_:QB Tryz.f234 false c)=>c .skip .skip .skip .skip) _ TB
def Qj:=(fun c (_:QB Tryz.f235 false c)=>c .skip .skip .skip .skip) _ TB
def RR:=(fun c (_:QB Tryz.f236 false c)=>c .skip .skip .skip .skip) _ TB
def lZ:=(fun c (_:QC Tryz.f237 1 c)=>c .skip .skip .skip .skip) _ TC
def qu:=(fun c (_:QC Tryz.f237 0 c)=>c lZ .skip .skip .skip) _ TC
def Ni:=(fun c (_:QB Tryz.f237 false c)=>c lZ qu .skip .skip) _ TB
def Po:=(fun c (_:QB Tryz.f238 false c)=>c .skip .skip .skip .skip) _ TB
def QT:=(fun c (_:QB Tryz.f239 false c)=>c .skip .skip .skip .skip) _ TB
def P8:=(fun c (_:QB Tryz.f240 false c)=>c .skip .skip .skip .skip) _ TB
def Nk:=(fun c (_:QB Tryz.f241 false c)=>c .skip .skip .skip .skip) _ TB
def QU:=(fun c (_:QB Tryz.f242 false c)=>c .skip .skip .skip .skip) _ TB
def N7:=(fun c (_:QB Tryz.f250 false c)=>c .skip .skip .skip .skip) _ TB
def NI:=(fun c (_:QB Tryz.f251 false c)=>c .skip .skip .skip .skip) _ TB
def wT:=(fun c (_:QB Tryz.f252 false c)=>c .skip .skip .skip .skip) _ TB
def iz:=(fun c (_:QC Tryz.f253 1 c)=>c .skip .skip .skip .skip) _ TC
def zh:=(fun c (_:QC Tryz.f253 0 c)=>c iz .skip .skip .skip) _ TC
def MJ:=(fun c (_:QB Tryz.f253 false c)=>c iz zh .skip .skip) _ TB
def QM:=(fun c (_:QB Tryz.f254 false c)=>c .skip .skip .skip .skip) _ TB
def wK:=(fun c (_:QB Tryz.f261 false c)=>c .skip .skip .skip .skip) _ TB
def qN:=(fun c (_:QC Tryz.f262 3 c)=>c .skip .skip .skip .skip) _ TC
def sE:=(fun c (_:QC Tryz.f262 2 c)=>c qN .skip .skip .skip) _ TC
def ej:=(fun c (_:QC Tryz.f262 1 c)=>c qN sE .skip .skip) _ TC
def ew:=(fun c (_:QC Tryz.f262 0 c)=>c qN sE ej .skip) _ TC
def Mb:=(fun c (_:QB Tryz.f262 false c)=>c qN sE ej ew) _ TB
def Pj:=(fun c (_:QB Tryz.f263 false c)=>c .skip .skip .skip .skip) _ TB
def sx:=(fun c (_:QC Tryz.f264 1 c)=>c .skip .skip .skip .skip) _ TC
def wm:=(fun c (_:QC Tryz.f264 0 c)=>c sx .skip .skip .skip) _ TC
def Qu:=(fun c (_:QB Tryz.f264 false c)=>c sx wm .skip .skip) _ TB
def PX:=(fun c (_:QB Tryz.f265 false c)=>c .skip .skip .skip .skip) _ TB
def sG:=(fun c (_:QC Tryz.f266 1 c)=>c .skip .skip .skip .skip) _ TC
def yF:=(fun c (_:QC Tryz.f266 0 c)=>c sG .skip .skip .skip) _ TC
def R2:=(fun c (_:QB Tryz.f266 false c)=>c sG yF .skip .skip) _ TB
def PY:=(fun c (_:QB Tryz.f275 false c)=>c .skip .skip .skip .skip) _ TB
def NQ:=(fun c (_:QB Tryz.f276 false c)=>c .skip .skip .skip .skip) _ TB
def nN:=(fun c (_:QC Tryz.f277 1 c)=>c .skip .skip .skip .skip) _ TC
def sL:=(fun c (_:QC Tryz.f277 0 c)=>c nN .skip .skip .skip) _ TC
def PW:=(fun c (_:QB Tryz.f277 false c)=>c nN sL .skip .skip) _ TB
def j5:=(fun c (_:QB Tryz.f278 false c)=>c .skip .skip .skip .skip) _ TB
def Nb:=(fun c (_:QB Tryz.f279 true c)=>c .skip .skip .skip .skip) _ TB
def PK:=(fun c (_:QB Tryz.f280 false c)=>c .skip .skip .skip .skip) _ TB
def S0:=(fun c (_:QB Tryz.f281 false c)=>c .skip .skip .skip .skip) _ TB
def Pv:=(fun c (_:QB Tryz.f282 false c)=>c .skip .skip .skip .skip) _ TB
def QQ:=(fun c (_:QB Tryz.f294 false c)=>c .skip .skip .skip .skip) _ TB
def mg:=(fun c (_:QB Tryz.f295 false c)=>c .skip .skip .skip .skip) _ TB
def mm:=(fun c (_:QC Tryz.f296 1 c)=>c .skip .skip .skip .skip) _ TC
def i8:=(fun c (_:QC Tryz.f296 0 c)=>c mm .skip .skip .skip) _ TC
def Dj:=(fun c (_:QB Tryz.f296 false c)=>c mm i8 .skip .skip) _ TB
def vq:=(fun c (_:QB Tryz.f297 false c)=>c .skip .skip .skip .skip) _ TB
def vT:=(fun c (_:QB Tryz.f298 false c)=>c .skip .skip .skip .skip) _ TB
def GE:=(fun c (_:QB Tryz.f299 false c)=>c .skip .skip .skip .skip) _ TB
def vz:=(fun c (_:QB Tryz.f300 false c)=>c .skip .skip .skip .skip) _ TB
def Ph:=(fun c (_:QB Tryz.f301 false c)=>c .skip .skip .skip .skip) _ TB
def jN:=(fun c (_:QB Tryz.f311 false c)=>c .skip .skip .skip .skip) _ TB
def QV:=(fun c (_:QB Tryz.f312 false c)=>c .skip .skip .skip .skip) _ TB
def Qe:=(fun c (_:QB Tryz.f313 false c)=>c .skip .skip .skip .skip) _ TB
def lg:=(fun c (_:QB Tryz.f314 false c)=>c .skip .skip .skip .skip) _ TB
def oq:=(fun c (_:QC Tryz.f319 1 c)=>c .skip .skip .skip .skip) _ TC
def DG:=(fun c (_:QC Tryz.f319 0 c)=>c oq .skip .skip .skip) _ TC
def Lj:=(fun c (_:QB Tryz.f319 false c)=>c oq DG .skip .skip) _ TB
def pI:=(fun c (_:QB Tryz.f320 false c)=>c .skip .skip .skip .skip) _ TB
def sF:=(fun c (_:QC Tryz.f321 1 c)=>c .skip .skip .skip .skip) _ TC
def D6:=(fun c (_:QC Tryz.f321 0 c)=>c sF .skip .skip .skip) _ TC
def My:=(fun c (_:QB Tryz.f321 false c)=>c sF D6 .skip .skip) _ TB
def qH:=(fun c (_:QC Tryz.f322 1 c)=>c .skip .skip .skip .skip) _ TC
def DI:=(fun c (_:QC Tryz.f322 0 c)=>c qH .skip .skip .skip) _ TC
def Lb:=(fun c (_:QB Tryz.f322 false c)=>c qH DI .skip .skip) _ TB
def Ry:=(fun c (_:QB Tryz.f323 false c)=>c .skip .skip .skip .skip) _ TB
def UU:=(fun c (_:QB Tryz.f324 false c)=>c .skip .skip .skip .skip) _ TB
def Ru:=(fun c (_:QB Tryz.f325 false c)=>c .skip .skip .skip .skip) _ TB
def kX:=(fun c (_:QC Tryz.f328 1 c)=>c .skip .skip .skip .skip) _ TC
def Cm:=(fun c (_:QC Tryz.f328 0 c)=>c kX .skip .skip .skip) _ TC
def MC:=(fun c (_:QB Tryz.f328 false c)=>c kX Cm .skip .skip) _ TB
def jh:=(fun c (_:QC Tryz.f329 1 c)=>c .skip .skip .skip .skip) _ TC
def Dl:=(fun c (_:QC Tryz.f329 0 c)=>c jh .skip .skip .skip) _ TC
def NP:=(fun c (_:QB Tryz.f329 false c)=>c jh Dl .skip .skip) _ TB
def dy:=(fun c (_:QC Tryz.f330 1 c)=>c .skip .skip .skip .skip) _ TC
def vJ:=(fun c (_:QC Tryz.f330 0 c)=>c dy .skip .skip .skip) _ TC
def Od:=(fun c (_:QB Tryz.f330 false c)=>c dy vJ .skip .skip) _ TB
def lm:=(fun c (_:QC Tryz.f331 1 c)=>c .skip .skip .skip .skip) _ TC
def nA:=(fun c (_:QC Tryz.f331 0 c)=>c lm .skip .skip .skip) _ TC
def Pd:=(fun c (_:QB Tryz.f331 false c)=>c lm nA .skip .skip) _ TB
def O8:=(fun c (_:QB Tryz.f332 false c)=>c .skip .skip .skip .skip) _ TB
def sd:=(fun c (_:QC Tryz.f341 1 c)=>c .skip .skip .skip .skip) _ TC
def yN:=(fun c (_:QC Tryz.f341 0 c)=>c sd .skip .skip .skip) _ TC
def S1:=(fun c (_:QB Tryz.f341 false c)=>c sd yN .skip .skip) _ TB
def Rm:=(fun c (_:QB Tryz.f342 false c)=>c .skip .skip .skip .skip) _ TB
def sn:=(fun c (_:QC Tryz.f343 1 c)=>c .skip .skip .skip .skip) _ TC
def yT:=(fun c (_:QC Tryz.f343 0 c)=>c sn .skip .skip .skip) _ TC
def ND:=(fun c (_:QB Tryz.f343 false c)=>c sn yT .skip .skip) _ TB
end Go.Proofs.YtgkggocjoolciaaGreatDoor
