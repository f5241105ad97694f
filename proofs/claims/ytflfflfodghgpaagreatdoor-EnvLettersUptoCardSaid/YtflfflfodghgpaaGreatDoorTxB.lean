/- What functions of the program and of the reference compute, on values. No statement is proved here. -/
import Derived.Test.YtflfflfodghgpaaGreatDoorTxA
import Derived.Test.YtflfflfodghgpaaGreatDoorProg
set_option linter.unusedSimpArgs false
set_option linter.unusedVariables false
namespace Go.Proofs.YtflfflfodghgpaaGreatDoor
open Go Go.EvL Go.PE
theorem Ul {α} (l:List α):Array.mk l=l.toArray:=rfl
theorem UJ (n:Nat):Int.ofNat (no_index (OfNat.ofNat n))=(OfNat.ofNat n:Int):=rfl
theorem UA (n:Nat) (h:no_index (OfNat.ofNat n) < 2^8):UInt8.ofBitVec (BitVec.ofFin (Fin.mk (no_index (OfNat.ofNat n)) h))=(OfNat.ofNat n:UInt8):=by
 apply UInt8.toNat_inj.1; simp only [UInt8.toNat,BitVec.toNat]; exact (Nat.mod_eq_of_lt h).symm
set_option maxRecDepth 100000
section
variable (d t j x y n a b g:Nat) (w u:Bool) (p:kK) (i:Int) (k:IntKind) (s:ByteArray) (o:BinOp) (l:List PI) (c e:bw) (z:List Operand)
theorem Ui:PI.mk (some d) (.mv (.tmp t)) none=mt d t:=rfl
theorem UC:PI.mk (some d) (.mv (.tmp t)) (some (j,w))=gt j w d t:=rfl
theorem UB:PI.mk (some d) (.mv (.const (.bool w))) none=mk d (.bool w):=rfl
theorem Un:PI.mk (some d) (.mv (.const (.int k i))) none=mk d (.int k i):=rfl
theorem Us:PI.mk (some d) (.mv (.const (.string s))) none=mk d (.string s):=rfl
theorem Ut (m x y):PI.mk (some d) (.mv (.const (.slice m x y))) none=mk d (.slice m x y):=rfl
theorem Ug (m):PI.mk (some d) (.mv (.const (.pointer m))) none=mk d (.pointer m):=rfl
theorem Uc:PI.mk (some d) (.mv (.const .nilFunc)) none=mk d .nilFunc:=rfl
theorem UK:PI.mk (some d) (.mv (.const .nilIface)) none=mk d .nilIface:=rfl
theorem Ue (m):PI.mk (some d) (.mv (.const (.tuple m))) none=mk d (.tuple m):=rfl
theorem Uu:kK.bin o t (.tmp x) (.tmp y)=bn o t x y:=rfl
theorem UH:kK.bin o 3 (.tmp x) (.const (.int .i64 i))=bi o x i:=rfl
theorem Uz:kK.bin o 5 (.tmp x) (.const (.int .u8 i))=bc o x i:=rfl
theorem Uq:kK.pick (.tmp a) (.tmp b) (.const (.bool false))=pk a b:=rfl
theorem UE:kK.pick (.tmp a) (.const (.bool true)) (.tmp b)=po a b:=rfl
theorem Uy:kK.call (.func g) z=cl g z:=rfl
theorem Up:bw.seq (.reg l) (.cond (.tmp t) c e)=uH l t c e:=rfl
theorem Ub:bw.seq (.block j (.loop c)) e=lt j c e:=rfl
theorem UD:PI.mk (some d) p none=ob d p:=rfl
theorem UI:PI.mk (some d) p (some (j,w))=og j w d p:=rfl
theorem Uj:PI.mk none p none=o0 p:=rfl
theorem Uk:PI.mk none p (some (j,w))=g0 j w p:=rfl
theorem Uf:bw.seq (.reg l) c=sr l c:=rfl
end
def O0:bw→Bool
 | .block _ (.loop _)=>true
 | .seq _ b=>O0 b
 | _=>false
def UM:List bw→bw
 | x :: _=>x
 | []=>.skip
def NU {α:Type} : bw→List bw→List bw→List bw→(bw→List bw→List bw→List bw→α)→α
 | .seq a b,x,y,d,k=>NU a x y d fun c x y d=>NU b x y d fun e x y d=>match O0 a with
  | true=>k (.seq c (UM y)) x y.tail (e :: d)
  | false=>k (.seq c e) x y d
 | .cond o a b,x,y,d,k=>NU a x y d fun c x y d=>NU b x y d fun e x y d=>k (.cond o c e) x y d
 | .block i b,x,y,d,k=>NU b x y d fun e x y d=>k (.block i e) x y d
 | .loop b,x,y,d,k=>NU b x y d fun e x y d=>k (.loop (UM x)) x.tail y (e :: d)
 | c,x,y,d,k=>k c x y d
noncomputable def K1 (f:Func) (k:Bool) (b r b' r':bw):Option fN:=(sV Tryz.prog f k).map fun c=>NU c.body [b,b'] [r,r'] [] fun x _ _ _=>⟨c.nt,x,c.res,c.keep⟩
noncomputable def K2 (f:Func) (j:Nat) (b r b' r':bw):Option bw:=(sV Tryz.prog f false).bind fun c=>NU c.body [b,b'] [r,r'] [] fun _ _ _ d=>d[j]?
abbrev QB (f:Func) (k:Bool) (c:bw→bw→bw→bw→fN):=∀b r b' r',K1 f k b r b' r'=some (c b r b' r')
abbrev QC (f:Func) (j:Nat) (c:bw→bw→bw→bw→bw):=∀b r b' r',K2 f j b r b' r'=some (c b r b' r')
theorem TB {f k c} (h:QB f k c:=by intro b r b' r'; conv=>lhs; reduce; dsimp only [UJ,Int.reduceNegSucc,Ul]; try simp only [UA]; dsimp only [Ui,UC,UB,Un,Us,Ut,Ug,Uc,UK,Ue,Uu,UH,Uz,Uq,UE,Uy,Up,Ub]; dsimp only [UD,UI,Uj,Uk,Uf]):QB f k c:=h
theorem TC {f j c} (h:QC f j c:=by intro b r b' r'; conv=>lhs; reduce; dsimp only [UJ,Int.reduceNegSucc,Ul]; try simp only [UA]; dsimp only [Ui,UC,UB,Un,Us,Ut,Ug,Uc,UK,Ue,Uu,UH,Uz,Uq,UE,Uy,Up,Ub]; dsimp only [UD,UI,Uj,Uk,Uf]):QC f j c:=h
def mQ:=(fun c (_:QC Tryz.f11 3 c)=>c .skip .skip .skip .skip) _ TC
def sC:=(fun c (_:QC Tryz.f11 2 c)=>c mQ .skip .skip .skip) _ TC
def zY:=(fun c (_:QC Tryz.f11 1 c)=>c mQ sC .skip .skip) _ TC
def Jd:=(fun c (_:QC Tryz.f11 0 c)=>c mQ sC zY .skip) _ TC
def fk:=(fun c (_:QB Tryz.f11 false c)=>c mQ sC zY Jd) _ TB
def jw:=(fun c (_:QB Tryz.f18 false c)=>c .skip .skip .skip .skip) _ TB
def xq:=(fun c (_:QC Tryz.f20 1 c)=>c .skip .skip .skip .skip) _ TC
def Et:=(fun c (_:QC Tryz.f20 0 c)=>c xq .skip .skip .skip) _ TC
def lW:=(fun c (_:QB Tryz.f20 false c)=>c xq Et .skip .skip) _ TB
def xu:=(fun c (_:QC Tryz.f22 1 c)=>c .skip .skip .skip .skip) _ TC
def Dw:=(fun c (_:QC Tryz.f22 0 c)=>c xu .skip .skip .skip) _ TC
def rB:=(fun c (_:QB Tryz.f22 false c)=>c xu Dw .skip .skip) _ TB
def sy:=(fun c (_:QC Tryz.f30 1 c)=>c .skip .skip .skip .skip) _ TC
def xn:=(fun c (_:QC Tryz.f30 0 c)=>c sy .skip .skip .skip) _ TC
def yY:=(fun c (_:QB Tryz.f30 false c)=>c sy xn .skip .skip) _ TB
def Ms:=(fun c (_:QB Tryz.f36 false c)=>c .skip .skip .skip .skip) _ TB
def rx:=(fun c (_:QC Tryz.f37 3 c)=>c .skip .skip .skip .skip) _ TC
def sw:=(fun c (_:QC Tryz.f37 2 c)=>c rx .skip .skip .skip) _ TC
def wP:=(fun c (_:QC Tryz.f37 1 c)=>c rx .skip sw .skip) _ TC
def wY:=(fun c (_:QC Tryz.f37 0 c)=>c rx wP sw .skip) _ TC
def Km:=(fun c (_:QB Tryz.f37 false c)=>c rx wP sw wY) _ TB
def L9:=(fun c (_:QB Tryz.f39 false c)=>c .skip .skip .skip .skip) _ TB
def Kn:=(fun c (_:QB Tryz.f45 false c)=>c .skip .skip .skip .skip) _ TB
def wN:=(fun c (_:QC Tryz.f47 1 c)=>c .skip .skip .skip .skip) _ TC
def It:=(fun c (_:QC Tryz.f47 0 c)=>c wN .skip .skip .skip) _ TC
def TX:=(fun c (_:QB Tryz.f47 false c)=>c wN It .skip .skip) _ TB
def vA:=(fun c (_:QC Tryz.f65 1 c)=>c .skip .skip .skip .skip) _ TC
def A0:=(fun c (_:QC Tryz.f65 0 c)=>c vA .skip .skip .skip) _ TC
def TJ:=(fun c (_:QB Tryz.f65 false c)=>c vA A0 .skip .skip) _ TB
def TO:=(fun c (_:QB Tryz.f72 false c)=>c .skip .skip .skip .skip) _ TB
def sD:=(fun c (_:QC Tryz.f80 1 c)=>c .skip .skip .skip .skip) _ TC
def wO:=(fun c (_:QC Tryz.f80 0 c)=>c sD .skip .skip .skip) _ TC
def QT:=(fun c (_:QB Tryz.f80 false c)=>c sD wO .skip .skip) _ TB
def kh:=(fun c (_:QC Tryz.f84 1 c)=>c .skip .skip .skip .skip) _ TC
def pq:=(fun c (_:QC Tryz.f84 0 c)=>c kh .skip .skip .skip) _ TC
def PM:=(fun c (_:QB Tryz.f84 false c)=>c kh pq .skip .skip) _ TB
def oW:=(fun c (_:QC Tryz.f85 1 c)=>c .skip .skip .skip .skip) _ TC
def uA:=(fun c (_:QC Tryz.f85 0 c)=>c oW .skip .skip .skip) _ TC
def P7:=(fun c (_:QB Tryz.f85 false c)=>c oW uA .skip .skip) _ TB
def nD:=(fun c (_:QC Tryz.f86 1 c)=>c .skip .skip .skip .skip) _ TC
def sB:=(fun c (_:QC Tryz.f86 0 c)=>c nD .skip .skip .skip) _ TC
def PC:=(fun c (_:QB Tryz.f86 false c)=>c nD sB .skip .skip) _ TB
def mp:=(fun c (_:QC Tryz.f87 1 c)=>c .skip .skip .skip .skip) _ TC
def qS:=(fun c (_:QC Tryz.f87 0 c)=>c mp .skip .skip .skip) _ TC
def Rr:=(fun c (_:QB Tryz.f87 false c)=>c mp qS .skip .skip) _ TB
def To:=(fun c (_:QB Tryz.f88 false c)=>c .skip .skip .skip .skip) _ TB
def pg:=(fun c (_:QC Tryz.f89 1 c)=>c .skip .skip .skip .skip) _ TC
def uL:=(fun c (_:QC Tryz.f89 0 c)=>c pg .skip .skip .skip) _ TC
def Tj:=(fun c (_:QB Tryz.f89 false c)=>c pg uL .skip .skip) _ TB
def Tq:=(fun c (_:QB Tryz.f95 false c)=>c .skip .skip .skip .skip) _ TB
def Tu:=(fun c (_:QB Tryz.f97 false c)=>c .skip .skip .skip .skip) _ TB
def Qj:=(fun c (_:QB Tryz.f106 false c)=>c .skip .skip .skip .skip) _ TB
def Qq:=(fun c (_:QB Tryz.f111 false c)=>c .skip .skip .skip .skip) _ TB
def Pz:=(fun c (_:QB Tryz.f141 false c)=>c .skip .skip .skip .skip) _ TB
def rK:=(fun c (_:QC Tryz.f159 1 c)=>c .skip .skip .skip .skip) _ TC
def yf:=(fun c (_:QC Tryz.f159 0 c)=>c rK .skip .skip .skip) _ TC
def Pq:=(fun c (_:QB Tryz.f159 false c)=>c rK yf .skip .skip) _ TB
def Cf:=(fun c (_:QB Tryz.f160 false c)=>c .skip .skip .skip .skip) _ TB
def rR:=(fun c (_:QC Tryz.f161 1 c)=>c .skip .skip .skip .skip) _ TC
def yP:=(fun c (_:QC Tryz.f161 0 c)=>c rR .skip .skip .skip) _ TC
def oJ:=(fun c (_:QB Tryz.f161 false c)=>c rR yP .skip .skip) _ TB
def TI:=(fun c (_:QB Tryz.f167 false c)=>c .skip .skip .skip .skip) _ TB
def Tp:=(fun c (_:QB Tryz.f168 false c)=>c .skip .skip .skip .skip) _ TB
def Tw:=(fun c (_:QB Tryz.f169 false c)=>c .skip .skip .skip .skip) _ TB
def U9:=(fun c (_:QB Tryz.f170 false c)=>c .skip .skip .skip .skip) _ TB
def HA:=(fun c (_:QC Tryz.f171 1 c)=>c .skip .skip .skip .skip) _ TC
def Pt:=(fun c (_:QC Tryz.f171 0 c)=>c HA .skip .skip .skip) _ TC
def U6:=(fun c (_:QB Tryz.f171 false c)=>c HA Pt .skip .skip) _ TB
def Ox:=(fun c (_:QB Tryz.f172 false c)=>c .skip .skip .skip .skip) _ TB
def HH:=(fun c (_:QC Tryz.f173 1 c)=>c .skip .skip .skip .skip) _ TC
def PT:=(fun c (_:QC Tryz.f173 0 c)=>c HH .skip .skip .skip) _ TC
def Tv:=(fun c (_:QB Tryz.f173 false c)=>c HH PT .skip .skip) _ TB
def Q0:=(fun c (_:QB Tryz.f174 false c)=>c .skip .skip .skip .skip) _ TB
def QL:=(fun c (_:QB Tryz.f175 false c)=>c .skip .skip .skip .skip) _ TB
def Ir:=(fun c (_:QC Tryz.f176 1 c)=>c .skip .skip .skip .skip) _ TC
def Qr:=(fun c (_:QC Tryz.f176 0 c)=>c Ir .skip .skip .skip) _ TC
def TK:=(fun c (_:QB Tryz.f176 false c)=>c Ir Qr .skip .skip) _ TB
def Il:=(fun c (_:QC Tryz.f177 1 c)=>c .skip .skip .skip .skip) _ TC
def PP:=(fun c (_:QC Tryz.f177 0 c)=>c Il .skip .skip .skip) _ TC
def U1:=(fun c (_:QB Tryz.f177 false c)=>c Il PP .skip .skip) _ TB
def Qg:=(fun c (_:QB Tryz.f178 false c)=>c .skip .skip .skip .skip) _ TB
def JG:=(fun c (_:QC Tryz.f179 1 c)=>c .skip .skip .skip .skip) _ TC
def Qc:=(fun c (_:QC Tryz.f179 0 c)=>c JG .skip .skip .skip) _ TC
def TT:=(fun c (_:QB Tryz.f179 false c)=>c JG Qc .skip .skip) _ TB
def HZ:=(fun c (_:QC Tryz.f180 1 c)=>c .skip .skip .skip .skip) _ TC
def PH:=(fun c (_:QC Tryz.f180 0 c)=>c HZ .skip .skip .skip) _ TC
def Ua:=(fun c (_:QB Tryz.f180 false c)=>c HZ PH .skip .skip) _ TB
def P3:=(fun c (_:QB Tryz.f181 false c)=>c .skip .skip .skip .skip) _ TB
def Pg:=(fun c (_:QB Tryz.f184 false c)=>c .skip .skip .skip .skip) _ TB
def gZ:=(fun c (_:QC Tryz.f206 1 c)=>c .skip .skip .skip .skip) _ TC
def jZ:=(fun c (_:QC Tryz.f206 0 c)=>c gZ .skip .skip .skip) _ TC
def Qu:=(fun c (_:QB Tryz.f206 false c)=>c gZ jZ .skip .skip) _ TB
def pL:=(fun c (_:QC Tryz.f207 1 c)=>c .skip .skip .skip .skip) _ TC
def vp:=(fun c (_:QC Tryz.f207 0 c)=>c pL .skip .skip .skip) _ TC
def M9:=(fun c (_:QB Tryz.f207 false c)=>c pL vp .skip .skip) _ TB
def j4:=(fun c (_:QC Tryz.f208 1 c)=>c .skip .skip .skip .skip) _ TC
def kN:=(fun c (_:QC Tryz.f208 0 c)=>c j4 .skip .skip .skip) _ TC
def MP:=(fun c (_:QB Tryz.f208 false c)=>c j4 kN .skip .skip) _ TB
def lQ:=(fun c (_:QC Tryz.f209 1 c)=>c .skip .skip .skip .skip) _ TC
def pW:=(fun c (_:QC Tryz.f209 0 c)=>c lQ .skip .skip .skip) _ TC
def My:=(fun c (_:QB Tryz.f209 false c)=>c lQ pW .skip .skip) _ TB
def nb:=(fun c (_:QC Tryz.f210 1 c)=>c .skip .skip .skip .skip) _ TC
def ue:=(fun c (_:QC Tryz.f210 0 c)=>c nb .skip .skip .skip) _ TC
def Qn:=(fun c (_:QB Tryz.f210 false c)=>c nb ue .skip .skip) _ TB
def Fj:=(fun c (_:QB Tryz.f226 false c)=>c .skip .skip .skip .skip) _ TB
def CJ:=(fun c (_:QB Tryz.f227 false c)=>c .skip .skip .skip .skip) _ TB
def pU:=(fun c (_:QC Tryz.f228 1 c)=>c .skip .skip .skip .skip) _ TC
def xR:=(fun c (_:QC Tryz.f228 0 c)=>c pU .skip .skip .skip) _ TC
def OK:=(fun c (_:QB Tryz.f228 false c)=>c pU xR .skip .skip) _ TB
def OA:=(fun c (_:QB Tryz.f229 false c)=>c .skip .skip .skip .skip) _ TB
def rH:=(fun c (_:QC Tryz.f230 1 c)=>c .skip .skip .skip .skip) _ TC
def BI:=(fun c (_:QC Tryz.f230 0 c)=>c rH .skip .skip .skip) _ TC
def Lg:=(fun c (_:QB Tryz.f230 false c)=>c rH BI .skip .skip) _ TB
def pS:=(fun c (_:QC Tryz.f231 1 c)=>c .skip .skip .skip .skip) _ TC
def ug:=(fun c (_:QC Tryz.f231 0 c)=>c pS .skip .skip .skip) _ TC
def oM:=(fun c (_:QB Tryz.f231 false c)=>c pS ug .skip .skip) _ TB
def Tt:=(fun c (_:QB Tryz.f240 true c)=>c .skip .skip .skip .skip) _ TB
def TE:=(fun c (_:QB Tryz.f241 true c)=>c .skip .skip .skip .skip) _ TB
def IZ:=(fun c (_:QC Tryz.f242 1 c)=>c .skip .skip .skip .skip) _ TC
def Qs:=(fun c (_:QC Tryz.f242 0 c)=>c IZ .skip .skip .skip) _ TC
def TZ:=(fun c (_:QB Tryz.f242 false c)=>c IZ Qs .skip .skip) _ TB
def Pu:=(fun c (_:QB Tryz.f243 false c)=>c .skip .skip .skip .skip) _ TB
def U0:=(fun c (_:QB Tryz.f244 true c)=>c .skip .skip .skip .skip) _ TB
def TP:=(fun c (_:QB Tryz.f245 true c)=>c .skip .skip .skip .skip) _ TB
def TM:=(fun c (_:QB Tryz.f246 true c)=>c .skip .skip .skip .skip) _ TB
def Tn:=(fun c (_:QB Tryz.f247 true c)=>c .skip .skip .skip .skip) _ TB
def PW:=(fun c (_:QB Tryz.f259 false c)=>c .skip .skip .skip .skip) _ TB
def QO:=(fun c (_:QB Tryz.f260 false c)=>c .skip .skip .skip .skip) _ TB
def OT:=(fun c (_:QB Tryz.f261 false c)=>c .skip .skip .skip .skip) _ TB
def lP:=(fun c (_:QC Tryz.f262 1 c)=>c .skip .skip .skip .skip) _ TC
def pB:=(fun c (_:QC Tryz.f262 0 c)=>c lP .skip .skip .skip) _ TC
def ME:=(fun c (_:QB Tryz.f262 false c)=>c lP pB .skip .skip) _ TB
def OV:=(fun c (_:QB Tryz.f263 false c)=>c .skip .skip .skip .skip) _ TB
def Oq:=(fun c (_:QB Tryz.f264 false c)=>c .skip .skip .skip .skip) _ TB
def QJ:=(fun c (_:QB Tryz.f265 false c)=>c .skip .skip .skip .skip) _ TB
def KV:=(fun c (_:QB Tryz.f266 false c)=>c .skip .skip .skip .skip) _ TB
def Oi:=(fun c (_:QB Tryz.f267 false c)=>c .skip .skip .skip .skip) _ TB
def wv:=(fun c (_:QB Tryz.f274 false c)=>c .skip .skip .skip .skip) _ TB
def so:=(fun c (_:QC Tryz.f275 1 c)=>c .skip .skip .skip .skip) _ TC
def BQ:=(fun c (_:QC Tryz.f275 0 c)=>c so .skip .skip .skip) _ TC
def Or:=(fun c (_:QB Tryz.f275 false c)=>c so BQ .skip .skip) _ TB
def TR:=(fun c (_:QB Tryz.f283 true c)=>c .skip .skip .skip .skip) _ TB
def KD:=(fun c (_:QB Tryz.f299 false c)=>c .skip .skip .skip .skip) _ TB
def Lk:=(fun c (_:QB Tryz.f300 false c)=>c .skip .skip .skip .skip) _ TB
def wy:=(fun c (_:QB Tryz.f301 false c)=>c .skip .skip .skip .skip) _ TB
def im:=(fun c (_:QC Tryz.f302 1 c)=>c .skip .skip .skip .skip) _ TC
def zl:=(fun c (_:QC Tryz.f302 0 c)=>c im .skip .skip .skip) _ TC
def KA:=(fun c (_:QB Tryz.f302 false c)=>c im zl .skip .skip) _ TB
def Pe:=(fun c (_:QB Tryz.f303 false c)=>c .skip .skip .skip .skip) _ TB
def wd:=(fun c (_:QB Tryz.f327 false c)=>c .skip .skip .skip .skip) _ TB
def pE:=(fun c (_:QC Tryz.f328 3 c)=>c .skip .skip .skip .skip) _ TC
def rC:=(fun c (_:QC Tryz.f328 2 c)=>c pE .skip .skip .skip) _ TC
def dT:=(fun c (_:QC Tryz.f328 1 c)=>c pE rC .skip .skip) _ TC
def ej:=(fun c (_:QC Tryz.f328 0 c)=>c pE rC dT .skip) _ TC
def NG:=(fun c (_:QB Tryz.f328 false c)=>c pE rC dT ej) _ TB
def Og:=(fun c (_:QB Tryz.f329 false c)=>c .skip .skip .skip .skip) _ TB
def sn:=(fun c (_:QC Tryz.f330 1 c)=>c .skip .skip .skip .skip) _ TC
def uO:=(fun c (_:QC Tryz.f330 0 c)=>c sn .skip .skip .skip) _ TC
def Q5:=(fun c (_:QB Tryz.f330 false c)=>c sn uO .skip .skip) _ TB
def Po:=(fun c (_:QB Tryz.f331 false c)=>c .skip .skip .skip .skip) _ TB
def rO:=(fun c (_:QC Tryz.f332 1 c)=>c .skip .skip .skip .skip) _ TC
def zb:=(fun c (_:QC Tryz.f332 0 c)=>c rO .skip .skip .skip) _ TC
def Q7:=(fun c (_:QB Tryz.f332 false c)=>c rO zb .skip .skip) _ TB
def OM:=(fun c (_:QB Tryz.f347 false c)=>c .skip .skip .skip .skip) _ TB
def Nl:=(fun c (_:QB Tryz.f348 false c)=>c .skip .skip .skip .skip) _ TB
def mF:=(fun c (_:QC Tryz.f349 1 c)=>c .skip .skip .skip .skip) _ TC
def s9:=(fun c (_:QC Tryz.f349 0 c)=>c mF .skip .skip .skip) _ TC
def QQ:=(fun c (_:QB Tryz.f349 false c)=>c mF s9 .skip .skip) _ TB
def iK:=(fun c (_:QB Tryz.f350 false c)=>c .skip .skip .skip .skip) _ TB
def KN:=(fun c (_:QB Tryz.f351 true c)=>c .skip .skip .skip .skip) _ TB
def Qt:=(fun c (_:QB Tryz.f352 false c)=>c .skip .skip .skip .skip) _ TB
def OR:=(fun c (_:QB Tryz.f353 false c)=>c .skip .skip .skip .skip) _ TB
def Pb:=(fun c (_:QB Tryz.f354 false c)=>c .skip .skip .skip .skip) _ TB
def OL:=(fun c (_:QB Tryz.f366 false c)=>c .skip .skip .skip .skip) _ TB
def m9:=(fun c (_:QB Tryz.f367 false c)=>c .skip .skip .skip .skip) _ TB
def m7:=(fun c (_:QC Tryz.f368 1 c)=>c .skip .skip .skip .skip) _ TC
def hZ:=(fun c (_:QC Tryz.f368 0 c)=>c m7 .skip .skip .skip) _ TC
def Cp:=(fun c (_:QB Tryz.f368 false c)=>c m7 hZ .skip .skip) _ TB
def ua:=(fun c (_:QB Tryz.f369 false c)=>c .skip .skip .skip .skip) _ TB
def uz:=(fun c (_:QB Tryz.f370 false c)=>c .skip .skip .skip .skip) _ TB
def EZ:=(fun c (_:QB Tryz.f371 false c)=>c .skip .skip .skip .skip) _ TB
def vQ:=(fun c (_:QB Tryz.f372 false c)=>c .skip .skip .skip .skip) _ TB
def Pa:=(fun c (_:QB Tryz.f373 false c)=>c .skip .skip .skip .skip) _ TB
def jx:=(fun c (_:QB Tryz.f383 false c)=>c .skip .skip .skip .skip) _ TB
def Om:=(fun c (_:QB Tryz.f384 false c)=>c .skip .skip .skip .skip) _ TB
def P5:=(fun c (_:QB Tryz.f385 false c)=>c .skip .skip .skip .skip) _ TB
def kS:=(fun c (_:QB Tryz.f386 false c)=>c .skip .skip .skip .skip) _ TB
def mX:=(fun c (_:QC Tryz.f391 1 c)=>c .skip .skip .skip .skip) _ TC
def Dl:=(fun c (_:QC Tryz.f391 0 c)=>c mX .skip .skip .skip) _ TC
def Lz:=(fun c (_:QB Tryz.f391 false c)=>c mX Dl .skip .skip) _ TB
def oI:=(fun c (_:QB Tryz.f392 false c)=>c .skip .skip .skip .skip) _ TB
def sk:=(fun c (_:QC Tryz.f393 1 c)=>c .skip .skip .skip .skip) _ TC
def Df:=(fun c (_:QC Tryz.f393 0 c)=>c sk .skip .skip .skip) _ TC
def N9:=(fun c (_:QB Tryz.f393 false c)=>c sk Df .skip .skip) _ TB
def qe:=(fun c (_:QC Tryz.f394 1 c)=>c .skip .skip .skip .skip) _ TC
def Cz:=(fun c (_:QC Tryz.f394 0 c)=>c qe .skip .skip .skip) _ TC
def NB:=(fun c (_:QB Tryz.f394 false c)=>c qe Cz .skip .skip) _ TB
def Qo:=(fun c (_:QB Tryz.f395 false c)=>c .skip .skip .skip .skip) _ TB
def TF:=(fun c (_:QB Tryz.f396 false c)=>c .skip .skip .skip .skip) _ TB
def P6:=(fun c (_:QB Tryz.f397 false c)=>c .skip .skip .skip .skip) _ TB
def kM:=(fun c (_:QC Tryz.f400 1 c)=>c .skip .skip .skip .skip) _ TC
def Cv:=(fun c (_:QC Tryz.f400 0 c)=>c kM .skip .skip .skip) _ TC
def Lj:=(fun c (_:QB Tryz.f400 false c)=>c kM Cv .skip .skip) _ TB
def j9:=(fun c (_:QC Tryz.f401 1 c)=>c .skip .skip .skip .skip) _ TC
def BJ:=(fun c (_:QC Tryz.f401 0 c)=>c j9 .skip .skip .skip) _ TC
def LQ:=(fun c (_:QB Tryz.f401 false c)=>c j9 BJ .skip .skip) _ TB
def dr:=(fun c (_:QC Tryz.f402 1 c)=>c .skip .skip .skip .skip) _ TC
def vk:=(fun c (_:QC Tryz.f402 0 c)=>c dr .skip .skip .skip) _ TC
def N8:=(fun c (_:QB Tryz.f402 false c)=>c dr vk .skip .skip) _ TB
def kL:=(fun c (_:QC Tryz.f403 1 c)=>c .skip .skip .skip .skip) _ TC
def mG:=(fun c (_:QC Tryz.f403 0 c)=>c kL .skip .skip .skip) _ TC
def OU:=(fun c (_:QB Tryz.f403 false c)=>c kL mG .skip .skip) _ TB
def MY:=(fun c (_:QB Tryz.f404 false c)=>c .skip .skip .skip .skip) _ TB
def rI:=(fun c (_:QC Tryz.f413 1 c)=>c .skip .skip .skip .skip) _ TC
def yZ:=(fun c (_:QC Tryz.f413 0 c)=>c rI .skip .skip .skip) _ TC
def OG:=(fun c (_:QB Tryz.f413 false c)=>c rI yZ .skip .skip) _ TB
def OH:=(fun c (_:QB Tryz.f414 false c)=>c .skip .skip .skip .skip) _ TB
def rT:=(fun c (_:QC Tryz.f415 1 c)=>c .skip .skip .skip .skip) _ TC
def y8:=(fun c (_:QC Tryz.f415 0 c)=>c rT .skip .skip .skip) _ TC
def Ns:=(fun c (_:QB Tryz.f415 false c)=>c rT y8 .skip .skip) _ TB
end Go.Proofs.YtflfflfodghgpaaGreatDoor
