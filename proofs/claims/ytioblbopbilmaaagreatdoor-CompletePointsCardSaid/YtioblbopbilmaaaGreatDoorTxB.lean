/- What functions of the program and of the reference compute, on values. No statement is proved here. -/
import Derived.Test.YtioblbopbilmaaaGreatDoorTxA
set_option linter.unusedSimpArgs false
set_option linter.unusedVariables false
set_option linter.defProp false
namespace Go.PE
open Go Go.EvL
section
variable {P:Program}{Γ:Nat→Option fe}{ext:aw}{c:dW}
def X4 (c:dW) (v:PV) (l:List PV) (s:PS):Option ZR:=match v with
 | .fn g first cap=>c g (first ++ (l ++ cap)) s
 | _=>none
theorem Ji (f:aE) (s:PS) (t:Nat) (a:List Operand):cq P c f s (.call (.tmp t) a)=X4 c (f t) (a.map (aA f)) s:=rfl
theorem PW (g:Nat) (first cap l:List PV) (s:PS):X4 c (.fn g first cap) l s=c g (first ++ (l ++ cap)) s:=rfl
theorem Pd (f:aE) (s:PS) (g:Nat) (a b:List Operand):cq P c f s (.mkfn g a b)=some (.ok (.fn g (a.map (aA f)) (b.map (aA f))) s):=rfl
def Lg (s:PS) (mx:Bool) (x y:PV):Option (PV × PS):=match x,y with
 | .sc (.int k a),.sc (.int _ b)=>some (.sc (.int k (za mx a b)),s)
 | _,_=>none
theorem Qz (f:aE) (s:PS) (mx:Bool) (x y:Operand):cq P c f s (.mnx mx x y)=P3 (Lg s mx (aA f x) (aA f y)):=rfl
theorem RO (s:PS) (k:IntKind) (a b:Nat):Lg s true (.sc (.int k (a:Int))) (.sc (.int k (b:Int)))=some (.sc (.int k ((max a b:Nat):Int)),s):=by
 show some (PV.sc (.int k (if (b:Int) > (a:Int) then (b:Int) else (a:Int))),s)=_;congr 4;split<;>omega
def Vf (s:PS) (e es:Nat) (x:PV) (h m:Option Nat):Option (PV × PS):=match x,h,m with
 | .lit e' n cs,some h,some m=>if h=m∧h≤n∧cs.length=n * es∧e'=e then some (.litx e h (cs.take (h * es)),s) else none
 | .sc (.slice none 0 0),some 0,some 0=>some (.sc (.slice none 0 0),s)
 | .own k off n fin,some h,some m=>if h=m∧h≤n∧off + n * es=fin∧(s.h k).low≤fin∧(s.h k).e=e then some (.ownx k off h (off + h * es),s) else none
 | _,_,_=>none
theorem Nu (f:aE) (s:PS) (e es:Nat) (x y z:Operand):cq P c f s (.slc3 e es x y z)=P3 (Vf s e es (aA f x) (iu (aA f y)) (iu (aA f z))):=rfl
theorem Vh (s:PS) (e es k off n fin h m:Nat):Vf s e es (.own k off n fin) (some h) (some m)=if h=m∧h≤n∧off + n * es=fin∧(s.h k).low≤fin∧(s.h k).e=e then some (.ownx k off h (off + h * es),s) else none:=rfl
theorem VO (s:PS) (e es:Nat):Vf s e es (.sc (.slice none 0 0)) (some 0) (some 0)=some (.sc (.slice none 0 0),s):=rfl
theorem Pm (k off n fin:Nat):oC false (.ownx k off n fin)=some (.sc (.int .i64 (n:Int))):=rfl
theorem SC (es k off n fin j:Nat):Tz es (.ownx k off n fin) (some j)=if j < n∧off + n * es=fin then some (.ptr k (off + j * es) fin) else none:=rfl
theorem U8 {n k off m fin:Nat}{s:PS} (h:Ar (k < n)):aP n s (.ownx k off m fin)=some (.ownx k off m fin):=if_pos h.h
theorem TU {n k off m fin:Nat}{s:PS} (h:Ar (k < n)):aP n s (.own k off m fin)=some (.own k off m fin):=if_pos h.h
theorem Or (k off n fin:Nat):eQ (.ownx k off n fin)=true:=(rfl)
theorem My (g:Nat) (a b:List PV):eQ (.fn g a b)=true:=(rfl)
theorem FY (t:Nat) (x y:Operand) (a b:Int):gP P .lss t x y (.sc (.int .u16 a)) (.sc (.int .u16 b))=some (.sc (.bool (decide (a < b)))):=(rfl)
theorem H2 (t:Nat) (x y:Operand) (a b:Int):gP P .gtr t x y (.sc (.int .u16 a)) (.sc (.int .u16 b))=some (.sc (.bool (decide (a > b)))):=(rfl)
theorem MY {c:Nat} (h:Ar (c < 65536)):yk .i64 (.sc (.int .u16 (c:Int)))=some (.sc (.int .i64 (c:Int))):=by
 show some (PV.sc (.int .i64 (IntKind.i64.wrap (c:Int))))=_;rw [xF (by omega) (by have:=h.h; omega)]
def ZW (res:List kR) (s0:PS):ZC→Option ZR
 | .go (.exit _) _ _=>none
 | .go _ f s=>(gj f s res).map fun vs=>.ok (ae vs) ⟨s.h,s.n,min s0.w s.w⟩
 | .pan v _ s=>some (.pan v ⟨s.h,s.n,min s0.w s.w⟩)
theorem V2 (res:List kR) (s0:PS) (f:aE) (s:PS):ZW res s0 (.go .ret f s)=(gj f s res).map fun vs=>.ok (ae vs) ⟨s.h,s.n,min s0.w s.w⟩:=rfl
theorem UC (res:List kR) (s0:PS) (f:aE) (s:PS):ZW res s0 (.go .normal f s)=(gj f s res).map fun vs=>.ok (ae vs) ⟨s.h,s.n,min s0.w s.w⟩:=rfl
theorem V1 (res:List kR) (s0:PS) (v:Value) (f:aE) (s:PS):ZW res s0 (.pan v f s)=some (.pan v ⟨s.h,s.n,min s0.w s.w⟩):=rfl
structure St (N:Nat) (h:Nat→pD) (s:PS):Prop where
 n:N≤s.n
 at':∀j,j < N→s.h j=h j
theorem St.new {N:Nat}{h:Nat→pD}{s:PS}{b:pD} (k:St N h s):St N h (s.new b):=⟨by rw [aj]; have:=k.n; omega,fun j hj=>by rw [qT,if_neg (by have:=k.n; omega)]; exact k.at' j hj⟩
theorem St.put {N:Nat}{h:Nat→pD}{s:PS}{i:Nat}{b:pD} (k:St N h s) (hi:N≤i):St N h (s.put i b):=⟨k.n,fun j hj=>by rw [v9,if_neg (by omega)]; exact k.at' j hj⟩
end
section
variable {P:Program}{c:dW}
theorem Uc (f:aE) (s:PS) (x:Operand):cq P c f s (.toU x)=zv (Jq s (aA f x)) s:=by
 show fj (bS P f s (.toU x))=_;unfold zv;simp only [bS]
theorem Pe (s:PS) (k o fin:Nat):Jq s (.ptr k o fin)=if (s.h k).low≤fin∧o < fin∧fin≤(s.h k).cells.length then some (.ptr k o fin) else none:=rfl
theorem Qs (f:aE) (s:PS) (u n:Nat) (x:Operand):cq P c f s (.frU u n x)=zv (JA P s u n (aA f x)) s:=by
 show fj (bS P f s (.frU u n x))=_;unfold zv;simp only [bS]
theorem PP {s:PS}{u n k o fin:Nat} : JA P s u n (.ptr k o fin)=if (s.h k).low≤fin∧o < fin∧fin=(s.h k).cells.length∧pE P (s.h k).e u o n fin=true then some (.ptr k o fin) else none:=rfl
def LO (ne:Bool) (o:Option Bool):Option PV:=o.map fun b=>.sc (.bool (b != ne))
theorem Tw (f:aE) (s:PS) (ne:Bool) (t:Nat) (x y:Operand):cq P c f s (.peq ne t x y)=zv (LO ne (zM s (aA f x) (aA f y))) s:=by
 show fj (bS P f s (.peq ne t x y))=_;unfold zv LO;simp only [bS];cases zM s (aA f x) (aA f y)<;>rfl
theorem KU (s:PS):zM s (.sc (.pointer none)) (.sc (.pointer none))=some true:=rfl
theorem Kw (s:PS) (k o fin:Nat):zM s (.ptr k o fin) (.sc (.pointer none))=some false:=rfl
theorem V0 (b:Bool):LO false (some b)=some (.sc (.bool b)):=by cases b<;>rfl
theorem Mb (f:aE) (s:PS) (ne:Bool) (t:Nat) (x:Operand):cq P c f s (.inq ne t x)=zv (LO ne (E0 (aA f x))) s:=by
 show fj (bS P f s (.inq ne t x))=_;unfold zv LO;simp only [bS];cases E0 (aA f x)<;>rfl
theorem QY:LO true (E0 (.sc .nilIface))=some (.sc (.bool false)):=rfl
theorem JO (f:aE) (s:PS) (x:Operand):cq P c f s (.sdata x)=zv (pM (aA f x)) s:=by
 show fj (bS P f s (.sdata x))=_;unfold zv;simp only [bS]
theorem UF (k off fin:Nat):pM (.own k off 1 fin)=some (.ptr k off fin):=rfl
theorem Q0 (f:aE) (s:PS) (e:Nat) (x y:Operand):cq P c f s (.ustr e x y)=P3 (oQ s e (aA f x) (aA f y)):=rfl
theorem Wc {s:PS}{e k:Nat}{l:List UInt8}{low n:Nat}{cs:List PV} (h:s.h k=⟨cs,low,e⟩) (hb:fC cs=some l) (hl:low≤n) (hc:cs.length=n) (h0 : 0 < n) (hn:n≤1073741824):oQ s e (.ptr k 0 n) (.sc (.int .i64 (n:Int)))=some (.sc (.string ⟨⟨l⟩⟩),s.put k ⟨cs ++ [.sc undef],n + 2,e⟩):=by
 unfold oQ;simp only [h];rw [if_pos ⟨hl,by omega,by omega,by rw [Int.toNat_natCast]; omega,by rw [Int.toNat_natCast]; omega,trivial⟩];rw [List.drop_zero,Int.toNat_natCast,List.take_of_length_le (by omega),hb,hc];rfl
theorem Wz {k off n fin:Nat} (h : 0 < n):pM (.own k off n fin)=some (.ptr k off fin):=by
 obtain⟨m,rfl⟩ : ∃m,n=m + 1:=⟨n - 1,by omega⟩
 rfl
theorem Ju (s:PS) (k o fin:Nat):zM s (.ptr k o fin) (.ptr k o fin)=if fin=(s.h k).cells.length then some true else none:=by
 show (if k=k∧fin=(s.h k).cells.length∧fin=fin then some (o == o) else none)=_;simp
theorem Wv (b:Bool):LO true (some b)=some (.sc (.bool (!b))):=by cases b<;>rfl
theorem VW {s:PS}{e k:Nat}{l:List UInt8}{low:Nat}{cs:List PV} (h:s.h k=⟨cs,low,e⟩) (hb:fC (cs.take 1)=some l) (hl:low≤1) (hc:cs.length=1):oQ s e (.ptr k 0 1) (.sc (.int .i64 ((1:Nat):Int)))=some (.sc (.string ⟨⟨l⟩⟩),s.put k ⟨cs ++ [.sc undef],3,e⟩):=by
 unfold oQ;simp only [h];rw [if_pos ⟨hl,by omega,by decide,by show 0 + 1≤1; omega,by show 1≤1073741824; omega,trivial⟩];rw [List.drop_zero,show (((1:Nat):Int).toNat)=1 from rfl,hb,hc];rfl
end
end Go.PE
namespace Go.PE
open Go Go.EvL Go.Mir
def ZN:=
 And.intro (@mO)<|And.intro (@mH)<|And.intro (@vm)<|And.intro (@H3)<|And.intro (@EX)<|And.intro (@GK)<|And.intro (@IQ)<|And.intro (@Gy)<|And.intro (@Li)<|And.intro (@MO)<|And.intro (@OC)<|And.intro (@SH)<|And.intro (@Us)<|And.intro (@PH)<|And.intro (@OW)<|And.intro (@Rx)<|And.intro (@Hk)<|And.intro (@NS)<|And.intro (@Ni)<|And.intro (@TA)<|And.intro (@N2)<|And.intro (@Mo)<|And.intro (@Lc)<|And.intro (@J5)<|And.intro (@Pi)<|And.intro (@LG)<|And.intro (@LR)<|And.intro (@Wp)<|And.intro (@Ta)<|And.intro (@LV)<|And.intro (@Wy)<|And.intro (@Ue)<|And.intro (@VY)<|And.intro (@Rb)<|And.intro (@TE)<|And.intro (@GP)<|And.intro (@Vd)<|And.intro (@Sa)<|And.intro (@SL)<|And.intro (@Vo)<|And.intro (@Wh)<|And.intro (@UY)<|And.intro (@setD_s)<|And.intro (@setD_n)<|And.intro (@UM)<|And.intro (@V6)<|And.intro (@V7)<|And.intro (@QL)<|And.intro (@Rp)<|And.intro (@Vw)<|And.intro (@SJ)<|And.intro (@Vl)<|And.intro (@Qa)<|And.intro (@Bf)<|And.intro (@AB)<|And.intro (@Ws)<|And.intro (@UX)<|And.intro (@SV)<|And.intro (@QO)<|And.intro (@QJ)<|And.intro (@TJ)<|And.intro (@Ry)<|And.intro (@KW)<|And.intro (@Qt)<|And.intro (@Rz)<|And.intro (@N8)<|And.intro (@SI)<|And.intro (@Tc)<|And.intro (@W8)<|And.intro (@Ty)<|And.intro (@MN)<|And.intro (@MK)<|And.intro (@QX)<|And.intro (@Kr)<|And.intro (@MG)<|And.intro (@Oz)<|And.intro (@Om)<|And.intro (@MV)<|And.intro (@OU)<|And.intro (@U0)<|And.intro (@Rc)<|And.intro (@UK)<|And.intro (@UJ)<|And.intro (@VM)<|And.intro (@Wm)<|And.intro (@V3)<|And.intro (@Wn)<|And.intro (@Wx)<|And.intro (@Uy)<|And.intro (@VF)<|And.intro (@UD)<|And.intro (@VT)<|And.intro (@UO)<|And.intro (@OS)<|And.intro (@Ng)<|And.intro (@Nw)<|And.intro (@zG)<|And.intro (@DZ)<|And.intro (@VE)<|And.intro (@W3)<|And.intro (@Vx)<|And.intro (@Rk)<|And.intro (@Vi)<|And.intro (@VD)<|And.intro (@Va)<|And.intro (@TS)<|And.intro (@Tf)<|And.intro (@UE)<|And.intro (@JF)<|And.intro (@JX)<|And.intro (@Ks)<|And.intro (@IU)<|And.intro (@IY)<|And.intro (@Lt)<|And.intro (@Jx)<|And.intro (@KO)<|And.intro (@FT)<|And.intro (@Fo)<|And.intro (@GQ)<|And.intro (@EV)<|And.intro (@GV)<|And.intro (@Hh)<|And.intro (@Mm)<|And.intro (@Ud)<|And.intro (@Vt)<|And.intro (@Xi)<|And.intro (@Xr)<|And.intro (@Xl)<|And.intro (@Xp)<|And.intro (@aN)<|And.intro (@Ux)<|And.intro (@JV)<|And.intro (@GU)<|And.intro (@Hp)<|And.intro (@Wg)<|And.intro (@Lk)<|And.intro (@mN)<|And.intro (@GW)<|And.intro (@Xo)<|And.intro (@Q2)<|And.intro (@MW)<|And.intro (@U1)<|And.intro (@TN)<|And.intro (@VZ)<|And.intro (@Rv)<|And.intro (@KR)<|And.intro (@Vn)<|And.intro (@List.nil_append.{0})<|And.intro (@List.cons_append.{0})<|And.intro (@List.append_nil.{0})<|And.intro (@sN)<|And.intro (@List.map_cons.{0,0})<|And.intro (@List.map_nil.{0,0})<|And.intro (@Option.map_some.{0,0})<|And.intro (@Option.map_none.{0,0})<|And.intro (@Option.bind_some.{0,0})<|And.intro (@aj)<|And.intro (@cO)<|And.intro (@ak)<|And.intro (@db)<|And.intro (@PG)<|And.intro (@P2)<|And.intro (@Qq)<|And.intro (@MB)<|And.intro (@OX)<|And.intro (@Qo)<|And.intro (@P4)<|And.intro (@List.length_cons.{0})<|And.intro (@List.length_nil.{0})<|And.intro (@List.getElem?_cons_zero.{0})<|And.intro (@List.getElem?_cons_succ.{0})<|And.intro (@List.drop_succ_cons.{0})<|And.intro (@List.drop_zero.{0})<|And.intro (@List.take_succ_cons.{0})<|And.intro (@List.take_zero.{0})<|And.intro (@Nat.zero_add)<|And.intro (@Nat.add_zero)<|And.intro (@Nat.left_eq_add)<|And.intro (@Nat.add_eq_left)<|And.intro (@Nat.one_ne_zero)<|And.intro (@and_self)<|And.intro (@true_and)<|And.intro (@and_true)<|And.intro (@Nat.min_self)<|And.intro (@Nat.le_refl)<|And.intro (@Nat.zero_le)<|And.intro (@decide_true)<|And.intro (@decide_false)<|And.intro (@Bool.not_true)<|And.intro (@Bool.not_false)<|And.intro (@Ji)<|And.intro (@PW)<|And.intro (@Pd)<|And.intro (@Qz)<|And.intro (@RO)<|And.intro (@FY)<|And.intro (@H2)<|(@MY)
def ZM:=
 And.intro (@ap)<|And.intro (@ao)<|And.intro (@aI)<|And.intro (@au)<|And.intro (@Vj)<|And.intro (@VC)<|And.intro (@VU)<|And.intro (@RY)<|And.intro (@Vb)<|And.intro (@Vu)<|And.intro (@Ug)<|And.intro (@KH)<|And.intro (@TV)<|And.intro (@Vs)<|And.intro (@FP)<|And.intro (@Ra)<|And.intro (@No)<|And.intro (@Nj)<|And.intro (@Pa)<|And.intro (@K6)<|And.intro (@Lh)<|And.intro (@Lm)<|And.intro (@V8)<|And.intro (@UU)<|And.intro (@Wu)<|And.intro (@VG)<|And.intro (@RR)<|And.intro (@UZ)<|And.intro (@VS)<|And.intro (@VH)<|And.intro (@Uw)<|And.intro (@VA)<|And.intro (@T0)<|And.intro (@QU)<|And.intro (@Tn)<|And.intro (@Se)<|And.intro (@Tm)<|And.intro (@SE)<|And.intro (@SB)<|And.intro (@Sw)<|And.intro (@Nt)<|And.intro (@P8)<|And.intro (@Sk)<|And.intro (@Qc)<|And.intro (@Ro)<|And.intro (@QH)<|And.intro (@List.all_cons.{0})<|And.intro (@List.all_nil.{0})<|And.intro (@Bool.and_self)<|And.intro (@Bool.and_true)<|And.intro (@Bool.true_and)<|And.intro (@kq)<|And.intro (@List.drop_nil.{0})<|And.intro (@List.take_nil.{0})<|And.intro (@Nat.sub_zero)<|And.intro (@QI)<|And.intro (@Sq)<|And.intro (@SX)<|And.intro (@Xh)<|And.intro (@U9)<|And.intro (@RG)<|And.intro (@OH)<|And.intro (@Pw)<|And.intro (@Nat.zero_mul)<|And.intro (@TX)<|And.intro (@TW)<|And.intro (@MA)<|And.intro (@RX)<|And.intro (@QN)<|And.intro (@OK)<|And.intro (@L0)<|And.intro (@S3)<|And.intro (@W7)<|And.intro (@W1)<|And.intro (@Qp)<|And.intro (@V9)<|And.intro (@Ut)<|And.intro (@W4)<|And.intro (@Nu)<|And.intro (@Vh)<|And.intro (@VO)<|And.intro (@Pm)<|And.intro (@SC)<|And.intro (@U8)<|And.intro (@TU)<|And.intro (@Or)<|And.intro (@My)<|And.intro (@V2)<|And.intro (@UC)<|(@V1)
def ZV:=
 And.intro (@J7)<|And.intro (@GR)<|And.intro (@NX)<|And.intro (@NF)<|And.intro (@Oh)<|And.intro (@JB)<|And.intro (@List.mem_cons.{0})<|And.intro (@List.not_mem_nil.{0})<|And.intro (@or_false)<|And.intro (@false_or)<|And.intro (@or_true)<|And.intro (@true_or)<|And.intro (@or_self)<|And.intro (@Ln)<|And.intro (@MD)<|And.intro (@Si)<|(@US)
def ZU:=
 And.intro (@Uc)<|And.intro (@Pe)<|And.intro (@Qs)<|And.intro (@PP)<|And.intro (@Tw)<|And.intro (@KU)<|And.intro (@Kw)<|And.intro (@Ju)<|And.intro (@V0)<|And.intro (@Wv)<|And.intro (@JO)<|And.intro (@UF)<|And.intro (@Q0)<|(@VW)
def Zj:=And.intro (@List.length_append.{0})<|And.intro (@List.length_cons.{0})<|And.intro (@List.length_nil.{0})<|And.intro true_and and_true
end Go.PE
