/- What functions of the program and of the reference compute, on values. No statement is proved here. -/
import Derived.Test.YtgkggocjoolciaaGreatDoorTxI
import Derived.Test.YtgkggocjoolciaaGreatDoorTxD
import Derived.Test.YtgkggocjoolciaaGreatDoorTxA
set_option linter.all false
namespace Go.Proofs.YtgkggocjoolciaaGreatDoor
open Go Go.EvL Go.PE Go.Mir
variable {ext:aq}
theorem nG (e n:Nat) (cs:List PV):gq false (.lit e n cs)=some (iN n):=rfl
theorem aV (b:ByteArray):(b.toList == (ByteArray.mk #[]).toList)=b.data.toList.isEmpty:=by
 rw [ByteArray.toList_eq,ByteArray.toList_eq];cases b.data.toList<;>rfl
theorem lW (b:ByteArray) (l:List UInt8):(b.toList == (ByteArray.mk ⟨l⟩).toList)=(b.data.toList == l):=by
 rw [ByteArray.toList_eq,ByteArray.toList_eq]
theorem MI {b:ByteArray} (hb:b.data.toList.length < 4611686018427387904) (s:PS):∀(k i:Nat) (f:aR),i + k=b.data.toList.length→f 0=.sc (.string b)→f 3=iN i→
  Er (fun f' s'=>s'=s∧f' 2=.sc (.bool ((b.data.toList.drop i).all fun c=>eo c.toNat))) (LP Tryz.prog Γ ext 0 xT EM f s):=by
 intro k
 induction k with
 | zero=>
  intro i f hk h0 h3;have e1:decide (i < b.data.toList.length)=false:=df;have ha:((b.data.toList.drop i).all fun c=>eo c.toNat)=true:=by rw [List.drop_eq_nil_of_le om]; rfl
  refine ad fun L hL=>?_;exact jK @xT.eq_1 @EM.eq_1 h0 h3 e1 ha
 | succ k ih=>
  intro i f hk h0 h3;have hl:i < b.data.toList.length:=om;have e1:decide (i < b.data.toList.length)=true:=dt;refine ad fun L hL=>?_;rw [pj hl,List.all_cons,← nU hl];cases e2:eo (bt b.data.toList i) with
  | false=>exact tD @xT.eq_1 @EM.eq_1 h0 h3 hl @eK e2
  | true=>
   simp -implicitDefEqProofs (disch:=omega) only [ZS,seval,xT,h0,h3,hl,eK,e2];subst hL;rw [Bool.true_and];exact ih (i + 1) _ om (aX h0) aQ
theorem rS {b:ByteArray} (hb:b.data.toList.length < 4611686018427387904) (s:PS):Pc ext 60 [.sc (.string b)] (.sc (.bool (fV b.data.toList))) s:=by
 refine q1 Vq 2 ?_;unfold Vq;cases c0:b.data.toList.isEmpty with
 | true=>exact lR @aV c0 @fV.eq_1
 | false=>
  have hl0 : 0 < b.data.toList.length:=by
   cases h:b.data.toList with
   | nil=>rw [h] at c0; cases c0
   | cons x l=>exact Nat.succ_pos _
  cases c1:decide (32 < b.data.toList.length) with
  | true=>
   have c2:decide (b.data.toList.length≤32)=false:=decide_eq_false (by have:=of_decide_eq_true c1; omega);exact tg @aV c0 c1 c2 @fV.eq_1
  | false=>
   have c2:decide (b.data.toList.length≤32)=true:=decide_eq_true (by have:=of_decide_eq_false c1; omega);cases c3:bD (bt b.data.toList 0) with
   | true=>exact vY @aV c0 c1 c2 c3 hl0 @cV @fV.eq_1
   | false=>
    rw [FF c0 c2 c3];refine u0 @aV c0 c1 c3 hl0 @cV ?_;exact MI hb _ b.data.toList.length 0 _ (Nat.zero_add _) aQ aQ
theorem SI {b:ByteArray} (hb:b.data.toList.length < 1000000000000) (s:PS):Pc ext 254 [.sc (.string b)] (iN (Qa b.data.toList)) s:=by
 have hn:∀s,Pc ext 266 [.sc (.string b),.sc (.int .i64 0)] (iN (dY b.data.toList 0)) s:=fun s=>uD om (Nat.zero_le _) s;have hle:dY b.data.toList 0≤b.data.toList.length:=jH (Nat.zero_le _);have hr:=fun s=>rS (ext:=ext) (b:=⟨⟨(b.data.toList.drop 0).take (dY b.data.toList 0 - 0)⟩⟩) (by simp only [List.length_take,List.length_drop]; omega) s;simp only [List.drop_zero,Nat.sub_zero] at hr;have hz:((0:Nat):Int)=0:=rfl;refine q1 QM 2 ?_;unfold QM Qa;generalize dY b.data.toList 0=n at hn hle hr ⊢;cases c0:decide (n < b.data.toList.length) with
 | false=>exact lR hn c0 hz
 | true=>
  have hl:=of_decide_eq_true c0;cases c1:bt b.data.toList n == 61 with
  | false=>exact nI hn c1 hl hz
  | true=>
   cases c2:fV (b.data.toList.take n) with
   | false=>exact vY hn c1 c2 hl hr @Nat.sub_zero hle hz
   | true=>exact tD hn c1 c2 hl hr @Nat.sub_zero hle
theorem vh {b:ByteArray} (s:PS):Pc ext 110 [.sc (.string b)] (.sc (.bool (lG b.data.toList))) s:=by
 refine q1 Rx 2 ?_;unfold Rx;simp only [lG,xA,List.any_cons,List.any_nil,Bool.or_false];have hs:∀l:List UInt8,(b.toList == (ByteArray.mk ⟨l⟩).toList)=(b.data.toList == l):=lW b;cases c1:b.data.toList == [33] with
 | true=>exact l9 hs c1
 | false=>
 cases c2:b.data.toList == [123] with
 | true=>exact lR hs c1 c2
 | false=>
 cases c3:b.data.toList == [125] with
 | true=>exact nI hs c1 c2 c3
 | false=>
 cases c4:b.data.toList == [99,97,115,101] with
 | true=>exact tg hs c1 c2 c3 c4
 | false=>
 cases c5:b.data.toList == [100,111] with
 | true=>exact jK hs c1 c2 c3 c4 c5
 | false=>
 cases c6:b.data.toList == [100,111,110,101] with
 | true=>exact tD hs c1 c2 c3 c4 c5 c6
 | false=>
 cases c7:b.data.toList == [101,108,105,102] with
 | true=>exact vY hs c1 c2 c3 c4 c5 c6 c7
 | false=>
 cases c8:b.data.toList == [101,108,115,101] with
 | true=>exact wF hs c1 c2 c3 c4 c5 c6 c7 c8
 | false=>
 cases c9:b.data.toList == [101,115,97,99] with
 | true=>exact rG hs c1 c2 c3 c4 c5 c6 c7 c8 c9
 | false=>
 cases d1:b.data.toList == [102,105] with
 | true=>exact nq hs c1 c2 c3 c4 c5 c6 c7 c8 c9 d1 tv
 | false=>
 cases d2:b.data.toList == [102,111,114] with
 | true=>exact nq hs c1 c2 c3 c4 c5 c6 c7 c8 c9 d1 d2
 | false=>
 cases d3:b.data.toList == [105,102] with
 | true=>exact qB hs c1 c2 c3 c4 c5 c6 c7 c8 c9 d1 d2 d3 tv
 | false=>
 cases d4:b.data.toList == [105,110] with
 | true=>exact qB hs c1 c2 c3 c4 c5 c6 c7 c8 c9 d1 d2 d3 d4
 | false=>
 cases d5:b.data.toList == [116,104,101,110] with
 | true=>exact vj hs c1 c2 c3 c4 c5 c6 c7 c8 c9 d1 d2 d3 d4 d5 tv
 | false=>
 cases d6:b.data.toList == [117,110,116,105,108] with
 | true=>exact vj hs c1 c2 c3 c4 c5 c6 c7 c8 c9 d1 d2 d3 d4 d5 d6
 | false=>
 cases d7:b.data.toList == [119,104,105,108,101] with
 | true=>exact sV hs c1 c2 c3 c4 c5 c6 c7 c8 c9 d1 d2 d3 d4 d5 d6 d7 tv tv
 | false=>exact sV hs c1 c2 c3 c4 c5 c6 c7 c8 c9 d1 d2 d3 d4 d5 d6 d7 tv tv
structure dw where
 name:ByteArray
 value:ByteArray
 set:Bool
 exp:Bool
 ro:Bool
def dw.cells (x:dw):List PV:=[.sc (.string x.name),.sc (.string x.value),.sc (.bool x.set),.sc (.bool x.exp),.sc (.bool x.ro)]
structure b9 where
 name:ByteArray
 value:ByteArray
def b9.cells (x:b9):List PV:=[.sc (.string x.name),.sc (.string x.value)]
structure aT where
 sig:Int
 act:ByteArray
def aT.cells (x:aT):List PV:=[.sc (.int .i64 x.sig),.sc (.string x.act)]
def fj (b:ByteArray):List PV:=[.sc (.string b)]
def kh (a b:ByteArray):Bool:=a.toList == b.toList
def DX (x y:dw):Bool:=kh x.name y.name && (kh x.value y.value && (x.set == y.set && (x.exp == y.exp && x.ro == y.ro)))
def qI (x y:b9):Bool:=kh x.name y.name && kh x.value y.value
def A3 (x y:aT):Bool:=x.sig == y.sig && kh x.act y.act
theorem Ob (x y:dw) (i j:Tmp):fw Tryz.prog .neq 43 (.tmp i) (.tmp j) (.agg x.cells) (.agg y.cells)=some (.sc (.bool (!(DX x y)))):=by
 have he:bx Tryz.prog (Op.equalIn 10000 43 (.agg #[.string x.name,.string x.value,.bool x.set,.bool x.exp,.bool x.ro]) (.agg #[.string y.name,.string y.value,.bool y.set,.bool y.exp,.bool y.ro]))=some (yM [kh x.name y.name,kh x.value y.value,x.set == y.set,x.exp == y.exp,x.ro == y.ro]):=by
  refine (oK (d:=9999) Tryz.underlying43 (by kernel_rfl)).trans (oV ?_);refine .cons _ _ _ _ ⟨by decide,_,_,_,Tryz.underlying9,rfl,rfl,rfl,lH (d:=9998) Tryz.underlying9 _ _⟩ ?_;refine .cons _ _ _ _ ⟨by decide,_,_,_,Tryz.underlying9,rfl,rfl,rfl,lH (d:=9998) Tryz.underlying9 _ _⟩ ?_;refine .cons _ _ _ _ ⟨by decide,_,_,_,Tryz.underlying4,rfl,rfl,rfl,zQ (d:=9998) Tryz.underlying4 _ _⟩ ?_;refine .cons _ _ _ _ ⟨by decide,_,_,_,Tryz.underlying4,rfl,rfl,rfl,zQ (d:=9998) Tryz.underlying4 _ _⟩ ?_;refine .cons _ _ _ _ ⟨by decide,_,_,_,Tryz.underlying4,rfl,rfl,rfl,zQ (d:=9998) Tryz.underlying4 _ _⟩ ?_;exact .nil
 have hb:=(rC (x:=.tmp i) (y:=.tmp j) (by kernel_rfl) he).1;simp only [dw.cells,fw,KH,i9,if_true,Option.map_some];rw [show qF Tryz.prog .neq 43 (.tmp i) (.tmp j) (.agg [.string x.name,.string x.value,.bool x.set,.bool x.exp,.bool x.ro].toArray) (.agg [.string y.name,.string y.value,.bool y.set,.bool y.exp,.bool y.ro].toArray)=_ from hb];rfl
theorem GO (x y:b9) (i j:Tmp):fw Tryz.prog .neq 58 (.tmp i) (.tmp j) (.agg x.cells) (.agg y.cells)=some (.sc (.bool (!(qI x y)))):=by
 have he:bx Tryz.prog (Op.equalIn 10000 58 (.agg #[.string x.name,.string x.value]) (.agg #[.string y.name,.string y.value]))=some (yM [kh x.name y.name,kh x.value y.value]):=by
  refine (oK (d:=9999) Tryz.underlying58 (by kernel_rfl)).trans (oV ?_);refine .cons _ _ _ _ ⟨by decide,_,_,_,Tryz.underlying9,rfl,rfl,rfl,lH (d:=9998) Tryz.underlying9 _ _⟩ ?_;refine .cons _ _ _ _ ⟨by decide,_,_,_,Tryz.underlying9,rfl,rfl,rfl,lH (d:=9998) Tryz.underlying9 _ _⟩ ?_;exact .nil
 have hb:=(rC (x:=.tmp i) (y:=.tmp j) (by kernel_rfl) he).1;simp only [b9.cells,fw,KH,i9,if_true,Option.map_some];rw [show qF Tryz.prog .neq 58 (.tmp i) (.tmp j) (.agg [.string x.name,.string x.value].toArray) (.agg [.string y.name,.string y.value].toArray)=_ from hb];rfl
theorem IQ (x y:aT) (i j:Tmp):fw Tryz.prog .neq 46 (.tmp i) (.tmp j) (.agg x.cells) (.agg y.cells)=some (.sc (.bool (!(A3 x y)))):=by
 have he:bx Tryz.prog (Op.equalIn 10000 46 (.agg #[.int .i64 x.sig,.string x.act]) (.agg #[.int .i64 y.sig,.string y.act]))=some (yM [x.sig == y.sig,kh x.act y.act]):=by
  refine (oK (d:=9999) Tryz.underlying46 (by kernel_rfl)).trans (oV ?_);refine .cons _ _ _ _ ⟨by decide,_,_,_,Tryz.underlying3,rfl,rfl,rfl,C5 (d:=9998) Tryz.underlying3 _ _⟩ ?_;refine .cons _ _ _ _ ⟨by decide,_,_,_,Tryz.underlying9,rfl,rfl,rfl,lH (d:=9998) Tryz.underlying9 _ _⟩ ?_;exact .nil
 have hb:=(rC (x:=.tmp i) (y:=.tmp j) (by kernel_rfl) he).1;simp only [aT.cells,fw,KH,i9,if_true,Option.map_some];rw [show qF Tryz.prog .neq 46 (.tmp i) (.tmp j) (.agg [.int .i64 x.sig,.string x.act].toArray) (.agg [.int .i64 y.sig,.string y.act].toArray)=_ from hb];rfl
theorem ug (a b c d:Int) (i j:Tmp):fw Tryz.prog .neq 28 (.tmp i) (.tmp j) (.agg [.sc (.int .i64 a),.sc (.int .i64 b)]) (.agg [.sc (.int .i64 c),.sc (.int .i64 d)])=some (.sc (.bool (!(a == c && b == d))))∧fw Tryz.prog .eql 28 (.tmp i) (.tmp j) (.agg [.sc (.int .i64 a),.sc (.int .i64 b)]) (.agg [.sc (.int .i64 c),.sc (.int .i64 d)])=some (.sc (.bool (a == c && b == d))):=by
 have he:bx Tryz.prog (Op.equalIn 10000 28 (.agg #[.int .i64 a,.int .i64 b]) (.agg #[.int .i64 c,.int .i64 d]))=some (yM [a == c,b == d]):=by
  refine (oK (d:=9999) Tryz.underlying28 (by kernel_rfl)).trans (oV ?_);refine .cons _ _ _ _ ⟨by decide,_,_,_,Tryz.underlying3,rfl,rfl,rfl,C5 (d:=9998) Tryz.underlying3 _ _⟩ ?_;refine .cons _ _ _ _ ⟨by decide,_,_,_,Tryz.underlying3,rfl,rfl,rfl,C5 (d:=9998) Tryz.underlying3 _ _⟩ ?_;exact .nil
 have hb:=rC (x:=.tmp i) (y:=.tmp j) (by kernel_rfl) he;simp only [fw,KH,i9,if_true,Option.map_some];rw [show qF Tryz.prog .neq 28 (.tmp i) (.tmp j) (.agg [.int .i64 a,.int .i64 b].toArray) (.agg [.int .i64 c,.int .i64 d].toArray)=_ from hb.1,show qF Tryz.prog .eql 28 (.tmp i) (.tmp j) (.agg [.int .i64 a,.int .i64 b].toArray) (.agg [.int .i64 c,.int .i64 d].toArray)=_ from hb.2];exact⟨rfl,rfl⟩
theorem CJ (l m:List dw):BL 43 5 true dw.cells (fun x=>.agg x.cells) DX l m:=⟨fun _=>rfl,fun _=>rfl,fun x _ y _ i j=>Ob x y i j⟩
theorem uF (l m:List b9):BL 58 2 true b9.cells (fun x=>.agg x.cells) qI l m:=⟨fun _=>rfl,fun _=>rfl,fun x _ y _ i j=>GO x y i j⟩
theorem Eh (l m:List aT):BL 46 2 true aT.cells (fun x=>.agg x.cells) A3 l m:=⟨fun _=>rfl,fun _=>rfl,fun x _ y _ i j=>IQ x y i j⟩
theorem Cq (l m:List ByteArray):BL 9 1 false fj (fun x=>.sc (.string x)) kh l m:=⟨fun _=>rfl,fun _=>rfl,fun _ _ _ _ _ _=>rfl⟩
end Go.Proofs.YtgkggocjoolciaaGreatDoor
namespace Go.Proofs.YtgkggocjoolciaaGreatDoor
open Go Go.EvL Go.PE
variable {ext:aq}
theorem gS {α:Type} (e:Nat) (c:α→List PV) (m:Option (List α)):az (aK e c m)=[aK e c m]:=by cases m<;>rfl
theorem iw {α:Type} (n:Nat) (s:PS) (e:Nat) (c:α→List PV) (m:Option (List α)):fx n s (aK e c m)=some (aK e c m):=by cases m<;>rfl
theorem iu (n:Nat) (s:PS) (v:Value):fx n s (.sc v)=some (.sc v):=(rfl)
theorem dW (k:IntKind) (z:Int):cL (.sc (.int k z))=true:=(rfl)
theorem eD (b:ByteArray):cL (.sc (.string b))=true:=(rfl)
theorem eT (b:Bool):cL (.sc (.bool b))=true:=(rfl)
def gQ {α:Type} (e:Nat) (c:α→List PV) (Q:α→α→Prop) (a b:PV):Prop:=∃l m:Option (List α),a=aK e c l∧b=aK e c m∧(l.getD []).length=(m.getD []).length∧(l.getD []).length < 4611686018427387904∧∀(i:Nat) x y,(l.getD [])[i]?=some x→(m.getD [])[i]?=some y→Q x y
theorem gQ.one {α:Type}{e:Nat}{c:α→List PV}{Q:α→α→Prop}{a b:PV} (h:gQ e c Q a b):cL a=true∧cL b=true∧cP a=true:=by
 obtain⟨l,m,rfl,rfl,_⟩:=h;exact⟨dr _ _ _,dr _ _ _,vD _ _ _⟩
def pF:Nat→PV→PV→Prop
 | 0,_,_=>False
 | d + 1,a,b=>gQ 150 ar.cells (fun x y=>(x.kind=y.kind∧x.text=y.text∧x.op=y.op∧x.colon=y.colon)∧pF d x.parts y.parts) a b
theorem pF.one {d:Nat}{a b:PV} (h:pF d a b):cL a=true∧cL b=true∧cP a=true:=by
 cases d with
 | zero=>cases h
 | succ d=>exact gQ.one h
theorem LQ {α:Type}{c:α→List PV}{R:α→α→Prop}{g:Nat}{l:List α} (h:∀x∈l,∃y,(∀s,aD Tryz.prog Γ ext g [.agg (c x)] s=some (.agg (c y),s))∧R y x) :
  ∃cp:α→α,∀x∈l,(∀s,aD Tryz.prog Γ ext g [.agg (c x)] s=some (.agg (c (cp x)),s))∧R (cp x) x:=by
 have h':∀x,∃y,x∈l→(∀s,aD Tryz.prog Γ ext g [.agg (c x)] s=some (.agg (c y),s))∧R y x:=fun x=>by
  by_cases hx:x∈l
  ·obtain⟨y,hy⟩:=h x hx;exact⟨y,fun _=>hy⟩
  ·exact⟨x,fun hh=>absurd hh hx⟩
 exact Classical.axiomOfChoice h'
theorem FL {d:Nat}{x y:ar} (h:pF d y.parts x.parts):y.cells.all cL=true∧y.cells.all cP=true:=by
 obtain⟨h1,_,h3⟩:=h.one;simp only [ar.cells,List.all_cons,List.all_nil,h1,h3,Bool.and_true];exact⟨rfl,rfl⟩
theorem pF.sl {d:Nat}{a b:PV} (h:pF d a b):∃m,a=aK 150 ar.cells m:=by
 cases d with
 | zero=>cases h
 | succ d=>obtain⟨m,_,h,_⟩:=h; exact⟨m,h⟩
def uw (d:Nat) (y x:aw):Prop:=y.pos=x.pos∧pF d y.parts x.parts
def NU (d:Nat) (y x:ax):Prop:=(y.pos=x.pos∧y.name=x.name∧y.vpos=x.vpos)∧pF d y.parts x.parts
def Lm (d:Nat) (y x:aA):Prop:=(y.pos=x.pos∧y.fd=x.fd∧y.op=x.op∧y.tpos=x.tpos)∧pF d y.parts x.parts
def mS (D:Nat):Nat→am→am→Prop
 | 0,_,_=>False
 | d + 1,y,x=>(y.kind=x.kind∧y.pos=x.pos∧y.name=x.name∧y.all=x.all)∧gQ 99 ax.cells (NU D) y.assigns x.assigns∧gQ 97 aw.cells (uw D) y.words x.words∧gQ 124 aA.cells (Lm D) y.redirs x.redirs∧gQ 69 am.cells (mS D d) y.kids x.kids∧
  gQ 129 aF.cells (fun j i=>gQ 97 aw.cells (uw D) j.pats i.pats∧gQ 69 am.cells (mS D d) j.body i.body) y.items x.items
theorem du {α:Type}{e:Nat}{c:α→List PV}{a p:PV}{l:Option (List α)} (ha:a=aK e c l) {x:α} (hx:x∈l.getD []) (hp:p∈c x) {N:Nat} (hb:a.bulk≤N):p.bulk≤N∧aM (c x)≤N:=by
 have h0:=dB e c l;rw [← ha] at h0;have h1:=gw (c:=c) hx;have h2:=ga hp;omega
theorem lq {α:Type}{e:Nat}{c:α→List PV}{a:PV}{l:Option (List α)} (ha:a=aK e c l) (hc:∀x,1≤(c x).length) {N:Nat} (hb:a.bulk≤N):(l.getD []).length≤N:=by
 have h0:=gY (e:=e) hc l;rw [← ha] at h0;omega
theorem Gq {D:Nat} (x y:aw) (h:uw D y x):y.cells.all cL=true∧y.cells.all cP=true:=
 ⟨aw.one h.2.one.1,aw.clean h.2.one.2.2⟩
theorem gQ.sl {α:Type}{e:Nat}{c:α→List PV}{Q:α→α→Prop}{a b:PV} (h:gQ e c Q a b):∃m,a=aK e c m:=by
 obtain⟨m,_,h,_⟩:=h; exact⟨m,h⟩
theorem sJ {D d:Nat} (x y:am) (h:mS D d y x):y.cells.all cL=true∧y.cells.all cP=true:=by
 cases d with
 | zero=>cases h
 | succ d=>
  obtain⟨_,h1,h2,h3,h4,h5⟩:=h;obtain⟨a1,_,b1⟩:=h1.one;obtain⟨a2,_,b2⟩:=h2.one;obtain⟨a3,_,b3⟩:=h3.one;obtain⟨a4,_,b4⟩:=h4.one;obtain⟨a5,_,b5⟩:=h5.one;simp only [am.cells,List.all_cons,List.all_nil,a1,a2,a3,a4,a5,b1,b2,b3,b4,b5,Bool.and_true];exact⟨rfl,rfl⟩
theorem xb (k i:Nat):iR (fun _=>true) i k=true:=by
 induction k generalizing i with
 | zero=>rfl
 | succ k ih=>simp [iR,ih]
theorem qE:∀(d:Nat) (a b:PV),pF d a b→∀s,Pc ext 149 [a,b] (.sc (.bool true)) s:=by
 intro d
 induction d with
 | zero=>intro a b h; cases h
 | succ d ih=>
  rintro a b ⟨l,m,rfl,rfl,hlm,hbig,hq⟩ s;have h:=sN (P:=Tryz.prog) (Γ:=Γ) (ext:=ext) (e:=150) (c:=ar.cells) hbig (r:=fun _=>true) (l:=l) (m:=m) (G:=149) (nt:=61) (inner:=oY) (by rw [← Ro]; rfl) om (fun i x y h1 h2 f s hin=>by
   obtain⟨⟨e1,e2,e3,e4⟩,e5⟩:=hq i x y h1 h2;have h:=Rw (ext:=ext) x y e5.one.1 e5.one.2.1 true (ih _ _ e5) h1 h2 f s hin;have he:x.eqB y=true:=by simp [ar.eqB,e1,e2,e3,e4]
   rw [he] at h;exact h) s
  rw [Pc,h,hlm,beq_self_eq_true,xb];rfl
theorem nK {α:Type}{e:Nat}{c:α→List PV}{Q:α→α→Prop}{inner:aW}{H nt:Nat} (hH:Γ H=some (mN nt inner)) (hnt : 2≤nt) {a b:PV} (h:gQ e c Q a b) (hin:∀x y,Q x y→kP Tryz.prog Γ ext e c inner x y true) (s:PS):aD Tryz.prog Γ ext H [a,b] s=some (.sc (.bool true),s):=by
 obtain⟨l,m,rfl,rfl,hlm,hbig,hq⟩:=h;have h:=xZ (P:=Tryz.prog) (Γ:=Γ) (ext:=ext) (e:=e) (c:=c) hbig (r:=fun _=>true) (l:=l) (m:=m) hH hnt (fun i x y h1 h2 f s hi=>hin x y (hq i x y h1 h2) l m i h1 h2 f s hi) s;rw [h,hlm,beq_self_eq_true,xb];rfl
theorem uI {D:Nat}{a b:PV} (h:gQ 97 aw.cells (uw D) a b) (s:PS):Pc ext 101 [a,b] (.sc (.bool true)) s:=
 nK VY om h (fun x y hq=>Ta x y true (qE D _ _ hq.2)) s
theorem yL {D:Nat}{a b:PV} (h:gQ 99 ax.cells (NU D) a b) (s:PS):Pc ext 100 [a,b] (.sc (.bool true)) s:=
 nK W8 om h (fun x y hq=>by
  have h:=SQ (ext:=ext) x y true (qE D _ _ hq.2);rw [hq.1.2.1,beq_self_eq_true] at h;exact h) s
theorem Ah {D:Nat}{a b:PV} (h:gQ 124 aA.cells (Lm D) a b) (s:PS):Pc ext 102 [a,b] (.sc (.bool true)) s:=
 nK Wl om h (fun x y hq=>by
  have h:=So (ext:=ext) x y true (qE D _ _ hq.2);have he:x.eqB y true=true:=by simp [aA.eqB,hq.1.2.1,hq.1.2.2.1]
  rw [he] at h;exact h) s
theorem GZ {D:Nat} : ∀(d:Nat) (y x:am),mS D d y x→∀s,Pc ext 59 [.agg y.cells,.agg x.cells] (.sc (.bool true)) s:=by
 intro d
 induction d with
 | zero=>intro y x h; cases h
 | succ d ih=>
  rintro y x ⟨⟨e1,e2,e3,e4⟩,h1,h2,h3,h4,h5⟩ s;have kids:∀{a b:PV},gQ 69 am.cells (mS D d) a b→∀s,Pc ext 103 [a,b] (.sc (.bool true)) s:=fun h s=>
   nK VM om h (fun x y hq=>SO x y true (ih _ _ hq)) s
  have items:∀s,Pc ext 104 [y.items,x.items] (.sc (.bool true)) s:=fun s=>
   nK Wk om h5 (fun x y hq=>SB x y true true (uI hq.1) (kids hq.2)) s
  rw [Pc,f21 y x true true true true true (yL h1) (uI h2) (Ah h3) (kids h4) items s];simp [wQ,e1,e3,e4]
inductive eb {α β:Type} (Q:α→β→Prop):List α→List β→Prop
 | nil:eb Q [] []
 | cons (x:α) (y:β) (l:List α) (m:List β) (h:Q x y) (t:eb Q l m):eb Q (x :: l) (y :: m)
section
variable {α β γ δ:Type}{Q:α→β→Prop}
theorem eb.append {l l':List α}{m m':List β} (h:eb Q l m) (h':eb Q l' m'):eb Q (l ++ l') (m ++ m'):=by
 induction h with
 | nil=>exact h'
 | cons x y l m h _ ih=>exact .cons _ _ _ _ h ih
theorem eb.len {l:List α}{m:List β} (h:eb Q l m):l.length=m.length:=by
 induction h with
 | nil=>rfl
 | cons x y l m h _ ih=>simp [ih]
theorem eb.map {R:γ→δ→Prop}{f:α→γ}{g:β→δ} (hf:∀x y,Q x y→R (f x) (g y)) {l:List α}{m:List β} (h:eb Q l m):eb R (l.map f) (m.map g):=by
 induction h with
 | nil=>exact .nil
 | cons x y l m h _ ih=>exact .cons _ _ _ _ (hf _ _ h) ih
theorem eb.flat {R:γ→δ→Prop}{f:α→List γ}{g:β→List δ}{l:List α}{m:List β} (h:eb Q l m) (hf:∀x y,x∈l→y∈m→Q x y→eb R (f x) (g y)):eb R (l.flatMap f) (m.flatMap g):=by
 induction h with
 | nil=>exact .nil
 | cons x y l m h _ ih=>
  rw [List.flatMap_cons,List.flatMap_cons];exact (hf _ _ List.mem_cons_self List.mem_cons_self h).append (ih fun a b ha hb=>hf a b (List.mem_cons_of_mem _ ha) (List.mem_cons_of_mem _ hb))
theorem eb.eq {l m:List α}{Q:α→α→Prop} (hq:∀x y,Q x y→x=y) (h:eb Q l m):l=m:=by
 induction h with
 | nil=>rfl
 | cons x y l m h _ ih=>rw [hq _ _ h,ih]
theorem eb.of_get:∀{l:List α}{m:List β},l.length=m.length→(∀(i:Nat) x y,l[i]?=some x→m[i]?=some y→Q x y)→eb Q l m:=by
 intro l
 induction l with
 | nil=>intro m h _; cases m with | nil=>exact .nil | cons y m=>cases h
 | cons x l ih=>
  intro m h hh;cases m with
  | nil=>cases h
  | cons y m=>exact .cons _ _ _ _ (hh 0 x y rfl rfl) (ih (by simpa using h) fun i a b h1 h2=>hh (i + 1) a b (by simpa using h1) (by simpa using h2))
theorem eb.get {l:List α}{m:List β} (h:eb Q l m):∀(i:Nat) x y,l[i]?=some x→m[i]?=some y→Q x y:=by
 induction h with
 | nil=>intro i x y h; simp at h
 | cons x y l m h _ ih=>
  intro i a b h1 h2;cases i with
  | zero=>simp at h1 h2; subst h1; subst h2; exact h
  | succ i=>exact ih i a b (by simpa using h1) (by simpa using h2)
theorem eb.mem {l:List α}{m:List β} (h:eb Q l m):∀x∈l,∃y∈m,Q x y:=by
 induction h with
 | nil=>intro x hx; cases hx
 | cons x y l m h _ ih=>
  intro a ha;rcases List.mem_cons.1 ha with rfl | ha
  ·exact⟨y,List.mem_cons_self,h⟩
  ·obtain⟨b,hb,hq⟩:=ih a ha;exact⟨b,List.mem_cons_of_mem _ hb,hq⟩
end
theorem HS {α:Type}{c:α→List PV}{es:Nat} (hi:∀x y,c x=c y→x=y) (hc:∀x,(c x).length=es):∀(l m:List α),l.length=m.length→l.flatMap c=m.flatMap c→l=m:=by
 intro l
 induction l with
 | nil=>intro m h _; cases m with | nil=>rfl | cons y m=>cases h
 | cons x l ih=>
  intro m h hh;cases m with
  | nil=>cases h
  | cons y m=>
   rw [List.flatMap_cons,List.flatMap_cons] at hh;obtain⟨h1,h2⟩:=List.append_inj hh (by rw [hc,hc]);rw [hi _ _ h1,ih m (by simpa using h) h2]
theorem eF {α:Type}{e es:Nat}{c:α→List PV} (hi:∀x y,c x=c y→x=y) (hc:∀x,(c x).length=es) {l m:Option (List α)} (h:aK e c l=aK e c m):l=m:=by
 cases l with
 | none=>cases m with | none=>rfl | some m=>cases h
 | some l=>
  cases m with
  | none=>cases h
  | some m=>
   simp only [aK] at h;injection h with _ h1 h2;rw [HS hi hc l m h1 h2]
theorem gQ.lists {α:Type}{e es:Nat}{c:α→List PV} (hi:∀x y,c x=c y→x=y) (hc:∀x,(c x).length=es) {Q:α→α→Prop}{a b:PV} (h:gQ e c Q a b) {l:Option (List α)} (hb:b=aK e c l):∃m,a=aK e c m∧eb Q (m.getD []) (l.getD []):=by
 obtain⟨m,l',h1,h2,h3,_,h5⟩:=h;obtain rfl:l'=l:=eF hi hc (h2.symm.trans hb);exact⟨m,h1,.of_get h3 h5⟩
theorem aw.inj (x y:aw) (h:x.cells=y.cells):x=y:=by
 cases x; cases y; simp only [aw.cells] at h; simp at h; obtain⟨rfl,rfl⟩:=h; rfl
theorem ax.inj (x y:ax) (h:x.cells=y.cells):x=y:=by
 cases x; cases y; simp only [ax.cells] at h; simp at h; obtain⟨rfl,rfl,rfl,rfl⟩:=h; rfl
theorem aA.inj (x y:aA) (h:x.cells=y.cells):x=y:=by
 cases x; cases y; simp only [aA.cells] at h; simp at h; obtain⟨rfl,rfl,rfl,rfl,rfl⟩:=h; rfl
theorem aF.inj (x y:aF) (h:x.cells=y.cells):x=y:=by
 cases x; cases y; simp only [aF.cells] at h; simp at h; obtain⟨rfl,rfl⟩:=h; rfl
theorem am.inj (x y:am) (h:x.cells=y.cells):x=y:=by
 cases x; cases y; simp only [am.cells] at h; simp at h; obtain⟨rfl,rfl,rfl,rfl,rfl,rfl,rfl,rfl,rfl⟩:=h; rfl
theorem IG {D d:Nat}{y x:am} (hx:bC D (d + 1) x) (h:mS D (d + 1) y x):∃(la:Option (List ax)) (lw:Option (List aw)) (lr:Option (List aA)) (lk:Option (List am)) (li:Option (List aF)) (pt:aF→Option (List aw)) (bd:aF→Option (List am)) (la':Option (List ax)) (lw':Option (List aw)) (lr':Option (List aA)) (lk':Option (List am)) (li':Option (List aF)) (pt':aF→Option (List aw)) (bd':aF→Option (List am)),Hr D d x la lw lr lk li pt bd∧y.assigns=aK 99 ax.cells la'∧y.words=aK 97 aw.cells lw'∧y.redirs=aK 124 aA.cells lr'∧y.kids=aK 69 am.cells lk'∧y.items=aK 129 aF.cells li'∧
  (∀it∈li'.getD [],it.pats=aK 97 aw.cells (pt' it))∧(∀it∈li'.getD [],it.body=aK 69 am.cells (bd' it))∧
  eb (NU D) (la'.getD []) (la.getD [])∧eb (uw D) (lw'.getD []) (lw.getD [])∧eb (Lm D) (lr'.getD []) (lr.getD [])∧eb (mS D d) (lk'.getD []) (lk.getD [])∧
  eb (fun j i=>eb (uw D) ((pt' j).getD []) ((pt i).getD [])∧eb (mS D d) ((bd' j).getD []) ((bd i).getD [])) (li'.getD []) (li.getD []):=by
 obtain⟨la,lw,lr,lk,li,pt,bd,hd⟩:=hx.dec;obtain⟨_,h1,h2,h3,h4,h5⟩:=h;obtain⟨la',a1,a2⟩:=h1.lists ax.inj ax.len hd.a;obtain⟨lw',w1,w2⟩:=h2.lists aw.inj aw.len hd.w;obtain⟨lr',r1,r2⟩:=h3.lists aA.inj aA.len hd.r;obtain⟨lk',k1,k2⟩:=h4.lists am.inj am.len hd.k;obtain⟨li',i1,i2⟩:=h5.lists aF.inj aF.len hd.i;have hp:∀it:aF,∃l:Option (List aw),it∈li'.getD []→it.pats=aK 97 aw.cells l:=fun it=>by
  by_cases hi:it∈li'.getD []
  ·obtain⟨y,_,hq,_⟩:=i2.mem it hi;obtain⟨m,hm⟩:=hq.sl;exact⟨m,fun _=>hm⟩
  ·exact⟨none,fun hh=>absurd hh hi⟩
 have hb:∀it:aF,∃l:Option (List am),it∈li'.getD []→it.body=aK 69 am.cells l:=fun it=>by
  by_cases hi:it∈li'.getD []
  ·obtain⟨y,_,_,hq⟩:=i2.mem it hi;obtain⟨m,hm⟩:=hq.sl;exact⟨m,fun _=>hm⟩
  ·exact⟨none,fun hh=>absurd hh hi⟩
 obtain⟨pt',hpt'⟩:=Classical.axiomOfChoice hp;obtain⟨bd',hbd'⟩:=Classical.axiomOfChoice hb;refine⟨la,lw,lr,lk,li,pt,bd,la',lw',lr',lk',li',pt',bd',hd,a1,w1,r1,k1,i1,hpt',hbd',a2,w2,r2,k2,?_⟩;refine .of_get i2.len fun n j i hj hi=>?_;obtain⟨q1,q2⟩:=i2.get n j i hj hi;have mj:=List.mem_of_getElem? hj;have mi:=List.mem_of_getElem? hi;obtain⟨m1,e1,e2⟩:=q1.lists aw.inj aw.len (hd.hpt i mi);obtain⟨m2,e3,e4⟩:=q2.lists am.inj am.len (hd.hbd i mi);obtain rfl:m1=pt' j:=eF aw.inj aw.len (e1.symm.trans (hpt' j mj));obtain rfl:m2=bd' j:=eF am.inj am.len (e3.symm.trans (hbd' j mj));exact⟨e2,e4⟩
theorem eb.mono {α β:Type}{Q R:α→β→Prop} (hq:∀x y,Q x y→R x y) {l:List α}{m:List β} (h:eb Q l m):eb R l m:=by
 induction h with
 | nil=>exact .nil
 | cons x y l m h _ ih=>exact .cons _ _ _ _ (hq _ _ h) ih
theorem eb.map_eq {α β γ:Type}{Q:α→β→Prop}{f:α→γ}{g:β→γ} (hq:∀x y,Q x y→f x=g y) {l:List α}{m:List β} (h:eb Q l m):l.map f=m.map g:=by
 induction h with
 | nil=>rfl
 | cons x y l m h _ ih=>rw [List.map_cons,List.map_cons,hq _ _ h,ih]
theorem Hr.kidsBulk {D d:Nat}{x:am}{la:Option (List ax)}{lw:Option (List aw)}{lr:Option (List aA)}{lk:Option (List am)}{li:Option (List aF)}{pt:aF→Option (List aw)}{bd:aF→Option (List am)} (h:Hr D d x la lw lr lk li pt bd) :
  1 + (la.getD []).length + (lr.getD []).length + (eC (la.getD []) (lw.getD []) (lr.getD []) (li.getD []) pt).length + aM ((iM (lk.getD []) (li.getD []) bd).flatMap am.cells)≤aM x.cells:=by
 simp only [am.cells,ch,ck,h.a,h.w,h.r,h.k,h.i];have l2:∀{α:Type}{e:Nat}{c:α→List PV} (hc:∀x,2≤(c x).length) (l:Option (List α)),2 * (l.getD []).length + 1≤(aK e c l).bulk:=fun {α e c} hc l=>by
  rw [← dB];have h:=sB ((l.getD []).flatMap c);have:∀m:List α,2 * m.length≤(m.flatMap c).length:=by
   intro m
   induction m with
   | nil=>simp
   | cons a m ih=>have:=hc a; simp only [List.flatMap_cons,List.length_append,List.length_cons]; omega
  have:=this (l.getD []);omega
 have hA:=l2 (e:=99) (c:=ax.cells) (fun y=>by rw [ax.len]; omega) la;have hW:=gY (e:=97) (c:=aw.cells) (fun y=>by rw [aw.len]; omega) lw;have hR:=l2 (e:=124) (c:=aA.cells) (fun y=>by rw [aA.len]; omega) lr;have hK2:=dB 69 am.cells lk;have hI2:=dB 129 aF.cells li;have hic:∀it∈li.getD [],aM it.cells=(aK 97 aw.cells (pt it)).bulk + (aK 69 am.cells (bd it)).bulk:=fun it hi=>by
  simp only [aF.cells,ch,ck,h.hpt it hi,h.hbd it hi,Nat.add_zero]
 have key:∀l:List aF,(∀it∈l,aM it.cells=(aK 97 aw.cells (pt it)).bulk + (aK 69 am.cells (bd it)).bulk)→(l.flatMap fun it=>(pt it).getD []).length + aM ((l.flatMap fun it=>(bd it).getD []).flatMap am.cells)≤aM (l.flatMap aF.cells):=by
  intro l
  induction l with
  | nil=>intro _; simp [ck]
  | cons it l ih=>
   intro hh;have h1:=hh it List.mem_cons_self;have h2:=ih fun z hz=>hh z (List.mem_cons_of_mem _ hz);have h3:=gY (e:=97) (c:=aw.cells) (fun y=>by rw [aw.len]; omega) (pt it);have h4:=dB 69 am.cells (bd it);simp only [List.flatMap_cons,iL,List.length_append,List.flatMap_append];omega
 have hk:=key (li.getD []) hic;simp only [eC,iM,List.length_append,List.length_map,List.flatMap_append,iL];omega
end Go.Proofs.YtgkggocjoolciaaGreatDoor
namespace Go.Proofs.YtgkggocjoolciaaGreatDoor
open Go Go.EvL Go.PE Go.Mir
variable {ext:aq}
theorem dk (k:Int) (s:PS):Pc ext 107 [.sc (.int .i64 k)] (.sc (.bool (mU k))) s:=by
 refine q1 PM 2 ?_;unfold PM mU;cases c1:decide (8≤k) with
 | false=>exact aX c1
 | true=>exact aX c1
theorem lC (k:Int) (s:PS):Pc ext 234 [.sc (.int .i64 k)] (.sc (.bool (wy k))) s:=by
 refine q1 Q0 2 ?_;unfold Q0 wy;cases c1:k == 1 with
 | true=>exact aX c1
 | false=>
  cases c2:mU k with
  | true=>exact lR c1 @dk c2
  | false=>exact lR c1 @dk c2
theorem vW (k:Int) (s:PS):Pc ext 236 [.sc (.int .i64 k)] (.sc (.bool (uM k))) s:=by
 refine q1 RR 2 ?_;unfold RR uM;cases c1:wy k with
 | true=>exact l9 @lC c1
 | false=>
  cases c2:k == 2 with
  | true=>exact lR @lC c1 c2
  | false=>exact lR @lC c1 c2
theorem qR (k:Int) (s:PS):Pc ext 235 [.sc (.int .i64 k)] (.sc (.bool (Et k))) s:=by
 refine q1 Qj 2 ?_;unfold Qj Et;cases c1:uM k with
 | true=>exact l9 @vW c1
 | false=>
  cases c2:k == 4 with
  | true=>exact lR @vW c1 c2
  | false=>exact lR @vW c1 c2
def kinds (l:List am):List Int:=l.map am.kind
theorem CS {xs:List am} (hx:xs.length < 1000000000000) {lo hi:Nat} (hlo:lo < 100) (hhi:hi < 100) (s:PS):∀(k i:Nat) (f:aR),i + k=xs.length→f 0=aK 69 am.cells (some xs)→f 1=iN lo→f 2=iN hi→f 7=iN i→
  Er (fun f' s'=>s'=s∧f' 6=.sc (.bool (((kinds xs).drop i).all (· == 6) && (decide (lo≤xs.length) && decide (xs.length≤hi))))) (LP Tryz.prog Γ ext 0 lZ qu f s):=by
 intro k
 induction k with
 | zero=>
  intro i f hk h0 h1 h2 h7;have e1:decide (i < xs.length)=false:=df;have ha:((kinds xs).drop i).all (· == 6)=true:=by rw [List.drop_eq_nil_of_le (by rw [kinds,List.length_map]; omega)]; rfl
  refine ad fun L hL=>?_;simp only [aK] at h0;cases c1:decide (lo≤xs.length) with
  | false=>exact vY @lZ.eq_1 @qu.eq_1 h0 h1 h7 e1 ha c1
  | true=>exact wF @lZ.eq_1 @qu.eq_1 h0 h1 h2 h7 e1 ha c1
 | succ k ih=>
  intro i f hk h0 h1 h2 h7;have h0':=h0;have hl:i < xs.length:=om;have e1:decide (i < xs.length)=true:=decide_eq_true hl;have hj:xs[i]?=some xs[i]:=List.getElem?_eq_getElem hl;have hfl:=aB am.len xs;obtain⟨rr,hk3⟩:=bU am.len hj;have hd:(kinds xs).drop i=xs[i].kind :: (kinds xs).drop (i + 1):=by
   rw [kinds,← List.map_drop,List.drop_eq_getElem_cons hl,List.map_cons,List.map_drop]
  simp only [aK] at h0;simp only [am.cells,List.cons_append,List.nil_append] at hk3;rw [hd,List.all_cons];refine ad fun L hL=>?_;cases c:xs[i].kind == 6 with
  | false=>exact rG @lZ.eq_1 @qu.eq_1 h0 h7 hl hfl hk3 @au @eB c
  | true=>
   simp -implicitDefEqProofs (disch:=omega) only [ZS,seval,lZ,h0,h7,hl,hfl,hk3,au,bne,c];subst hL;rw [Bool.true_and];exact ih (i + 1) _ om (aX h0) (aX h1) (aX h2) aQ
theorem F7 {y:Option (List am)} (hx:(y.getD []).length < 1000000000000) {lo hi:Nat} (hlo:lo < 100) (hhi:hi < 100) (s:PS):Pc ext 237 [aK 69 am.cells y,iN lo,iN hi] (.sc (.bool (iD (kinds (y.getD [])) lo hi))) s:=by
 refine q1 Ni 6 ?_;have hkl:(kinds (y.getD [])).length=(y.getD []).length:=List.length_map _;rw [iD,hkl];cases y with
 | none=>
  have z0:decide ((0:Int) < 0)=false:=rfl;have z1:decide ((lo:Int)≤0)=decide (lo≤0):=by rw [decide_eq_decide]; omega
  have z2:decide (0≤(hi:Int))=decide (0≤hi):=by rw [decide_eq_decide]; omega
  unfold Ni;refine pJ @cd ?_;refine ad fun L hL=>?_;cases c1:decide (lo≤0) with
  | false=>exact tD @lZ.eq_1 @qu.eq_1 z0 z1 c1 @Option.getD_none.{0} @kinds.eq_1
  | true=>exact vY @lZ.eq_1 @qu.eq_1 z0 z1 z2 c1 @Option.getD_none.{0} @kinds.eq_1
 | some xs=>
  have key:=fun s f h0 h1 h2 h7=>CS (ext:=ext) (xs:=xs) hx hlo hhi s xs.length 0 f (Nat.zero_add _) h0 h1 h2 h7;simp only [List.drop_zero] at key;simp only [Option.getD_some];unfold Ni;refine pJ @cd ?_;exact key _ _ (aX @cd) aQ aQ aQ
def Tq (v:PV):Nat:=match v with
 | .lit _ n _=>n
 | _=>0
theorem Ef {α:Type}{e:Nat}{c:α→List PV} (x:Option (List α)):Tq (aK e c x)=(x.getD []).length:=by cases x<;>rfl
def I4 (p:ar):Bool:=(!p.text.data.toList.isEmpty && bt p.text.data.toList (p.text.data.toList.length - 1) == 10) && p.op == 0 && !p.colon && Tq p.parts == 0
def vQ (l:List ar) (b:Bool):Bool:=match l with
 | [p]=>if p.kind == 2 then I4 p else b
 | _=>b
theorem Ig {y:Option (List ar)}{b:Bool}{T:ByteArray} (hy:(y.getD []).length < 1000000000000) (hp:∀p∈y.getD [],p.text.data.toList.length < 1000000000000∧∃z:Option (List ar),p.parts=aK 150 ar.cells z)
  (hs:∀s,Pc ext 251 [aK 150 ar.cells y] (.tup [.sc (.string T),.sc (.bool b)]) s) (s:PS) :
  Pc ext 239 [aK 150 ar.cells y] (.sc (.bool (vQ (y.getD []) b))) s:=by
 refine q1 QT 2 ?_;have hlen:=bE (e:=150) (c:=ar.cells) y;unfold QT
 match y,hy,hp,hs,hlen with
 | none,hy,hp,hs,hlen=>
  have z0:((0:Int) == 1)=false:=rfl;simp only [aK] at hs ⊢;refine BW hs z0 ?_;rfl
 | some [],hy,hp,hs,hlen=>
  have z0:(((0:Nat):Int) == 1)=false:=rfl;simp only [aK,List.length_nil] at hs ⊢;refine BW hs z0 ?_;rfl
 | some (p :: q :: r),hy,hp,hs,hlen=>
  have z0:(r.length + 1 + 1 == 1)=false:=by simp
  simp only [aK,List.length_cons] at hs ⊢;refine BW hs z0 ?_;rfl
 | some [p],hy,hp,hs,hlen=>
  obtain⟨k,t,o,c,v⟩:=p;obtain⟨ht,z,rfl⟩:=hp _ (List.mem_cons_self ..);simp only at ht;have hz:=bE (e:=150) (c:=ar.cells) z;rw [← Ef (e:=150) (c:=ar.cells)] at hz;have z0:(((1:Nat):Int) == 1)=true:=rfl;generalize aK 150 ar.cells z=v at hz hs hlen ⊢;simp only [aK,Option.getD_some,List.flatMap_cons,List.flatMap_nil,List.append_nil,ar.cells,List.length_cons,List.length_nil,Nat.zero_add] at hs hlen ⊢;simp only [vQ,I4];cases c0:k == 2 with
  | false=>exact tg hs z0 c0 @Nat.zero_mul @au
  | true=>
   cases c1:t.data.toList.isEmpty with
   | true=>exact jK z0 c0 @Nat.zero_mul @au @aV c1
   | false=>
    have hl0 : 0 < t.data.toList.length:=by
     cases h:t.data.toList with
     | nil=>rw [h] at c1; cases c1
     | cons x l=>exact Nat.succ_pos _
    have hl1:t.data.toList.length - 1 < t.data.toList.length:=om;cases c2:bt t.data.toList (t.data.toList.length - 1) == 10 with
    | false=>exact wF hlen z0 c0 @Nat.zero_mul @au @aV c1 c2 hl1
    | true=>
     cases c3:o == 0 with
     | false=>exact rG hlen z0 c0 @Nat.zero_mul @au @aV c1 c2 c3 hl1
     | true=>
      cases c with
      | true=>exact wF z0 c0 @Nat.zero_mul @au @aV c1 c2 c3 hl1
      | false=>exact nq hlen z0 c0 @Nat.zero_mul @au @aV c1 c2 c3 hl1 hz tv
def Aa (okW okH:PV→Bool) (r:aA):Bool:=!(decide (r.fd < 0) || decide (2147483647 < r.fd) || decide (r.op < 1) || decide (8 < r.op)) && (if r.op == 8 then okH r.parts else okW r.parts)
theorem HI {xs:List aA}{okW okH:PV→Bool} (hx:xs.length < 1000000000000) (ho:∀x∈xs,cL x.parts=true∧az x.parts=[x.parts]) (hw:∀x∈xs,∀s,Pc ext 238 [.agg [.sc (.int .i64 x.tpos),x.parts]] (.sc (.bool (okW x.parts))) s)
  (hh:∀x∈xs,∀s,Pc ext 239 [x.parts] (.sc (.bool (okH x.parts))) s) (n0:Nat):∀(k i:Nat) (f:aR) (s:PS),i + k=xs.length→(n0≤s.w∧n0≤s.n)→f 0=aK 124 aA.cells (some xs)→f 3=iN i→
  Er (fun f' s'=>n0≤s'.w∧f' 2=.sc (.bool ((xs.drop i).all (Aa okW okH)))) (LP Tryz.prog Γ ext 0 ji ll f s):=by
 intro k
 induction k with
 | zero=>
  intro i f s hk hn h0 h3;have e1:decide (i < xs.length)=false:=df;have ha:(xs.drop i).all (Aa okW okH)=true:=by rw [List.drop_eq_nil_of_le om]; rfl
  refine ad fun L hL=>?_;simp only [aK] at h0;refine u0 @ji.eq_1 @ll.eq_1 h0 h3 e1 ha ?_;exact hn.1
 | succ k ih=>
  intro i f s hk hn h0 h3;have hl:i < xs.length:=om;have e1:decide (i < xs.length)=true:=decide_eq_true hl;have hj:xs[i]?=some xs[i]:=List.getElem?_eq_getElem hl;have hfl:=aB aA.len xs;have hk3:=kB aA.len hj;obtain⟨ov,cv⟩:=ho _ (List.getElem_mem hl);have hw1:=hw _ (List.getElem_mem hl);have hh1:=hh _ (List.getElem_mem hl);rw [List.drop_eq_getElem_cons hl,List.all_cons];have hgo:=ih (i + 1);generalize hxi:xs[i]=x at *;obtain⟨p,fd,op,tp,v⟩:=x;simp only at ov cv hw1 hh1;simp only [aA.cells] at hk3;simp only [aK] at h0;simp only [Aa];refine ad fun L hL=>?_;cases c1:decide (fd < 0) with
  | true=>simp -implicitDefEqProofs (disch:=omega) only [ZS,seval,ZX,ji,ll,h0,h3,hl,hfl,hk3,ov,aS,aE,c1]; first | omega | exact hn.1
  | false=>
  cases c2:decide (2147483647 < fd) with
  | true=>exact nq @ji.eq_1 @ll.eq_1 h0 h3 hl hfl hk3 ov @aS @aE c1 c2
  | false=>
  cases c3:decide (op < 1) with
  | true=>exact qB @ji.eq_1 @ll.eq_1 h0 h3 hl hfl hk3 ov @aS @aE c1 c2 c3 tv
  | false=>
  cases c4:decide (8 < op) with
  | true=>exact qB @ji.eq_1 @ll.eq_1 h0 h3 hl hfl hk3 ov @aS @aE c1 c2 c3 c4
  | false=>
  cases c5:op == 8 with
  | true=>
   cases c6:okH v with
   | false=>
    rw [c6] at hh1;exact vj @ji.eq_1 @ll.eq_1 h0 h3 hl hfl hk3 ov @aS @aE c1 c2 c3 c4 c5 hh1
   | true=>
    rw [c6] at hh1;refine ya @ji.eq_1 h0 h3 hl hfl hk3 ov @aS @aE @eB c1 c2 c3 c4 c5 hh1 ?_;subst hL;exact hgo _ _ om aQ (aX h0) aQ
  | false=>
   cases c6:okW v with
   | false=>
    rw [c6] at hw1;exact sV @ji.eq_1 @ll.eq_1 h0 h3 hl hfl hk3 ov @aS @aE @eB c1 c2 c3 c4 c5 hw1 tv tv
   | true=>
    rw [c6] at hw1;refine ya @ji.eq_1 h0 h3 hl hfl hk3 ov @aS @aE @eB c1 c2 c3 c4 c5 hw1 ?_;subst hL;exact hgo _ _ om aQ (aX h0) aQ
theorem Hy {y:Option (List aA)}{okW okH:PV→Bool} (hx:(y.getD []).length < 1000000000000) (ho:∀x∈y.getD [],cL x.parts=true∧az x.parts=[x.parts]) (hw:∀x∈y.getD [],∀s,Pc ext 238 [.agg [.sc (.int .i64 x.tpos),x.parts]] (.sc (.bool (okW x.parts))) s)
  (hh:∀x∈y.getD [],∀s,Pc ext 239 [x.parts] (.sc (.bool (okH x.parts))) s) (s:PS):Pc ext 216 [aK 124 aA.cells y] (.sc (.bool ((y.getD []).all (Aa okW okH)))) s:=by
 refine mq Lc 2 ?_;cases y with
 | none=>
  have z0:decide ((0:Int) < 0)=false:=rfl;unfold Lc;refine pJ @cd ?_;refine ad fun L hL=>?_;refine P7 @ji.eq_1 @ll.eq_1 z0 ?_
  first | done | exact⟨Nat.le_refl _,rfl⟩ | rfl
 | some xs=>
  unfold Lc;refine pJ @cd ?_;exact HI (xs:=xs) hx ho hw hh s.n xs.length 0 _ _ (Nat.zero_add _) ⟨aQ,aQ⟩ (aX @cd) aQ
def rU (okW:PV→Bool) (pt:aF→Option (List aw)) (bd:aF→Option (List am)) (it:aF):Bool:=!((pt it).getD []).isEmpty && ((pt it).getD []).all (fun w=>okW w.parts) && iD (kinds ((bd it).getD [])) 0 1
theorem GQ {xs:List aF}{okW:PV→Bool}{pt:aF→Option (List aw)}{bd:aF→Option (List am)} (hx:xs.length < 1000000000000) (hp:∀it∈xs,it.pats=aK 97 aw.cells (pt it)) (hb:∀it∈xs,it.body=aK 69 am.cells (bd it))
  (hw:∀it∈xs,∀s,Pc ext 215 [it.pats] (.sc (.bool (((pt it).getD []).all fun w=>okW w.parts))) s) (hh:∀it∈xs,∀s,Pc ext 237 [it.body,.sc (.int .i64 0),.sc (.int .i64 1)] (.sc (.bool (iD (kinds ((bd it).getD [])) 0 1))) s) (s:PS) :
  ∀(k i:Nat) (f:aR),i + k=xs.length→f 0=aK 129 aF.cells (some xs)→f 3=iN i→Er (fun f' s'=>s'=s∧f' 2=.sc (.bool ((xs.drop i).all (rU okW pt bd)))) (LP Tryz.prog Γ ext 0 mI qD f s):=by
 intro k
 induction k with
 | zero=>
  intro i f hk h0 h3;have e1:decide (i < xs.length)=false:=df;have ha:(xs.drop i).all (rU okW pt bd)=true:=by rw [List.drop_eq_nil_of_le om]; rfl
  refine ad fun L hL=>?_;simp only [aK] at h0;exact tD @mI.eq_1 @qD.eq_1 h0 h3 e1 @nG ha
 | succ k ih=>
  intro i f hk h0 h3;have hl:i < xs.length:=om;have e1:decide (i < xs.length)=true:=decide_eq_true hl;have hj:xs[i]?=some xs[i]:=List.getElem?_eq_getElem hl;have hfl:=aB aF.len xs;obtain⟨rr,hk3⟩:=bU aF.len hj;have hp1:=bE (e:=97) (c:=aw.cells) (pt xs[i]);rw [← hp _ (List.getElem_mem hl)] at hp1;have hcp:az xs[i].pats=[xs[i].pats]:=by rw [hp _ (List.getElem_mem hl)]; cases pt xs[i]<;>rfl
  have hcb:az xs[i].body=[xs[i].body]:=by rw [hb _ (List.getElem_mem hl)]; cases bd xs[i]<;>rfl
  have hw1:=hw _ (List.getElem_mem hl);have hh1:=hh _ (List.getElem_mem hl);have he:((pt xs[i]).getD []).isEmpty=(((pt xs[i]).getD []).length == 0):=by cases (pt xs[i]).getD []<;>rfl
  rw [List.drop_eq_getElem_cons hl,List.all_cons];simp only [aK] at h0;simp only [aF.cells,List.cons_append,List.nil_append] at hk3;simp only [rU,he];have hgo:=ih (i + 1)
  try simp only [rU,he] at hgo
  generalize ((pt xs[i]).getD []).length=m at hp1 hgo ⊢;refine ad fun L hL=>?_;cases c1:m == 0 with
  | true=>exact nq @mI.eq_1 @qD.eq_1 h0 h3 hl @nG hfl hk3 @au hp1 c1 tv
  | false=>
  cases c2:((pt xs[i]).getD []).all fun w=>okW w.parts with
  | false=>
   rw [c2] at hw1;exact nq @mI.eq_1 @qD.eq_1 h0 h3 hl @nG hfl hk3 @au hp1 c1 hw1
  | true=>
  rw [c2] at hw1;cases c3:iD (kinds ((bd xs[i]).getD [])) 0 1 with
  | false=>
   rw [c3] at hh1;exact qB @mI.eq_1 @qD.eq_1 h0 h3 hl @nG hfl hk3 @au hp1 c1 hw1 hh1 tv
  | true=>
   rw [c3] at hh1;refine mT @mI.eq_1 h0 h3 hl @nG hfl hk3 @au hp1 c1 hw1 hh1 ?_;subst hL;exact hgo _ om (aX h0) aQ
theorem LF {y:Option (List aF)}{okW:PV→Bool}{pt:aF→Option (List aw)}{bd:aF→Option (List am)} (hx:(y.getD []).length < 1000000000000) (hp:∀it∈y.getD [],it.pats=aK 97 aw.cells (pt it)) (hb:∀it∈y.getD [],it.body=aK 69 am.cells (bd it))
  (hw:∀it∈y.getD [],∀w∈(pt it).getD [],∀s,Pc ext 238 [.agg w.cells] (.sc (.bool (okW w.parts))) s) (hl:∀it∈y.getD [],((pt it).getD []).length < 1000000000000∧((bd it).getD []).length < 1000000000000) (s:PS) :
  Pc ext 217 [aK 129 aF.cells y] (.sc (.bool ((y.getD []).all (rU okW pt bd)))) s:=by
 refine q1 Mn 2 ?_;cases y with
 | none=>
  have z0:decide ((0:Int) < 0)=false:=rfl;unfold Mn;refine pJ @cd ?_;refine ad fun L hL=>?_;refine P7 @mI.eq_1 @qD.eq_1 z0 ?_;rfl
 | some xs=>
  unfold Mn;refine pJ @cd ?_;refine GQ (xs:=xs) hx hp hb (fun it h s=>?_) (fun it h s=>?_) _ xs.length 0 _ (Nat.zero_add _) (aX @cd) aQ
  ·rw [hp it h];exact JF (hl it h).1 (hw it h) s
  ·rw [hb it h];exact F7 (lo:=0) (hi:=1) (hl it h).2 om om s
def AU (k e:Int):Bool:=!((k == 2 && !wy e) || (k == 6 && !Et e && !(e == 7)))
theorem Jh {x:am}{xs:List am} (hx:xs.length < 1000000000000) {b n0:Nat}{s:PS} (hn:n0≤s.w) (hb:s.h b=⟨x.cells,0,69⟩):∀(k i:Nat) (f:aR),i + k=xs.length→f 1=.ptr b 0 9→f 3=aK 69 am.cells (some xs)→f 4=iN i→
  Er (fun f' s'=>n0≤s'.w∧f' 2=.sc (.bool (((kinds xs).drop i).all (AU x.kind) && (x.kind == 2 && decide (2≤xs.length) || x.kind == 6 && decide (1≤xs.length))))) (LP Tryz.prog Γ ext 1 i6 kx f s):=by
 obtain⟨K,p,nm,al,aa,ws,rs,v,is⟩:=x;simp only [am.cells] at hb;intro k
 induction k with
 | zero=>
  intro i f hk h1 h3 h4;have e1:decide (i < xs.length)=false:=df;have ha:((kinds xs).drop i).all (AU K)=true:=by rw [List.drop_eq_nil_of_le (by rw [kinds,List.length_map]; omega)]; rfl
  refine ad fun L hL=>?_;simp only [aK] at h3;cases c1:K == 2 with
  | true=>
   have c2:(K == 6)=false:=by rw [eq_of_beq c1]; rfl
   cases c3:decide (2≤xs.length) with
   | true=>exact mT @i6.eq_1 @kx.eq_1 h1 h3 h4 hb e1 ha c1 c2 c3 tv hn
   | false=>exact mT @i6.eq_1 @kx.eq_1 h1 h3 h4 hb e1 ha c1 c2 c3 tv hn
  | false=>
   cases c2:K == 6 with
   | true=>exact wA @i6.eq_1 @kx.eq_1 h1 h3 h4 hb e1 ha c1 c2 hn
   | false=>exact wA @i6.eq_1 @kx.eq_1 h1 h3 h4 hb e1 ha c1 c2 hn
 | succ k ih=>
  intro i f hk h1 h3 h4;have hl:i < xs.length:=om;have e1:decide (i < xs.length)=true:=decide_eq_true hl;have hj:xs[i]?=some xs[i]:=List.getElem?_eq_getElem hl;have hfl:=aB am.len xs;obtain⟨rr,hk3⟩:=bU am.len hj;have hd:(kinds xs).drop i=xs[i].kind :: (kinds xs).drop (i + 1):=by
   rw [kinds,← List.map_drop,List.drop_eq_getElem_cons hl,List.map_cons,List.map_drop]
  simp only [aK] at h3;simp only [am.cells,List.cons_append,List.nil_append] at hk3;rw [hd,List.all_cons];have hgo:=ih (i + 1);generalize xs[i].kind=e at hk3 ⊢;simp only [AU];simp only [] at hgo;refine ad fun L hL=>?_;cases c1:K == 2 with
  | true=>
   have c2:(K == 6)=false:=by rw [eq_of_beq c1]; rfl
   simp only [c1,c2] at hgo ⊢;cases c3:wy e with
   | false=>exact pK @i6.eq_1 @kx.eq_1 h1 h3 h4 hb hl hfl hk3 @au @lC c1 c3 tv hn
   | true=>
    refine pK @i6.eq_1 h1 h3 h4 hb hl hfl hk3 @au @lC c1 c2 c3 tv ?_;subst hL;exact (hgo _ om (aX h1) (aX h3) aQ).mono (fun f' s' h=>by simpa only [Bool.true_and,Bool.false_and,Bool.true_or,Bool.not_true,Bool.not_false,Bool.or_false,Bool.and_false] using h)
  | false=>
   simp only [c1] at hgo ⊢;cases c2:K == 6 with
   | true=>
    simp only [c2] at hgo ⊢;cases c3:Et e with
    | true=>
     refine pK @i6.eq_1 h1 h3 h4 hb hl hfl hk3 @au @qR c1 c2 c3 tv ?_;subst hL;exact (hgo _ om (aX h1) (aX h3) aQ).mono (fun f' s' h=>by simpa only [Bool.true_and,Bool.false_and,Bool.true_or,Bool.not_true,Bool.not_false,Bool.or_false,Bool.and_false,Bool.false_or] using h)
    | false=>
     cases c4:e == 7 with
     | false=>exact ya @i6.eq_1 @kx.eq_1 h1 h3 h4 hb hl hfl hk3 @au @qR @eB c1 c2 c3 c4 hn
     | true=>
      refine ya @i6.eq_1 h1 h3 h4 hb hl hfl hk3 @au @qR @eB c1 c2 c3 c4 tv ?_;subst hL;exact (hgo _ om (aX h1) (aX h3) aQ).mono (fun f' s' h=>by simpa only [Bool.true_and,Bool.false_and,Bool.true_or,Bool.not_true,Bool.not_false,Bool.or_false,Bool.and_false,Bool.false_or] using h)
   | false=>
    simp only [c2] at hgo ⊢;refine Fe @i6.eq_1 h1 h3 h4 hb hl c1 c2 ?_;subst hL;exact (hgo _ om (aX h1) (aX h3) aQ).mono (fun f' s' h=>by simpa only [Bool.true_and,Bool.false_and,Bool.true_or,Bool.not_true,Bool.not_false,Bool.or_false,Bool.and_false,Bool.false_or] using h)
theorem Pm {x:am}{lk:Option (List am)} (hk:x.kids=aK 69 am.cells lk) (hx:(lk.getD []).length < 1000000000000) (s:PS):Pc ext 214 [.agg x.cells] (.sc (.bool (eQ x.kind (kinds (lk.getD []))))) s:=by
 obtain⟨k,p,nm,al,aa,ws,rs,v,is⟩:=x;simp only at hk;have hlen:=bE (e:=69) (c:=am.cells) lk;have hkl:(kinds (lk.getD [])).length=(lk.getD []).length:=List.length_map _;rw [← hk,← hkl] at hlen;have hcv:az v=[v]:=by rw [hk]; cases lk<;>rfl
 have hL:∀(lo hi:Nat),lo < 100→hi < 100→∀s,Pc ext 237 [v,iN lo,iN hi] (.sc (.bool (iD (kinds (lk.getD [])) lo hi))) s:=fun lo hi h1 h2 s=>by
  rw [hk];exact F7 hx h1 h2 s
 have hL11:∀s,aD Tryz.prog Γ ext 237 [v,.sc (.int .i64 1),.sc (.int .i64 1)] s=_:=hL 1 1 om om;have hL23:∀s,aD Tryz.prog Γ ext 237 [v,.sc (.int .i64 2),.sc (.int .i64 3)] s=_:=hL 2 3 om om;have hL22:∀s,aD Tryz.prog Γ ext 237 [v,.sc (.int .i64 2),.sc (.int .i64 2)] s=_:=hL 2 2 om om;have hK1:(kinds (lk.getD [])).length=1→∃a:am,v=.lit 69 1 a.cells∧kinds (lk.getD [])=[a.kind]:=fun h=>by
  rw [hkl] at h;cases lk with
  | none=>cases h
  | some l=>
   match l,h with
   | [a],_=>exact⟨a,by rw [hk]; simp only [aK,List.flatMap_cons,List.flatMap_nil,List.append_nil]; rfl,rfl⟩
 have hK2:(kinds (lk.getD [])).length=2→∃a b:am,v=.lit 69 2 (a.cells ++ b.cells)∧kinds (lk.getD [])=[a.kind,b.kind]:=fun h=>by
  rw [hkl] at h;cases lk with
  | none=>cases h
  | some l=>
   match l,h with
   | [a,b],_=>exact⟨a,b,by rw [hk]; simp only [aK,List.flatMap_cons,List.flatMap_nil,List.append_nil]; rfl,rfl⟩
 refine mq RH 2 ?_;unfold RH;simp only [am.cells];cases c1:k == 1 with
 | true=>
  have hB:eQ k (kinds (lk.getD []))=((kinds (lk.getD [])).length == 0):=by unfold eQ; simp only [c1,Bool.true_or,if_true]
  simp only [hB];exact l9 hlen c1
 | false=>
 cases c14:k == 14 with
 | true=>
  have hB:eQ k (kinds (lk.getD []))=((kinds (lk.getD [])).length == 0):=by unfold eQ; simp only [c1,c14,Bool.or_true,if_true]
  simp only [hB];exact lR hlen c1 c14
 | false=>
 cases c3:k == 3 with
 | true=>
  have hB:eQ k (kinds (lk.getD []))=((kinds (lk.getD [])).length == 1 && (wy ((kinds (lk.getD [])).getD 0 0) || (kinds (lk.getD [])).getD 0 0 == 2)):=by unfold eQ; simp only [c1,c14,c3,Bool.or_false,if_true,Bool.false_eq_true,if_false]
  simp only [hB];cases d0:(kinds (lk.getD [])).length == 1 with
  | false=>
   exact tg hlen d0 c1 c14 c3
  | true=>
   obtain⟨a,hv,hq⟩:=hK1 (of_decide_eq_true d0);obtain⟨ak,a1,a2,a3,a4,a5,a6,a7,a8⟩:=a;simp only [am.cells] at hv;rw [hq];subst hv;have z1:(((1:Nat):Int) == 1)=true:=rfl;have np1:kH (.sc (.int .i64 1))=some 1:=rfl;simp only [List.getD_cons_zero];cases d1:wy ak with
   | true=>
    cases d2:ak == 2 with
    | true=>
     exact wF z1 @Nat.zero_mul @Nat.one_mul @au @lC d1 c1 c14 c3
    | false=>
     exact wF z1 @Nat.zero_mul @Nat.one_mul @au @lC d1 c1 c14 c3
   | false=>
    cases d2:ak == 2 with
    | true=>
     exact rG z1 @Nat.zero_mul @Nat.one_mul @au @lC d1 d2 c1 c14 c3
    | false=>
     exact rG z1 @Nat.zero_mul @Nat.one_mul @au @lC d1 d2 c1 c14 c3
 | false=>
 cases c4:k == 4 with
 | true=>
  have hB:eQ k (kinds (lk.getD []))=((kinds (lk.getD [])).length == 2 && Et ((kinds (lk.getD [])).getD 0 0) && uM ((kinds (lk.getD [])).getD 1 0)):=by unfold eQ; simp only [c1,c14,c3,c4,Bool.or_false,Bool.true_or,if_true,Bool.false_eq_true,if_false]
  simp only [hB];cases d0:(kinds (lk.getD [])).length == 2 with
  | false=>
   exact jK hlen d0 c1 c14 c3 c4
  | true=>
   obtain⟨a,b,hv,hq⟩:=hK2 (of_decide_eq_true d0);obtain⟨ak,a1,a2,a3,a4,a5,a6,a7,a8⟩:=a;obtain⟨bk,b1,b2,b3,b4,b5,b6,b7,b8⟩:=b;simp only [am.cells,List.cons_append,List.nil_append] at hv;rw [hq];subst hv;have z1:(((2:Nat):Int) == 2)=true:=rfl;have np1:kH (.sc (.int .i64 1))=some 1:=rfl;simp only [List.getD_cons_zero,List.getD_cons_succ];cases d1:Et ak with
   | true=>
    cases d2:uM bk with
    | true=>
     exact qB z1 np1 @Nat.zero_mul @Nat.one_mul @au @qR @vW d1 d2 c1 c14 c3 c4 tv
    | false=>
     exact qB z1 np1 @Nat.zero_mul @Nat.one_mul @au @qR @vW d1 d2 c1 c14 c3 c4 tv
   | false=>
    cases d2:uM bk with
    | true=>
     exact wF z1 @Nat.zero_mul @au @qR d1 c1 c14 c3 c4
    | false=>
     exact wF z1 @Nat.zero_mul @au @qR d1 c1 c14 c3 c4
 | false=>
 cases c5:k == 5 with
 | true=>
  have hB:eQ k (kinds (lk.getD []))=((kinds (lk.getD [])).length == 2 && Et ((kinds (lk.getD [])).getD 0 0) && uM ((kinds (lk.getD [])).getD 1 0)):=by unfold eQ; simp only [c1,c14,c3,c4,c5,Bool.or_false,Bool.or_true,if_true,Bool.false_eq_true,if_false]
  simp only [hB];cases d0:(kinds (lk.getD [])).length == 2 with
  | false=>
   exact tD hlen d0 c1 c14 c3 c4 c5
  | true=>
   obtain⟨a,b,hv,hq⟩:=hK2 (of_decide_eq_true d0);obtain⟨ak,a1,a2,a3,a4,a5,a6,a7,a8⟩:=a;obtain⟨bk,b1,b2,b3,b4,b5,b6,b7,b8⟩:=b;simp only [am.cells,List.cons_append,List.nil_append] at hv;rw [hq];subst hv;have z1:(((2:Nat):Int) == 2)=true:=rfl;have np1:kH (.sc (.int .i64 1))=some 1:=rfl;simp only [List.getD_cons_zero,List.getD_cons_succ];cases d1:Et ak with
   | true=>
    cases d2:uM bk with
    | true=>
     exact qB z1 np1 @Nat.zero_mul @Nat.one_mul @au @qR @vW d1 d2 c1 c14 c3 c4 c5
    | false=>
     exact qB z1 np1 @Nat.zero_mul @Nat.one_mul @au @qR @vW d1 d2 c1 c14 c3 c4 c5
   | false=>
    cases d2:uM bk with
    | true=>
     exact rG z1 @Nat.zero_mul @au @qR d1 c1 c14 c3 c4 c5
    | false=>
     exact rG z1 @Nat.zero_mul @au @qR d1 c1 c14 c3 c4 c5
 | false=>
 cases c7:k == 7 with
 | true=>
  have hB:eQ k (kinds (lk.getD []))=((kinds (lk.getD [])).length == 1 && Et ((kinds (lk.getD [])).getD 0 0)):=by unfold eQ; simp only [c1,c14,c3,c4,c5,c7,Bool.or_false,if_true,Bool.false_eq_true,if_false]
  simp only [hB];cases d0:(kinds (lk.getD [])).length == 1 with
  | false=>
   exact vY hlen d0 c1 c14 c3 c4 c5 c7
  | true=>
   obtain⟨a,hv,hq⟩:=hK1 (of_decide_eq_true d0);obtain⟨ak,a1,a2,a3,a4,a5,a6,a7,a8⟩:=a;simp only [am.cells] at hv;rw [hq];subst hv;have z1:(((1:Nat):Int) == 1)=true:=rfl;have np1:kH (.sc (.int .i64 1))=some 1:=rfl;simp only [List.getD_cons_zero];cases d1:Et ak with
   | true=>
    exact qB z1 @Nat.zero_mul @Nat.one_mul @au @lC @qR d1 c1 c14 c3 c4 c5 c7 tv
   | false=>
    exact qB z1 @Nat.zero_mul @Nat.one_mul @au @lC @qR d1 c1 c14 c3 c4 c5 c7 tv
 | false=>
 cases c8:k == 8 with
 | true=>
  have hB:eQ k (kinds (lk.getD []))=iD (kinds (lk.getD [])) 1 1:=by unfold eQ; simp only [c1,c14,c3,c4,c5,c7,c8,Bool.or_false,Bool.true_or,if_true,Bool.false_eq_true,if_false]
  simp only [hB];exact vY hL11 c1 c14 c3 c4 c5 c7 c8
 | false=>
 cases c9:k == 9 with
 | true=>
  have hB:eQ k (kinds (lk.getD []))=iD (kinds (lk.getD [])) 1 1:=by unfold eQ; simp only [c1,c14,c3,c4,c5,c7,c8,c9,Bool.or_false,Bool.true_or,Bool.or_true,if_true,Bool.false_eq_true,if_false]
  simp only [hB];exact wF hL11 c1 c14 c3 c4 c5 c7 c8 c9
 | false=>
 cases c13:k == 13 with
 | true=>
  have hB:eQ k (kinds (lk.getD []))=iD (kinds (lk.getD [])) 1 1:=by unfold eQ; simp only [c1,c14,c3,c4,c5,c7,c8,c9,c13,Bool.or_false,Bool.or_true,if_true,Bool.false_eq_true,if_false]
  simp only [hB];exact rG hL11 c1 c14 c3 c4 c5 c7 c8 c9 c13
 | false=>
 cases c10:k == 10 with
 | true=>
  have hB:eQ k (kinds (lk.getD []))=iD (kinds (lk.getD [])) 2 3:=by unfold eQ; simp only [c1,c14,c3,c4,c5,c7,c8,c9,c13,c10,Bool.or_false,if_true,Bool.false_eq_true,if_false]
  simp only [hB];exact nq hL23 c1 c14 c3 c4 c5 c7 c8 c9 c13 c10 tv
 | false=>
 cases c11:k == 11 with
 | true=>
  have hB:eQ k (kinds (lk.getD []))=iD (kinds (lk.getD [])) 2 2:=by unfold eQ; simp only [c1,c14,c3,c4,c5,c7,c8,c9,c13,c10,c11,Bool.or_false,Bool.true_or,if_true,Bool.false_eq_true,if_false]
  simp only [hB];exact nq hL22 c1 c14 c3 c4 c5 c7 c8 c9 c13 c10 c11
 | false=>
 cases c12:k == 12 with
 | true=>
  have hB:eQ k (kinds (lk.getD []))=iD (kinds (lk.getD [])) 2 2:=by unfold eQ; simp only [c1,c14,c3,c4,c5,c7,c8,c9,c13,c10,c11,c12,Bool.or_false,Bool.or_true,if_true,Bool.false_eq_true,if_false]
  simp only [hB];exact qB hL22 c1 c14 c3 c4 c5 c7 c8 c9 c13 c10 c11 c12 tv
 | false=>
 cases c15:k == 15 with
 | true=>
  have hB:eQ k (kinds (lk.getD []))=((kinds (lk.getD [])).length == 1 && mU ((kinds (lk.getD [])).getD 0 0)):=by unfold eQ; simp only [c1,c14,c3,c4,c5,c7,c8,c9,c13,c10,c11,c12,c15,Bool.or_false,if_true,Bool.false_eq_true,if_false]
  simp only [hB];cases d0:(kinds (lk.getD [])).length == 1 with
  | false=>
   exact vj hlen d0 c1 c14 c3 c4 c5 c7 c8 c9 c13 c10 c11 c12 c15 tv
  | true=>
   obtain⟨a,hv,hq⟩:=hK1 (of_decide_eq_true d0);obtain⟨ak,a1,a2,a3,a4,a5,a6,a7,a8⟩:=a;simp only [am.cells] at hv;rw [hq];subst hv;have z1:(((1:Nat):Int) == 1)=true:=rfl;have np1:kH (.sc (.int .i64 1))=some 1:=rfl;simp only [List.getD_cons_zero];cases d1:mU ak with
   | true=>
    exact kG z1 @Nat.zero_mul @Nat.one_mul @au @lC @qR @dk d1 c1 c14 c3 c4 c5 c7 c8 c9 c13 c10 c11 c12 c15 tv
   | false=>
    exact kG z1 @Nat.zero_mul @Nat.one_mul @au @lC @qR @dk d1 c1 c14 c3 c4 c5 c7 c8 c9 c13 c10 c11 c12 c15 tv
 | false=>
 have hB:eQ k (kinds (lk.getD []))=((kinds (lk.getD [])).all (AU k) && (k == 2 && decide (2≤(kinds (lk.getD [])).length) || k == 6 && decide (1≤(kinds (lk.getD [])).length))):=by
  unfold eQ;simp only [c1,c14,c3,c4,c5,c7,c8,c9,c13,c10,c11,c12,c15,Bool.or_false,Bool.false_eq_true,if_false];have hst:AU k=fun e=>!((k == 2 && !wy e) || (k == 6 && !Et e && !(e == 7))):=rfl;cases d2:k == 2 with
  | true=>
   have d6:(k == 6)=false:=by rw [eq_of_beq d2]; rfl
   simp only [hst,d2,d6,if_true,Bool.true_and,Bool.false_and,Bool.or_false,Bool.not_not]
   all_goals rfl
  | false=>
   cases d6:k == 6 with
   | true=>
    simp only [hst,d2,d6,if_true,Bool.true_and,Bool.false_and,Bool.false_or,Bool.not_and,Bool.not_not,Bool.false_eq_true,if_false]
   | false=>simp only [hst,d2,d6,Bool.false_and,Bool.or_false,Bool.and_false,Bool.false_eq_true,if_false]
 simp only [hB];cases lk with
 | none=>
  have z0:decide ((0:Int) < 0)=false:=rfl;have z1:decide (2≤(0:Int))=false:=rfl;have z2:decide (1≤(0:Int))=false:=rfl;simp only [aK] at hk;subst hk;refine pK c1 c14 c3 c4 c5 c7 c8 c9 c13 c10 c11 c12 c15 tv ?_;refine ad fun L hL=>?_;cases d2:k == 2 with
  | true=>
   have d6:(k == 6)=false:=by rw [eq_of_beq d2]; rfl
   exact vY @i6.eq_1 @kx.eq_1 z0 z1 d2 d6 @Option.getD_none.{0} @kinds.eq_1
  | false=>
   cases d6:k == 6 with
   | true=>exact vY @i6.eq_1 @kx.eq_1 z0 z2 d2 d6 @Option.getD_none.{0} @kinds.eq_1
   | false=>exact tD @i6.eq_1 @kx.eq_1 z0 d2 d6 @Option.getD_none.{0} @kinds.eq_1
 | some xs=>
  simp only [aK] at hk;subst hk;refine pK c1 c14 c3 c4 c5 c7 c8 c9 c13 c10 c11 c12 c15 tv ?_;rw [hkl];exact Jh (x:=⟨k,p,nm,al,aa,ws,rs,.lit 69 xs.length (xs.flatMap am.cells),is⟩) (xs:=xs) hx (b:=s.n) (n0:=s.n) aQ (aX @am.cells.eq_1) xs.length 0 _ (Nat.zero_add _) aQ aQ aQ
end Go.Proofs.YtgkggocjoolciaaGreatDoor
namespace Go.PE
open Go Go.EvL
section
variable {P:Program}{Γ:Nat→Option fJ}{ext:aq}
theorem GW {g r r2:Nat}{fn:fJ}{args:List PV}{s:PS}{u v:Value} (hg:Γ g=some fn) (hl:args.length≤fn.nt) (hr:fn.res=[.tmp r,.tmp r2]) (hk:fn.keep=false) (h:Er (fun f' s'=>s.n≤s'.w∧f' r=.sc u∧f' r2=.sc v) (aN P Γ ext fn.body (br args 0) ⟨s.h,s.n,s.n⟩)):aD P Γ ext g args s=some (.tup [.sc u,.sc v],s):=by
 refine ir hg hl h ?_;rintro f s' ⟨hw,h,h2⟩;exact fM (vs:=[.sc u,.sc v]) hk (by rw [hr]; simp only [ii,Option.map_some,h,h2]) hw rfl
end
end Go.PE
namespace Go.Proofs.YtgkggocjoolciaaGreatDoor
open Go Go.EvL Go.PE Go.Mir
variable {ext:aq}
def FD (l:List ar):Bool:=match l with
 | [p]=>p.kind == 1
 | _=>false
def D9 (l:List ar):ByteArray:=match l with
 | [p]=>if p.kind == 1 then p.text else ⟨#[]⟩
 | _=>⟨#[]⟩
def CG (l:List ar):Bool:=match l with
 | p :: _=>p.kind == 1 && decide (0 < Qa p.text.data.toList)
 | _=>false
def gJ (l:List ar):Bool:=!(FD l && lG (D9 l).data.toList || CG l)
theorem Tw {y:Option (List ar)} (u:Value) (s:PS):Pc ext 241 [.agg [.sc u,aK 150 ar.cells y]] (.tup [.sc (.string (D9 (y.getD []))),.sc (.bool (FD (y.getD [])))]) s:=by
 have hc:az (aK 150 ar.cells y)=[aK 150 ar.cells y]:=by cases y<;>rfl
 refine GW (fn:=Nk) (r:=2) (r2:=3) (by rfl) (by simp [Nk]) (by rfl) (by rfl) ?_;unfold Nk
 match y,hc with
 | none,hc=>
  have z0:((0:Int) == 1)=false:=rfl;simp only [aK] at hc ⊢;refine pJ z0 ?_;exact⟨rfl,rfl⟩
 | some [],hc=>
  have z0:(((0:Nat):Int) == 1)=false:=rfl;simp only [aK,List.flatMap_nil] at hc ⊢;refine pJ z0 ?_;exact⟨rfl,rfl⟩
 | some (p :: q :: r),hc=>
  have z0:(r.length + 1 + 1 == 1)=false:=by simp
  simp only [aK] at hc ⊢;refine pJ z0 ?_;exact⟨rfl,rfl⟩
 | some [p],hc=>
  obtain⟨k,t,o,c,v⟩:=p;have z0:(((1:Nat):Int) == 1)=true:=rfl;simp only [aK,List.flatMap_cons,List.flatMap_nil,List.append_nil,ar.cells] at hc ⊢;simp only [Option.getD_some,FD,D9];cases c0:k == 1 with
  | false=>exact nI z0 c0 @Nat.zero_mul @au
  | true=>exact nI z0 c0 @Nat.zero_mul @au
theorem Tl {y:Option (List ar)} (hy:(y.getD []).length < 1000000000000) (ht:∀p∈y.getD [],p.text.data.toList.length < 1000000000000) (u:Value) (s:PS):Pc ext 242 [.agg [.sc u,aK 150 ar.cells y]] (.sc (.bool (CG (y.getD [])))) s:=by
 have hc:az (aK 150 ar.cells y)=[aK 150 ar.cells y]:=by cases y<;>rfl
 refine mq QU 2 ?_;unfold QU
 match y,hc,hy,ht with
 | none,hc,hy,ht=>
  have z0:decide ((0:Int) < 0)=false:=rfl;simp only [aK] at hc ⊢;refine pJ z0 ?_
  first | rfl | exact⟨Nat.le_refl _,rfl⟩
 | some [],hc,hy,ht=>
  have z0:decide ((0:Int) < ((0:Nat):Int))=false:=rfl;simp only [aK,List.flatMap_nil] at hc ⊢;refine pJ z0 ?_
  first | rfl | exact⟨Nat.le_refl _,rfl⟩
 | some (p :: r),hc,hy,ht=>
  obtain⟨k,t,o,c,v⟩:=p;have hA:=fun s=>SI (ext:=ext) (ht _ (List.mem_cons_self ..)) s;have hf:=aB ar.len r;have z0:decide (0 < r.length + 1)=true:=decide_eq_true (Nat.succ_pos _);have hl0 : 0 < r.length + 1:=Nat.succ_pos _;have q5:(r.length * 5 + 1 + 1 + 1 + 1 + 1=(r.length + 1) * 5)=True:=eq_true om;simp only [aK,List.flatMap_cons,ar.cells,List.cons_append,List.nil_append] at hc ⊢;simp only [Option.getD_some,CG];cases c0:k == 1 with
  | false=>exact jK hl0 hf q5 c0 @Nat.zero_mul @au
  | true=>exact tD hl0 hf q5 c0 @Nat.zero_mul @au hA
def mW (l:List aw) (q:aw→Bool):Bool:=match l with
 | []=>true
 | w :: _=>q w
def oH (okV:PV→Bool) (pv:PV→List ar) (x:am) (la:List ax) (lw:List aw) (nr ni:Nat):Bool:=
 (la.all fun a=>fV a.name.data.toList && okV a.parts) && (mW lw (fun w=>gJ (pv w.parts)) && (decide (0 < la.length + lw.length + nr) && x.name.data.toList.isEmpty && !x.all && (ni == 0)))
theorem Oe {x:am}{la:List ax}{okV:PV→Bool}{R:Bool} (hx:la.length < 1000000000000) {b n0:Nat}{s:PS} (hn:n0≤s.w) (hb:s.h b=⟨x.cells,0,69⟩) (ha:x.assigns=aK 99 ax.cells (some la))
  (hv:∀a∈la,∀s,Pc ext 240 [a.parts] (.sc (.int .i64 (if okV a.parts then 0 else 1))) s) (hc:∀a∈la,a.name.data.toList.length < 1000000000000∧az a.parts=[a.parts])
  (hR:∀f,f 1=.ptr b 0 9→Er (fun f' s'=>n0≤s'.w∧f' 2=.sc (.bool R)) (aN Tryz.prog Γ ext vk f s)):∀(k i:Nat) (f:aR),i + k=la.length→f 1=.ptr b 0 9→f 3=iN i→
  Er (fun f' s'=>n0≤s'.w∧f' 2=.sc (.bool (((la.drop i).all fun a=>fV a.name.data.toList && okV a.parts) && R))) (LP Tryz.prog Γ ext 0 nL vk f s):=by
 obtain⟨K,p,nm,al,aa,ws,rs,v,is⟩:=x;simp only at ha;simp only [am.cells] at hb;subst ha;intro k
 induction k with
 | zero=>
  intro i f hk h1 h3;have e1:decide (i < la.length)=false:=df;rw [List.drop_eq_nil_of_le om,List.all_nil,Bool.true_and];have hgo:=hR;refine ad fun L hL=>?_;refine u0 @nL.eq_1 h1 h3 hb @cd e1 ?_;exact hgo _ (aX h1)
 | succ k ih=>
  intro i f hk h1 h3;have hl:i < la.length:=om;have e1:decide (i < la.length)=true:=decide_eq_true hl;have hj:la[i]?=some la[i]:=List.getElem?_eq_getElem hl;have hfl:=aB ax.len la;obtain⟨rr,hk3⟩:=bU ax.len hj;have hv1:=hv _ (List.getElem_mem hl);obtain⟨hc1,hc2⟩:=hc _ (List.getElem_mem hl);have hnm:=fun s=>rS (ext:=ext) (b:=la[i].name) om s;rw [List.drop_eq_getElem_cons hl,List.all_cons];have hgo:=ih (i + 1);simp only [ax.cells,List.cons_append,List.nil_append] at hk3;have z0:((0:Int) == 0)=true:=rfl;have z1:((1:Int) == 0)=false:=rfl;refine ad fun L hL=>?_;cases c1:fV la[i].name.data.toList with
  | false=>exact mT @nL.eq_1 h1 h3 hb @cd hl hfl hk3 @au hnm c1 tv hn
  | true=>
  cases c2:okV la[i].parts with
  | false=>
   rw [c2] at hv1;simp only [Bool.false_eq_true,if_false] at hv1;exact pK @nL.eq_1 h1 h3 hb @cd hl hfl hk3 @au hnm c1 hv1 @eB z1 hn
  | true=>
   rw [c2] at hv1;simp only [if_true] at hv1;refine pK @nL.eq_1 h1 h3 hb @cd hl hfl hk3 @au hnm c1 hv1 @eB tv ?_;subst hL;exact hgo _ om (aX h1) aQ
def Px:aW:=(sr [ob 56 (.faddr 4 (tp 1)),ob 57 (.load 63 false 1 (tp 56)),ob 58 (.len false (tp 57)),ob 59 (.faddr 5 (tp 1)),ob 60 (.load 64 false 1 (tp 59)),ob 61 (.len false (tp 60)),ob 62 (bn .add 3 58 61),ob 63 (.faddr 6 (tp 1)),ob 64 (.load 65 false 1 (tp 63)),ob 65 (.len false (tp 64)),ob 66 (bn .add 3 62 65),ob 67 (bi .gtr 66 0),mt 68 67,og 68 true 69 (.faddr 2 (tp 1)),og 68 true 70 (.load 9 false 1 (tp 69)),og 68 true 71 (.bin .eql 9 (tp 70) (ks #[])),ob 72 (pk 68 71),mt 73 72,og 73 true 74 (.faddr 3 (tp 1)),og 73 true 75 (.load 4 false 1 (tp 74)),og 73 true 76 (.un .not (tp 75)),ob 77 (pk 73 76),mt 78 77,og 78 true 79 (.faddr 8 (tp 1)),og 78 true 80 (.load 67 false 1 (tp 79)),og 78 true 81 (.len false (tp 80)),og 78 true 82 (bi .eql 81 0),ob 83 (pk 78 82),mt 2 83]
 .ret)
theorem Nl:vk=(.seq (t7 [ob 32 (.faddr 5 (tp 1)),ob 33 (.load 64 false 1 (tp 32)),ob 34 (.len false (tp 33)),ob 35 (bi .gtr 34 0)] 35
 (sr [ob 37 (.faddr 5 (tp 1)),ob 38 (.load 64 false 1 (tp 37)),ob 39 (.iaddr 2 (tp 38) (ki 0)),ob 40 (.load 97 true 2 (tp 39)),ob 41 (cl 241 [(tp 40)]),mt 36 41,ob 42 (.ext (tp 36) 0),ob 43 (.ext (tp 36) 1),mt 4 42,mt 5 43]
 (t7 [mt 44 5,mt 45 44,gt 45 true 46 4,og 45 true 47 (cl 110 [(tp 46)]),ob 48 (pk 45 47),mt 49 48,og 49 false 50 (.faddr 5 (tp 1)),og 49 false 51 (.load 64 false 1 (tp 50)),og 49 false 52 (.iaddr 2 (tp 51) (ki 0)),og 49 false 53 (.load 97 true 2 (tp 52)),og 49 false 54 (cl 242 [(tp 53)]),ob 55 (po 49 54)] 55
 (sr [mk 2 (.bool false)]
 .ret)
 .skip))
 .skip) Px):=rfl
theorem G1 {k p:Int}{nm:ByteArray}{al:Bool}{aa ws rs v is:PV}{na nw nr ni:Nat}{lw:List aw}{y:Option (List ar)} (hna:na < 1000000000000) (hnr:nr < 1000000000000) {b n0:Nat}{s:PS} (hn:n0≤s.w) (hb:s.h b=⟨[.sc (.int .i64 k),.sc (.int .i64 p),.sc (.string nm),.sc (.bool al),aa,ws,rs,v,is],0,69⟩)
  (ha:gq false aa=some (iN na)) (hr:gq false rs=some (iN nr)) (hi:gq false is=some (iN ni)) (hw:(nw=0∧gq false ws=some (.sc (.int .i64 0))∧lw=[])∨∃w r,lw=w :: r∧nw=lw.length∧ws=.lit 97 lw.length (lw.flatMap aw.cells)∧w.parts=aK 150 ar.cells y∧(y.getD []).length < 1000000000000∧∀p∈y.getD [],p.text.data.toList.length < 1000000000000) (hnw:nw < 1000000000000) (f:aR) (h1:f 1=.ptr b 0 9) :
  Er (fun f' s'=>n0≤s'.w∧f' 2=.sc (.bool (mW lw (fun _=>gJ (y.getD [])) && (decide (0 < na + nw + nr) && nm.data.toList.isEmpty && !al && (ni == 0))))) (aN Tryz.prog Γ ext vk f s):=by
 have fin:∀{Q:Bool}{f:aR},f 1=.ptr b 0 9→(gq false ws=some (iN nw))→Q=(decide (0 < na + nw + nr) && nm.data.toList.isEmpty && !al && (ni == 0))→Er (fun f' s'=>n0≤s'.w∧f' 2=.sc (.bool Q)) (aN Tryz.prog Γ ext Px f s):=by
  intro Q f h1 hw hQ;subst hQ;unfold Px;cases c1:decide (0 < na + nw + nr) with
  | false=>exact u0 h1 hb ha hr hw c1 hn
  | true=>
  cases c2:nm.data.toList.isEmpty with
  | false=>exact Fe h1 hb ha hr hw c1 @aV c2 hn
  | true=>
  cases al with
  | true=>exact Fe h1 hb ha hr hw c1 @aV c2 hn
  | false=>exact Di h1 hb ha hr hi hw c1 @aV c2 hn
 rw [Nl];rcases hw with ⟨rfl,hw,rfl⟩ | ⟨w,r,rfl,rfl,rfl,hy,hy1,hy2⟩
 ·have z0:decide ((0:Int) < 0)=false:=rfl;refine xz h1 hb hw z0 ?_;refine fin (aX h1) hw ?_;simp only [mW,Bool.true_and,Nat.add_zero]
 ·obtain⟨u,q⟩:=w;simp only at hy;subst hy;have hcq:az (aK 150 ar.cells y)=[aK 150 ar.cells y]:=by cases y<;>rfl
  have hL:=fun s=>Tw (ext:=ext) (y:=y) (.int .i64 u) s;have hA:=fun s=>Tl (ext:=ext) hy1 hy2 (.int .i64 u) s;have hR:=fun s=>vh (ext:=ext) (b:=D9 (y.getD [])) s;have z0:decide (0 < r.length + 1)=true:=decide_eq_true (Nat.succ_pos _);have hl0 : 0 < r.length + 1:=Nat.succ_pos _;have q2:(r.length * 2 + 1 + 1=(r.length + 1) * 2)=True:=eq_true om;have hf:=aB aw.len r;have hfin:=fun f h=>fin (f:=f) (Q:=(decide (0 < na + (r.length + 1) + nr) && nm.data.toList.isEmpty && !al && (ni == 0))) h rfl rfl;simp only [List.flatMap_cons,List.length_cons,aw.cells,List.cons_append,List.nil_append] at hb hfin ⊢;simp only [mW,gJ];generalize aK 150 ar.cells y=q at *;cases c1:FD (y.getD []) with
  | true=>
   rw [c1] at hL;cases c2:lG (D9 (y.getD [])).data.toList with
   | true=>
    rw [c2] at hR;exact Di h1 hb hl0 hf q2 @Nat.zero_mul @au hL hR hn
   | false=>
    rw [c2] at hR;cases c3:CG (y.getD []) with
    | true=>
     rw [c3] at hA;exact wA h1 hb hl0 hf q2 @Nat.zero_mul @au hL hR hA hn
    | false=>
     rw [c3] at hA;refine wA h1 hb hl0 hf q2 @Nat.zero_mul @au hL hR hA ?_;exact hfin _ (aX h1)
  | false=>
   rw [c1] at hL;cases c3:CG (y.getD []) with
   | true=>
    rw [c3] at hA;exact Di h1 hb hl0 hf q2 @Nat.zero_mul @au hL hA hn
   | false=>
    rw [c3] at hA;refine Di h1 hb hl0 hf q2 @Nat.zero_mul @au hL hA ?_;exact hfin _ (aX h1)
end Go.Proofs.YtgkggocjoolciaaGreatDoor
