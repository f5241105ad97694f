/- What functions of the program and of the reference compute, on values. No statement is proved here. -/
import Derived.Test.YtgkggocjoolciaaGreatDoorTxF
import Derived.Test.YtgkggocjoolciaaGreatDoorTxE
import Derived.Test.YtgkggocjoolciaaGreatDoorTxD
import Derived.Test.YtgkggocjoolciaaGreatDoorTxC
set_option linter.all false
namespace Go.Proofs.YtgkggocjoolciaaGreatDoor
open Go Go.EvL Go.PE Go.Mir
variable {ext:aq}{b:ByteArray}
theorem Cg:Γ 324=some ⟨196,(sr [ob 8 (.alloc 270 (.agg #[(.slice none 0 0),(.int .i64 0),(.int .i64 0)]))]
 (sr [mt 17 1,ob 18 (bi .add 17 2),mt 9 18]
 (.seq (t7 [mt 19 9,mt 20 0,ob 21 (.len true (tp 20)),ob 22 (bn .lss 3 19 21),mt 23 22,gt 23 true 24 0,gt 23 true 25 9,og 23 true 26 (.sidx (tp 24) (tp 25)),og 23 true 27 (bc .eql 26 35),ob 28 (pk 23 27)] 28
 (sr [mt 29 0,mt 30 9,ob 31 (bi .add 30 1),ob 32 (cl 331 [(tp 29),(tp 31)]),mt 10 32]
 (.seq (t7 [mt 33 10,mt 34 9,ob 35 (bn .sub 3 33 34),ob 36 (bi .sub 35 1),ob 37 (bi .gtr 36 32)] 37
 (sr [mt 38 9,ob 39 (bi .add 38 1),ob 40 (cl 276 [(tp 39),(ki 3)]),o0 (.store 270 3 (tp 8) (tp 40))]
 .ret)
 .skip)
 (.seq (t7 [mt 41 10,mt 42 9,ob 43 (bi .add 42 1),ob 44 (bn .gtr 3 41 43),mt 45 44,gt 45 true 46 10,gt 45 true 47 0,og 45 true 48 (.len true (tp 47)),og 45 true 49 (bn .lss 3 46 48),ob 50 (pk 45 49),mt 51 50,gt 51 true 52 0,gt 51 true 53 10,og 51 true 54 (.sidx (tp 52) (tp 53)),og 51 true 55 (bc .eql 54 125),ob 56 (pk 51 55)] 56
 (sr [mt 57 0,mt 58 9,ob 59 (bi .add 58 1),mt 60 10,ob 61 (.sslc (tp 57) (some (tp 59)) (some (tp 60))),ob 62 (.build [(.int .i64 0),(.string ⟨#[]⟩),(.int .i64 0),(.bool false),(.slice none 0 0)] [(0,1,(ki 4)),(1,1,(tp 61)),(2,1,(ki 5))]),mt 63 10,ob 64 (bi .add 63 1),ob 65 (cl 301 [(tp 62),(tp 64)]),o0 (.store 270 3 (tp 8) (tp 65))]
 .ret)
 .skip)
 (t7 [mt 66 10,mt 67 9,ob 68 (bi .add 67 1),ob 69 (bn .gtr 3 66 68),mt 70 69,gt 70 true 71 10,gt 70 true 72 0,og 70 true 73 (.len true (tp 72)),og 70 true 74 (bn .eql 3 71 73),ob 75 (pk 70 74)] 75
 (sr [mt 76 1,ob 77 (cl 276 [(tp 76),(ki 7)]),o0 (.store 270 3 (tp 8) (tp 77))]
 .ret)
 .skip))))
 .skip)
 rn))),[.cell 8 true 3],false⟩:=(rfl)
theorem M8 (hb:b.data.toList.length < 1000000000) {a p lv:Nat} (h0:a + 2≤b.data.toList.length) (hl:a + 2 < b.data.toList.length) (h:bt b.data.toList (a + 2)=35) {j:Nat} (hj:j≤b.data.toList.length) (hj0:a + 3≤j) (hJ:∀s,Pc ext 331 [.sc (.string b),iN (a + 2 + 1:Nat)] (iN j) s) (h2 : 32 < j - (a + 2) - 1) (s:PS):Pc ext 324 [.sc (.string b),iN a,iN p,iN lv] (bL (.error (a + 2 + 1,3))) s:=by
 have g0:(decide (a + 2 < b.data.toList.length))=true:=decide_eq_true hl;have g1:(bt b.data.toList (a + 2) == 35)=true:=by rw [h]; rfl
 have g2:(decide (32 < j - (a + 2) - 1))=true:=decide_eq_true h2;refine fU s.n (r:=8) (m:=3) Cg (by simp) (by rfl) (by rfl) ?_;have n0:a + 2 < b.data.toList.length:=om;have n1:a + 2≤j:=om;have n2 : 1≤j - (a + 2):=om;exact KI @aS @aE @aP @ay g1 g2 n0 hJ
theorem PH (hb:b.data.toList.length < 1000000000) {a p lv:Nat} (h0:a + 2≤b.data.toList.length) (hl:a + 2 < b.data.toList.length) (h:bt b.data.toList (a + 2)=35) {j:Nat} (hj:j≤b.data.toList.length) (hj0:a + 3≤j) (hJ:∀s,Pc ext 331 [.sc (.string b),iN (a + 2 + 1:Nat)] (iN j) s) (h2:j - (a + 2) - 1≤32) (h3:a + 2 + 1 < j) (h4:j < b.data.toList.length) (h5:bt b.data.toList j=125) (s:PS):Pc ext 324 [.sc (.string b),iN a,iN p,iN lv] (bL (.ok ([.mk 4 (sub b.data.toList (a + 2 + 1) j) 5 false []],j + 1))) s:=by
 have g0:(decide (a + 2 < b.data.toList.length))=true:=decide_eq_true hl;have g1:(bt b.data.toList (a + 2) == 35)=true:=by rw [h]; rfl
 have g2:(decide (32 < j - (a + 2) - 1))=false:=df;have g3:(decide (a + 2 + 1 < j))=true:=decide_eq_true h3;have g4:(decide (j < b.data.toList.length))=true:=decide_eq_true h4;have g5:(bt b.data.toList j == 125)=true:=by rw [h5]; rfl
 refine fU s.n (r:=8) (m:=3) Cg (by simp) (by rfl) (by rfl) ?_;have n0:a + 2 < b.data.toList.length:=om;have n1:a + 2≤j:=om;have n2 : 1≤j - (a + 2):=om;have n3:j < b.data.toList.length:=om;have n4:a + 2 + 1≤j:=om;have n5:j≤b.data.toList.length:=om;exact FB @aS @aE @aP @aC @ay @cG g1 g2 g3 g5 n0 n3 n4 n5 hJ tv
theorem PQ (hb:b.data.toList.length < 1000000000) {a p lv:Nat} (h0:a + 2≤b.data.toList.length) (hl:a + 2 < b.data.toList.length) (h:bt b.data.toList (a + 2)=35) {j:Nat} (hj:j≤b.data.toList.length) (hj0:a + 3≤j) (hJ:∀s,Pc ext 331 [.sc (.string b),iN (a + 2 + 1:Nat)] (iN j) s) (h2:j - (a + 2) - 1≤32) (h3:a + 2 + 1 < j) (h4:j=b.data.toList.length) (s:PS):Pc ext 324 [.sc (.string b),iN a,iN p,iN lv] (bL (.error (a,7))) s:=by
 have g0:(decide (a + 2 < b.data.toList.length))=true:=decide_eq_true hl;have g1:(bt b.data.toList (a + 2) == 35)=true:=by rw [h]; rfl
 have g2:(decide (32 < j - (a + 2) - 1))=false:=df;have g3:(decide (a + 2 + 1 < j))=true:=decide_eq_true h3;have g4:(decide (j < b.data.toList.length))=false:=df;have g5:(j == b.data.toList.length)=true:=by rw [h4]; exact beq_self_eq_true _
 refine fU s.n (r:=8) (m:=3) Cg (by simp) (by rfl) (by rfl) ?_;have n0:a + 2 < b.data.toList.length:=om;have n1:a + 2≤j:=om;have n2 : 1≤j - (a + 2):=om;exact rN @aS @aE @aP @ay g1 g2 g3 g4 g5 n0 hJ tv
theorem G3 (hb:b.data.toList.length < 1000000000) {a p lv:Nat} (h0:a + 2≤b.data.toList.length) (hl:a + 2 < b.data.toList.length) (h:bt b.data.toList (a + 2)=35) {j:Nat} (hj:j≤b.data.toList.length) (hj0:a + 3≤j) (hJ:∀s,Pc ext 331 [.sc (.string b),iN (a + 2 + 1:Nat)] (iN j) s) (h2:j - (a + 2) - 1≤32) (h3:a + 2 + 1 < j) (h4:j < b.data.toList.length) (h5:bt b.data.toList j≠125) (r:R) (hB:B2 ext b a p lv r) (s:PS):Pc ext 324 [.sc (.string b),iN a,iN p,iN lv] (bL (r)) s:=by
 have g0:(decide (a + 2 < b.data.toList.length))=true:=decide_eq_true hl;have g1:(bt b.data.toList (a + 2) == 35)=true:=by rw [h]; rfl
 have g2:(decide (32 < j - (a + 2) - 1))=false:=df;have g3:(decide (a + 2 + 1 < j))=true:=decide_eq_true h3;have g4:(decide (j < b.data.toList.length))=true:=decide_eq_true h4;have g5:(bt b.data.toList j == 125)=false:=beq_eq_false_iff_ne.2 (h5);have g6:(j == b.data.toList.length)=false:=bf;obtain⟨q,hq⟩ : ∃q,bL (r)=.agg q:=by
  cases r with
  | ok x=>obtain⟨l,j⟩:=x; exact⟨_,rfl⟩
  | error x=>obtain⟨i,e⟩:=x; exact⟨_,rfl⟩
 rw [hq];refine fU s.n (r:=8) (m:=3) Cg (by simp) (by rfl) (by rfl) ?_;have n0:a + 2 < b.data.toList.length:=om;have n1:a + 2≤j:=om;have n2 : 1≤j - (a + 2):=om;have n3:j < b.data.toList.length:=om;refine mT @aS @aE @aP @ay g1 g2 g3 g5 g6 n0 n3 hJ ?_;exact hB s _ q hq aQ aQ aQ aQ aQ aQ
theorem Gl (hb:b.data.toList.length < 1000000000) {a p lv:Nat} (h0:a + 2≤b.data.toList.length) (hl:a + 2 < b.data.toList.length) (h:bt b.data.toList (a + 2)=35) {j:Nat} (hj:j≤b.data.toList.length) (hj0:a + 3≤j) (hJ:∀s,Pc ext 331 [.sc (.string b),iN (a + 2 + 1:Nat)] (iN j) s) (h2:j - (a + 2) - 1≤32) (h3:¬ a + 2 + 1 < j) (r:R) (hB:B2 ext b a p lv r) (s:PS):Pc ext 324 [.sc (.string b),iN a,iN p,iN lv] (bL (r)) s:=by
 have g0:(decide (a + 2 < b.data.toList.length))=true:=decide_eq_true hl;have g1:(bt b.data.toList (a + 2) == 35)=true:=by rw [h]; rfl
 have g2:(decide (32 < j - (a + 2) - 1))=false:=df;have g3:(decide (a + 2 + 1 < j))=false:=decide_eq_false h3;obtain⟨q,hq⟩ : ∃q,bL (r)=.agg q:=by
  cases r with
  | ok x=>obtain⟨l,j⟩:=x; exact⟨_,rfl⟩
  | error x=>obtain⟨i,e⟩:=x; exact⟨_,rfl⟩
 rw [hq];refine fU s.n (r:=8) (m:=3) Cg (by simp) (by rfl) (by rfl) ?_;have n0:a + 2 < b.data.toList.length:=om;have n1:a + 2≤j:=om;have n2 : 1≤j - (a + 2):=om;refine Di @aS @aE @aP @ay g1 g2 g3 n0 hJ ?_;exact hB s _ q hq aQ aQ aQ aQ aQ aQ
theorem LZ (hb:b.data.toList.length < 1000000000) {a p lv:Nat} (h0:a + 2≤b.data.toList.length) (hl:a + 2 < b.data.toList.length) (h:bt b.data.toList (a + 2)≠35) (r:R) (hB:B2 ext b a p lv r) (s:PS):Pc ext 324 [.sc (.string b),iN a,iN p,iN lv] (bL (r)) s:=by
 have g0:(decide (a + 2 < b.data.toList.length))=true:=decide_eq_true hl;have g1:(bt b.data.toList (a + 2) == 35)=false:=beq_eq_false_iff_ne.2 (h);obtain⟨q,hq⟩ : ∃q,bL (r)=.agg q:=by
  cases r with
  | ok x=>obtain⟨l,j⟩:=x; exact⟨_,rfl⟩
  | error x=>obtain⟨i,e⟩:=x; exact⟨_,rfl⟩
 rw [hq];refine fU s.n (r:=8) (m:=3) Cg (by simp) (by rfl) (by rfl) ?_;have n0:a + 2 < b.data.toList.length:=om;refine BW g1 n0 ?_;exact hB s _ q hq aQ aQ aQ aQ aQ aQ
theorem Mt (hb:b.data.toList.length < 1000000000) {a p lv:Nat} (h0:a + 2≤b.data.toList.length) (hl:¬ a + 2 < b.data.toList.length) (r:R) (hB:B2 ext b a p lv r) (s:PS):Pc ext 324 [.sc (.string b),iN a,iN p,iN lv] (bL (r)) s:=by
 have g0:(decide (a + 2 < b.data.toList.length))=false:=decide_eq_false hl;obtain⟨q,hq⟩ : ∃q,bL (r)=.agg q:=by
  cases r with
  | ok x=>obtain⟨l,j⟩:=x; exact⟨_,rfl⟩
  | error x=>obtain⟨i,e⟩:=x; exact⟨_,rfl⟩
 rw [hq];refine fU s.n (r:=8) (m:=3) Cg (by simp) (by rfl) (by rfl) ?_;refine pJ g0 ?_;exact hB s _ q hq aQ aQ aQ aQ aQ aQ
def xu:aW:=(.seq (t7 [mt 93 14,ob 94 (.faddr 0 (tp 13)),ob 95 (.load 95 false 1 (tp 94)),ob 96 (.len false (tp 95)),ob 97 (bn .lss 3 93 96)] 97
 .skip
 (.exit 2))
 (.seq (.block 3 (t7 [ob 100 (.faddr 0 (tp 13)),ob 101 (.load 95 false 1 (tp 100)),mt 102 14,ob 103 (.iaddr 5 (tp 101) (tp 102)),ob 104 (.faddr 0 (tp 103)),ob 105 (.load 3 false 1 (tp 104)),ob 106 (bi .eql 105 1)] 106
 (.reg [mt 107 11,ob 108 (.faddr 0 (tp 13)),ob 109 (.load 95 false 1 (tp 108)),mt 110 14,ob 111 (.iaddr 5 (tp 109) (tp 110)),ob 112 (.faddr 1 (tp 111)),ob 113 (.load 9 false 1 (tp 112)),ob 114 (cl 279 [(tp 107),(tp 113)]),mt 11 114])
 (.reg [mt 115 11,ob 116 (.faddr 0 (tp 13)),ob 117 (.load 95 false 1 (tp 116)),mt 118 14,ob 119 (.iaddr 5 (tp 117) (tp 118)),ob 120 (.load 150 true 5 (tp 119)),ob 121 (.bslice 150 1 [(.int .i64 0),(.string ⟨#[]⟩),(.int .i64 0),(.bool false),(.slice none 0 0)] [(0,5,(tp 120))]),ob 122 (.app 150 5 64 (tp 115) (tp 121)),mt 11 122])))
 (.reg [mt 98 14,ob 99 (bi .add 98 1),mt 14 99])))
def Em:aW:=(.reg [ob 123 (.faddr 1 (tp 13)),ob 124 (.load 3 false 1 (tp 123)),mt 1 124])
theorem BA (f:aR) (s:PS):aN Tryz.prog Γ ext qN f s=aN Tryz.prog Γ ext xu f s:=rfl
theorem Iq (f:aR) (s:PS):aN Tryz.prog Γ ext sE f s=aN Tryz.prog Γ ext Em f s:=rfl
structure PI (b:ByteArray) (a p lv fr o:Nat) (acc:List aJ) (v:PV) (s0:PS) (f:aR) (s:PS):Prop where
 f0:f 0=.sc (.string b)
 f1:f 1=iN a
 f2:f 2=iN p
 f3:f 3=iN lv
 f4:f 4=iN fr
 f10:f 10=.ptr s0.n 0 3
 f11:f 11=v
 f12:f 12=iN o
 acc:gL 150 5 dJ (s0.n + 1) acc v s
 cell:s.h s0.n=⟨[.sc (.slice none 0 0),.sc (.int .i64 0),.sc (.int .i64 0)],0,270⟩
 n:s0.n + 1≤s.n
 w:s0.n≤s.w
theorem ue {b0:Nat}{l:List aJ}{v:PV}{s:PS} (h:gL 150 5 dJ b0 l v s) {k:Nat} (hk:k < b0) (B:Dk):gL 150 5 dJ b0 l v (s.put k B):=by
 rcases h with h | ⟨hl,k',k1,k2,rfl,k3⟩
 ·exact .inl h
 ·exact .inr ⟨hl,k',k1,by rw [dn]; exact k2,rfl,by rw [dz,if_neg om]; exact k3⟩
theorem js {b0:Nat}{l:List aJ}{v:PV}{s:PS} (h:gL 150 5 dJ b0 l v s):gq false v=some (.sc (.int .i64 (l.length:Int))):=by
 rcases h with ⟨rfl,rfl⟩ | ⟨_,k,_,_,rfl,_⟩<;>rfl
theorem ju {b0:Nat}{l:List aJ}{v:PV}{s:PS} (h:gL 150 5 dJ b0 l v s):cL v=true:=by
 rcases h with ⟨rfl,rfl⟩ | ⟨_,k,_,_,rfl,_⟩<;>rfl
theorem kY {b0:Nat}{l:List aJ}{v:PV}{s:PS} (h:gL 150 5 dJ b0 l v s):az v=[v]:=by
 rcases h with ⟨rfl,rfl⟩ | ⟨_,k,_,_,rfl,_⟩<;>rfl
theorem zR {b0 n0:Nat}{l:List aJ}{v:PV}{s:PS} (h:gL 150 5 dJ b0 l v s) (hn:n0≤b0):fx n0 s v=some (cS l):=by
 rw [Ed]; exact gL.frz gI h hn fun x _=>vp x
def LC (ext:aq) (b:ByteArray) (a p lv fr o:Nat) (acc:List aJ) (r:R):Prop:=∀(s0:PS) (f:aR) (s:PS) (v:PV) (q:List PV),bL r=.agg q→PI b a p lv fr o acc v s0 f s→Er (VC q 10 s0) (LP Tryz.prog Γ ext 0 ej ew f s)
theorem Rc (hb:b.data.toList.length < 1000000000) {lv fr o:Nat}{acc:List aJ}  : LC ext b b.data.toList.length 0 lv fr o acc (.ok (acc,b.data.toList.length)):=by
 intro s0 f s v q hq hI;have hA:=hI.acc;have hcell:=hI.cell;have hn:=hI.n;have hw:=hI.w;obtain⟨f0,f1,f2,f3,f4,f10,f11,f12,_,_,_,_⟩:=hI;have hlen:=js hA;have h1v:=ju hA;have hcv:=kY hA;have hm:min s.w s0.n=s0.n:=Nat.min_eq_right hw;have hm2:min (min s.w s.n) s0.n=s0.n:=Nat.min_eq_right om;have hne:(s0.n=s.n)=False:=eq_false om;have hne2:(s.n=s0.n)=False:=eq_false om;rw [bL] at hq;injection hq with hq;subst hq;have g0:(decide (b.data.toList.length < b.data.toList.length))=false:=df;refine ad fun L hL=>?_;unfold VC;refine pK @ej.eq_1 @ew.eq_1 f0 f1 f2 f10 f11 @aS @aE h1v hcv hcell hm g0 ?_;exact⟨_,_,_,rfl,rfl,Nat.le_refl _,bm (zR (ue hA om _) om)⟩
theorem PG (hb:b.data.toList.length < 1000000000) {lv fr o:Nat}{acc:List aJ}  : LC ext b b.data.toList.length 5 lv fr o acc (.ok (acc,b.data.toList.length)):=by
 intro s0 f s v q hq hI;have hA:=hI.acc;have hcell:=hI.cell;have hn:=hI.n;have hw:=hI.w;obtain⟨f0,f1,f2,f3,f4,f10,f11,f12,_,_,_,_⟩:=hI;have hlen:=js hA;have h1v:=ju hA;have hcv:=kY hA;have hm:min s.w s0.n=s0.n:=Nat.min_eq_right hw;have hm2:min (min s.w s.n) s0.n=s0.n:=Nat.min_eq_right om;have hne:(s0.n=s.n)=False:=eq_false om;have hne2:(s.n=s0.n)=False:=eq_false om;rw [bL] at hq;injection hq with hq;subst hq;have g0:(decide (b.data.toList.length < b.data.toList.length))=false:=df;refine ad fun L hL=>?_;unfold VC;refine pK @ej.eq_1 @ew.eq_1 f0 f1 f2 f10 f11 @aS @aE h1v hcv hcell hm g0 ?_;exact⟨_,_,_,rfl,rfl,Nat.le_refl _,bm (zR (ue hA om _) om)⟩
theorem l_open (hb:b.data.toList.length < 1000000000) {p lv fr o:Nat}{acc:List aJ} (h:p≠0) (h2:p≠5):LC ext b b.data.toList.length p lv fr o acc (.error (fr,7)):=by
 intro s0 f s v q hq hI;have hA:=hI.acc;have hcell:=hI.cell;have hn:=hI.n;have hw:=hI.w;obtain⟨f0,f1,f2,f3,f4,f10,f11,f12,_,_,_,_⟩:=hI;have hlen:=js hA;have h1v:=ju hA;have hcv:=kY hA;have hm:min s.w s0.n=s0.n:=Nat.min_eq_right hw;have hm2:min (min s.w s.n) s0.n=s0.n:=Nat.min_eq_right om;have hne:(s0.n=s.n)=False:=eq_false om;have hne2:(s.n=s0.n)=False:=eq_false om;rw [bL] at hq;injection hq with hq;subst hq;have g0:(decide (b.data.toList.length < b.data.toList.length))=false:=df;have g1:(p == 0)=false:=beq_eq_false_iff_ne.2 h;have g2:(p == 5)=false:=beq_eq_false_iff_ne.2 h2;refine ad fun L hL=>?_;unfold VC;refine MP @ej.eq_1 @ew.eq_1 f0 f1 f2 f4 f10 f11 @aS @aE @aP @ay h1v hcv hcell hm g0 g1 g2 ?_;exact⟨_,_,_,rfl,rfl,Nat.le_refl _,rfl⟩
theorem l_q (hb:b.data.toList.length < 1000000000) {a p lv fr o:Nat}{acc:List aJ} (hp:p≤6) (hl:a < b.data.toList.length) (h:fg (bt b.data.toList a) p o=true) (h2:p≠4):LC ext b a p lv fr o acc (.ok (acc,a)):=by
 intro s0 f s v q hq hI;have hA:=hI.acc;have hcell:=hI.cell;have hn:=hI.n;have hw:=hI.w;obtain⟨f0,f1,f2,f3,f4,f10,f11,f12,_,_,_,_⟩:=hI;have hlen:=js hA;have h1v:=ju hA;have hcv:=kY hA;have hm:min s.w s0.n=s0.n:=Nat.min_eq_right hw;have hm2:min (min s.w s.n) s0.n=s0.n:=Nat.min_eq_right om;have hne:(s0.n=s.n)=False:=eq_false om;have hne2:(s.n=s0.n)=False:=eq_false om;rw [bL] at hq;injection hq with hq;subst hq;have hE:=fun s=>qA (ext:=ext) (b:=b) (i:=a) (o:=o) hp hl s;have g0:(decide (a < b.data.toList.length))=true:=decide_eq_true hl;have g1:(fg (bt b.data.toList a) p o)=true:=h;have g2:(p == 4)=false:=beq_eq_false_iff_ne.2 h2;refine ad fun L hL=>?_;unfold VC;refine Vp @ej.eq_1 @ew.eq_1 f0 f1 f2 f4 f10 f11 f12 @aS @aE @aP @ay h1v hcv hcell hm hE g0 g1 g2 tv ?_;exact⟨_,_,_,rfl,rfl,Nat.le_refl _,bm (zR (ue hA om _) om)⟩
theorem l_a0 (hb:b.data.toList.length < 1000000000) {a lv fr o:Nat}{acc:List aJ} (h:fg (bt b.data.toList a) 4 o=true) (h2:a + 1=b.data.toList.length):LC ext b a 4 lv fr o acc (.error (fr,7)):=by
 intro s0 f s v q hq hI;have hA:=hI.acc;have hcell:=hI.cell;have hn:=hI.n;have hw:=hI.w;obtain⟨f0,f1,f2,f3,f4,f10,f11,f12,_,_,_,_⟩:=hI;have hlen:=js hA;have h1v:=ju hA;have hcv:=kY hA;have hm:min s.w s0.n=s0.n:=Nat.min_eq_right hw;have hm2:min (min s.w s.n) s0.n=s0.n:=Nat.min_eq_right om;have hne:(s0.n=s.n)=False:=eq_false om;have hne2:(s.n=s0.n)=False:=eq_false om;rw [bL] at hq;injection hq with hq;subst hq;have hp : 4≤6:=om;have hl:a < b.data.toList.length:=om;have hE:=fun s=>qA (ext:=ext) (b:=b) (i:=a) (o:=o) hp hl s;have g0:(decide (a < b.data.toList.length))=true:=decide_eq_true hl;have g1:(fg (bt b.data.toList a) 4 o)=true:=h;have g2:(a + 1 == b.data.toList.length)=true:=by rw [h2]; exact beq_self_eq_true _
 refine ad fun L hL=>?_;unfold VC;simp -implicitDefEqProofs (disch:=omega) only [ZA,Nat.reduceAdd,Nat.reduceEqDiff,↓reduceIte,reduceCtorEq,aY,bM,bY,dH,ej,ew,f0,f1,f2,f4,f10,f12,aS,List.all_cons,List.all_nil,Bool.and_self,aE,aP,List.drop_nil,ay,hcell,hm,hE,g0,g1,g2];exact⟨_,_,_,rfl,rfl,Nat.le_refl _,rfl⟩
theorem l_a (hb:b.data.toList.length < 1000000000) {a lv fr o:Nat}{acc:List aJ} (h:fg (bt b.data.toList a) 4 o=true) (h2:a + 1 < b.data.toList.length) (h3:bt b.data.toList (a + 1)=41):LC ext b a 4 lv fr o acc (.ok (acc,a)):=by
 intro s0 f s v q hq hI;have hA:=hI.acc;have hcell:=hI.cell;have hn:=hI.n;have hw:=hI.w;obtain⟨f0,f1,f2,f3,f4,f10,f11,f12,_,_,_,_⟩:=hI;have hlen:=js hA;have h1v:=ju hA;have hcv:=kY hA;have hm:min s.w s0.n=s0.n:=Nat.min_eq_right hw;have hm2:min (min s.w s.n) s0.n=s0.n:=Nat.min_eq_right om;have hne:(s0.n=s.n)=False:=eq_false om;have hne2:(s.n=s0.n)=False:=eq_false om;rw [bL] at hq;injection hq with hq;subst hq;have hp : 4≤6:=om;have hl:a < b.data.toList.length:=om;have hE:=fun s=>qA (ext:=ext) (b:=b) (i:=a) (o:=o) hp hl s;have g0:(decide (a < b.data.toList.length))=true:=decide_eq_true hl;have g1:(fg (bt b.data.toList a) 4 o)=true:=h;have g2:(a + 1 == b.data.toList.length)=false:=bf;have g3:(bt b.data.toList (a + 1) == 41)=true:=by rw [h3]; rfl
 refine ad fun L hL=>?_;unfold VC;simp -implicitDefEqProofs (disch:=omega) only [ZA,Nat.reduceAdd,Nat.reduceEqDiff,↓reduceIte,Nat.reduceLeDiff,reduceCtorEq,aY,bM,bY,dH,ej,ew,f0,f1,f2,f4,f10,f11,f12,iJ,aS,List.all_cons,List.all_nil,Bool.and_self,aE,aP,List.drop_nil,ay,h1v,hcv,hcell,hm,hE,h2,g0,g1,g2,g3];exact⟨_,_,_,rfl,rfl,Nat.le_refl _,bm (zR (ue hA om _) om)⟩
theorem l_a1 (hb:b.data.toList.length < 1000000000) {a lv fr o:Nat}{acc:List aJ} (h:fg (bt b.data.toList a) 4 o=true) (h2:a + 1 < b.data.toList.length) (h3:bt b.data.toList (a + 1)≠41):LC ext b a 4 lv fr o acc (.error (a,6)):=by
 intro s0 f s v q hq hI;have hA:=hI.acc;have hcell:=hI.cell;have hn:=hI.n;have hw:=hI.w;obtain⟨f0,f1,f2,f3,f4,f10,f11,f12,_,_,_,_⟩:=hI;have hlen:=js hA;have h1v:=ju hA;have hcv:=kY hA;have hm:min s.w s0.n=s0.n:=Nat.min_eq_right hw;have hm2:min (min s.w s.n) s0.n=s0.n:=Nat.min_eq_right om;have hne:(s0.n=s.n)=False:=eq_false om;have hne2:(s.n=s0.n)=False:=eq_false om;rw [bL] at hq;injection hq with hq;subst hq;have hp : 4≤6:=om;have hl:a < b.data.toList.length:=om;have hE:=fun s=>qA (ext:=ext) (b:=b) (i:=a) (o:=o) hp hl s;have g0:(decide (a < b.data.toList.length))=true:=decide_eq_true hl;have g1:(fg (bt b.data.toList a) 4 o)=true:=h;have g2:(a + 1 == b.data.toList.length)=false:=bf;have g3:(bt b.data.toList (a + 1) == 41)=false:=beq_eq_false_iff_ne.2 h3;refine ad fun L hL=>?_;unfold VC;simp -implicitDefEqProofs (disch:=omega) only [ZA,Nat.reduceAdd,Nat.reduceEqDiff,↓reduceIte,reduceCtorEq,aY,bM,bY,dH,ej,ew,f0,f1,f2,f4,f10,f12,aS,List.all_cons,List.all_nil,Bool.and_self,aE,aP,List.drop_nil,ay,hcell,hm,hE,h2,g0,g1,g2,g3];exact⟨_,_,_,rfl,rfl,Nat.le_refl _,rfl⟩
theorem l_tilde (hb:b.data.toList.length < 1000000000) {a p lv fr o:Nat} (hp:p≤6) (hl:a < b.data.toList.length) (h:fg (bt b.data.toList a) p o=false) (h2:lB b.data.toList a p true) (r:R) (ih:LC ext b (a + 1) p lv fr o [qd] r):LC ext b a p lv fr o [] (r):=by
 intro s0 f s v q hq hI;have hA:=hI.acc;have hcell:=hI.cell;have hn:=hI.n;have hw:=hI.w;obtain⟨f0,f1,f2,f3,f4,f10,f11,f12,_,_,_,_⟩:=hI;have hlen:=js hA;have h1v:=ju hA;have hcv:=kY hA;have hm:min s.w s0.n=s0.n:=Nat.min_eq_right hw;have hm2:min (min s.w s.n) s0.n=s0.n:=Nat.min_eq_right om;have hne:(s0.n=s.n)=False:=eq_false om;have hne2:(s.n=s0.n)=False:=eq_false om;have hE:=fun s=>qA (ext:=ext) (b:=b) (i:=a) (o:=o) hp hl s;have hT:=fun s=>zO (ext:=ext) (b:=b) om hp hl h2 s;have hel:=sU (e:=150) s (dJ qd);rw [gI] at hel;obtain⟨v1,s1,a1,a2⟩:=oW hA om (by simp) qd;have eP:dJ qd=[.sc (.int .i64 7),.sc (.string ⟨#[]⟩),.sc (.int .i64 0),.sc (.bool false),.sc (.slice none 0 0)]:=by rw [qd,dJ,cS]
 rw [eP] at hel a1;have g0:(decide (a < b.data.toList.length))=true:=decide_eq_true hl;have g1:(fg (bt b.data.toList a) p o)=false:=h;have g2:(([]:List aJ).length == 0)=true:=rfl;refine ad fun L hL=>?_;unfold VC;refine pK @ej.eq_1 @ew.eq_1 f0 f1 f2 f11 f12 hlen hE hT hel a1 g0 g1 ?_;subst hL;refine ih s0 _ s1 v1 q hq ⟨aX f0,aQ,aX f2,aX f3,aX f4,aX f10,aQ,aX f12,a2.acc,?_,by have:=a2.n; omega,a2.w _ om hw⟩;rw [a2.same _ om]; exact hcell
structure OU (b:ByteArray) (p lv fr o:Nat) (acc:List aJ) (v:PV) (ps:List aJ) (j:Nat) (s0:PS) (k:Nat) (f:aR) (s:PS):Prop where
 f0:f 0=.sc (.string b)
 f2:f 2=iN p
 f3:f 3=iN lv
 f4:f 4=iN fr
 f10:f 10=.ptr s0.n 0 3
 f11:f 11=v
 f12:f 12=iN o
 f13:f 13=.ptr k 0 3
 f14:f 14=.sc (.int .i64 0)
 acc:gL 150 5 dJ (s0.n + 1) acc v s
 cell:s.h s0.n=⟨[.sc (.slice none 0 0),.sc (.int .i64 0),.sc (.int .i64 0)],0,270⟩
 x:s.h k=⟨[cS ps,iN j,.sc (.int .i64 0)],3,270⟩
 kn:k < s.n
 ne:∀a m c,v≠.own k a m c
 n:s0.n + 1≤s.n
 w:s0.n≤s.w
theorem II (p:aJ):cS [p]=.lit 150 1 (dJ p):=by
 rw [cS,nH,List.append_nil]; rfl
theorem Jg {p lv fr o:Nat}{acc:List aJ}{v:PV}{ps:List aJ}{j:Nat}{s0:PS}{k:Nat} (hps:ps.length≤1) (hacc:acc.length < 1000000000) (htx:∀q∈ps,q.kind=1→∀x,acc.getLast?=some x→x.kind=1→x.text.length + q.text.length < 4611686018427387904) {f:aR}{s:PS} (h:OU b p lv fr o acc v ps j s0 k f s) :
  ∃f' s' v',LP Tryz.prog Γ ext 2 qN sE f s=some (.normal,f',s')∧PI b j p lv fr o (ps.foldl mF acc) v' s0 f' s':=by
 obtain⟨f0,f2,f3,f4,f10,f11,f12,f13,f14,hA,hcell,hx,hk,hne,hn,hw⟩:=h
 match ps,hps with
 | [],_=>
  rw [cS] at hx;have z0:decide ((0:Int) < 0)=false:=rfl;rw [pC,BA];refine Fe @xu.eq_1 f13 f14 hx z0 @IF @Iq @Em.eq_1 ?_;exact⟨_,_,v,rfl,⟨aX f0,aQ,aX f2,aX f3,aX f4,aX f10,aX f11,aX f12,hA,hcell,hn,hw⟩⟩
 | [.mk kd t op c pp],_=>
  have eP:dJ (.mk kd t op c pp)=[.sc (.int .i64 kd),.sc (.string ⟨⟨t⟩⟩),.sc (.int .i64 op),.sc (.bool c),cS pp]:=by rw [dJ]
  rw [II] at hx;have z0:decide ((0:Int) < ((1:Nat):Int))=true:=rfl;have z1:decide ((1:Int) < ((1:Nat):Int))=false:=rfl;have wk:IntKind.i64.wrap (0 + 1)=1:=rfl;have l01 : 0 < 1:=om;have hfold:[aJ.mk kd t op c pp].foldl mF acc=mF acc (.mk kd t op c pp):=rfl;rw [hfold];by_cases h1:kd=1
  ·subst h1;have ha1:mF acc (.mk 1 t op c pp)=lK acc t:=if_pos rfl;rw [ha1];obtain⟨v1,s1,w1,w2⟩:=RZ (ext:=ext) (t:=t) hA hn om (fun x hx hx1=>htx _ List.mem_cons_self rfl x hx hx1);have hx1:s1.h k=⟨[.lit 150 1 (dJ (.mk 1 t op c pp)),iN j,.sc (.int .i64 0)],3,270⟩:=by rw [w2.keep k hk hne]; exact hx
   rw [eP] at hx hx1;rw [pC,BA];simp -implicitDefEqProofs (disch:=omega) only [ZA,Nat.reduceAdd,Nat.reduceEqDiff,↓reduceIte,Nat.reduceLeDiff,aY,bM,bY,cR,dH,xu,f11,f13,f14,hx,gq,z0,l01,Nat.one_mul,Nat.zero_mul,w1,wk,OM,BU];rw [pC,BA];simp -implicitDefEqProofs (disch:=omega) only [ZA,Nat.reduceAdd,Nat.reduceEqDiff,↓reduceIte,Nat.reduceLeDiff,aY,bM,cR,xu,f13,hx1,gq,z1,IF,Iq,Em];exact⟨_,_,v1,rfl,⟨by simp -implicitDefEqProofs (disch:=omega) only [ZA,↓reduceIte,reduceCtorEq,f0],by simp -implicitDefEqProofs (disch:=omega) only [ZA,↓reduceIte],by simp -implicitDefEqProofs (disch:=omega) only [ZA,Nat.reduceEqDiff,↓reduceIte,f2],by simp -implicitDefEqProofs (disch:=omega) only [ZA,Nat.reduceEqDiff,↓reduceIte,f3],by simp -implicitDefEqProofs (disch:=omega) only [ZA,Nat.reduceEqDiff,↓reduceIte,f4],by simp -implicitDefEqProofs (disch:=omega) only [ZA,Nat.reduceEqDiff,↓reduceIte,f10],by simp -implicitDefEqProofs (disch:=omega) only [ZA,Nat.reduceEqDiff,↓reduceIte],by simp -implicitDefEqProofs (disch:=omega) only [ZA,Nat.reduceEqDiff,↓reduceIte,f12],w2.acc,(w2.same _ om).trans hcell,by have:=w2.n; omega,w2.w _ om hw⟩⟩
  ·have ha1:mF acc (.mk kd t op c pp)=acc ++ [.mk kd t op c pp]:=if_neg h1;have hk1:(kd == 1)=false:=beq_eq_false_iff_ne.2 h1;rw [ha1];obtain⟨v1,s1,a1,w2⟩:=oW hA hn om (.mk kd t op c pp);have hel:=sU (e:=150) s (dJ (.mk kd t op c pp));rw [gI] at hel;have hx1:s1.h k=⟨[.lit 150 1 (dJ (.mk kd t op c pp)),iN j,.sc (.int .i64 0)],3,270⟩:=by rw [w2.keep k hk hne]; exact hx
   rw [eP] at hx hx1 hel a1;rw [pC,BA];simp -implicitDefEqProofs (disch:=omega) only [ZA,Nat.reduceAdd,Nat.reduceEqDiff,↓reduceIte,Nat.reduceLeDiff,aY,bM,bY,cR,dH,xu,f11,f13,f14,hx,gq,z0,l01,Nat.one_mul,Nat.zero_mul,hk1,hel,a1,wk,OM,BU,iJ,List.drop_nil,List.take_nil];rw [pC,BA];simp -implicitDefEqProofs (disch:=omega) only [ZA,Nat.reduceAdd,Nat.reduceEqDiff,↓reduceIte,Nat.reduceLeDiff,aY,bM,cR,xu,f13,hx1,gq,z1,IF,Iq,Em];exact⟨_,_,v1,rfl,⟨by simp -implicitDefEqProofs (disch:=omega) only [ZA,↓reduceIte,reduceCtorEq,f0],by simp -implicitDefEqProofs (disch:=omega) only [ZA,↓reduceIte],by simp -implicitDefEqProofs (disch:=omega) only [ZA,Nat.reduceEqDiff,↓reduceIte,f2],by simp -implicitDefEqProofs (disch:=omega) only [ZA,Nat.reduceEqDiff,↓reduceIte,f3],by simp -implicitDefEqProofs (disch:=omega) only [ZA,Nat.reduceEqDiff,↓reduceIte,f4],by simp -implicitDefEqProofs (disch:=omega) only [ZA,Nat.reduceEqDiff,↓reduceIte,f10],by simp -implicitDefEqProofs (disch:=omega) only [ZA,Nat.reduceEqDiff,↓reduceIte],by simp -implicitDefEqProofs (disch:=omega) only [ZA,Nat.reduceEqDiff,↓reduceIte,f12],w2.acc,(w2.same _ om).trans hcell,by have:=w2.n; omega,w2.w _ om hw⟩⟩
theorem tq {p lv fr o:Nat}{acc:List aJ}{v:PV}{ps:List aJ}{j:Nat}{s0:PS}{k:Nat} (hps:ps.length≤1) (hacc:acc.length < 1000000000) (htx:∀q∈ps,q.kind=1→∀x,acc.getLast?=some x→x.kind=1→x.text.length + q.text.length < 4611686018427387904) {f:aR}{s:PS}{V:aR→PS→Prop}{L:aR→PS→kD}{id:Nat}{rest:aW} (h:OU b p lv fr o acc v ps j s0 k f s)
  (hk:∀f' s' v',PI b j p lv fr o (ps.foldl mF acc) v' s0 f' s'→Er V (L f' s')):Er V (Qn Tryz.prog Γ ext L id rest (jm 1 (LP Tryz.prog Γ ext 2 qN sE f s))):=by
 obtain⟨f',s',v',e,hI⟩:=Jg hps hacc htx h;rw [e,J8,OO];exact hk f' s' v' hI
theorem l_err (hb:b.data.toList.length < 1000000000) {a p lv fr o:Nat}{acc:List aJ} (hp:p≤6) (hl:a < b.data.toList.length) (ho:o≤a) (h:fg (bt b.data.toList a) p o=false) (h2:acc=[]→lB b.data.toList a p false) {x e:Nat} (he:e≠0) (hC:∀s,Pc ext 278 [.sc (.string b),iN a,iN p,iN lv] (.agg [.sc (.slice none 0 0),iN x,iN e]) s):LC ext b a p lv fr o acc (.error (x,e)):=by
 intro s0 f s v q hq hI;have hA:=hI.acc;have hcell:=hI.cell;have hn:=hI.n;have hw:=hI.w;obtain⟨f0,f1,f2,f3,f4,f10,f11,f12,_,_,_,_⟩:=hI;have hlen:=js hA;have h1v:=ju hA;have hcv:=kY hA;have hm2:min (min s.w s.n) s0.n=s0.n:=Nat.min_eq_right om;have hne:(s0.n=s.n)=False:=eq_false om;have hne2:(s.n=s0.n)=False:=eq_false om;have hE:=fun s=>qA (ext:=ext) (b:=b) (i:=a) (o:=o) hp hl s;have e1:decide (a < b.data.toList.length)=true:=decide_eq_true hl;rw [bL] at hq;injection hq with hq;subst hq;have ge:(e == 0)=false:=beq_eq_false_iff_ne.2 he;have hT:(acc.length == 0)=true→∀s,Pc ext 277 [.sc (.string b),iN a,iN p] (.sc (.bool false)) s:=fun hz s=>zO (ext:=ext) (b:=b) om hp hl (h2 (List.eq_nil_of_length_eq_zero (eq_of_beq hz))) s;cases hz:acc.length == 0 with
 | true=>
  have hT0:=hT hz;cases g4:p == 4 with
  | false=>
   refine ad fun L hL=>?_;unfold VC;refine tN @ej.eq_1 @ew.eq_1 f0 f1 f2 f3 f4 f10 f11 f12 @aS @aE @aP @ay hlen h1v hcv hcell hm2 hne hE h hl hC ge hz hT0 g4 tv tv tv tv ?_;exact⟨_,_,_,rfl,rfl,Nat.le_refl _,rfl⟩
  | true=>
   have p4:=eq_of_beq g4;cases q40:bt b.data.toList a == 40 with
   | true=>
    have q41:(bt b.data.toList a == 41)=false:=by rw [eq_of_beq q40]; rfl
    refine ad fun L hL=>?_;unfold VC;refine tN @ej.eq_1 @ew.eq_1 f0 f1 f2 f3 f4 f10 f11 f12 @aS @aE @aP @ay hlen hcell hm2 hne hE h hl hC ge hz hT0 g4 q40 q41 tv tv tv tv ?_;exact⟨_,_,_,rfl,rfl,Nat.le_refl _,rfl⟩
   | false=>
    cases q41:bt b.data.toList a == 41 with
    | true=>
     have ho1 : 1≤o:=by
      cases o with
      | zero=>rw [p4,eq_of_beq q41] at h; cases h
      | succ o=>omega
     refine ad fun L hL=>?_;unfold VC;refine tN @ej.eq_1 @ew.eq_1 f0 f1 f2 f3 f4 f10 f11 f12 @aS @aE @aP @ay hlen hcell hm2 hne hE h hl hC ge hz hT0 g4 q40 q41 tv tv tv tv ?_;exact⟨_,_,_,rfl,rfl,Nat.le_refl _,rfl⟩
    | false=>
     refine ad fun L hL=>?_;unfold VC;refine tN @ej.eq_1 @ew.eq_1 f0 f1 f2 f3 f4 f10 f11 f12 @aS @aE @aP @ay hlen hcell hm2 hne hE h hl hC ge hz hT0 g4 q40 q41 tv tv tv tv ?_;exact⟨_,_,_,rfl,rfl,Nat.le_refl _,rfl⟩
 | false=>
  cases g4:p == 4 with
  | false=>
   refine ad fun L hL=>?_;unfold VC;refine tN @ej.eq_1 @ew.eq_1 f0 f1 f2 f3 f4 f10 f11 f12 @aS @aE @aP @ay hlen h1v hcv hcell hm2 hne hE h hl hC ge hz g4 tv tv tv tv tv ?_;exact⟨_,_,_,rfl,rfl,Nat.le_refl _,rfl⟩
  | true=>
   have p4:=eq_of_beq g4;cases q40:bt b.data.toList a == 40 with
   | true=>
    have q41:(bt b.data.toList a == 41)=false:=by rw [eq_of_beq q40]; rfl
    refine ad fun L hL=>?_;unfold VC;refine tN @ej.eq_1 @ew.eq_1 f0 f1 f2 f3 f4 f10 f11 f12 @aS @aE @aP @ay hlen hcell hm2 hne hE h hl hC ge hz g4 q40 q41 tv tv tv tv tv ?_;exact⟨_,_,_,rfl,rfl,Nat.le_refl _,rfl⟩
   | false=>
    cases q41:bt b.data.toList a == 41 with
    | true=>
     have ho1 : 1≤o:=by
      cases o with
      | zero=>rw [p4,eq_of_beq q41] at h; cases h
      | succ o=>omega
     refine ad fun L hL=>?_;unfold VC;refine tN @ej.eq_1 @ew.eq_1 f0 f1 f2 f3 f4 f10 f11 f12 @aS @aE @aP @ay hlen hcell hm2 hne hE h hl hC ge hz g4 q40 q41 tv tv tv tv tv ?_;exact⟨_,_,_,rfl,rfl,Nat.le_refl _,rfl⟩
    | false=>
     refine ad fun L hL=>?_;unfold VC;refine tN @ej.eq_1 @ew.eq_1 f0 f1 f2 f3 f4 f10 f11 f12 @aS @aE @aP @ay hlen hcell hm2 hne hE h hl hC ge hz g4 q40 q41 tv tv tv tv tv ?_;exact⟨_,_,_,rfl,rfl,Nat.le_refl _,rfl⟩
theorem l_on (hb:b.data.toList.length < 1000000000) {a p lv fr o:Nat}{acc:List aJ} (hp:p≤6) (hl:a < b.data.toList.length) (ho:o≤a) (h:fg (bt b.data.toList a) p o=false) (h2:acc=[]→lB b.data.toList a p false) {ps:List aJ}{j:Nat} (hC:∀s,Pc ext 278 [.sc (.string b),iN a,iN p,iN lv] (.agg [cS ps,iN j,.sc (.int .i64 0)]) s) (hps:ps.length≤1) (hal:acc.length≤a) (htx:∀q∈ps,q.kind=1→∀x,acc.getLast?=some x→x.kind=1→x.text.length + q.text.length < 4611686018427387904) (r:R) (ih2:LC ext b j p lv fr (if p=4 then cM (bt b.data.toList a) o else o) (ps.foldl mF acc) r):LC ext b a p lv fr o acc (r):=by
 intro s0 f s v q hq hI;have hA:=hI.acc;have hcell:=hI.cell;have hn:=hI.n;have hw:=hI.w;obtain⟨f0,f1,f2,f3,f4,f10,f11,f12,_,_,_,_⟩:=hI;have hlen:=js hA;have h1v:=ju hA;have hcv:=kY hA;have hm2:min (min s.w s.n) s0.n=s0.n:=Nat.min_eq_right om;have hne:(s0.n=s.n)=False:=eq_false om;have hne2:(s.n=s0.n)=False:=eq_false om;have hE:=fun s=>qA (ext:=ext) (b:=b) (i:=a) (o:=o) hp hl s;have e1:decide (a < b.data.toList.length)=true:=decide_eq_true hl;have hT:(acc.length == 0)=true→∀s,Pc ext 277 [.sc (.string b),iN a,iN p] (.sc (.bool false)) s:=fun hz s=>zO (ext:=ext) (b:=b) om hp hl (h2 (List.eq_nil_of_length_eq_zero (eq_of_beq hz))) s;cases hz:acc.length == 0 with
 | true=>
  have hT0:=hT hz;cases g4:p == 4 with
  | false=>
   refine ad fun L hL=>?_;refine tN @ej.eq_1 @ew.eq_1 f0 f1 f2 f3 f4 f10 f11 f12 @aS @aE @aP @aC @ay hlen h1v hcv hcell hne hE h hl hC hz hT0 g4 tv tv tv tv tv ?_;subst hL;have hov:(if p=4 then cM (bt b.data.toList a) o else o)=o:=if_neg (aj g4);rw [hov] at ih2;refine tq (k:=s.n) (s0:=s0) (acc:=acc) (v:=v) (ps:=ps) (j:=j) hps om htx ⟨aX f0,aX f2,aX f3,aX f4,aX f10,aX f11,aX f12,aQ,aQ,?_,?_,?_,?_,jP hA s.n (.inr (Nat.le_refl _)),?_,?_⟩ fun f' s' v' hI'=>ih2 s0 f' s' v' q hq hI'
   ·exact gL.frame hA (by rw [dn,cD]; omega) fun i hi=>by rw [dz,if_neg om,dG,if_neg om]
   ·rw [dz,if_neg om,dG,if_neg om]; exact hcell
   ·rw [dz,if_pos rfl]
   ·rw [dn,cD]; omega
   ·rw [dn,cD]; omega
   ·rw [jz,ip]; omega
  | true=>
   have p4:=eq_of_beq g4;cases q40:bt b.data.toList a == 40 with
   | true=>
    have q41:(bt b.data.toList a == 41)=false:=by rw [eq_of_beq q40]; rfl
    refine ad fun L hL=>?_;refine tN @ej.eq_1 @ew.eq_1 f0 f1 f2 f3 f4 f10 f11 f12 @aS @aE @aP @aC @ay hlen hcell hne hE h hl hC hz hT0 g4 q40 q41 tv tv tv tv tv ?_;subst hL;have hov:(if p=4 then cM (bt b.data.toList a) o else o)=o + 1:=by rw [if_pos p4]; unfold cM; rw [if_pos (eq_of_beq q40)]
    rw [hov] at ih2;refine tq (k:=s.n) (s0:=s0) (acc:=acc) (v:=v) (ps:=ps) (j:=j) hps om htx ⟨aX f0,aX f2,aX f3,aX f4,aX f10,aX f11,aQ,aQ,aQ,?_,?_,?_,?_,jP hA s.n (.inr (Nat.le_refl _)),?_,?_⟩ fun f' s' v' hI'=>ih2 s0 f' s' v' q hq hI'
    ·exact gL.frame hA (by rw [dn,cD]; omega) fun i hi=>by rw [dz,if_neg om,dG,if_neg om]
    ·rw [dz,if_neg om,dG,if_neg om]; exact hcell
    ·rw [dz,if_pos rfl]
    ·rw [dn,cD]; omega
    ·rw [dn,cD]; omega
    ·rw [jz,ip]; omega
   | false=>
    cases q41:bt b.data.toList a == 41 with
    | true=>
     have ho1 : 1≤o:=by
      cases o with
      | zero=>rw [p4,eq_of_beq q41] at h; cases h
      | succ o=>omega
     refine ad fun L hL=>?_;refine tN @ej.eq_1 @ew.eq_1 f0 f1 f2 f3 f4 f10 f11 f12 @aS @aE @aP @aC @ay hlen hcell hne hE h hl hC hz hT0 g4 q40 q41 tv tv tv tv tv ?_;subst hL;have hov:(if p=4 then cM (bt b.data.toList a) o else o)=o - 1:=by rw [if_pos p4]; unfold cM; rw [if_neg (aj q40),if_pos (eq_of_beq q41)]
     rw [hov] at ih2;refine tq (k:=s.n) (s0:=s0) (acc:=acc) (v:=v) (ps:=ps) (j:=j) hps om htx ⟨aX f0,aX f2,aX f3,aX f4,aX f10,aX f11,aQ,aQ,aQ,?_,?_,?_,?_,jP hA s.n (.inr (Nat.le_refl _)),?_,?_⟩ fun f' s' v' hI'=>ih2 s0 f' s' v' q hq hI'
     ·exact gL.frame hA (by rw [dn,cD]; omega) fun i hi=>by rw [dz,if_neg om,dG,if_neg om]
     ·rw [dz,if_neg om,dG,if_neg om]; exact hcell
     ·rw [dz,if_pos rfl]
     ·rw [dn,cD]; omega
     ·rw [dn,cD]; omega
     ·rw [jz,ip]; omega
    | false=>
     refine ad fun L hL=>?_;refine tN @ej.eq_1 @ew.eq_1 f0 f1 f2 f3 f4 f10 f11 f12 @aS @aE @aP @aC @ay hlen hcell hne hE h hl hC hz hT0 g4 q40 q41 tv tv tv tv tv ?_;subst hL;have hov:(if p=4 then cM (bt b.data.toList a) o else o)=o:=by rw [if_pos p4]; unfold cM; rw [if_neg (aj q40),if_neg (aj q41)]
     rw [hov] at ih2;refine tq (k:=s.n) (s0:=s0) (acc:=acc) (v:=v) (ps:=ps) (j:=j) hps om htx ⟨aX f0,aX f2,aX f3,aX f4,aX f10,aX f11,aX f12,aQ,aQ,?_,?_,?_,?_,jP hA s.n (.inr (Nat.le_refl _)),?_,?_⟩ fun f' s' v' hI'=>ih2 s0 f' s' v' q hq hI'
     ·exact gL.frame hA (by rw [dn,cD]; omega) fun i hi=>by rw [dz,if_neg om,dG,if_neg om]
     ·rw [dz,if_neg om,dG,if_neg om]; exact hcell
     ·rw [dz,if_pos rfl]
     ·rw [dn,cD]; omega
     ·rw [dn,cD]; omega
     ·rw [jz,ip]; omega
 | false=>
  cases g4:p == 4 with
  | false=>
   refine ad fun L hL=>?_;refine KZ @ej.eq_1 @ew.eq_1 f0 f1 f2 f3 f4 f10 f11 f12 @aS @aE @aP @aC @ay hlen h1v hcv hcell hne hE h hl hC hz g4 ?_;subst hL;have hov:(if p=4 then cM (bt b.data.toList a) o else o)=o:=if_neg (aj g4);rw [hov] at ih2;refine tq (k:=s.n) (s0:=s0) (acc:=acc) (v:=v) (ps:=ps) (j:=j) hps om htx ⟨aX f0,aX f2,aX f3,aX f4,aX f10,aX f11,aX f12,aQ,aQ,?_,?_,?_,?_,jP hA s.n (.inr (Nat.le_refl _)),?_,?_⟩ fun f' s' v' hI'=>ih2 s0 f' s' v' q hq hI'
   ·exact gL.frame hA (by rw [dn,cD]; omega) fun i hi=>by rw [dz,if_neg om,dG,if_neg om]
   ·rw [dz,if_neg om,dG,if_neg om]; exact hcell
   ·rw [dz,if_pos rfl]
   ·rw [dn,cD]; omega
   ·rw [dn,cD]; omega
   ·rw [jz,ip]; omega
  | true=>
   have p4:=eq_of_beq g4;cases q40:bt b.data.toList a == 40 with
   | true=>
    have q41:(bt b.data.toList a == 41)=false:=by rw [eq_of_beq q40]; rfl
    refine ad fun L hL=>?_;refine KZ @ej.eq_1 @ew.eq_1 f0 f1 f2 f3 f4 f10 f11 f12 @aS @aE @aP @aC @ay hlen hcell hne hE h hl hC hz g4 q40 q41 ?_;subst hL;have hov:(if p=4 then cM (bt b.data.toList a) o else o)=o + 1:=by rw [if_pos p4]; unfold cM; rw [if_pos (eq_of_beq q40)]
    rw [hov] at ih2;refine tq (k:=s.n) (s0:=s0) (acc:=acc) (v:=v) (ps:=ps) (j:=j) hps om htx ⟨aX f0,aX f2,aX f3,aX f4,aX f10,aX f11,aQ,aQ,aQ,?_,?_,?_,?_,jP hA s.n (.inr (Nat.le_refl _)),?_,?_⟩ fun f' s' v' hI'=>ih2 s0 f' s' v' q hq hI'
    ·exact gL.frame hA (by rw [dn,cD]; omega) fun i hi=>by rw [dz,if_neg om,dG,if_neg om]
    ·rw [dz,if_neg om,dG,if_neg om]; exact hcell
    ·rw [dz,if_pos rfl]
    ·rw [dn,cD]; omega
    ·rw [dn,cD]; omega
    ·rw [jz,ip]; omega
   | false=>
    cases q41:bt b.data.toList a == 41 with
    | true=>
     have ho1 : 1≤o:=by
      cases o with
      | zero=>rw [p4,eq_of_beq q41] at h; cases h
      | succ o=>omega
     refine ad fun L hL=>?_;refine KZ @ej.eq_1 @ew.eq_1 f0 f1 f2 f3 f4 f10 f11 f12 @aS @aE @aP @aC @ay hlen hcell hne hE h hl hC hz g4 q40 q41 ?_;subst hL;have hov:(if p=4 then cM (bt b.data.toList a) o else o)=o - 1:=by rw [if_pos p4]; unfold cM; rw [if_neg (aj q40),if_pos (eq_of_beq q41)]
     rw [hov] at ih2;refine tq (k:=s.n) (s0:=s0) (acc:=acc) (v:=v) (ps:=ps) (j:=j) hps om htx ⟨aX f0,aX f2,aX f3,aX f4,aX f10,aX f11,aQ,aQ,aQ,?_,?_,?_,?_,jP hA s.n (.inr (Nat.le_refl _)),?_,?_⟩ fun f' s' v' hI'=>ih2 s0 f' s' v' q hq hI'
     ·exact gL.frame hA (by rw [dn,cD]; omega) fun i hi=>by rw [dz,if_neg om,dG,if_neg om]
     ·rw [dz,if_neg om,dG,if_neg om]; exact hcell
     ·rw [dz,if_pos rfl]
     ·rw [dn,cD]; omega
     ·rw [dn,cD]; omega
     ·rw [jz,ip]; omega
    | false=>
     refine ad fun L hL=>?_;refine KZ @ej.eq_1 @ew.eq_1 f0 f1 f2 f3 f4 f10 f11 f12 @aS @aE @aP @aC @ay hlen hcell hne hE h hl hC hz g4 q40 q41 ?_;subst hL;have hov:(if p=4 then cM (bt b.data.toList a) o else o)=o:=by rw [if_pos p4]; unfold cM; rw [if_neg (aj q40),if_neg (aj q41)]
     rw [hov] at ih2;refine tq (k:=s.n) (s0:=s0) (acc:=acc) (v:=v) (ps:=ps) (j:=j) hps om htx ⟨aX f0,aX f2,aX f3,aX f4,aX f10,aX f11,aX f12,aQ,aQ,?_,?_,?_,?_,jP hA s.n (.inr (Nat.le_refl _)),?_,?_⟩ fun f' s' v' hI'=>ih2 s0 f' s' v' q hq hI'
     ·exact gL.frame hA (by rw [dn,cD]; omega) fun i hi=>by rw [dz,if_neg om,dG,if_neg om]
     ·rw [dz,if_neg om,dG,if_neg om]; exact hcell
     ·rw [dz,if_pos rfl]
     ·rw [dn,cD]; omega
     ·rw [dn,cD]; omega
     ·rw [jz,ip]; omega
end Go.Proofs.YtgkggocjoolciaaGreatDoor
namespace Go.Mir
theorem Wx.err {l:List UInt8}{t:dS}{r:R} (h:Wx l t r):∀x,r=.error x→x.2≠0:=by
 induction h with
 | l_err hl h h2 k ih=>intro x hx; injection hx with hx; subst hx; exact ih _ rfl
 | l_tilde hl h h2 k ih=>exact ih
 | l_on hl h h2 k k2 ih ih2=>exact ih2
 | x_brc h h2 k ih=>exact ih
 | x_ari0 h h2 hl h3 h4 k ih=>intro x hx; injection hx with hx; subst hx; exact ih _ rfl
 | t_dq0 hl h h2 h3 k ih=>intro x hx; injection hx with hx; subst hx; exact ih _ rfl
 | w_err k h h2 h3 h4 h5 h6 h7 k2 ih=>intro x hx; injection hx with hx; subst hx; exact ih _ rfl
 | r_sharp hl h k h2 h3 k2 ih=>exact ih
 | r_two h k2 ih=>exact ih
 | q_err hl h k he=>intro x hx; injection hx with hx; subst hx; exact he
 | x_cmd0 h h2 h3 k he=>intro x hx; injection hx with hx; subst hx; exact he
 | _=>intro x hx; first | (injection hx with hx; subst hx; simp only; omega) | cases hx
theorem J6 (acc:List aJ) (q:aJ):(mF acc q).length≤acc.length + 1:=by
 unfold mF;split
 ·unfold lK;split
  ·rename_i p hp;split
   ·rw [List.length_append,List.length_dropLast];simp only [List.length_cons,List.length_nil];omega
   ·simp
  ·simp
 ·simp
theorem Gu {acc:List aJ}{q:aJ}{a j:Nat} (h:∀x∈acc,x.kind=1→x.text.length≤a) (hq:q.kind=1→q.text.length≤j - a) (haj:a≤j):∀x∈mF acc q,x.kind=1→x.text.length≤j:=by
 intro x hx hk;have old:∀x∈acc,x.kind=1→x.text.length≤j:=fun x hx hk=>Nat.le_trans (h x hx hk) haj;unfold mF at hx;split at hx
 ·rename_i hqk;have hq1:=hq hqk;unfold lK at hx;split at hx
  ·rename_i p hp;have hpm:p∈acc:=List.mem_of_getLast? hp;split at hx
   ·rename_i hpk;rcases List.mem_append.1 hx with hx | hx
    ·exact old x ((List.dropLast_sublist acc).subset hx) hk
    ·cases hx with
     | head=>
      have h1:=h p hpm hpk;show (p.text ++ q.text).length≤j;rw [List.length_append]; omega
     | tail _ hx=>cases hx
   ·rcases List.mem_append.1 hx with hx | hx
    ·exact old x hx hk
    ·cases hx with
     | head=>show q.text.length≤j; omega
     | tail _ hx=>cases hx
  ·cases hx with
   | head=>show q.text.length≤j; omega
   | tail _ hx=>cases hx
 ·rename_i hqk;rcases List.mem_append.1 hx with hx | hx
  ·exact old x hx hk
  ·cases hx with
   | head=>exact absurd hk hqk
   | tail _ hx=>cases hx
end Go.Mir
namespace Go.Proofs.YtgkggocjoolciaaGreatDoor
open Go Go.EvL Go.PE Go.Mir
variable {ext:aq}{b:ByteArray}
theorem gz {a p lv fr:Nat}{r:R} (h:LC ext b a p lv fr 0 [] r) (s:PS):Pc ext 262 [.sc (.string b),iN a,iN p,iN lv,iN fr] (bL r) s:=by
 obtain⟨q,hq⟩ : ∃q,bL r=.agg q:=by
  cases r with
  | ok x=>obtain⟨l,j⟩:=x; exact⟨_,rfl⟩
  | error x=>obtain⟨i,e⟩:=x; exact⟨_,rfl⟩
 rw [hq];refine fU s.n (fn:=Mb) (r:=10) (m:=3) (by rfl) (by simp [Mb]) (by rfl) (by rfl) ?_;unfold Mb;refine yZ ?_;exact h s _ _ (.sc (.slice none 0 0)) q hq ⟨by simp -implicitDefEqProofs (disch:=omega) only [ZA,↓reduceIte,reduceCtorEq],by simp -implicitDefEqProofs (disch:=omega) only [ZA,Nat.reduceEqDiff,↓reduceIte],by simp -implicitDefEqProofs (disch:=omega) only [ZA,Nat.reduceEqDiff,↓reduceIte,reduceCtorEq],by simp -implicitDefEqProofs (disch:=omega) only [ZA,Nat.reduceEqDiff,↓reduceIte,reduceCtorEq],by simp -implicitDefEqProofs (disch:=omega) only [ZA,Nat.reduceEqDiff,↓reduceIte,reduceCtorEq],by simp -implicitDefEqProofs (disch:=omega) only [ZA,Nat.reduceEqDiff,↓reduceIte],by simp -implicitDefEqProofs (disch:=omega) only [ZA,Nat.reduceEqDiff,↓reduceIte],by simp -implicitDefEqProofs (disch:=omega) only [ZA,↓reduceIte]; rfl,gL.nil _ _ _ _ _,by simp -implicitDefEqProofs (disch:=omega) only [ZA,↓reduceIte],by simp -implicitDefEqProofs (disch:=omega) only [ZA],by simp -implicitDefEqProofs (disch:=omega) only [ZA]⟩
def WC (ext:aq) (b:ByteArray):dS→R→Prop
 | .loop a p lv fr o acc,r=>p≤6→o≤a→acc.length≤a→(∀x∈acc,x.kind=1→x.text.length≤a)→LC ext b a p lv fr o acc r
 | .part a p lv,r=>p≤6→∀s,Pc ext 278 [.sc (.string b),iN a,iN p,iN lv] (bL r) s
 | .brc a p lv,r=>p≤6→∀s,Pc ext 324 [.sc (.string b),iN a,iN p,iN lv] (bL r) s
 | .brc2 a p lv,r=>p≤6→B2 ext b a p lv r
theorem vN {g:Nat}{A C:List PV} (hok:∀(ps:List aJ) (j:Nat),(∀s,aD Tryz.prog Γ ext g A s=some (.agg [cS ps,iN j,.sc (.int .i64 0)],s))→∀s,aD Tryz.prog Γ ext 278 C s=some (bL (.ok (ps,j)),s))
  (her:∀(x e:Nat),(∀s,aD Tryz.prog Γ ext g A s=some (.agg [.sc (.slice none 0 0),iN x,iN e],s))→∀s,aD Tryz.prog Γ ext 278 C s=some (bL (.error (x,e)),s)) (r:R) (h:∀s,aD Tryz.prog Γ ext g A s=some (bL r,s)):∀s,aD Tryz.prog Γ ext 278 C s=some (bL r,s):=by
 cases r with
 | ok x=>obtain⟨ps,j⟩:=x; exact hok ps j h
 | error x=>obtain⟨x,e⟩:=x; exact her x e h
theorem RX (hb:b.data.toList.length < 1000000000) {a p lv:Nat} (hp:p≤6) (hl:a < b.data.toList.length) (hx:cj b.data.toList a=true) (r:R) (h:∀s,Pc ext 314 [.sc (.string b),iN a,iN p,iN lv] (bL r) s) (s:PS):Pc ext 297 [.sc (.string b),iN a,iN p,iN lv] (bL r) s:=by
 cases r with
 | ok x=>obtain⟨ps,j⟩:=x; exact FK hb hp hl hx ps j h s
 | error x=>obtain⟨x,e⟩:=x; exact FZ hb hp hl hx x e h s
theorem Ft (hb:b.data.toList.length < 1000000000) {a p lv:Nat} (hp:p≤6) (hl:a < b.data.toList.length) (hd:bt b.data.toList a=36) (r:R) (h:∀s,Pc ext 297 [.sc (.string b),iN a,iN p,iN lv] (bL r) s):∀s,Pc ext 278 [.sc (.string b),iN a,iN p,iN lv] (bL r) s:=
 vN (fun ps j hC=>Hw hb hp hl hd ps j hC) (fun x e hC=>Js hb hp hl hd x e hC) r h
theorem rq (hb:b.data.toList.length < 1000000000) {a p lv:Nat} (hp:p≤6) (hl:a < b.data.toList.length) (hx:cj b.data.toList a=true) (r:R) (h:∀s,Pc ext 314 [.sc (.string b),iN a,iN p,iN lv] (bL r) s):∀s,Pc ext 278 [.sc (.string b),iN a,iN p,iN lv] (bL r) s:=
 Ft hb hp hl (zG hx) r fun s=>RX hb hp hl hx r h s
theorem rB (hb:b.data.toList.length < 1000000000) {a p lv:Nat} (hp:p≤6) (hl:a < b.data.toList.length) (hd:bt b.data.toList a=92) (r:R) (h:∀s,Pc ext 295 [.sc (.string b),iN a,iN p] (bL r) s):∀s,Pc ext 278 [.sc (.string b),iN a,iN p,iN lv] (bL r) s:=
 vN (fun ps j hC=>Kn hb hp hl hd ps j hC) (fun x e hC=>I6 hb hp hl hd x e hC) r h
theorem Ej (hb:b.data.toList.length < 1000000000) {a p lv:Nat} (hp:p≤6) (hl:a < b.data.toList.length) (hd:bt b.data.toList a=96) (r:R) (h:∀s,Pc ext 296 [.sc (.string b),iN a] (bL r) s):∀s,Pc ext 278 [.sc (.string b),iN a,iN p,iN lv] (bL r) s:=
 vN (fun ps j hC=>IX hb hp hl hd ps j hC) (fun x e hC=>Jf hb hp hl hd x e hC) r h
theorem AE (hb:b.data.toList.length < 1000000000) {a p lv:Nat} (hp:p≤6) (hl:a < b.data.toList.length) (hd:bt b.data.toList a=39∨bt b.data.toList a=34) (ho:cN p=true) (r:R) (h:∀s,Pc ext 298 [.sc (.string b),iN a,iN lv] (bL r) s):∀s,Pc ext 278 [.sc (.string b),iN a,iN p,iN lv] (bL r) s:=by
 rcases hd with hd | hd
 ·exact vN (fun ps j hC=>H8 hb hp hl hd ho ps j hC) (fun x e hC=>FO hb hp hl hd ho x e hC) r h
 ·exact vN (fun ps j hC=>GA hb hp hl hd ho ps j hC) (fun x e hC=>GK hb hp hl hd ho x e hC) r h
theorem Q8 (hb:b.data.toList.length < 1000000000) {a p lv:Nat} (hp:p≤6) (hx:cj b.data.toList a=true) (h:bt b.data.toList (a + 1)=123) (r:R) (hC:∀s,Pc ext 324 [.sc (.string b),iN a,iN p,iN lv] (bL r) s) (s:PS):Pc ext 314 [.sc (.string b),iN a,iN p,iN lv] (bL r) s:=by
 cases r with
 | ok x=>obtain⟨ps,j⟩:=x; exact Gr hb hp hx h ps j hC s
 | error x=>obtain⟨x,e⟩:=x; exact Hm hb hp hx h x e hC s
theorem pE {x:aJ}{a:Nat} (h:x∈([]:List aJ)):x.kind=1→x.text.length≤a:=by cases h
theorem JI (hb:b.data.toList.length < 1000000000) {t:dS}{r:R} (h:Wx b.data.toList t r):t.ok b.data.toList→WC ext b t r:=by
 have hb2:b.data.toList.length < 4611686018427387904:=om;have hPar:∀{i j:Nat},gW b.data.toList i j→i≤b.data.toList.length→∀s,Pc ext 331 [.sc (.string b),iN i] (iN j) s:=fun k hi s=>AG hb2 hi k s
 induction h with
 | @l_end p lv fr o acc h=>
  intro ok hp ho hal htl;rcases h with rfl | rfl
  ·exact Rc hb
  ·exact PG hb
 | l_open h h2=>intro ok hp ho hal htl; exact l_open hb h h2
 | l_q hl h h2=>intro ok hp ho hal htl; exact l_q hb hp hl h h2
 | l_a0 h h2=>intro ok hp ho hal htl; exact l_a0 hb h h2
 | l_a h h2 h3=>intro ok hp ho hal htl; exact l_a hb h h2 h3
 | l_a1 h h2 h3=>intro ok hp ho hal htl; exact l_a1 hb h h2 h3
 | l_tilde hl h h2 k ih=>
  intro ok hp ho hal htl;refine l_tilde hb hp hl h h2 _ (ih (by simp only [dS.ok]; omega) hp om (by simp) fun x hx hk=>?_);cases hx with
  | head=>cases hk
  | tail _ hx=>cases hx
 | @l_err a p lv fr o acc x hl h h2 k ih=>
  intro ok hp ho hal htl;obtain⟨x,e⟩:=x;exact l_err hb hp hl ho h h2 (k.err _ rfl) (ih hl hp)
 | @l_on a p lv fr o acc ps j r hl h h2 k k2 ih ih2=>
  intro ok hp ho hal htl;have hB:=k.bound hl;obtain⟨b1,b2,b3,b4⟩:=hB;simp only at b1 b2 b3 b4;refine l_on hb hp hl ho h h2 (ih hl hp) b3 hal (fun q hq hk x hx hxk=>?_) r (ih2 b2 hp ?_ ?_ ?_)
  ·have h1:=b4 q hq hk;have h3:=htl x (List.mem_of_getLast? hx) hxk;omega
  ·split
   ·unfold cM; split
    ·omega
    ·split<;>omega
   ·omega
  ·match ps,b3 with
   | [],_=>show acc.length≤j; omega
   | [q],_=>have:=J6 acc q; show (mF acc q).length≤j; omega
  ·match ps,b3,b4 with
   | [],_,_=>exact fun x hx hk=>Nat.le_trans (htl x hx hk) om
   | [q],_,b4=>exact Gu htl (fun hk=>b4 q List.mem_cons_self hk) om
 | s_end5 h h2=>intro ok hp; exact rB hb hp ok h _ fun s=>Mf hb h2 s
 | s_end h h2 h3=>intro ok hp; exact rB hb hp ok h _ fun s=>QJ hb h2 h3 s
 | s_nl h h2 h3=>intro ok hp; exact rB hb hp ok h _ fun s=>U7 hb h2 h3 s
 | s_out h h2 h3 h4=>intro ok hp; exact rB hb hp ok h _ fun s=>QP hb hp h2 h3 h4 s
 | s_esc h h2 h3 h4 h5=>intro ok hp; exact rB hb hp ok h _ fun s=>R7 hb hp h2 h3 h4 h5 s
 | s_par h h2 h3=>
  intro ok hp;rcases h3 with h3 | h3
  ·exact rB hb hp ok h _ fun s=>JY hb h2 h3 s
  ·exact rB hb hp ok h _ fun s=>I9 hb h2 h3 s
 | @s_two a p lv h h2 h3 h4 h5 h6=>
  intro ok hp;by_cases h7:p=4
  ·subst h7;exact rB hb hp ok h _ fun s=>KQ hb h2 h3 h5 (h6 rfl).1 (h6 rfl).2 s
  ·exact rB hb hp ok h _ fun s=>Qh hb hp h2 h3 h4 h5 h7 s
 | q_err hl h k he=>intro ok hp; exact Ej hb hp ok h _ fun s=>Q4 hb hl h k he s
 | q_ok hl h k c=>intro ok hp; exact Ej hb hp ok h _ fun s=>KE hb hl h k _ (fun s q f hq hI h7=>D7 rfl (Cl hb hl h k) c hq f hI h7) s
 | q_nl hl h k c c2=>intro ok hp; exact Ej hb hp ok h _ fun s=>KE hb hl h k _ (fun s q f hq hI h7=>CO rfl (Cl hb hl h k) c c2 hq f hI h7) s
 | q_no hl h k c c2=>intro ok hp; exact Ej hb hp ok h _ fun s=>KE hb hl h k _ (fun s q f hq hI h7=>DW rfl (Cl hb hl h k) c c2 hq f hI h7) s
 | x_brc h h2 k ih=>intro ok hp; have hl:=bS h; exact rq hb hp ok h _ fun s=>Q8 hb hp h h2 _ (ih (by simp only [dS.ok]; omega) hp) s
 | x_deep h h2 hl h3 h4=>intro ok hp; exact rq hb hp ok h _ fun s=>MF hb hp h h2 hl h3 h4 s
 | @x_ari a p lv ps j h h2 hl h3 h4 k ih=>
  intro ok hp;have hB:=k.bound (by simp only [dS.ok]; omega);exact rq hb hp ok h _ fun s=>RE hb hp h h2 hl h3 h4 ps j hB.2.1 (gz (ih (by simp only [dS.ok]; omega) om om (by simp) fun x hx=>pE hx)) s
 | @x_ari0 a p lv x h h2 hl h3 h4 k ih=>
  intro ok hp;obtain⟨x,e⟩:=x;exact rq hb hp ok h _ fun s=>Nw hb hp h h2 hl h3 h4 x e (k.err _ rfl) (gz (ih (by simp only [dS.ok]; omega) om om (by simp) fun x hx=>pE hx)) s
 | @x_cmd a p lv r h h2 h3 k=>
  intro ok hp;have hl:=bS h;have hB:=k.bound ⟨om,om⟩;have hB2:=hB.2 rfl;simp only [fX.at] at hB2;exact rq hb hp ok h _ fun s=>Qf hb hp h h2 h3 r om hB.1 (qj hb2 (.p_exp (p:=rQ p) h (.e_cmd h2 h3 k)) ok) s
 | @x_cmd0 a p lv r e h h2 h3 k he=>intro ok hp; exact rq hb hp ok h _ fun s=>O0 hb hp h h2 h3 r e he (qj hb2 (.p_exp (p:=rQ p) h (.e_cmd h2 h3 k)) ok) s
 | x_sp h h2=>intro ok hp; exact rq hb hp ok h _ fun s=>TX hb hp h h2 s
 | x_long h h2 h3 h4 h5=>intro ok hp; exact rq hb hp ok h _ fun s=>N6 hb hp h h2 h3 h4 om s
 | x_nm h h2 h3 h4 h5=>intro ok hp; exact rq hb hp ok h _ fun s=>Ty hb hp h h2 h3 h4 om s
 | x_bad hl h h2 h3 h4=>
  intro ok hp;rcases h4 with h4 | h4
  ·exact Ft hb hp hl h _ fun s=>O9 hb hp hl h2 h3 h4.1 h4.2 s
  ·exact Ft hb hp hl h _ fun s=>Of hb hp hl h2 h3 h4 s
 | x_lit hl h h2 h3=>intro ok hp; exact Ft hb hp hl h _ fun s=>Pe hb hp hl h2 h3 s
 | t_sq0 hl h h2 h3=>intro ok hp; exact AE hb hp hl (.inl h) h2 _ fun s=>Re hb hl h om (qj hb2 (.p_sq0 hl h h3) ok) s
 | @t_sq a p lv hl h h2 h3=>intro ok hp; have hg:=md (fun x=>x != 39) b.data.toList (a + 1); exact AE hb hp hl (.inl h) h2 _ fun s=>SU hb hl h (by unfold cB at *; omega) om (qj hb2 (.p_sq hl h h3) ok) s
 | t_deep hl h h2 h3=>intro ok hp; exact AE hb hp hl (.inr h) h2 _ fun s=>Nx hb hl h h3 s
 | @t_dq a p lv ps j hl h h2 h3 k ih=>
  intro ok hp;have hB:=k.bound (by simp only [dS.ok]; omega);exact AE hb hp hl (.inr h) h2 _ fun s=>Tz hb hl h h3 ps j hB.2.1 (gz (ih (by simp only [dS.ok]; omega) om om (by simp) fun x hx=>pE hx)) s
 | @t_dq0 a p lv x hl h h2 h3 k ih=>
  intro ok hp;obtain⟨x,e⟩:=x;exact AE hb hp hl (.inr h) h2 _ fun s=>PT hb hl h h3 x e (k.err _ rfl) (gz (ih (by simp only [dS.ok]; omega) om om (by simp) fun x hx=>pE hx)) s
 | o_op hl h=>intro ok hp; exact fun s=>Sw hb hl h s
 | o_dq hl h=>intro ok hp; exact fun s=>Rj hb hl h s
 | @o_lit a p lv hl h1 h2 h3 h4 h5 h6=>
  intro ok hp;by_cases h0:p=0
  ·subst h0;have h7:=h5 rfl;unfold ce at h7;rw [Bool.or_eq_false_iff,Bool.or_eq_false_iff] at h7;exact fun s=>Mh hb hl h1 h2 h3 (h4 rfl).1 (h4 rfl).2 h7.1.1 h7.1.2 h7.2 s
  ·exact fun s=>Rt hb hp hl h1 h2 h3 h4 h0 h6 s
 | r_long hl h k h2=>intro ok hp; have hd:=k.bd hl; exact fun s=>M8 hb ok hl h hd.2 hd.1 (hPar k hl) om s
 | r_len hl h k h2 h3 h4 h5=>intro ok hp; have hd:=k.bd hl; exact fun s=>PH hb ok hl h hd.2 hd.1 (hPar k hl) om h3 h4 h5 s
 | r_end hl h k h2 h3 h4=>intro ok hp; have hd:=k.bd hl; exact fun s=>PQ hb ok hl h hd.2 hd.1 (hPar k hl) om h3 h4 s
 | @r_sharp a p lv j r hl h k h2 h3 k2 ih=>
  intro ok hp;have hd:=k.bd hl;by_cases h4:a + 3 < j
  ·exact fun s=>G3 hb ok hl h hd.2 hd.1 (hPar k hl) om h4 (h3 h4).1 (h3 h4).2 r (ih ok hp) s
  ·exact fun s=>Gl hb ok hl h hd.2 hd.1 (hPar k hl) om h4 r (ih ok hp) s
 | @r_two a p lv r h k2 ih=>
  intro ok hp;by_cases h4:a + 2 < b.data.toList.length
  ·exact fun s=>LZ hb ok h4 (h h4) r (ih ok hp) s
  ·exact fun s=>Mt hb ok h4 r (ih ok hp) s
 | w_long k h=>intro ok hp; have hd:=k.bd ok; exact MD hb hd.2 (hPar k ok) hd.1 h
 | w_end k h h2=>intro ok hp; have hd:=k.bd ok; exact RU hb hd.2 (hPar k ok) hd.1 h h2
 | w_none k h2=>intro ok hp; exact Oc hb ok (hPar k ok) rfl h2
 | w_plain k h h2 h3 h4=>intro ok hp; exact IN hb om (hPar k ok) h h2 h3 h4
 | w_colon0 k h h2 h3 h4 h5 h6 h7=>intro ok hp; exact Fx hb om (hPar k ok) h h2 h3 (gG hb2 h2) h4 h5 h6 h7
 | w_colon k h h2 h3 h4 h5 h6 h7=>intro ok hp; exact J0 hb om (hPar k ok) h h2 h3 (gG hb2 h2) h4 h5 h6 h7
 | w_sharp k h h2 h3 h4 h5 h6 h7 k2=>intro ok hp; exact Jj hb om (hPar k ok) h h2 h3 (gG hb2 h2) h4 h5 h6 h7 (hPar k2 om)
 | w_bad k h h2 h3 h4 h5 h6 h7=>intro ok hp; exact Pw hb om (hPar k ok) h h2 h3 (gG hb2 h2) h4 h5 h6 h7
 | w_deep k h h2 h3 h4 h5 h6=>intro ok hp; exact MH hb om (hPar k ok) h h2 h3 (gG hb2 h2) h4 h5 h6
 | w_join k h h2 h3 h4 h5 h6 h7=>intro ok hp; exact N1 hb om (hPar k ok) h h2 h3 (gG hb2 h2) h4 h5 h6 (mB _ _ h2 h5).1 h7
 | @w_err a p lv j x k h h2 h3 h4 h5 h6 h7 k2 ih=>
  intro ok hp;obtain⟨x,e⟩:=x;have hw:=uX p;exact PN hb om (hPar k ok) h h2 h3 (gG hb2 h2) h4 h5 h6 hp (mB _ _ h2 h5).1 h7 (k2.err _ rfl) (gz (ih (mB _ _ h2 h5).1 hw.2.2.2 om (by simp) fun x hx=>pE hx))
 | @w_ok a p lv j ps i k h h2 h3 h4 h5 h6 h7 k2 ih=>
  intro ok hp;have hw:=uX p;have hB:=k2.bound (mB _ _ h2 h5).1;exact TZ hb om (hPar k ok) h h2 h3 (gG hb2 h2) h4 h5 h6 hp (mB _ _ h2 h5).1 h7 (hB.2.2.1 hw.1 hw.2.1) (gz (ih (mB _ _ h2 h5).1 hw.2.2.2 om (by simp) fun x hx=>pE hx))
end Go.Proofs.YtgkggocjoolciaaGreatDoor
namespace Go.Mir
theorem mM.total (l:List UInt8):∀(m i:Nat),l.length - i < m→∃j,mM l i j:=by
 intro m
 induction m with
 | zero=>intro i h; omega
 | succ m ih=>
  intro i h;cases hj:cH l i with
  | false=>exact⟨_,.stop hj⟩
  | true=>
   have:=gm hj;obtain⟨j,k⟩:=ih (i + 2) (by omega);exact⟨j,.step hj k⟩
theorem lB.total (l:List UInt8) (a p:Nat):∃g,lB l a p g:=by
 cases h:cN p && bt l a == 126 with
 | false=>exact⟨_,.no h⟩
 | true=>
  rw [Bool.and_eq_true,beq_iff_eq] at h;obtain⟨j,k⟩:=mM.total l _ (a + 1) (Nat.lt_succ_self _);exact⟨_,.yes h.1 h.2 k⟩
theorem wM.total (l:List UInt8):∀(m i v:Nat),l.length - i < m→∃j,wM l v i j:=by
 intro m
 induction m with
 | zero=>intro i v h; omega
 | succ m ih=>
  intro i v h;by_cases hl:i < l.length
  ·cases hd:bD (bt l i) with
   | false=>exact⟨_,.stop (.inr (.inl hd))⟩
   | true=>
    by_cases hv : 10 * v + (bt l i - 48)≤2147483647
    ·obtain⟨j,k⟩:=ih (i + 1) (10 * v + (bt l i - 48)) (by omega);exact⟨j,.step hl hd hv k⟩
    ·exact⟨_,.stop (.inr (.inr (by omega)))⟩
  ·exact⟨_,.stop (.inl (by omega))⟩
theorem gW.total (l:List UInt8) (i:Nat):∃j,gW l i j:=by
 by_cases hl:i < l.length
 ·by_cases h0:bt l i=48
  ·exact⟨_,.zero hl h0⟩
  cases hd:bD (bt l i) with
  | true=>
   obtain⟨j,k⟩:=wM.total l _ i 0 (Nat.lt_succ_self _);exact⟨j,.num hl hd h0 k⟩
  | false=>
   cases hw:eo (bt l i) with
   | true=>exact⟨_,.name hl hd hw⟩
   | false=>
    cases hs:cm (bt l i) with
    | true=>exact⟨_,.spec hl hd hs⟩
    | false=>exact⟨_,.none hl hw hs⟩
 ·exact⟨_,.none0 (by omega)⟩
theorem Closed.total (t:List UInt8):∃g,Closed t g:=by
 obtain⟨r,e,k⟩:=Lx.total (wrap t) _ (.pass 0 0) (Nat.lt_succ_self _) (by show 0 < (wrap t).length; simp [wrap]);exact⟨_,.mk k⟩
def dS.size (l:List UInt8):dS→Nat
 | .loop a _ _ _ _ _=>5 * (l.length - a) + 4
 | .part a _ _=>5 * (l.length - a) + 3
 | .brc a _ _=>5 * (l.length - a) + 2
 | .brc2 a _ _=>5 * (l.length - a) + 1
theorem Wx.total (l:List UInt8):∀(m:Nat) (t:dS),t.size l < m→t.ok l→∃r,Wx l t r:=by
 intro m
 induction m with
 | zero=>intro t h; omega
 | succ m ih=>
  intro t hm ok;cases t with
  | loop a p lv fr o acc=>
   simp only [dS.size,dS.ok] at hm ok;by_cases ha:a=l.length
   ·subst ha;by_cases h:p=0∨p=5
    ·exact⟨_,.l_end h⟩
    ·exact⟨_,.l_open (fun h1=>h (.inl h1)) (fun h1=>h (.inr h1))⟩
   have hl:a < l.length:=by omega
   cases he:fg (bt l a) p o with
   | true=>
    by_cases hp:p=4
    ·subst hp;by_cases h2:a + 1=l.length
     ·exact⟨_,.l_a0 he h2⟩
     ·by_cases h3:bt l (a + 1)=41
      ·exact⟨_,.l_a he (by omega) h3⟩
      ·exact⟨_,.l_a1 he (by omega) h3⟩
    ·exact⟨_,.l_q hl he hp⟩
   | false=>
    obtain⟨g,hg⟩:=lB.total l a p;have step:(acc=[]→lB l a p false)→∃r,Wx l (.loop a p lv fr o acc) r:=by
     intro hT;obtain⟨r,k⟩:=ih (.part a p lv) (by simp only [dS.size]; omega) hl;cases r with
     | error x=>exact⟨_,.l_err hl he hT k⟩
     | ok x=>
      obtain⟨ps,j⟩:=x;have hB:=k.bound hl;obtain⟨b1,b2,_,_⟩:=hB;simp only at b1 b2;obtain⟨r,k2⟩:=ih (.loop j p lv fr (if p=4 then cM (bt l a) o else o) (ps.foldl mF acc)) (by simp only [dS.size]; omega) b2;exact⟨r,.l_on hl he hT k k2⟩
    cases acc with
    | nil=>
     cases g with
     | true=>
      obtain⟨r,k⟩:=ih (.loop (a + 1) p lv fr o [qd]) (by simp only [dS.size]; omega) (by simp only [dS.ok]; omega);exact⟨r,.l_tilde hl he hg k⟩
     | false=>exact step fun _=>hg
    | cons c acc=>exact step fun h=>by cases h
  | part a p lv=>
   simp only [dS.size,dS.ok] at hm ok;by_cases h92:bt l a=92
   ·by_cases h2:a + 1=l.length
    ·by_cases h5:p=5
     ·subst h5; exact⟨_,.s_end5 h92 h2⟩
     ·exact⟨_,.s_end h92 h2 h5⟩
    have h2':a + 1 < l.length:=by omega
    by_cases h3:bt l (a + 1)=10
    ·exact⟨_,.s_nl h92 h2' h3⟩
    cases h4:cN p with
    | true=>exact⟨_,.s_out h92 h2' h3 h4⟩
    | false=>
     cases h5:bX (bt l (a + 1)) p with
     | true=>exact⟨_,.s_esc h92 h2' h3 h4 h5⟩
     | false=>
      by_cases h6:p=4∧(bt l (a + 1)=40∨bt l (a + 1)=41)
      ·obtain⟨rfl,h6⟩:=h6;exact⟨_,.s_par h92 h2' h6⟩
      ·exact⟨_,.s_two h92 h2' h3 h4 h5 fun hp=>⟨fun h=>h6 ⟨hp,.inl h⟩,fun h=>h6 ⟨hp,.inr h⟩⟩⟩
   by_cases h96:bt l a=96
   ·obtain⟨r,e,k⟩:=Lx.total l _ (.bq (a + 1) a) (Nat.lt_succ_self _) ⟨by omega,ok⟩;by_cases he:e=0
    ·subst he;obtain⟨g,c⟩:=Closed.total (fm (pL (sub l (a + 1) (r - 1))));cases g with
     | true=>exact⟨_,.q_ok ok h96 k c⟩
     | false=>
      obtain⟨g,c2⟩:=Closed.total (fm (pL (sub l (a + 1) (r - 1))) ++ [10]);cases g with
      | true=>exact⟨_,.q_nl ok h96 k c c2⟩
      | false=>exact⟨_,.q_no ok h96 k c c2⟩
    ·exact⟨_,.q_err ok h96 k he⟩
   by_cases h36:bt l a=36
   ·cases hx:cj l a with
    | true=>
     have hl1:=bS hx;by_cases h1:bt l (a + 1)=123
     ·obtain⟨r,k⟩:=ih (.brc a p lv) (by simp only [dS.size]; omega) (by simp only [dS.ok]; omega);exact⟨r,.x_brc hx h1 k⟩
     by_cases h2:bt l (a + 1)=40
     ·by_cases h3:a + 2 < l.length∧bt l (a + 2)=40
      ·by_cases h4 : 32≤lv
       ·exact⟨_,.x_deep hx h2 h3.1 h3.2 h4⟩
       ·obtain⟨r,k⟩:=ih (.loop (a + 3) 4 (lv + 1) a 0 []) (by simp only [dS.size]; omega) (by simp only [dS.ok]; omega);cases r with
        | error x=>exact⟨_,.x_ari0 hx h2 h3.1 h3.2 (by omega) k⟩
        | ok x=>exact⟨_,.x_ari hx h2 h3.1 h3.2 (by omega) k⟩
      ·have h3':a + 2 < l.length→bt l (a + 2)≠40:=fun h h'=>h3 ⟨h,h'⟩;obtain⟨r,e,k⟩:=Lx.total l _ (.cmd (a + 2) a 1 true) (Nat.lt_succ_self _) ⟨by omega,ok⟩;by_cases he:e=0
       ·subst he; exact⟨_,.x_cmd hx h2 h3' k⟩
       ·exact⟨_,.x_cmd0 hx h2 h3' k he⟩
     cases hs:cm (bt l (a + 1)) with
     | true=>exact⟨_,.x_sp hx hs⟩
     | false=>
      by_cases h5 : 32 < dY l (a + 1) - (a + 1)
      ·exact⟨_,.x_long hx hs h1 h2 h5⟩
      ·exact⟨_,.x_nm hx hs h1 h2 (by omega)⟩
    | false=>
     by_cases h4:cN p=true∧((a + 1 < l.length∧bt l (a + 1)=96)∨cH l (a + 1)=true)
     ·exact⟨_,.x_bad ok h36 hx h4.1 h4.2⟩
     ·refine⟨_,.x_lit ok h36 hx fun ho=>⟨fun h=>h4 ⟨ho,.inl h⟩,?_⟩⟩;cases hj:cH l (a + 1) with
      | false=>rfl
      | true=>exact absurd ⟨ho,.inr hj⟩ h4
   by_cases ho:cN p=true∧(bt l a=39∨bt l a=34)
   ·obtain⟨ho,hq⟩:=ho;by_cases h39:bt l a=39
    ·have:=jH (q:=fun x=>x != 39) (l:=l) (i:=a + 1) (by omega);by_cases h3:cB l 39 (a + 1)=l.length
     ·exact⟨_,.t_sq0 ok h39 ho h3⟩
     ·exact⟨_,.t_sq ok h39 ho (by unfold cB at *; omega)⟩
    have h34:bt l a=34:=hq.resolve_left h39;by_cases h4 : 32≤lv
    ·exact⟨_,.t_deep ok h34 ho h4⟩
    ·obtain⟨r,k⟩:=ih (.loop (a + 1) 2 (lv + 1) a 0 []) (by simp only [dS.size]; omega) (by simp only [dS.ok]; omega);cases r with
     | error x=>exact⟨_,.t_dq0 ok h34 ho (by omega) k⟩
     | ok x=>exact⟨_,.t_dq ok h34 ho (by omega) k⟩
   by_cases h0:p=0∧ce (bt l a)=true
   ·obtain⟨rfl,h0⟩:=h0;exact⟨_,.o_op ok h0⟩
   by_cases h3:p=3∧bt l a=34
   ·obtain⟨rfl,h3⟩:=h3;exact⟨_,.o_dq ok h3⟩
   refine⟨_,.o_lit ok h92 h96 h36 (fun h=>⟨fun h1=>ho ⟨h,.inl h1⟩,fun h1=>ho ⟨h,.inr h1⟩⟩) (fun hp=>?_) fun hp h=>h3 ⟨hp,h⟩⟩;cases hb:ce (bt l a) with
   | false=>rfl
   | true=>exact absurd ⟨hp,hb⟩ h0
  | brc a p lv=>
   simp only [dS.size,dS.ok] at hm ok;obtain⟨r,k2⟩:=ih (.brc2 a p lv) (by simp only [dS.size]; omega) ok;by_cases h1:a + 2 < l.length∧bt l (a + 2)=35
   ·obtain⟨hl,h⟩:=h1;obtain⟨j,k⟩:=gW.total l (a + 3);have hd:=k.bd hl;by_cases h2 : 32 < j - (a + 3)
    ·exact⟨_,.r_long hl h k h2⟩
    by_cases h3:a + 3 < j
    ·by_cases h4:j=l.length
     ·exact⟨_,.r_end hl h k (by omega) h3 h4⟩
     by_cases h5:bt l j=125
     ·exact⟨_,.r_len hl h k (by omega) h3 (by omega) h5⟩
     ·exact⟨r,.r_sharp hl h k (by omega) (fun _=>⟨by omega,h5⟩) k2⟩
    ·exact⟨r,.r_sharp hl h k (by omega) (fun h=>absurd h h3) k2⟩
   ·exact⟨r,.r_two (fun h h'=>h1 ⟨h,h'⟩) k2⟩
  | brc2 a p lv=>
   simp only [dS.size,dS.ok] at hm ok;obtain⟨j,k⟩:=gW.total l (a + 2);have hd:=k.bd ok;by_cases h : 32 < j - (a + 2)
   ·exact⟨_,.w_long k h⟩
   by_cases h2:j=l.length
   ·exact⟨_,.w_end k (by omega) h2⟩
   have h2':j < l.length:=by omega
   by_cases h3:j=a + 2
   ·subst h3; exact⟨_,.w_none k h2'⟩
   have h3':a + 2 < j:=by omega
   by_cases h4:bt l j=125
   ·exact⟨_,.w_plain k (by omega) h2' h3' h4⟩
   by_cases h5:(lj l j).1=0
   ·by_cases h6:bt l j=58
    ·by_cases h7:j + 1=l.length
     ·exact⟨_,.w_colon0 k (by omega) h2' h3' h4 h5 h6 h7⟩
     ·exact⟨_,.w_colon k (by omega) h2' h3' h4 h5 h6 (by omega)⟩
    ·by_cases h7:bt l (a + 2)=35
     ·obtain⟨i,ki⟩:=gW.total l (a + 3);exact⟨_,.w_sharp k (by omega) h2' h3' h4 h5 h6 h7 ki⟩
     ·exact⟨_,.w_bad k (by omega) h2' h3' h4 h5 h6 h7⟩
   ·by_cases h6 : 32≤lv
    ·exact⟨_,.w_deep k (by omega) h2' h3' h4 h5 h6⟩
    have ho:=mB l j h2' h5;cases h7:cH l (j + (lj l j).2.2) with
    | true=>exact⟨_,.w_join k (by omega) h2' h3' h4 h5 (by omega) h7⟩
    | false=>
     obtain⟨r,k2⟩:=ih (.loop (j + (lj l j).2.2) (dV p) (lv + 1) a 0 []) (by simp only [dS.size]; omega) ho.1;cases r with
     | error x=>exact⟨_,.w_err k (by omega) h2' h3' h4 h5 (by omega) h7 k2⟩
     | ok x=>exact⟨_,.w_ok k (by omega) h2' h3' h4 h5 (by omega) h7 k2⟩
end Go.Mir
namespace Go.Mir
inductive fN (t:List UInt8) (p:Nat):R→Prop where
 | long (h : 16384 < t.length):fN t p (.error (0,3))
 | wx {r} (h:t.length≤16384) (k:Wx t (.loop 0 p 1 0 0 []) r):fN t p r
theorem fN.total (t:List UInt8) (p:Nat):∃r,fN t p r:=by
 by_cases h:t.length≤16384
 ·obtain⟨r,k⟩:=Wx.total t _ (.loop 0 p 1 0 0 []) (Nat.lt_succ_self _) (Nat.zero_le _);exact⟨r,.wx h k⟩
 ·exact⟨_,.long (by omega)⟩
open Go Go.PE
def Ng:R→List PV
 | .ok (l,_)=>[cS l,.sc (.int .i64 0),.sc (.int .i64 0)]
 | .error (a,e)=>[.sc (.slice none 0 0),iN a,iN e]
def uN:=And.intro (@Ng.eq_1)<|@Ng.eq_2
end Go.Mir
namespace Go.PE
open Go Go.EvL
section
variable {P:Program}{Γ:Nat→Option fJ}{ext:aq}
theorem jW {g r r2 r3:Nat}{fn:fJ}{args:List PV}{s:PS}{u:PV}{v w:Value} (hu:∀n s,il n s u=some u) (hg:Γ g=some fn) (hl:args.length≤fn.nt) (hr:fn.res=[.tmp r,.tmp r2,.tmp r3]) (hk:fn.keep=false) (h:Er (fun f' s'=>s.n≤s'.w∧f' r=u∧f' r2=.sc v∧f' r3=.sc w) (aN P Γ ext fn.body (br args 0) ⟨s.h,s.n,s.n⟩)):aD P Γ ext g args s=some (.tup [u,.sc v,.sc w],s):=by
 refine ir hg hl h ?_;rintro f s' ⟨hw,h,h2,h3⟩;refine fM (vs:=[u,.sc v,.sc w]) hk (by rw [hr]; simp only [ii,Option.map_some,h,h2,h3]) hw ?_;show (yt s.n s' [u,.sc v,.sc w]).map PV.tup=_;simp only [yt,hu,Option.bind_some,Option.map_some];rfl
end
end Go.PE
namespace Go.Proofs.YtgkggocjoolciaaGreatDoor
open Go Go.EvL Go.PE Go.Mir
variable {ext:aq}
theorem xw (n:Nat) (s:PS) (l:List aJ):il n s (cS l)=some (cS l):=by cases l<;>(rw [cS]; rfl)
theorem B8 {x:aJ}{a:Nat} (h:x∈([]:List aJ)):x.kind=1→x.text.length≤a:=by cases h
theorem N2 {t:List UInt8}{r:R} (h:fN t 0 r) (s:PS):Pc ext 252 [.sc (.string ⟨⟨t⟩⟩)] (.tup (Ng r)) s:=by
 cases h with
 | long h=>
  have c1:decide (16384 < t.length)=true:=decide_eq_true h;refine jW (fun n s=>rfl) (fn:=wT) (r:=2) (r2:=3) (r3:=4) (by rfl) (by simp [wT]) (by rfl) (by rfl) ?_;unfold wT;simp -implicitDefEqProofs (disch:=omega) only [ZA,Nat.reduceEqDiff,↓reduceIte,reduceCtorEq,aY,bM,bY,c1];exact⟨rfl,rfl⟩
 | wx h k=>
  have c1:decide (16384 < t.length)=false:=df;have hw:=JI (ext:=ext) (b:=⟨⟨t⟩⟩) (show t.length < 1000000000 by omega) k (Nat.zero_le _) om (Nat.le_refl _) (Nat.le_refl _) fun x hx=>B8 hx;have hC:=fun s=>gz hw s;cases r with
  | ok x=>
   obtain⟨ps,j⟩:=x;have hC':∀s,Pc ext 262 [.sc (.string ⟨⟨t⟩⟩),.sc (.int .i64 0),.sc (.int .i64 0),.sc (.int .i64 1),.sc (.int .i64 0)] (.agg [cS ps,iN j,.sc (.int .i64 0)]) s:=hC;refine jW (fun n s=>xw n s ps) (fn:=wT) (r:=2) (r2:=3) (r3:=4) (by rfl) (by simp [wT]) (by rfl) (by rfl) ?_;unfold wT;exact tg c1 hC' @aS @aE @aC
  | error x=>
   obtain⟨x,e⟩:=x;have he:(e == 0)=false:=beq_eq_false_iff_ne.2 (k.err _ rfl);have hC':∀s,Pc ext 262 [.sc (.string ⟨⟨t⟩⟩),.sc (.int .i64 0),.sc (.int .i64 0),.sc (.int .i64 1),.sc (.int .i64 0)] (.agg [.sc (.slice none 0 0),iN x,iN e]) s:=hC;refine jW (fun n s=>rfl) (fn:=wT) (r:=2) (r2:=3) (r3:=4) (by rfl) (by simp [wT]) (by rfl) (by rfl) ?_;unfold wT;simp -implicitDefEqProofs (disch:=first | omega | (unfold cO bZ; simp<;>omega)) only [ZS,seval,ZT,ZX,c1,hC',he,aS,aE,aP]
theorem Pi {t:List UInt8}{r:R} (h:fN t 5 r) (s:PS):Pc ext 261 [.sc (.string ⟨⟨t⟩⟩)] (.tup (Ng r)) s:=by
 cases h with
 | long h=>
  have c1:decide (16384 < t.length)=true:=decide_eq_true h;refine jW (fun n s=>rfl) (fn:=wK) (r:=2) (r2:=3) (r3:=4) (by rfl) (by simp [wK]) (by rfl) (by rfl) ?_;unfold wK;simp -implicitDefEqProofs (disch:=omega) only [ZA,Nat.reduceEqDiff,↓reduceIte,reduceCtorEq,aY,bM,bY,c1];exact⟨rfl,rfl⟩
 | wx h k=>
  have c1:decide (16384 < t.length)=false:=df;have hw:=JI (ext:=ext) (b:=⟨⟨t⟩⟩) (show t.length < 1000000000 by omega) k (Nat.zero_le _) om (Nat.le_refl _) (Nat.le_refl _) fun x hx=>B8 hx;have hC:=fun s=>gz hw s;cases r with
  | ok x=>
   obtain⟨ps,j⟩:=x;have hC':∀s,Pc ext 262 [.sc (.string ⟨⟨t⟩⟩),.sc (.int .i64 0),.sc (.int .i64 5),.sc (.int .i64 1),.sc (.int .i64 0)] (.agg [cS ps,iN j,.sc (.int .i64 0)]) s:=hC;refine jW (fun n s=>xw n s ps) (fn:=wK) (r:=2) (r2:=3) (r3:=4) (by rfl) (by simp [wK]) (by rfl) (by rfl) ?_;unfold wK;exact tg c1 hC' @aS @aE @aC
  | error x=>
   obtain⟨x,e⟩:=x;have he:(e == 0)=false:=beq_eq_false_iff_ne.2 (k.err _ rfl);have hC':∀s,Pc ext 262 [.sc (.string ⟨⟨t⟩⟩),.sc (.int .i64 0),.sc (.int .i64 5),.sc (.int .i64 1),.sc (.int .i64 0)] (.agg [.sc (.slice none 0 0),iN x,iN e]) s:=hC;refine jW (fun n s=>rfl) (fn:=wK) (r:=2) (r2:=3) (r3:=4) (by rfl) (by simp [wK]) (by rfl) (by rfl) ?_;unfold wK;simp -implicitDefEqProofs (disch:=first | omega | (unfold cO bZ; simp<;>omega)) only [ZS,seval,ZT,ZX,c1,hC',he,aS,aE,aP]
end Go.Proofs.YtgkggocjoolciaaGreatDoor
namespace Go.Mir
def mf (p:Nat):List UInt8→List UInt8
 | []=>[]
 | c :: l=>if bX c.toNat p then 92 :: c :: mf p l else c :: mf p l
theorem mp (p:Nat) (a b:List UInt8):mf p (a ++ b)=mf p a ++ mf p b:=by
 induction a with
 | nil=>rfl
 | cons c a ih=>
  rw [List.cons_append,mf,mf,ih];by_cases h:bX c.toNat p=true
  ·rw [if_pos h,if_pos h];rfl
  ·rw [if_neg h,if_neg h];rfl
theorem Fi (p:Nat) (a:List UInt8):(mf p a).length≤2 * a.length:=by
 induction a with
 | nil=>exact Nat.le_refl _
 | cons c a ih=>
  rw [mf];by_cases h:bX c.toNat p=true
  ·rw [if_pos h];simp only [List.length_cons];omega
  ·rw [if_neg h];simp only [List.length_cons];omega
theorem Py (p:Nat) (a:List UInt8):a.length≤(mf p a).length:=by
 induction a with
 | nil=>exact Nat.le_refl _
 | cons c a ih=>
  rw [mf];by_cases h:bX c.toNat p=true
  ·rw [if_pos h];simp only [List.length_cons];omega
  ·rw [if_neg h];simp only [List.length_cons];omega
def eN:List aJ→Bool
 | []=>false
 | q :: _=>q.kind == 1 && !q.text.isEmpty && eo (bt q.text 0)
mutual
def Fj (pl:Nat) (fo:Bool):aJ→List UInt8
 | .mk _ t o c ps=>
  if o == 5 then 36 :: 123 :: 35 :: (t ++ [125]) else
  if o != 0 then 36 :: 123 :: (t ++ ((if c then [58] else []) ++ (j9 o ++ (dF (dV pl) ps ++ [125])))) else
  if decide (1 < t.length) && bD (bt t 0) then 36 :: 123 :: (t ++ [125]) else
  if fo && !t.isEmpty && eo (bt t 0) && !bD (bt t 0) then 36 :: 123 :: (t ++ [125]) else 36 :: t
def tz (pl:Nat) (fo:Bool):aJ→List UInt8
 | .mk k t o c ps=>
  if k == 7 then [126] else
  if k == 1 then (if cN pl then t else mf pl t) else
  if k == 2 then (if t == [39] then [92,39] else 39 :: (t ++ [39])) else
  if k == 3 then 34 :: (dF 2 ps ++ [34]) else
  if k == 5 then 36 :: 40 :: (t ++ [41]) else
  if k == 6 then 36 :: 40 :: 40 :: (dF 4 ps ++ [41,41]) else
  if k == 4 then (
   if o == 5 then 36 :: 123 :: 35 :: (t ++ [125]) else
   if o != 0 then 36 :: 123 :: (t ++ ((if c then [58] else []) ++ (j9 o ++ (dF (dV pl) ps ++ [125])))) else
   if decide (1 < t.length) && bD (bt t 0) then 36 :: 123 :: (t ++ [125]) else
   if fo && !t.isEmpty && eo (bt t 0) && !bD (bt t 0) then 36 :: 123 :: (t ++ [125]) else 36 :: t) else []
def dF (pl:Nat):List aJ→List UInt8
 | []=>[]
 | p :: ps=>tz pl (eN ps) p ++ dF pl ps
end
def KU:=And.intro (@dF.eq_1)<|@dF.eq_2
theorem Io (pl:Nat) (fo:Bool) (t:List UInt8) (o:Int) (c:Bool) (ps:List aJ):tz pl fo (.mk 4 t o c ps)=Fj pl fo (.mk 4 t o c ps):=by
 rw [tz,Fj];rfl
theorem Pn {c:Prop} [Decidable c] {a b:List UInt8}{n:Nat} (h:a.length≤n) (g:b.length≤n):(if c then a else b).length≤n:=by
 by_cases k:c
 ·rw [if_pos k]; exact h
 ·rw [if_neg k]; exact g
theorem uY (o:Int):(j9 o).length≤2:=by
 unfold j9
 repeat' split
 all_goals decide
mutual
def pP:aJ→Nat
 | .mk _ t _ _ ps=>2 * t.length + 8 + gK ps
def gK:List aJ→Nat
 | []=>0
 | p :: ps=>pP p + gK ps
end
mutual
theorem Gn (pl:Nat) (fo:Bool):∀p:aJ,(tz pl fo p).length≤pP p
 | .mk k t o c ps=>by
  have h2:=jU 2 ps;have h4:=jU 4 ps;have hw:=jU (dV pl) ps;have he:=Fi pl t;have hs:=uY o;have hc:(if c then [(58:UInt8)] else []).length≤1:=by cases c<;>decide
  rw [tz,pP]
  repeat' apply Pn
  all_goals try simp only [List.length_cons,List.length_append,List.length_nil]
  all_goals omega
theorem jU (pl:Nat):∀l:List aJ,(dF pl l).length≤gK l
 | []=>by rw [dF]; exact Nat.le_refl _
 | p :: ps=>by
  have h:=Gn pl (eN ps) p;have h2:=jU pl ps;rw [dF,gK,List.length_append];omega
end
end Go.Mir
namespace Go.Proofs.YtgkggocjoolciaaGreatDoor
open Go Go.EvL Go.PE Go.Mir
variable {ext:aq}
theorem ba_add (a c:List UInt8):ByteArray.mk ⟨a⟩ ++ ByteArray.mk ⟨c⟩=ByteArray.mk ⟨a ++ c⟩:=by
 apply ByteArray.ext;apply Array.ext';rw [ByteArray.data_append,Array.toList_append]
theorem Ip {t:List UInt8}{p:Nat} (hp:p≤6) (ht:(mf p t).length < 4611686018427387904) (s:PS):∀(k i:Nat) (f:aR),i + k=t.length→f 0=.sc (.string ⟨⟨t⟩⟩)→f 1=iN p→f 5=.sc (.string ⟨⟨mf p (t.take i)⟩⟩)→f 6=iN i→
  Er (fun f' s'=>s'=s∧f' 4=.sc (.string ⟨⟨mf p t⟩⟩)) (LP Tryz.prog Γ ext 0 sx wm f s):=by
 intro k
 induction k with
 | zero=>
  intro i f hk h0 h1 h5 h6;have e1:decide (i < t.length)=false:=df;have e2:t.take i=t:=List.take_of_length_le om;rw [e2] at h5;refine ad fun L hL=>?_;exact jK @sx.eq_1 @wm.eq_1 h0 h5 h6 e1
 | succ k ih=>
  intro i f hk h0 h1 h5 h6;have hl:i < t.length:=om;have e1:decide (i < t.length)=true:=dt;have hm:=Py p t;have n1:i≤i + 1:=om;have n2:i + 1≤t.length:=om;have hs:t.take (i + 1)=t.take i ++ [t[i]]:=by rw [List.take_succ_eq_append_getElem hl]
  have hc:bt t i=t[i].toNat:=nU hl;have hd:(t.drop i).take (i + 1 - i)=[t[i]]:=by
   rw [Nat.add_sub_cancel_left,List.drop_eq_getElem_cons hl];rfl
  have hb:(mf p (t.take i)).length≤(mf p t).length:=by
   have:=mp p (t.take i) (t.drop i);rw [List.take_append_drop] at this;rw [this,List.length_append];omega
  refine ad fun L hL=>?_;cases e2:bX (bt t i) p with
  | false=>
   have e3:mf p (t.take (i + 1))=mf p (t.take i) ++ [t[i]]:=by
    rw [hs,mp];show _ ++ (if bX t[i].toNat p then _ else _)=_;rw [← hc,e2];rfl
   have hx:ByteArray.mk ⟨mf p (t.take i)⟩ ++ ByteArray.mk ⟨[t[i]]⟩=ByteArray.mk ⟨mf p (t.take i) ++ [t[i]]⟩:=ba_add _ _;have hy:(ByteArray.mk ⟨mf p (t.take i)⟩).size + (ByteArray.mk ⟨[t[i]]⟩).size < 9223372036854775808:=by
    show (mf p (t.take i)).length + 1 < _;omega
   simp -implicitDefEqProofs (disch:=omega) only [ZS,seval,sx,wm,h0,h1,h5,h6,hl,jk hp,e2,n1,n2,hd,nR,hx];subst hL;exact ih (i + 1) _ om (aX h0) (aX h1) (aX e3) aQ
  | true=>
   have e3:mf p (t.take (i + 1))=mf p (t.take i) ++ [92,t[i]]:=by
    rw [hs,mp];show _ ++ (if bX t[i].toNat p then _ else _)=_;rw [← hc,e2];rfl
   have hb2:(mf p (t.take (i + 1))).length≤(mf p t).length:=by
    have:=mp p (t.take (i + 1)) (t.drop (i + 1));rw [List.take_append_drop] at this;rw [this,List.length_append];omega
   rw [e3,List.length_append] at hb2;have hx1:ByteArray.mk ⟨mf p (t.take i)⟩ ++ ByteArray.mk #[92]=ByteArray.mk ⟨mf p (t.take i) ++ [92]⟩:=ba_add _ _;have hx:ByteArray.mk ⟨mf p (t.take i) ++ [92]⟩ ++ ByteArray.mk ⟨[t[i]]⟩=ByteArray.mk ⟨mf p (t.take i) ++ [92] ++ [t[i]]⟩:=ba_add _ _;have hy1:(ByteArray.mk ⟨mf p (t.take i)⟩).size + (ByteArray.mk #[92]).size < 9223372036854775808:=by
    show (mf p (t.take i)).length + 1 < _;omega
   have hy:(ByteArray.mk ⟨mf p (t.take i) ++ [92]⟩).size + (ByteArray.mk ⟨[t[i]]⟩).size < 9223372036854775808:=by
    show (mf p (t.take i) ++ [92]).length + 1 < _;rw [List.length_append];show (mf p (t.take i)).length + 1 + 1 < _;omega
   simp -implicitDefEqProofs (disch:=omega) only [ZS,seval,sx,wm,h0,h1,h5,h6,hl,jk hp,e2,n1,n2,hd,nR,hx1,hx];subst hL;rw [List.append_assoc] at hx;exact ih (i + 1) _ om (aX h0) (aX h1) (l9 e3 @List.append_assoc.{0}) aQ
theorem xF {t:List UInt8}{p:Nat} (hp:p≤6) (ht:(mf p t).length < 4611686018427387904) (s:PS):Pc ext 264 [.sc (.string ⟨⟨t⟩⟩),iN p] (.sc (.string ⟨⟨mf p t⟩⟩)) s:=by
 refine q1 Qu 4 ?_;unfold Qu;refine yZ ?_;exact Ip hp ht _ t.length 0 _ om (by simp -implicitDefEqProofs (disch:=omega) only [ZA,↓reduceIte,reduceCtorEq]) (by simp -implicitDefEqProofs (disch:=omega) only [ZA,Nat.reduceEqDiff,↓reduceIte]) (by simp -implicitDefEqProofs (disch:=omega) only [ZA,Nat.reduceEqDiff,↓reduceIte]; rfl) (by simp -implicitDefEqProofs (disch:=omega) only [ZA,↓reduceIte]; rfl)
end Go.Proofs.YtgkggocjoolciaaGreatDoor
namespace Go.Proofs.YtgkggocjoolciaaGreatDoor
open Go Go.EvL Go.PE
variable {ext:aq}
theorem Sj (x y:ar) (s:PS) (r:Bool) (h:∀s,aD Tryz.prog Γ ext 141 [x.parts,y.parts] s=some (.sc (.bool r),s)) :
  aD Tryz.prog Γ ext 177 [.agg x.cells,.agg y.cells] s=some (.sc (.bool (x.eqB y && r)),s):=by
 rw [dT (fn:=B0) (by rfl) _ _ (by simp [B0])];cases h1:x.kind == y.kind with
 | false=>simp -implicitDefEqProofs only [ZS,seval,ZX,B0,br,bw,az,ar.cells,ar.eqB,h1]
 | true=>
  cases h2:x.text.toList == y.text.toList with
  | false=>simp -implicitDefEqProofs only [ZS,seval,ZX,B0,br,bw,az,ar.cells,ar.eqB,h1,h2]
  | true=>
   cases h3:x.op == y.op with
   | false=>simp -implicitDefEqProofs only [ZS,seval,ZX,B0,br,bw,az,ar.cells,ar.eqB,h1,h2,h3]
   | true=>
    cases h4:x.colon == y.colon with
    | false=>simp -implicitDefEqProofs only [ZS,seval,ZX,B0,br,bw,az,ar.cells,ar.eqB,h1,h2,h3,h4,gy Tryz.underlying4]
    | true=>simp -implicitDefEqProofs only [ZS,seval,ZX,B0,br,bw,az,List.map_cons,List.map_nil,List.append_nil,ar.cells,ar.eqB,h1,h2,h3,h4,h,gy Tryz.underlying4]
def aL:Nat→PV→Prop
 | 0,_=>False
 | d + 1,p=>∃l:Option (List ar),p=aK 150 ar.cells l∧(l.getD []).length < 4611686018427387904∧∀x∈l.getD [],aL d x.parts
theorem dr {α:Type} (e:Nat) (c:α→List PV) (l:Option (List α)):cL (aK e c l)=true:=by cases l<;>rfl
theorem aL.one {d:Nat}{p:PV} (h:aL d p):cL p=true:=by
 cases d with
 | zero=>cases h
 | succ d=>obtain⟨l,rfl,_⟩:=h; exact dr _ _ _
theorem ar.ones {d:Nat}{x:ar} (h:aL d x.parts):x.cells.all cL=true:=by
 simp only [ar.cells,List.all_cons,List.all_nil,h.one,Bool.and_true]; rfl
theorem SC:Γ 176=some (EI 150 5 #[(.int .i64 0),(.string ⟨#[]⟩),(.int .i64 0),(.bool false),(.slice none 0 0)] 3):=(rfl)
theorem mo:∀(d:Nat) (a b:PV),aL d a→aL d b→∃r,(∀s,aD Tryz.prog Γ ext 141 [a,b] s=some (.sc (.bool r),s))∧∀s,aD Tryz.prog Γ ext 149 [a,b] s=some (.sc (.bool r),s):=by
 intro d
 induction d with
 | zero=>intro a b h; cases h
 | succ d ih=>
  rintro a b ⟨l,rfl,hl,hl'⟩ ⟨m,rfl,hm,hm'⟩;have key:∀i:Nat,∃r:Bool,∀x y:ar,(l.getD [])[i]?=some x→(m.getD [])[i]?=some y→(∀s,aD Tryz.prog Γ ext 141 [x.parts,y.parts] s=some (.sc (.bool r),s))∧∀s,aD Tryz.prog Γ ext 149 [x.parts,y.parts] s=some (.sc (.bool r),s):=by
   intro i;cases hx:(l.getD [])[i]? with
   | none=>exact⟨true,fun x y h=>by cases h⟩
   | some x=>
    cases hy:(m.getD [])[i]? with
    | none=>exact⟨true,fun x y _ h=>by cases h⟩
    | some y=>
     obtain⟨r,hr⟩:=ih x.parts y.parts (hl' x (List.mem_of_getElem? hx)) (hm' y (List.mem_of_getElem? hy));exact⟨r,fun x' y' h1 h2=>by injection h1 with h1; injection h2 with h2; subst h1; subst h2; exact hr⟩
  obtain⟨r,hr⟩:=Classical.axiomOfChoice key;refine⟨(l.getD []).length == (m.getD []).length && iR (fun i=>(match (l.getD [])[i]?,(m.getD [])[i]? with | some x,some y=>x.eqB y | _,_=>true) && r i) 0 (l.getD []).length,fun s=>?_,fun s=>?_⟩
  ·have h132:=tW (P:=Tryz.prog) (ext:=ext) (e:=150) (t:=150) ar.len (by rfl) SC (l:=l) (m:=m) (fun x hx=>hx.elim (fun h=>ar.ones (hl' x h)) (fun h=>ar.ones (hm' x h))) (g:=177) hl (r:=fun i=>(match (l.getD [])[i]?,(m.getD [])[i]? with | some x,some y=>x.eqB y | _,_=>true) && r i) (fun i x y h1 h2 s=>by
    simp only [h1,h2];exact Sj x y s (r i) (hr i x y h1 h2).1)
   rw [dT (fn:=Dg) (by rfl) _ _ (by simp [Dg])];simp -implicitDefEqProofs only [ZS,seval,ZX,Dg,br,List.map_cons,List.map_nil,List.append_nil,h132]
  ·refine sN hl (G:=149) (nt:=61) (inner:=oY) (by rw [← Ro]; rfl) (by omega) (fun i x y h1 h2 f s hin=>?_) s;have h:=Rw (ext:=ext) x y (hl' x (List.mem_of_getElem? h1)).one (hm' y (List.mem_of_getElem? h2)).one (r i) (hr i x y h1 h2).2 h1 h2 f s hin;simp only [h1,h2];exact h
end Go.Proofs.YtgkggocjoolciaaGreatDoor
