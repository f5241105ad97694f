/- What functions of the program and of the reference compute, on values. No statement is proved here. -/
import Derived.Test.YtgkggocjoolciaaGreatDoorTxC
set_option linter.all false
namespace Go.Proofs.YtgkggocjoolciaaGreatDoor
open Go Go.EvL Go.PE
variable {ext:aq}
def im {α:Type} (q:α→α→Bool):List α→List α→Bool
 | [],[]=>true
 | x :: l,y :: m=>q x y && im q l m
 | _,_=>false
def Cj (t es:Nat) (ag:Bool):aW:=(sr [ob 14 (bn .lss 3 13 12)]
 (.seq (.cond (tp 14)
 .skip
 (.exit 0))
 (.seq (.block 1 (sr [mt 15 13,mt 5 15]
 (.seq (.draw [(mt 16 0,[0],[]),(mt 17 5,[5],[0]),(ob 18 (.iaddr es (tp 16) (tp 17)),[16,17],[]),(ob 19 (.load t ag es (tp 18)),[18],[]),(mt 20 1,[1],[3,2,1,0]),(mt 21 5,[5],[4,3,2,1,0]),(ob 22 (.iaddr es (tp 20) (tp 21)),[20,21],[3,2,1,0]),(ob 23 (.load t ag es (tp 22)),[22],[3,2,1,0]),(ob 24 (bn .neq t 19 23),[19,23],[])])
 (.cond (tp 24)
 (sr [mk 4 (.bool false)]
 .ret)
 .skip))))
 (.reg [ob 25 (bi .add 13 1),mt 13 25]))))
def tQ:aW:=(sr [mk 4 (.bool true)]
 .ret)
def Da (t es:Nat) (ag:Bool):fJ:=⟨26,(sr [mk 4 (.bool false)]
 (.seq (t7 [mt 6 0,ob 7 (.len false (tp 6)),mt 8 1,ob 9 (.len false (tp 8)),ob 10 (bn .neq 3 7 9)] 10
 (sr [mk 4 (.bool false)]
 .ret)
 .skip)
 (.seq (sr [mt 11 0,ob 12 (.len false (tp 11)),mk 13 (.int .i64 0)]
 (.block 0 (.loop (Cj t es ag)))) tQ))),[.tmp 4],false⟩
def CM (t es:Nat) (ag:Bool):aW:=(.seq (t7 [mt 11 5,mt 12 0,ob 13 (.len false (tp 12)),ob 14 (bn .lss 3 11 13)] 14
 .skip
 (.exit 0))
 (.seq (.block 1 (.seq (.draw [(mt 17 0,[0],[]),(mt 18 5,[5],[0]),(ob 19 (.iaddr es (tp 17) (tp 18)),[17,18],[]),(ob 20 (.load t ag es (tp 19)),[19],[]),(mt 21 1,[1],[3,2,1,0]),(mt 22 5,[5],[4,3,2,1,0]),(ob 23 (.iaddr es (tp 21) (tp 22)),[21,22],[3,2,1,0]),(ob 24 (.load t ag es (tp 23)),[23],[3,2,1,0]),(ob 25 (bn .neq t 20 24),[20,24],[])])
 (.cond (tp 25)
 (sr [mk 4 (.bool false)]
 .ret)
 .skip)))
 (.reg [mt 15 5,ob 16 (bi .add 15 1),mt 5 16])))
def E9 (t es:Nat) (ag:Bool):fJ:=⟨26,(sr [mk 4 (.bool false)]
 (.seq (t7 [mt 6 0,ob 7 (.len false (tp 6)),mt 8 1,ob 9 (.len false (tp 8)),ob 10 (bn .neq 3 7 9)] 10
 (sr [mk 4 (.bool false)]
 .ret)
 .skip)
 (.seq (sr [mk 5 (.int .i64 0)]
 (.block 0 (.loop (CM t es ag)))) tQ))),[.tmp 4],false⟩
theorem VI:Γ 47=some (Da 43 5 true):=rfl
theorem Vk:Γ 48=some (Da 9 1 false):=rfl
theorem UL:Γ 50=some (Da 58 2 true):=rfl
theorem UG:Γ 51=some (Da 46 2 true):=rfl
theorem VL:Γ 10=some (E9 43 5 true):=rfl
theorem VS:Γ 11=some (E9 9 1 false):=rfl
theorem W1:Γ 12=some (E9 58 2 true):=rfl
theorem Wq:Γ 21=some (E9 46 2 true):=rfl
structure BL {α:Type} (t es:Nat) (ag:Bool) (c:α→List PV) (v:α→PV) (q:α→α→Bool) (l m:List α):Prop where
 len:∀x,(c x).length=es
 val:∀x,cR ag (c x)=some (v x)
 cmp:∀x∈l,∀y∈m,∀i j,fw Tryz.prog .neq t (.tmp i) (.tmp j) (v x) (v y)=some (.sc (.bool (!(q x y))))
section
variable {α:Type}{t es:Nat}{ag:Bool}{c:α→List PV}{v:α→PV}{q:α→α→Bool}{l m:List α}
theorem JD (hE:BL t es ag c v q l m) (hlm:l.length=m.length) (hx:l.length < 1000000000000) (s:PS):∀(k i:Nat) (f:aR),i + k=l.length→f 0=.lit t l.length (l.flatMap c)→f 1=.lit t m.length (m.flatMap c)→f 12=.sc (.int .i64 (l.length:Int))→f 13=iN i→
  Er (fun f' s'=>s'=s∧f' 4=.sc (.bool (im q (l.drop i) (m.drop i)))) (LP Tryz.prog Γ ext 0 (Cj t es ag) tQ f s):=by
 intro k
 induction k with
 | zero=>
  intro i f hk h0 h1 h12 h13;have e1:decide (i < l.length)=false:=df;have ha:im q (l.drop i) (m.drop i)=true:=by rw [List.drop_eq_nil_of_le om,List.drop_eq_nil_of_le om]; rfl
  refine ad fun L hL=>?_;exact jK @Cj.eq_1 @tQ.eq_1 h12 h13 e1 ha
 | succ k ih=>
  intro i f hk h0 h1 h12 h13;have hl:i < l.length:=om;have hm:i < m.length:=om;have e1:decide (i < l.length)=true:=decide_eq_true hl;have hj:l[i]?=some l[i]:=List.getElem?_eq_getElem hl;have hj2:m[i]?=some m[i]:=List.getElem?_eq_getElem hm;have hfl:=aB hE.len l;have hfm:=aB hE.len m;have hk3:=kB hE.len hj;have hk4:=kB hE.len hj2;have v1:=hE.val l[i];have v2:=hE.val m[i];simp only [cR] at v1 v2;have hc:=hE.cmp _ (List.getElem_mem hl) _ (List.getElem_mem hm);have hd:im q (l.drop i) (m.drop i)=(q l[i] m[i] && im q (l.drop (i + 1)) (m.drop (i + 1))):=by
   rw [List.drop_eq_getElem_cons hl,List.drop_eq_getElem_cons hm];rfl
  rw [hd];refine ad fun L hL=>?_;cases cq:q l[i] m[i] with
  | false=>
   rw [cq] at hc;simp -implicitDefEqProofs (disch:=first | omega | (unfold cO bZ; simp<;>omega)) only [ZA,Nat.reduceAdd,Nat.reduceEqDiff,↓reduceIte,reduceCtorEq,aY,bM,bY,cR,ZD,cI,eE,fR,Cj,tQ,h0,h1,h12,h13,hl,hm,hfl,hfm,hk3,hk4,v1,v2,hc,Bool.false_and]
  | true=>
   rw [cq] at hc;simp -implicitDefEqProofs (disch:=first | omega | (unfold cO bZ; simp<;>omega)) only [ZA,Nat.reduceAdd,Nat.reduceEqDiff,↓reduceIte,reduceCtorEq,aY,bM,bY,cR,ZD,cI,eE,fR,Cj,h0,h1,h12,h13,hl,hm,hfl,hfm,hk3,hk4,v1,v2,hc,Bool.true_and];subst hL;exact ih (i + 1) _ om (by simp -implicitDefEqProofs (disch:=omega) only [ZA,↓reduceIte,reduceCtorEq,h0]) (by simp -implicitDefEqProofs (disch:=omega) only [ZA,Nat.reduceEqDiff,↓reduceIte,h1]) (by simp -implicitDefEqProofs (disch:=omega) only [ZA,Nat.reduceEqDiff,↓reduceIte,h12]) (by simp -implicitDefEqProofs (disch:=omega) only [ZA,↓reduceIte])
theorem Kg (hE:BL t es ag c v q l m) (hlm:l.length=m.length) (hx:l.length < 1000000000000) (s:PS):∀(k i:Nat) (f:aR),i + k=l.length→f 0=.lit t l.length (l.flatMap c)→f 1=.lit t m.length (m.flatMap c)→f 5=iN i→
  Er (fun f' s'=>s'=s∧f' 4=.sc (.bool (im q (l.drop i) (m.drop i)))) (LP Tryz.prog Γ ext 0 (CM t es ag) tQ f s):=by
 intro k
 induction k with
 | zero=>
  intro i f hk h0 h1 h5;have e1:decide (i < l.length)=false:=df;have ha:im q (l.drop i) (m.drop i)=true:=by rw [List.drop_eq_nil_of_le om,List.drop_eq_nil_of_le om]; rfl
  refine ad fun L hL=>?_;exact jK @CM.eq_1 @tQ.eq_1 h0 h5 e1 ha
 | succ k ih=>
  intro i f hk h0 h1 h5;have hl:i < l.length:=om;have hm:i < m.length:=om;have e1:decide (i < l.length)=true:=decide_eq_true hl;have hj:l[i]?=some l[i]:=List.getElem?_eq_getElem hl;have hj2:m[i]?=some m[i]:=List.getElem?_eq_getElem hm;have hfl:=aB hE.len l;have hfm:=aB hE.len m;have hk3:=kB hE.len hj;have hk4:=kB hE.len hj2;have v1:=hE.val l[i];have v2:=hE.val m[i];simp only [cR] at v1 v2;have hc:=hE.cmp _ (List.getElem_mem hl) _ (List.getElem_mem hm);have hd:im q (l.drop i) (m.drop i)=(q l[i] m[i] && im q (l.drop (i + 1)) (m.drop (i + 1))):=by
   rw [List.drop_eq_getElem_cons hl,List.drop_eq_getElem_cons hm];rfl
  rw [hd];refine ad fun L hL=>?_;cases cq:q l[i] m[i] with
  | false=>
   rw [cq] at hc;simp -implicitDefEqProofs (disch:=first | omega | (unfold cO bZ; simp<;>omega)) only [ZA,Nat.reduceAdd,Nat.reduceEqDiff,↓reduceIte,reduceCtorEq,aY,bM,bY,cR,ZD,cI,eE,fR,CM,tQ,h0,h1,h5,gq,hl,hm,hfl,hfm,hk3,hk4,v1,v2,hc,Bool.false_and]
  | true=>
   rw [cq] at hc;simp -implicitDefEqProofs (disch:=first | omega | (unfold cO bZ; simp<;>omega)) only [ZA,Nat.reduceAdd,Nat.reduceEqDiff,↓reduceIte,reduceCtorEq,aY,bM,bY,cR,ZD,cI,eE,fR,CM,h0,h1,h5,gq,hl,hm,hfl,hfm,hk3,hk4,v1,v2,hc,Bool.true_and];subst hL;exact ih (i + 1) _ om (by simp -implicitDefEqProofs (disch:=omega) only [ZA,↓reduceIte,reduceCtorEq,h0]) (by simp -implicitDefEqProofs (disch:=omega) only [ZA,Nat.reduceEqDiff,↓reduceIte,h1]) (by simp -implicitDefEqProofs (disch:=omega) only [ZA,↓reduceIte])
theorem rJ {α:Type}{q:α→α→Bool} : ∀{l m:List α},l.length≠m.length→im q l m=false
 | [],[],h=>absurd rfl h
 | [],_ :: _,_=>rfl
 | _ :: _,[],_=>rfl
 | x :: l,y :: m,h=>by
  rw [im,rJ (fun e=>h (by rw [List.length_cons,List.length_cons,e])),Bool.and_false]
theorem zC {G:Nat} (hG:Γ G=some (Da t es ag)) {la lb:Option (List α)} (hE:BL t es ag c v q (la.getD []) (lb.getD [])) (hx:(la.getD []).length < 1000000000000) (hy:(lb.getD []).length < 1000000000000) (s:PS) :
  aD Tryz.prog Γ ext G [aK t c la,aK t c lb] s=some (.sc (.bool (im q (la.getD []) (lb.getD []))),s):=by
 have h1:=bE (e:=t) (c:=c) la;have h2:=bE (e:=t) (c:=c) lb;refine vg (r:=4) hG (by simp [Da]) (by rfl) (by rfl) ?_;unfold Da;cases cn:(la.getD []).length == (lb.getD []).length with
 | false=>
  rw [rJ (beq_eq_false_iff_ne.1 cn)];exact nI h1 h2 @eB cn
 | true=>
  have hn:=eq_of_beq cn;refine xz h1 h2 @eB cn ?_;cases la with
  | none=>
   have hb:lb.getD []=[]:=List.eq_nil_of_length_eq_zero hn.symm;have z0:decide ((0:Int) < ((0:Nat):Int))=false:=rfl;rw [hb];refine ad fun L hL=>?_;refine xz @Cj.eq_1 @tQ.eq_1 @Option.getD_none.{0} z0 ?_;rfl
  | some l=>
   cases lb with
   | none=>
    have ha:l=[]:=List.eq_nil_of_length_eq_zero hn;subst ha;have z0:decide ((0:Int) < ((0:Nat):Int))=false:=rfl;refine ad fun L hL=>?_;refine xz @Cj.eq_1 @tQ.eq_1 @Option.getD_some.{0} z0 ?_;rfl
   | some m=>
    have key:=fun f a b c d=>JD (ext:=ext) hE hn hx ⟨s.h,s.n,s.n⟩ l.length 0 f (Nat.zero_add _) a b c d;simp only [List.drop_zero,Option.getD_some] at key;exact key _ (aX @cd) (aX @cd) (aX @Option.getD_some.{0}) aQ
theorem qb {G:Nat} (hG:Γ G=some (E9 t es ag)) {la lb:Option (List α)} (hE:BL t es ag c v q (la.getD []) (lb.getD [])) (hx:(la.getD []).length < 1000000000000) (hy:(lb.getD []).length < 1000000000000) (s:PS) :
  aD Tryz.prog Γ ext G [aK t c la,aK t c lb] s=some (.sc (.bool (im q (la.getD []) (lb.getD []))),s):=by
 have h1:=bE (e:=t) (c:=c) la;have h2:=bE (e:=t) (c:=c) lb;refine vg (r:=4) hG (by simp [E9]) (by rfl) (by rfl) ?_;unfold E9;cases cn:(la.getD []).length == (lb.getD []).length with
 | false=>
  rw [rJ (beq_eq_false_iff_ne.1 cn)];exact nI h1 h2 @eB cn
 | true=>
  have hn:=eq_of_beq cn;refine xz h1 h2 @eB cn ?_;cases la with
  | none=>
   have hb:lb.getD []=[]:=List.eq_nil_of_length_eq_zero hn.symm;have z0:decide ((0:Int) < 0)=false:=rfl;rw [hb];refine ad fun L hL=>?_;refine xz @CM.eq_1 @tQ.eq_1 @cd z0 ?_;rfl
  | some l=>
   cases lb with
   | none=>
    have ha:l=[]:=List.eq_nil_of_length_eq_zero hn;subst ha;have z0:decide ((0:Int) < ((0:Nat):Int))=false:=rfl;refine ad fun L hL=>?_;refine xz @CM.eq_1 @tQ.eq_1 @cd z0 ?_;rfl
   | some m=>
    have key:=fun f a b c=>Kg (ext:=ext) hE hn hx ⟨s.h,s.n,s.n⟩ l.length 0 f (Nat.zero_add _) a b c;simp only [List.drop_zero,Option.getD_some] at key;exact key _ (aX @cd) (aX @cd) aQ
end
end Go.Proofs.YtgkggocjoolciaaGreatDoor
namespace Go.Proofs.YtgkggocjoolciaaGreatDoor
open Go Go.EvL Go.PE Go.Mir
variable {ext:aq}
theorem rM (c:Nat) (s:PS):aD Tryz.prog Γ ext 150 [.sc (.int .u8 (c:Int))] s=some (.sc (.bool (ig c)),s):=by
 rw [dT (fn:=wX) (by rfl) _ _ (by simp [wX])];cases h1:decide (97≤c) with
 | false=>
  cases h2:decide (65≤c) with
  | false=>
   exact nI @wX.eq_1 @ig.eq_1 h1 h2
  | true=>
   cases h3:decide (c≤90) with
   | false=>
    exact tg @wX.eq_1 @ig.eq_1 h1 h2 h3
   | true=>
    exact tg @wX.eq_1 @ig.eq_1 h1 h2 h3
 | true=>
  cases h4:decide (c≤122) with
  | false=>
   cases h5:decide (65≤c) with
   | false=>
    exact tg @wX.eq_1 @ig.eq_1 h1 h4 h5
   | true=>
    cases h6:decide (c≤90) with
    | false=>
     exact jK @wX.eq_1 @ig.eq_1 h1 h4 h5 h6
    | true=>
     exact jK @wX.eq_1 @ig.eq_1 h1 h4 h5 h6
  | true=>
   exact nI @wX.eq_1 @ig.eq_1 h1 h4
theorem cV (c:Nat) (s:PS):aD Tryz.prog Γ ext 105 [.sc (.int .u8 (c:Int))] s=some (.sc (.bool (bD c)),s):=by
 rw [dT (fn:=FN) (by rfl) _ _ (by simp [FN])];cases h1:decide (48≤c) with
 | false=>
  exact lR @FN.eq_1 @bD.eq_1 h1
 | true=>
  cases h2:decide (c≤57) with
  | false=>
   exact nI @FN.eq_1 @bD.eq_1 h1 h2
  | true=>
   exact nI @FN.eq_1 @bD.eq_1 h1 h2
theorem eK (c:Nat) (s:PS):aD Tryz.prog Γ ext 106 [.sc (.int .u8 (c:Int))] s=some (.sc (.bool (eo c)),s):=by
 rw [dT (fn:=Cr) (by rfl) _ _ (by simp [Cr])];cases h1:ig c with
 | false=>
  cases h2:bD c with
  | false=>
   cases h3:c == 95 with
   | false=>
    exact tD @Cr.eq_1 @eo.eq_1 @rM @cV h1 h2 h3
   | true=>
    exact tD @Cr.eq_1 @eo.eq_1 @rM @cV h1 h2 h3
  | true=>
   exact jK @Cr.eq_1 @eo.eq_1 @rM @cV h1 h2
 | true=>
  exact nI @Cr.eq_1 @eo.eq_1 @rM h1
theorem dq (c:Nat) (s:PS):aD Tryz.prog Γ ext 299 [.sc (.int .u8 (c:Int))] s=some (.sc (.bool (eX c)),s):=by
 rw [dT (fn:=GE) (by rfl) _ _ (by simp [GE])];cases h1:c == 9 with
 | false=>
  cases h2:c == 32 with
  | false=>
   exact nI @GE.eq_1 @eX.eq_1 h1 h2
  | true=>
   exact nI @GE.eq_1 @eX.eq_1 h1 h2
 | true=>
  exact lR @GE.eq_1 @eX.eq_1 h1
theorem eL (c:Nat) (s:PS):aD Tryz.prog Γ ext 300 [.sc (.int .u8 (c:Int))] s=some (.sc (.bool (di c)),s):=by
 rw [dT (fn:=vz) (by rfl) _ _ (by simp [vz])];cases h1:c == 38 with
 | false=>
  cases h2:c == 124 with
  | false=>
   cases h3:c == 59 with
   | false=>
    cases h4:c == 40 with
    | false=>
     cases h5:c == 41 with
     | false=>
      cases h6:c == 60 with
      | false=>
       cases h7:c == 62 with
       | false=>
        exact wF @vz.eq_1 @di.eq_1 h1 h2 h3 h4 h5 h6 h7
       | true=>
        exact wF @vz.eq_1 @di.eq_1 h1 h2 h3 h4 h5 h6 h7
      | true=>
       exact vY @vz.eq_1 @di.eq_1 h1 h2 h3 h4 h5 h6
     | true=>
      exact tD @vz.eq_1 @di.eq_1 h1 h2 h3 h4 h5
    | true=>
     exact jK @vz.eq_1 @di.eq_1 h1 h2 h3 h4
   | true=>
    exact tg @vz.eq_1 @di.eq_1 h1 h2 h3
  | true=>
   exact nI @vz.eq_1 @di.eq_1 h1 h2
 | true=>
  exact lR @vz.eq_1 @di.eq_1 h1
theorem Ks {b:ByteArray} (hb:b.data.toList.length < 4611686018427387904) (c:Nat) (s:PS):∀(k i:Nat) (f:aR),i + k=b.data.toList.length→f 0=.sc (.string b)→f 1=.sc (.int .u8 (c:Int))→f 5=iN i→
  Er (fun f' s'=>s'=s∧f' 4=.sc (.bool ((b.data.toList.drop i).any fun x=>x.toNat == c))) (LP Tryz.prog Γ ext 0 s9 D2 f s):=by
 intro k
 induction k with
 | zero=>
  intro i f hk h0 h1 h5;have e1:decide (i < b.data.toList.length)=false:=df;refine ad fun L hL=>?_;refine wP @s9.eq_1 @D2.eq_1 h0 h5 e1 ?_;rw [List.drop_of_length_le om]; rfl
 | succ k ih=>
  intro i f hk h0 h1 h5;have hl:i < b.data.toList.length:=om;have e1:decide (i < b.data.toList.length)=true:=dt;have ed:=pj hl;have eg:=nU hl;cases e2:(bt b.data.toList i == c) with
  | true=>
   refine ad fun L hL=>?_;refine u0 @s9.eq_1 h0 h1 h5 hl e2 ?_;rw [ed,List.any_cons,← eg,e2]; rfl
  | false=>
   rw [ed,List.any_cons,← eg,e2,Bool.false_or];refine ad fun L hL=>?_;refine u0 @s9.eq_1 h0 h1 h5 hl e2 ?_;subst hL;exact ih (i + 1) _ om (aX h0) (aX h1) aQ
theorem OE {b:ByteArray} (hb:b.data.toList.length < 4611686018427387904) (c:Nat) (s:PS):Pc ext 154 [.sc (.string b),.sc (.int .u8 (c:Int))] (.sc (.bool (b.data.toList.any fun x=>x.toNat == c))) s:=by
 refine q1 QS 4 ?_;unfold QS;refine yZ ?_;exact Ks hb c _ b.data.toList.length 0 _ om (by simp -implicitDefEqProofs (disch:=omega) only [ZA,↓reduceIte,reduceCtorEq]) (by simp -implicitDefEqProofs (disch:=omega) only [ZA,Nat.reduceEqDiff,↓reduceIte]) (by simp -implicitDefEqProofs (disch:=omega) only [ZA,↓reduceIte]; rfl)
theorem AM (c:Nat):cm c=(bD c || ([64,42,35,63,45,36,33]:List UInt8).any fun x=>x.toNat == c):=by
 unfold cm;have h:∀k:Nat,(k == c)=(c == k):=fun k=>by rw [Bool.eq_iff_iff,beq_iff_eq,beq_iff_eq]; exact eq_comm
 show _=(bD c || ((64 == c) || ((42 == c) || ((35 == c) || ((63 == c) || ((45 == c) || ((36 == c) || ((33 == c) || false))))))))
 simp only [h,Bool.or_false,Bool.or_assoc]
theorem gk (c:Nat) (s:PS):Pc ext 323 [.sc (.int .u8 (c:Int))] (.sc (.bool (cm c))) s:=by
 refine q1 Ry 2 ?_;have hh:=fun s=>OE (ext:=ext) (b:=⟨#[64,42,35,63,45,36,33]⟩) (by decide) c s;unfold Ry;rw [AM];cases e:bD c with
 | true=>exact l9 @cV e
 | false=>exact lR @cV e hh
theorem O1 {b:ByteArray} (hb:b.data.toList.length < 4611686018427387904) (s:PS):∀(k i:Nat) (f:aR),i + k=b.data.toList.length→f 0=.sc (.string b)→f 1=iN i→
  Er (fun f' s'=>s'=s∧f' 4=iN (dY b.data.toList i)) (LP Tryz.prog Γ ext 0 sG yF f s):=by
 intro k
 induction k with
 | zero=>
  intro i f hk h0 h1;have e1:decide (i < b.data.toList.length)=false:=df;refine ad fun L hL=>?_;exact tD @sG.eq_1 @yF.eq_1 h0 h1 e1 @dY.eq_1 (yA (q:=eo) (l:=b.data.toList) (i:=i) om)
 | succ k ih=>
  intro i f hk h0 h1;have hl:i < b.data.toList.length:=om;have e1:decide (i < b.data.toList.length)=true:=dt;refine ad fun L hL=>?_;cases e2:eo (bt b.data.toList i) with
  | false=>exact wF @sG.eq_1 @yF.eq_1 h0 h1 hl @eK e2 @dY.eq_1 (yX hl e2)
  | true=>
   refine u0 @sG.eq_1 h0 h1 hl @eK e2 ?_;subst hL;unfold dY;rw [wc hl e2];exact ih (i + 1) _ om (aX h0) aQ
theorem uD {b:ByteArray} (hb:b.data.toList.length < 4611686018427387904) {i:Nat} (hi:i≤b.data.toList.length) (s:PS):Pc ext 266 [.sc (.string b),iN i] (iN (dY b.data.toList i)) s:=by
 refine q1 R2 4 ?_;unfold R2;refine yZ ?_;exact O1 hb _ (b.data.toList.length - i) i _ om aQ aQ
theorem J5 {b:ByteArray} (hb:b.data.toList.length < 4611686018427387904) (s:PS):∀(k i:Nat) (f:aR),i + k=b.data.toList.length→f 0=.sc (.string b)→f 1=iN i→
  Er (fun f' s'=>s'=s∧f' 4=iN (cB b.data.toList 10 i)) (LP Tryz.prog Γ ext 0 sd yN f s):=by
 intro k
 induction k with
 | zero=>
  intro i f hk h0 h1;have e1:decide (i < b.data.toList.length)=false:=df;refine ad fun L hL=>?_;exact tD @sd.eq_1 @yN.eq_1 h0 h1 e1 @cB.eq_1 (yA (q:=fun x=>x != 10) (l:=b.data.toList) (i:=i) om)
 | succ k ih=>
  intro i f hk h0 h1;have hl:i < b.data.toList.length:=om;have e1:decide (i < b.data.toList.length)=true:=dt;refine ad fun L hL=>?_;cases e2:bt b.data.toList i == 10 with
  | true=>exact vY @sd.eq_1 @yN.eq_1 h0 h1 hl e2 @cB.eq_1 (yX (q:=fun x=>x != 10) hl (by show (!(bt b.data.toList i == 10))=false; rw [e2]; rfl))
  | false=>
   refine wP @sd.eq_1 h0 h1 hl e2 ?_;subst hL;unfold cB;rw [wc (q:=fun x=>x != 10) hl (by show (!(bt b.data.toList i == 10))=true; rw [e2]; rfl)];exact ih (i + 1) _ om (aX h0) aQ
theorem Hj {b:ByteArray} (hb:b.data.toList.length < 4611686018427387904) {i:Nat} (hi:i≤b.data.toList.length) (s:PS):Pc ext 341 [.sc (.string b),iN i] (iN (cB b.data.toList 10 i)) s:=by
 refine q1 S1 4 ?_;unfold S1;refine yZ ?_;exact J5 hb _ (b.data.toList.length - i) i _ om aQ aQ
theorem rx {b:ByteArray} (hb:b.data.toList.length < 4611686018427387904) {i:Nat} (hi:i≤b.data.toList.length) (s:PS):Pc ext 342 [.sc (.string b),iN i] (.sc (.bool (cH b.data.toList i))) s:=by
 refine q1 Rm 4 ?_;unfold Rm cH;cases e1:decide (i + 1 < b.data.toList.length) with
 | false=>exact aX e1
 | true=>
  have h1:i + 1 < b.data.toList.length:=of_decide_eq_true e1;have hl:i < b.data.toList.length:=om;cases e2:bt b.data.toList i == 92 with
  | false=>exact lR e1 hl e2
  | true=>exact lR hl h1 e2
theorem gh {b:ByteArray} (hb:b.data.toList.length < 4611686018427387904) {i:Nat} (hi:i≤b.data.toList.length) (s:PS):Pc ext 294 [.sc (.string b),iN i] (.sc (.bool (cH b.data.toList i))) s:=by
 refine q1 QQ 4 ?_;unfold QQ cH;cases e1:decide (i + 1 < b.data.toList.length) with
 | false=>exact aX e1
 | true=>
  have h1:i + 1 < b.data.toList.length:=of_decide_eq_true e1;have hl:i < b.data.toList.length:=om;cases e2:bt b.data.toList i == 92 with
  | false=>exact lR e1 hl e2
  | true=>exact lR hl h1 e2
theorem da {b:ByteArray} (hb:b.data.toList.length < 4611686018427387904) {i:Nat} (hi:i≤b.data.toList.length) (s:PS):Pc ext 313 [.sc (.string b),iN i] (.sc (.bool (cj b.data.toList i))) s:=by
 refine q1 Qe 4 ?_;unfold Qe cj;by_cases h1:i + 1 < b.data.toList.length
 ·have hl:i < b.data.toList.length:=om;have e0:decide (i + 1 < b.data.toList.length)=true:=decide_eq_true h1;have e1:decide (b.data.toList.length≤i + 1)=false:=df;cases e2:bt b.data.toList i == 36 with
  | false=>exact nI e0 e1 hl e2
  | true=>
   cases e3:eo (bt b.data.toList (i + 1)) with
   | true=>exact jK e1 hl h1 e2 @eK e3
   | false=>
    cases e4:cm (bt b.data.toList (i + 1)) with
    | true=>exact vY e1 hl h1 e2 @eK @gk e3 e4
    | false=>
     cases e5:bt b.data.toList (i + 1) == 123 with
     | true=>exact wF e1 hl h1 e2 @eK @gk e3 e4 e5
     | false=>exact wF e1 hl h1 e2 @eK @gk e3 e4 e5
 ·have e0:decide (i + 1 < b.data.toList.length)=false:=decide_eq_false h1;have e1:decide (b.data.toList.length≤i + 1)=true:=dt;exact l9 e0 e1
variable {ext:aq}{b:ByteArray}
def RC (ext:aq) (b:ByteArray):fX→Nat→Nat→Prop
 | .pass a p,r,e=>∀s,aD Tryz.prog Γ ext 311 [.sc (.string b),.sc (.int .i64 (a:Int)),.sc (.int .i64 (p:Int))] s=some (.tup [.sc (.int .i64 (r:Int)),.sc (.int .i64 (e:Int))],s)
 | .exp a p,r,e=>∀s,aD Tryz.prog Γ ext 320 [.sc (.string b),.sc (.int .i64 (a:Int)),.sc (.int .i64 (p:Int))] s=some (.tup [.sc (.int .i64 (r:Int)),.sc (.int .i64 (e:Int))],s)
 | .bq i a,r,e=>∀s f,f 0=.sc (.string b)→f 1=.sc (.int .i64 (a:Int))→f 6=.sc (.int .i64 (i:Int))→Er (fun f' s'=>s'=s∧f' 4=.sc (.int .i64 (r:Int))∧f' 5=.sc (.int .i64 (e:Int))) (LP Tryz.prog Γ ext 0 oq DG f s)
 | .dbl i a,r,e=>∀s f,f 0=.sc (.string b)→f 1=.sc (.int .i64 (a:Int))→f 6=.sc (.int .i64 (i:Int))→Er (fun f' s'=>s'=s∧f' 4=.sc (.int .i64 (r:Int))∧f' 5=.sc (.int .i64 (e:Int))) (LP Tryz.prog Γ ext 0 qH DI f s)
 | .brc i a p,r,e=>∀s f,f 0=.sc (.string b)→f 1=.sc (.int .i64 (a:Int))→f 2=.sc (.int .i64 (p:Int))→f 8=.sc (.int .i64 (i:Int))→Er (fun f' s'=>s'=s∧f' 6=.sc (.int .i64 (r:Int))∧f' 7=.sc (.int .i64 (e:Int))) (LP Tryz.prog Γ ext 0 kX Cm f s)
 | .cmd i a o g,r,e=>1≤o→o≤i→∀s f,f 0=.sc (.string b)→f 1=.sc (.int .i64 (a:Int))→f 6=.sc (.int .i64 (i:Int))→f 7=.sc (.int .i64 (o:Int))→f 8=.sc (.bool g)→Er (fun f' s'=>s'=s∧f' 4=.sc (.int .i64 (r:Int))∧f' 5=.sc (.int .i64 (e:Int))) (LP Tryz.prog Γ ext 0 dy vJ f s)
 | .ari i a o,r,e=>o≤i→∀s f,f 0=.sc (.string b)→f 1=.sc (.int .i64 (a:Int))→f 6=.sc (.int .i64 (i:Int))→f 7=.sc (.int .i64 (o:Int))→Er (fun f' s'=>s'=s∧f' 4=.sc (.int .i64 (r:Int))∧f' 5=.sc (.int .i64 (e:Int))) (LP Tryz.prog Γ ext 0 jh Dl f s)
section
variable (hb:b.data.toList.length < 4611686018427387904)
include hb
theorem Mr {a:Nat} : RC ext b (.bq b.data.toList.length a) a 7:=by
 intro s f h0 h1 h6;have e1:decide (b.data.toList.length < b.data.toList.length)=false:=decide_eq_false (by omega);refine ad fun L hL=>?_;simp -implicitDefEqProofs (disch:=omega) only [ZA,Nat.reduceEqDiff,↓reduceIte,reduceCtorEq,aY,bM,bY,oq,DG,h0,h1,h6,e1];rfl
theorem TI {i a:Nat} (hl:i < b.data.toList.length) (h:bt b.data.toList i=96):RC ext b (.bq i a) (i + 1) 0:=by
 intro s f h0 h1 h6;have e1:decide (i < b.data.toList.length)=true:=decide_eq_true (by omega);have q96:(bt b.data.toList (i) == 96)=true:=by rw [h]; rfl
 refine ad fun L hL=>?_;simp -implicitDefEqProofs (disch:=omega) only [ZA,Nat.reduceEqDiff,↓reduceIte,reduceCtorEq,aY,bM,bY,oq,h0,h6,hl,q96];rfl
theorem J9 {i a:Nat} (h:bt b.data.toList i=92) (h2:i + 1=b.data.toList.length):RC ext b (.bq i a) i 7:=by
 intro s f h0 h1 h6;have hl:i < b.data.toList.length:=by omega
 have e1:decide (i < b.data.toList.length)=true:=decide_eq_true (by omega);have q96:(bt b.data.toList (i) == 96)=false:=by rw [h]; rfl
 have q92:(bt b.data.toList (i) == 92)=true:=by rw [h]; rfl
 have e2:(i + 1 == b.data.toList.length)=true:=by rw [h2]; exact beq_self_eq_true _
 refine ad fun L hL=>?_;simp -implicitDefEqProofs (disch:=omega) only [ZA,Nat.reduceEqDiff,↓reduceIte,reduceCtorEq,aY,bM,bY,oq,h0,h6,hl,e2,q96,q92];rfl
theorem NF {i a r e:Nat} (h:bt b.data.toList i=92) (h2:i + 1 < b.data.toList.length) (ih:RC ext b (.bq (i + 2) a) r e):RC ext b (.bq i a) r e:=by
 intro s f h0 h1 h6;have hl:i < b.data.toList.length:=by omega
 have e1:decide (i < b.data.toList.length)=true:=decide_eq_true (by omega);have q96:(bt b.data.toList (i) == 96)=false:=by rw [h]; rfl
 have q92:(bt b.data.toList (i) == 92)=true:=by rw [h]; rfl
 have e2:(i + 1 == b.data.toList.length)=false:=beq_eq_false_iff_ne.2 (by omega);refine ad fun L hL=>?_;refine MS @oq.eq_1 h0 h6 hl e2 q96 q92 ?_;subst hL;exact ih s _ (aX h0) (aX h1) aQ
theorem MU {i a r e:Nat} (hl:i < b.data.toList.length) (h:bt b.data.toList i≠96) (h2:bt b.data.toList i≠92) (ih:RC ext b (.bq (i + 1) a) r e):RC ext b (.bq i a) r e:=by
 intro s f h0 h1 h6;have e1:decide (i < b.data.toList.length)=true:=decide_eq_true (by omega);have q96:(bt b.data.toList (i) == 96)=false:=beq_eq_false_iff_ne.2 (h);have q92:(bt b.data.toList (i) == 92)=false:=beq_eq_false_iff_ne.2 (h2);refine ad fun L hL=>?_;refine u0 @oq.eq_1 h0 h6 hl q96 q92 ?_;subst hL;exact ih s _ (aX h0) (aX h1) aQ
theorem Nn {a:Nat} : RC ext b (.dbl b.data.toList.length a) a 7:=by
 intro s f h0 h1 h6;have e1:decide (b.data.toList.length < b.data.toList.length)=false:=decide_eq_false (by omega);refine ad fun L hL=>?_;simp -implicitDefEqProofs (disch:=omega) only [ZA,Nat.reduceEqDiff,↓reduceIte,reduceCtorEq,aY,bM,bY,qH,DI,h0,h1,h6,e1];rfl
theorem Ui {i a:Nat} (hl:i < b.data.toList.length) (h:bt b.data.toList i=34):RC ext b (.dbl i a) (i + 1) 0:=by
 intro s f h0 h1 h6;have e1:decide (i < b.data.toList.length)=true:=decide_eq_true (by omega);have q34:(bt b.data.toList (i) == 34)=true:=by rw [h]; rfl
 refine ad fun L hL=>?_;simp -implicitDefEqProofs (disch:=omega) only [ZA,Nat.reduceEqDiff,↓reduceIte,reduceCtorEq,aY,bM,bY,qH,h0,h6,hl,q34];rfl
theorem Lq {i a r e:Nat} (hl:i < b.data.toList.length) (h:bt b.data.toList i≠34) (ih:RC ext b (.pass i 1) r e) (he:e≠0):RC ext b (.dbl i a) r e:=by
 intro s f h0 h1 h6;have e1:decide (i < b.data.toList.length)=true:=decide_eq_true (by omega);have q34:(bt b.data.toList (i) == 34)=false:=beq_eq_false_iff_ne.2 (h);have e2:(e == 0)=false:=beq_eq_false_iff_ne.2 he;have ih1:∀s,_:=ih;rw [show ((1:Nat):Int)=1 from rfl] at ih1;refine ad fun L hL=>?_;exact tD @qH.eq_1 h0 h6 hl ih1 e2 q34
theorem Rv {i a j r e:Nat} (hl:i < b.data.toList.length) (h:bt b.data.toList i≠34) (ih:RC ext b (.pass i 1) j 0) (ih2:RC ext b (.dbl j a) r e):RC ext b (.dbl i a) r e:=by
 intro s f h0 h1 h6;have e1:decide (i < b.data.toList.length)=true:=decide_eq_true (by omega);have q34:(bt b.data.toList (i) == 34)=false:=beq_eq_false_iff_ne.2 (h);have ih1:∀s,_:=ih;rw [show ((1:Nat):Int)=1 from rfl] at ih1;refine ad fun L hL=>?_;refine u0 @qH.eq_1 h0 h6 hl ih1 q34 ?_;subst hL;exact ih2 s _ (aX h0) (aX h1) aQ
end
section
variable (hb:b.data.toList.length < 4611686018427387904)
include hb
theorem Mo {a p:Nat} : RC ext b (.brc b.data.toList.length a p) a 7:=by
 intro s f h0 h1 h2 h8;have e1:decide (b.data.toList.length < b.data.toList.length)=false:=df;refine ad fun L hL=>?_;simp -implicitDefEqProofs (disch:=omega) only [ZA,Nat.reduceEqDiff,↓reduceIte,reduceCtorEq,aY,bM,bY,kX,Cm,h0,h1,h8,e1];rfl
theorem TJ {i a p:Nat} (hl:i < b.data.toList.length) (h:bt b.data.toList i=125):RC ext b (.brc i a p) (i + 1) 0:=by
 intro s f h0 h1 h2 h8;have e1:decide (i < b.data.toList.length)=true:=dt;have q125:(bt b.data.toList (i) == 125)=true:=by rw [h]; rfl
 refine ad fun L hL=>?_;simp -implicitDefEqProofs (disch:=omega) only [ZA,Nat.reduceEqDiff,↓reduceIte,reduceCtorEq,aY,bM,bY,kX,h0,h8,hl,q125];rfl
theorem Ny {i a:Nat} (hl:i < b.data.toList.length) (h:bt b.data.toList i=34):RC ext b (.brc i a 1) i 6:=by
 intro s f h0 h1 h2 h8;have e1:decide (i < b.data.toList.length)=true:=dt;have q125:(bt b.data.toList (i) == 125)=false:=by rw [h]; rfl
 have q34:(bt b.data.toList (i) == 34)=true:=by rw [h]; rfl
 refine ad fun L hL=>?_;simp -implicitDefEqProofs (disch:=omega) only [ZA,Nat.reduceEqDiff,↓reduceIte,reduceCtorEq,aY,bM,bY,kX,h0,h2,h8,hl,q125,q34];rfl
theorem LG {i a p r e:Nat} (hl:i < b.data.toList.length) (h:bt b.data.toList i≠125) (h3:p=1→bt b.data.toList i≠34) (ih:RC ext b (.pass i p) r e) (he:e≠0):RC ext b (.brc i a p) r e:=by
 intro s f h0 h1 h2 h8;have e1:decide (i < b.data.toList.length)=true:=dt;have q125:(bt b.data.toList i == 125)=false:=beq_eq_false_iff_ne.2 h;have ih1:∀s,_:=ih;have e2:(e == 0)=false:=beq_eq_false_iff_ne.2 he;cases q34:bt b.data.toList i == 34 with
 | false=>
  refine ad fun L hL=>?_;exact wF @kX.eq_1 h0 h2 h8 hl q125 q34 ih1 e2
 | true=>
  have qp:(p == 1)=false:=beq_eq_false_iff_ne.2 fun hp=>h3 hp (eq_of_beq q34);refine ad fun L hL=>?_;exact rG @kX.eq_1 h0 h2 h8 hl q125 q34 qp ih1 e2
theorem Pl {i a p j r e:Nat} (hl:i < b.data.toList.length) (h:bt b.data.toList i≠125) (h3:p=1→bt b.data.toList i≠34) (ih:RC ext b (.pass i p) j 0) (ih2:RC ext b (.brc j a p) r e):RC ext b (.brc i a p) r e:=by
 intro s f h0 h1 h2 h8;have e1:decide (i < b.data.toList.length)=true:=dt;have q125:(bt b.data.toList i == 125)=false:=beq_eq_false_iff_ne.2 h;have ih1:∀s,_:=ih;cases q34:bt b.data.toList i == 34 with
 | false=>
  refine ad fun L hL=>?_;refine Fe @kX.eq_1 h0 h2 h8 hl q125 q34 ih1 ?_;subst hL;exact ih2 s _ (aX h0) (aX h1) (aX h2) aQ
 | true=>
  have qp:(p == 1)=false:=beq_eq_false_iff_ne.2 fun hp=>h3 hp (eq_of_beq q34);refine ad fun L hL=>?_;refine Di @kX.eq_1 h0 h2 h8 hl q125 q34 qp ih1 ?_;subst hL;exact ih2 s _ (aX h0) (aX h1) (aX h2) aQ
theorem NX {a o:Nat} : RC ext b (.ari b.data.toList.length a o) a 7:=by
 intro ho s f h0 h1 h6 h7;have e1:decide (b.data.toList.length < b.data.toList.length)=false:=df;refine ad fun L hL=>?_;simp -implicitDefEqProofs (disch:=omega) only [ZA,Nat.reduceEqDiff,↓reduceIte,reduceCtorEq,aY,bM,bY,jh,Dl,h0,h1,h6,e1];rfl
theorem Qd {i a:Nat} (h:bt b.data.toList i=41) (h2:i + 1=b.data.toList.length):RC ext b (.ari i a 0) a 7:=by
 intro ho s f h0 h1 h6 h7;have hl:i < b.data.toList.length:=om;have e1:decide (i < b.data.toList.length)=true:=dt;have q40:(bt b.data.toList (i) == 40)=false:=by rw [h]; rfl
 have q41:(bt b.data.toList (i) == 41)=true:=by rw [h]; rfl
 have z0:decide (0 < 0)=false:=rfl;have e2:(i + 1 == b.data.toList.length)=true:=by rw [h2]; exact beq_self_eq_true _
 refine ad fun L hL=>?_;simp -implicitDefEqProofs (disch:=omega) only [ZA,Nat.reduceEqDiff,↓reduceIte,reduceCtorEq,Nat.reduceLT,aY,bM,bY,jh,h0,h1,h6,h7,hl,q40,q41,e2];rfl
theorem Tk {i a:Nat} (h:bt b.data.toList i=41) (h2:i + 1 < b.data.toList.length) (h3:bt b.data.toList (i + 1)=41):RC ext b (.ari i a 0) (i + 2) 0:=by
 intro ho s f h0 h1 h6 h7;have hl:i < b.data.toList.length:=om;have e1:decide (i < b.data.toList.length)=true:=dt;have q40:(bt b.data.toList (i) == 40)=false:=by rw [h]; rfl
 have q41:(bt b.data.toList (i) == 41)=true:=by rw [h]; rfl
 have z0:decide (0 < 0)=false:=rfl;have e2:(i + 1 == b.data.toList.length)=false:=bf;have q1:(bt b.data.toList (i + 1) == 41)=true:=by rw [h3]; rfl
 refine ad fun L hL=>?_;simp -implicitDefEqProofs (disch:=omega) only [ZA,Nat.reduceEqDiff,↓reduceIte,reduceCtorEq,Nat.reduceLT,aY,bM,bY,jh,h0,h1,h6,h7,hl,q40,q41,e2,h2,q1];rfl
theorem KL {i a:Nat} (h:bt b.data.toList i=41) (h2:i + 1 < b.data.toList.length) (h3:bt b.data.toList (i + 1)≠41):RC ext b (.ari i a 0) i 6:=by
 intro ho s f h0 h1 h6 h7;have hl:i < b.data.toList.length:=om;have e1:decide (i < b.data.toList.length)=true:=dt;have q40:(bt b.data.toList (i) == 40)=false:=by rw [h]; rfl
 have q41:(bt b.data.toList (i) == 41)=true:=by rw [h]; rfl
 have z0:decide (0 < 0)=false:=rfl;have e2:(i + 1 == b.data.toList.length)=false:=bf;have q1:(bt b.data.toList (i + 1) == 41)=false:=beq_eq_false_iff_ne.2 h3;refine ad fun L hL=>?_;simp -implicitDefEqProofs (disch:=omega) only [ZA,Nat.reduceEqDiff,↓reduceIte,reduceCtorEq,Nat.reduceLT,aY,bM,bY,jh,h0,h1,h6,h7,hl,q40,q41,e2,h2,q1];rfl
theorem LE {i a o r e:Nat} (hl:i < b.data.toList.length) (h:bt b.data.toList i=41→o≠0) (ih:RC ext b (.pass i 2) r e) (he:e≠0):RC ext b (.ari i a o) r e:=by
 intro ho s f h0 h1 h6 h7;have e1:decide (i < b.data.toList.length)=true:=dt;have ih1:∀s,_:=ih;rw [show ((2:Nat):Int)=2 from rfl] at ih1;have e2:(e == 0)=false:=beq_eq_false_iff_ne.2 he;cases q40:bt b.data.toList i == 40 with
 | true=>
  have c40:(bt b.data.toList i=40)=True:=eq_true (eq_of_beq q40);have c41:True:=trivial;refine ad fun L hL=>?_;exact vY @jh.eq_1 h0 h6 h7 hl q40 ih1 e2
 | false=>
  have c40:(bt b.data.toList i=40)=False:=eq_false (beq_eq_false_iff_ne.1 q40);cases q41:bt b.data.toList i == 41 with
  | true=>
   have c41:(bt b.data.toList i=41)=True:=eq_true (eq_of_beq q41);have ho1 : 1≤o:=by have:=h (eq_of_beq q41); omega
   have z1:decide (0 < o)=true:=dt;refine ad fun L hL=>?_;exact nq @jh.eq_1 h0 h1 h6 h7 hl q40 q41 z1 ih1 e2 tv
  | false=>
   have c41:(bt b.data.toList i=41)=False:=eq_false (beq_eq_false_iff_ne.1 q41);refine ad fun L hL=>?_;exact rG @jh.eq_1 h0 h1 h6 h7 hl q40 q41 ih1 e2
theorem Qg {i a o j r e:Nat} (hl:i < b.data.toList.length) (h:bt b.data.toList i=41→o≠0) (hj:i < j) (ih:RC ext b (.pass i 2) j 0) (ih2:RC ext b (.ari j a (cM (bt b.data.toList i) o)) r e):RC ext b (.ari i a o) r e:=by
 intro ho s f h0 h1 h6 h7;have e1:decide (i < b.data.toList.length)=true:=dt;have ih1:∀s,_:=ih;rw [show ((2:Nat):Int)=2 from rfl] at ih1;cases q40:bt b.data.toList i == 40 with
 | true=>
  have c40:(bt b.data.toList i=40)=True:=eq_true (eq_of_beq q40);have c41:True:=trivial;refine ad fun L hL=>?_;refine MS @jh.eq_1 h0 h6 h7 hl q40 ih1 ?_;subst hL;have hop:cM (bt b.data.toList i) o=o + 1:=by unfold cM; simp only [c40,if_true]
  rw [hop] at ih2;exact ih2 om s _ (aX h0) (aX h1) aQ aQ
 | false=>
  have c40:(bt b.data.toList i=40)=False:=eq_false (beq_eq_false_iff_ne.1 q40);cases q41:bt b.data.toList i == 41 with
  | true=>
   have c41:(bt b.data.toList i=41)=True:=eq_true (eq_of_beq q41);have ho1 : 1≤o:=by have:=h (eq_of_beq q41); omega
   have z1:decide (0 < o)=true:=dt;refine ad fun L hL=>?_;refine wA @jh.eq_1 h0 h1 h6 h7 hl q40 q41 z1 ih1 ?_;subst hL;have hop:cM (bt b.data.toList i) o=o - 1:=by unfold cM; simp only [c40,c41,if_true,if_false]
   rw [hop] at ih2;exact ih2 om s _ (aX h0) (aX h1) aQ aQ
  | false=>
   have c41:(bt b.data.toList i=41)=False:=eq_false (beq_eq_false_iff_ne.1 q41);refine ad fun L hL=>?_;refine Di @jh.eq_1 h0 h1 h6 h7 hl q40 q41 ih1 ?_;subst hL;have hop:cM (bt b.data.toList i) o=o:=by unfold cM; simp only [c40,c41,if_false]
   rw [hop] at ih2;exact ih2 om s _ (aX h0) (aX h1) aQ (aX h7)
end
section
variable (hb:b.data.toList.length < 4611686018427387904)
include hb
theorem Ou {a o:Nat}{g:Bool} : RC ext b (.cmd b.data.toList.length a o g) a 7:=by
 intro ho1 ho s f h0 h1 h6 h7 h8;have e1:decide (b.data.toList.length < b.data.toList.length)=false:=df;refine ad fun L hL=>?_;simp -implicitDefEqProofs (disch:=omega) only [ZA,Nat.reduceEqDiff,↓reduceIte,reduceCtorEq,aY,bM,bY,dy,vJ,h0,h1,h6,e1];rfl
theorem Mx {i a o r e:Nat} (hl:i < b.data.toList.length) (h:bt b.data.toList i=35) (ih:RC ext b (.cmd (cB b.data.toList 10 i) a o true) r e):RC ext b (.cmd i a o true) r e:=by
 intro ho1 ho s f h0 h1 h6 h7 h8;have e1:decide (i < b.data.toList.length)=true:=dt;have q35:(bt b.data.toList (i) == 35)=true:=by rw [h]; rfl
 have hc:=fun s=>Hj (ext:=ext) hb (i:=i) om s;have hge:i≤cB b.data.toList 10 i:=md _ _ _;refine ad fun L hL=>?_;refine MS @dy.eq_1 h0 h6 h8 hl q35 hc ?_;subst hL;exact ih ho1 om s _ (aX h0) (aX h1) aQ (aX h7) (aX h8)
theorem HJ {i a o:Nat}{g:Bool}{r e:Nat} (h:cH b.data.toList i=true) (ih:RC ext b (.cmd (i + 2) a o g) r e):RC ext b (.cmd i a o g) r e:=by
 intro ho1 ho s f h0 h1 h6 h7 h8;have hl1:=gm h;have hl:i < b.data.toList.length:=om;have e1:decide (i < b.data.toList.length)=true:=dt;have hj:=fun s=>rx (ext:=ext) hb (i:=i) om s;have q35:(bt b.data.toList i == 35)=false:=by rw [(AL h).1]; rfl
 cases g with
 | false=>
  refine ad fun L hL=>?_;refine MS @dy.eq_1 h0 h6 h8 hl hj h ?_;subst hL;exact ih ho1 om s _ (aX h0) (aX h1) aQ (aX h7) (aX h8)
 | true=>
  refine ad fun L hL=>?_;refine Fe @dy.eq_1 h0 h6 h8 hl q35 hj h ?_;subst hL;exact ih ho1 om s _ (aX h0) (aX h1) aQ (aX h7) (aX h8)
theorem Uj {i a:Nat}{g:Bool} (hl:i < b.data.toList.length) (h:bt b.data.toList i=41):RC ext b (.cmd i a 1 g) (i + 1) 0:=by
 intro ho1 ho s f h0 h1 h6 h7 h8;have e1:decide (i < b.data.toList.length)=true:=dt;have hj:=fun s=>rx (ext:=ext) hb (i:=i) om s;have hn:cH b.data.toList i=false:=by unfold cH; rw [h]; cases decide (i + 1 < b.data.toList.length)<;>rfl
 have q35:(bt b.data.toList (i) == 35)=false:=by rw [h]; rfl
 have q41:(bt b.data.toList (i) == 41)=true:=by rw [h]; rfl
 cases g with
 | false=>
  refine ad fun L hL=>?_;simp -implicitDefEqProofs (disch:=omega) only [ZA,Nat.reduceAdd,Nat.reduceEqDiff,↓reduceIte,reduceCtorEq,aY,bM,bY,dH,dy,h0,h6,h7,h8,hl,q41,hj,hn];rfl
 | true=>
  refine ad fun L hL=>?_;simp -implicitDefEqProofs (disch:=omega) only [ZA,Nat.reduceAdd,Nat.reduceEqDiff,↓reduceIte,reduceCtorEq,aY,bM,bY,dH,dy,h0,h6,h7,h8,hl,q35,q41,hj,hn];rfl
theorem NS {i a o:Nat}{g:Bool}{r e:Nat} (hl:i < b.data.toList.length) (h:g=true→bt b.data.toList i≠35) (hn:cH b.data.toList i=false) (h3:bt b.data.toList i=41→o≠1) (ih:RC ext b (.pass i 0) r e) (he:e≠0):RC ext b (.cmd i a o g) r e:=by
 intro ho1 ho s f h0 h1 h6 h7 h8;have e1:decide (i < b.data.toList.length)=true:=dt;have ih1:∀s,_:=ih;rw [show ((0:Nat):Int)=0 from rfl] at ih1;have hjn:=fun s=>rx (ext:=ext) hb (i:=i) om s;have hg:g=false∨(bt b.data.toList i == 35)=false:=by
  cases g with
  | false=>exact .inl rfl
  | true=>exact .inr (beq_eq_false_iff_ne.2 (h rfl))
 have e2:(e == 0)=false:=beq_eq_false_iff_ne.2 he;have key:∀(qg:g=false∨(bt b.data.toList i == 35)=false),Er (fun f' s'=>s'=s∧f' 4=iN r∧f' 5=iN e) (LP Tryz.prog Γ ext 0 dy vJ f s):=by
  intro qg;cases q40:bt b.data.toList i == 40 with
  | true=>
   have c40:(bt b.data.toList i=40)=True:=eq_true (eq_of_beq q40);have c41:True:=trivial;have e40:=eq_of_beq q40;have q35:(bt b.data.toList i == 35)=false:=by rw [e40]; rfl
   have q41:(bt b.data.toList i == 41)=false:=by rw [e40]; rfl
   have q10:(bt b.data.toList i == 10)=false:=by rw [e40]; rfl
   have hB:eX (bt b.data.toList i)=false:=by rw [e40]; rfl
   have hO:di (bt b.data.toList i)=true:=by rw [e40]; rfl
   have hbr:ce (bt b.data.toList i)=true:=by rw [e40]; rfl
   cases g with
   | false=>
    refine ad fun L hL=>?_;exact sV @dy.eq_1 h0 h6 h7 h8 hl q40 q41 q10 hB hO hjn hn @dq @eL ih1 e2 tv tv
   | true=>
    refine ad fun L hL=>?_;exact sV @dy.eq_1 h0 h6 h7 h8 hl q35 q40 q41 q10 hB hO hjn hn @dq @eL ih1 e2 tv
  | false=>
   have c40:(bt b.data.toList i=40)=False:=eq_false (beq_eq_false_iff_ne.1 q40);cases q41:bt b.data.toList i == 41 with
   | true=>
    have c41:(bt b.data.toList i=41)=True:=eq_true (eq_of_beq q41);have e41:=eq_of_beq q41;have qo:(o == 1)=false:=beq_eq_false_iff_ne.2 (h3 e41);have ho2 : 2≤o:=by have:=h3 e41; omega
    have q35:(bt b.data.toList i == 35)=false:=by rw [e41]; rfl
    have q10:(bt b.data.toList i == 10)=false:=by rw [e41]; rfl
    have hB:eX (bt b.data.toList i)=false:=by rw [e41]; rfl
    have hO:di (bt b.data.toList i)=true:=by rw [e41]; rfl
    have hbr:ce (bt b.data.toList i)=true:=by rw [e41]; rfl
    cases g with
    | false=>
     refine ad fun L hL=>?_;exact sV @dy.eq_1 h0 h6 h7 h8 hl q40 q41 qo q10 hB hO hjn hn @dq @eL ih1 e2 tv
    | true=>
     refine ad fun L hL=>?_;exact sV @dy.eq_1 h0 h6 h7 h8 hl q35 q40 q41 qo q10 hB hO hjn hn @dq @eL ih1 e2
   | false=>
    have c41:(bt b.data.toList i=41)=False:=eq_false (beq_eq_false_iff_ne.1 q41);cases g with
    | false=>
     cases hB:eX (bt b.data.toList i) with
     | true=>
      have hbr:ce (bt b.data.toList i)=true:=by unfold ce; rw [hB]; rfl
      refine ad fun L hL=>?_;exact qB @dy.eq_1 h0 h6 h7 h8 hl q40 q41 hB hjn hn @dq ih1 e2
     | false=>
      cases q10:bt b.data.toList i == 10 with
      | true=>
       have hbr:ce (bt b.data.toList i)=true:=by unfold ce; rw [hB,q10]; rfl
       refine ad fun L hL=>?_;exact vj @dy.eq_1 h0 h6 h7 h8 hl q40 q41 hB q10 hjn hn @dq ih1 e2 tv
      | false=>
       have hbr:ce (bt b.data.toList i)=di (bt b.data.toList i):=by unfold ce; rw [hB,q10]; rfl
       refine ad fun L hL=>?_;exact vj @dy.eq_1 h0 h6 h7 h8 hl q40 q41 hB q10 hjn hn @dq @eL ih1 e2
    | true=>
     have q35:=qg.resolve_left (fun hh=>by cases hh);cases hB:eX (bt b.data.toList i) with
     | true=>
      have hbr:ce (bt b.data.toList i)=true:=by unfold ce; rw [hB]; rfl
      refine ad fun L hL=>?_;exact vj @dy.eq_1 h0 h6 h7 h8 hl q35 q40 q41 hB hjn hn @dq ih1 e2 tv
     | false=>
      cases q10:bt b.data.toList i == 10 with
      | true=>
       have hbr:ce (bt b.data.toList i)=true:=by unfold ce; rw [hB,q10]; rfl
       refine ad fun L hL=>?_;exact vj @dy.eq_1 h0 h6 h7 h8 hl q35 q40 q41 hB q10 hjn hn @dq ih1 e2
      | false=>
       have hbr:ce (bt b.data.toList i)=di (bt b.data.toList i):=by unfold ce; rw [hB,q10]; rfl
       refine ad fun L hL=>?_;exact sV @dy.eq_1 h0 h6 h7 h8 hl q35 q40 q41 hB q10 hjn hn @dq @eL ih1 e2 tv tv
 exact key hg
theorem P9 {i a o:Nat}{g:Bool}{j r e:Nat} (hl:i < b.data.toList.length) (h:g=true→bt b.data.toList i≠35) (hn:cH b.data.toList i=false) (h3:bt b.data.toList i=41→o≠1) (hj:i < j) (ih:RC ext b (.pass i 0) j 0) (ih2:RC ext b (.cmd j a (cM (bt b.data.toList i) o) (ce (bt b.data.toList i))) r e):RC ext b (.cmd i a o g) r e:=by
 intro ho1 ho s f h0 h1 h6 h7 h8;have e1:decide (i < b.data.toList.length)=true:=dt;have ih1:∀s,_:=ih;rw [show ((0:Nat):Int)=0 from rfl] at ih1;have hjn:=fun s=>rx (ext:=ext) hb (i:=i) om s;have hg:g=false∨(bt b.data.toList i == 35)=false:=by
  cases g with
  | false=>exact .inl rfl
  | true=>exact .inr (beq_eq_false_iff_ne.2 (h rfl))
 have key:∀(qg:g=false∨(bt b.data.toList i == 35)=false),Er (fun f' s'=>s'=s∧f' 4=iN r∧f' 5=iN e) (LP Tryz.prog Γ ext 0 dy vJ f s):=by
  intro qg;cases q40:bt b.data.toList i == 40 with
  | true=>
   have c40:(bt b.data.toList i=40)=True:=eq_true (eq_of_beq q40);have c41:True:=trivial;have e40:=eq_of_beq q40;have q35:(bt b.data.toList i == 35)=false:=by rw [e40]; rfl
   have q41:(bt b.data.toList i == 41)=false:=by rw [e40]; rfl
   have q10:(bt b.data.toList i == 10)=false:=by rw [e40]; rfl
   have hB:eX (bt b.data.toList i)=false:=by rw [e40]; rfl
   have hO:di (bt b.data.toList i)=true:=by rw [e40]; rfl
   have hbr:ce (bt b.data.toList i)=true:=by rw [e40]; rfl
   cases g with
   | false=>
    refine ad fun L hL=>?_;refine ya @dy.eq_1 h0 h6 h7 h8 hl q40 q41 q10 hB hO hjn hn @dq @eL ih1 ?_;subst hL;have hop:cM (bt b.data.toList i) o=o + 1:=by unfold cM; simp only [c40,if_true]
    rw [hop] at ih2;exact ih2 om om s _ (aX h0) (aX h1) aQ aQ (aX hbr)
   | true=>
    refine ad fun L hL=>?_;refine MP @dy.eq_1 h0 h6 h7 h8 hl q35 q40 q41 q10 hB hO hjn hn @dq @eL ih1 tv tv ?_;subst hL;have hop:cM (bt b.data.toList i) o=o + 1:=by unfold cM; simp only [c40,if_true]
    rw [hop] at ih2;exact ih2 om om s _ (aX h0) (aX h1) aQ aQ (aX hbr)
  | false=>
   have c40:(bt b.data.toList i=40)=False:=eq_false (beq_eq_false_iff_ne.1 q40);cases q41:bt b.data.toList i == 41 with
   | true=>
    have c41:(bt b.data.toList i=41)=True:=eq_true (eq_of_beq q41);have e41:=eq_of_beq q41;have qo:(o == 1)=false:=beq_eq_false_iff_ne.2 (h3 e41);have ho2 : 2≤o:=by have:=h3 e41; omega
    have q35:(bt b.data.toList i == 35)=false:=by rw [e41]; rfl
    have q10:(bt b.data.toList i == 10)=false:=by rw [e41]; rfl
    have hB:eX (bt b.data.toList i)=false:=by rw [e41]; rfl
    have hO:di (bt b.data.toList i)=true:=by rw [e41]; rfl
    have hbr:ce (bt b.data.toList i)=true:=by rw [e41]; rfl
    cases g with
    | false=>
     refine ad fun L hL=>?_;refine MP @dy.eq_1 h0 h6 h7 h8 hl q40 q41 qo q10 hB hO hjn hn @dq @eL ih1 tv tv ?_;subst hL;have hop:cM (bt b.data.toList i) o=o - 1:=by unfold cM; simp only [c40,c41,if_true,if_false]
     rw [hop] at ih2;exact ih2 om om s _ (aX h0) (aX h1) aQ aQ (aX hbr)
    | true=>
     refine ad fun L hL=>?_;refine MP @dy.eq_1 h0 h6 h7 h8 hl q35 q40 q41 qo q10 hB hO hjn hn @dq @eL ih1 tv ?_;subst hL;have hop:cM (bt b.data.toList i) o=o - 1:=by unfold cM; simp only [c40,c41,if_true,if_false]
     rw [hop] at ih2;exact ih2 om om s _ (aX h0) (aX h1) aQ aQ (aX hbr)
   | false=>
    have c41:(bt b.data.toList i=41)=False:=eq_false (beq_eq_false_iff_ne.1 q41);cases g with
    | false=>
     cases hB:eX (bt b.data.toList i) with
     | true=>
      have hbr:ce (bt b.data.toList i)=true:=by unfold ce; rw [hB]; rfl
      refine ad fun L hL=>?_;refine pK @dy.eq_1 h0 h6 h7 h8 hl q40 q41 hB hjn hn @dq ih1 tv ?_;subst hL;have hop:cM (bt b.data.toList i) o=o:=by unfold cM; simp only [c40,c41,if_false]
      rw [hop] at ih2;exact ih2 om om s _ (aX h0) (aX h1) aQ (aX h7) (aX hbr)
     | false=>
      cases q10:bt b.data.toList i == 10 with
      | true=>
       have hbr:ce (bt b.data.toList i)=true:=by unfold ce; rw [hB,q10]; rfl
       refine ad fun L hL=>?_;refine pK @dy.eq_1 h0 h6 h7 h8 hl q40 q41 hB q10 hjn hn @dq ih1 ?_;subst hL;have hop:cM (bt b.data.toList i) o=o:=by unfold cM; simp only [c40,c41,if_false]
       rw [hop] at ih2;exact ih2 om om s _ (aX h0) (aX h1) aQ (aX h7) (aX hbr)
      | false=>
       have hbr:ce (bt b.data.toList i)=di (bt b.data.toList i):=by unfold ce; rw [hB,q10]; rfl
       refine ad fun L hL=>?_;refine ya @dy.eq_1 h0 h6 h7 h8 hl q40 q41 hB q10 hjn hn @dq @eL ih1 tv ?_;subst hL;have hop:cM (bt b.data.toList i) o=o:=by unfold cM; simp only [c40,c41,if_false]
       rw [hop] at ih2;exact ih2 om om s _ (aX h0) (aX h1) aQ (aX h7) (aX hbr)
    | true=>
     have q35:=qg.resolve_left (fun hh=>by cases hh);cases hB:eX (bt b.data.toList i) with
     | true=>
      have hbr:ce (bt b.data.toList i)=true:=by unfold ce; rw [hB]; rfl
      refine ad fun L hL=>?_;refine pK @dy.eq_1 h0 h6 h7 h8 hl q35 q40 q41 hB hjn hn @dq ih1 ?_;subst hL;have hop:cM (bt b.data.toList i) o=o:=by unfold cM; simp only [c40,c41,if_false]
      rw [hop] at ih2;exact ih2 om om s _ (aX h0) (aX h1) aQ (aX h7) (aX hbr)
     | false=>
      cases q10:bt b.data.toList i == 10 with
      | true=>
       have hbr:ce (bt b.data.toList i)=true:=by unfold ce; rw [hB,q10]; rfl
       refine ad fun L hL=>?_;refine ya @dy.eq_1 h0 h6 h7 h8 hl q35 q40 q41 hB q10 hjn hn @dq ih1 tv ?_;subst hL;have hop:cM (bt b.data.toList i) o=o:=by unfold cM; simp only [c40,c41,if_false]
       rw [hop] at ih2;exact ih2 om om s _ (aX h0) (aX h1) aQ (aX h7) (aX hbr)
      | false=>
       have hbr:ce (bt b.data.toList i)=di (bt b.data.toList i):=by unfold ce; rw [hB,q10]; rfl
       refine ad fun L hL=>?_;refine ya @dy.eq_1 h0 h6 h7 h8 hl q35 q40 q41 hB q10 hjn hn @dq @eL ih1 ?_;subst hL;have hop:cM (bt b.data.toList i) o=o:=by unfold cM; simp only [c40,c41,if_false]
       rw [hop] at ih2;exact ih2 om om s _ (aX h0) (aX h1) aQ (aX h7) (aX hbr)
 exact key hg
end
section
variable (hb:b.data.toList.length < 4611686018427387904)
include hb
theorem No {a r e:Nat} (hl:a < b.data.toList.length) (ih:RC ext b (.bq (a + 1) a) r e) (s:PS):Pc ext 319 [.sc (.string b),iN a] (.tup [iN r,iN e]) s:=by
 refine dj (fn:=Lj) (r:=4) (r2:=5) (by rfl) (by simp [Lj]) (by rfl) (by rfl) ?_;unfold Lj;refine yZ ?_;exact ih _ _ aQ aQ aQ
theorem Je {a r e:Nat} (hl:a < b.data.toList.length) (ih:RC ext b (.dbl (a + 1) a) r e) (s:PS):Pc ext 322 [.sc (.string b),iN a] (.tup [iN r,iN e]) s:=by
 refine dj (fn:=Lb) (r:=4) (r2:=5) (by rfl) (by simp [Lb]) (by rfl) (by rfl) ?_;unfold Lb;refine yZ ?_;exact ih _ _ aQ aQ aQ
theorem Ia {a p r e:Nat} (hl:a < b.data.toList.length) (ih:RC ext b (.brc (a + 2) a p) r e) (s:PS):Pc ext 328 [.sc (.string b),iN a,iN p] (.tup [iN r,iN e]) s:=by
 refine dj (fn:=MC) (r:=6) (r2:=7) (by rfl) (by simp [MC]) (by rfl) (by rfl) ?_;unfold MC;refine yZ ?_;exact ih _ _ aQ aQ aQ aQ
theorem Ki {a r e:Nat} (hl:a < b.data.toList.length) (ih:RC ext b (.ari (a + 3) a 0) r e) (s:PS):Pc ext 329 [.sc (.string b),iN a] (.tup [iN r,iN e]) s:=by
 refine dj (fn:=NP) (r:=4) (r2:=5) (by rfl) (by simp [NP]) (by rfl) (by rfl) ?_;unfold NP;refine yZ ?_;exact ih om _ _ (by simp -implicitDefEqProofs (disch:=omega) only [ZA,↓reduceIte,reduceCtorEq]) (by simp -implicitDefEqProofs (disch:=omega) only [ZA,Nat.reduceEqDiff,↓reduceIte]) (by simp -implicitDefEqProofs (disch:=omega) only [ZA,Nat.reduceEqDiff,↓reduceIte]) (by simp -implicitDefEqProofs (disch:=omega) only [ZA,↓reduceIte]; rfl)
theorem JM {a r e:Nat} (hl:a < b.data.toList.length) (ih:RC ext b (.cmd (a + 2) a 1 true) r e) (s:PS):Pc ext 330 [.sc (.string b),iN a] (.tup [iN r,iN e]) s:=by
 refine dj (fn:=Od) (r:=4) (r2:=5) (by rfl) (by simp [Od]) (by rfl) (by rfl) ?_;unfold Od;refine yZ ?_;exact ih om om _ _ (by simp -implicitDefEqProofs (disch:=omega) only [ZA,↓reduceIte,reduceCtorEq]) (by simp -implicitDefEqProofs (disch:=omega) only [ZA,Nat.reduceEqDiff,↓reduceIte]) (by simp -implicitDefEqProofs (disch:=omega) only [ZA,Nat.reduceEqDiff,↓reduceIte]) (by simp -implicitDefEqProofs (disch:=omega) only [ZA,Nat.reduceEqDiff,↓reduceIte]; rfl) (by simp -implicitDefEqProofs (disch:=omega) only [ZA,↓reduceIte])
theorem NJ (s:PS) {a r e:Nat} : ∀(k i:Nat) (f:aR),i + k=b.data.toList.length→(cB b.data.toList 39 i < b.data.toList.length→r=cB b.data.toList 39 i + 1∧e=0)→(cB b.data.toList 39 i=b.data.toList.length→r=a∧e=7)→f 0=.sc (.string b)→f 1=iN a→f 6=iN i→Er (fun f' s'=>s'=s∧f' 4=iN r∧f' 5=iN e) (LP Tryz.prog Γ ext 0 sF D6 f s):=by
 intro k
 induction k with
 | zero=>
  intro i f hk g1 g2 h0 h1 h6;have e1:decide (i < b.data.toList.length)=false:=df;obtain⟨rfl,rfl⟩:=g2 (by unfold cB; rw [yA om]; omega);refine ad fun L hL=>?_;simp -implicitDefEqProofs (disch:=omega) only [ZA,Nat.reduceEqDiff,↓reduceIte,reduceCtorEq,aY,bM,bY,sF,D6,h0,h1,h6,e1];rfl
 | succ k ih=>
  intro i f hk g1 g2 h0 h1 h6;have hl:i < b.data.toList.length:=om;have e1:decide (i < b.data.toList.length)=true:=dt;cases q39:bt b.data.toList i == 39 with
  | true=>
   have ht:cB b.data.toList 39 i=i:=yX (q:=fun x=>x != 39) hl (by show (!(bt b.data.toList i == 39))=false; rw [q39]; rfl);obtain⟨rfl,rfl⟩:=g1 om;rw [ht];refine ad fun L hL=>?_;simp -implicitDefEqProofs (disch:=omega) only [ZA,Nat.reduceEqDiff,↓reduceIte,reduceCtorEq,aY,bM,bY,sF,h0,h6,hl,q39];rfl
  | false=>
   have ht:cB b.data.toList 39 i=cB b.data.toList 39 (i + 1):=wc (q:=fun x=>x != 39) hl (by show (!(bt b.data.toList i == 39))=true; rw [q39]; rfl);rw [ht] at g1 g2;refine ad fun L hL=>?_;refine wP @sF.eq_1 h0 h6 hl q39 ?_;subst hL;exact ih (i + 1) _ om g1 g2 (aX h0) (aX h1) aQ
theorem Fl {a r e:Nat} (hl:a < b.data.toList.length) (g1:cB b.data.toList 39 (a + 1) < b.data.toList.length→r=cB b.data.toList 39 (a + 1) + 1∧e=0) (g2:cB b.data.toList 39 (a + 1)=b.data.toList.length→r=a∧e=7) (s:PS):Pc ext 321 [.sc (.string b),iN a] (.tup [iN r,iN e]) s:=by
 refine dj (fn:=My) (r:=4) (r2:=5) (by rfl) (by simp [My]) (by rfl) (by rfl) ?_;unfold My;refine yZ ?_;exact NJ hb _ (b.data.toList.length - (a + 1)) (a + 1) _ om g1 g2 aQ aQ aQ
theorem NR {a p r e:Nat} (hx:cj b.data.toList a=true) (h:bt b.data.toList (a + 1)=123) (ih:RC ext b (.brc (a + 2) a p) r e):RC ext b (.exp a p) r e:=by
 intro s;have hl1:=bS hx;have hl:a < b.data.toList.length:=om;have q123:(bt b.data.toList (a + 1) == 123)=true:=by rw [h]; rfl
 have q40:(bt b.data.toList (a + 1) == 40)=false:=by rw [h]; rfl
 have hc:=Ia (ext:=ext) hb hl ih;refine dj (fn:=pI) (r:=6) (r2:=7) (by rfl) (by simp [pI]) (by rfl) (by rfl) ?_;unfold pI;exact nI hl1 q123 q40 hc
theorem MM {a p r e:Nat} (hx:cj b.data.toList a=true) (h:bt b.data.toList (a + 1)=40) (h2:a + 2 < b.data.toList.length) (h3:bt b.data.toList (a + 2)=40) (ih:RC ext b (.ari (a + 3) a 0) r e):RC ext b (.exp a p) r e:=by
 intro s;have hl1:=bS hx;have hl:a < b.data.toList.length:=om;have q123:(bt b.data.toList (a + 1) == 123)=false:=by rw [h]; rfl
 have q40:(bt b.data.toList (a + 1) == 40)=true:=by rw [h]; rfl
 have e2:decide (a + 2 < b.data.toList.length)=true:=decide_eq_true h2;have q2:(bt b.data.toList (a + 2) == 40)=true:=by rw [h3]; rfl
 have hc:=Ki (ext:=ext) hb hl ih;refine dj (fn:=pI) (r:=6) (r2:=7) (by rfl) (by simp [pI]) (by rfl) (by rfl) ?_;unfold pI;exact jK hl1 h2 q2 q123 q40 hc
theorem Mk {a p r e:Nat} (hx:cj b.data.toList a=true) (h:bt b.data.toList (a + 1)=40) (h2:a + 2 < b.data.toList.length→bt b.data.toList (a + 2)≠40) (ih:RC ext b (.cmd (a + 2) a 1 true) r e):RC ext b (.exp a p) r e:=by
 intro s;have hl1:=bS hx;have hl:a < b.data.toList.length:=om;have q123:(bt b.data.toList (a + 1) == 123)=false:=by rw [h]; rfl
 have q40:(bt b.data.toList (a + 1) == 40)=true:=by rw [h]; rfl
 have hc:=JM (ext:=ext) hb hl ih;refine dj (fn:=pI) (r:=6) (r2:=7) (by rfl) (by simp [pI]) (by rfl) (by rfl) ?_;unfold pI;cases e2:decide (a + 2 < b.data.toList.length) with
 | true=>
  have hl2:=of_decide_eq_true e2;have q2:(bt b.data.toList (a + 2) == 40)=false:=beq_eq_false_iff_ne.2 (h2 hl2);exact jK hl1 hl2 q2 q123 q40 hc
 | false=>exact tg hl1 e2 q123 q40 hc
theorem Qo {a p:Nat} (hx:cj b.data.toList a=true) (h:cm (bt b.data.toList (a + 1))=true):RC ext b (.exp a p) (a + 2) 0:=by
 intro s;have hl1:=bS hx;have hl:a < b.data.toList.length:=om;have n123:bt b.data.toList (a + 1)≠123:=fun hh=>by rw [hh] at h; cases h
 have n40:bt b.data.toList (a + 1)≠40:=fun hh=>by rw [hh] at h; cases h
 have q123:(bt b.data.toList (a + 1) == 123)=false:=beq_eq_false_iff_ne.2 n123;have q40:(bt b.data.toList (a + 1) == 40)=false:=beq_eq_false_iff_ne.2 n40;refine dj (fn:=pI) (r:=6) (r2:=7) (by rfl) (by simp [pI]) (by rfl) (by rfl) ?_;unfold pI;simp -implicitDefEqProofs (disch:=omega) only [ZA,Nat.reduceAdd,Nat.reduceEqDiff,↓reduceIte,reduceCtorEq,aY,bM,bY,dH,hl1,q123,q40,gk,h];rfl
theorem Ra {a p:Nat} (hx:cj b.data.toList a=true) (h:bt b.data.toList (a + 1)≠123) (h2:bt b.data.toList (a + 1)≠40) (h3:cm (bt b.data.toList (a + 1))=false):RC ext b (.exp a p) (dY b.data.toList (a + 1)) 0:=by
 intro s;have hl1:=bS hx;have hl:a < b.data.toList.length:=om;have q123:(bt b.data.toList (a + 1) == 123)=false:=beq_eq_false_iff_ne.2 h;have q40:(bt b.data.toList (a + 1) == 40)=false:=beq_eq_false_iff_ne.2 h2;have hn:=fun s=>uD (ext:=ext) hb (i:=a + 1) om s;refine dj (fn:=pI) (r:=6) (r2:=7) (by rfl) (by simp [pI]) (by rfl) (by rfl) ?_;unfold pI;simp -implicitDefEqProofs (disch:=omega) only [ZA,Nat.reduceAdd,Nat.reduceEqDiff,↓reduceIte,reduceCtorEq,aY,bM,bY,dH,hl1,q123,q40,gk,h3,hn];rfl
theorem JH {a p:Nat} (h:bt b.data.toList a=92) (h2:a + 1=b.data.toList.length):RC ext b (.pass a p) a 7:=by
 intro s;have hl:a < b.data.toList.length:=om;have q92:(bt b.data.toList (a) == 92)=true:=by rw [h]; rfl
 have e2:(a + 1 == b.data.toList.length)=true:=by rw [h2]; exact beq_self_eq_true _
 refine dj (fn:=jN) (r:=6) (r2:=7) (by rfl) (by simp [jN]) (by rfl) (by rfl) ?_;unfold jN;simp -implicitDefEqProofs (disch:=omega) only [ZA,Nat.reduceAdd,Nat.reduceEqDiff,↓reduceIte,reduceCtorEq,aY,bM,bY,dH,hl,e2,q92];rfl
theorem Ly {a p:Nat} (h:bt b.data.toList a=92) (h2:a + 1 < b.data.toList.length):RC ext b (.pass a p) (a + 2) 0:=by
 intro s;have hl:a < b.data.toList.length:=om;have q92:(bt b.data.toList (a) == 92)=true:=by rw [h]; rfl
 have e2:(a + 1 == b.data.toList.length)=false:=bf;refine dj (fn:=jN) (r:=6) (r2:=7) (by rfl) (by simp [jN]) (by rfl) (by rfl) ?_;unfold jN;simp -implicitDefEqProofs (disch:=omega) only [ZA,Nat.reduceAdd,Nat.reduceEqDiff,↓reduceIte,reduceCtorEq,aY,bM,bY,dH,hl,e2,q92];rfl
theorem Pr {a p r e:Nat} (hl:a < b.data.toList.length) (h:bt b.data.toList a=96) (ih:RC ext b (.bq (a + 1) a) r e):RC ext b (.pass a p) r e:=by
 intro s;have q92:(bt b.data.toList (a) == 92)=false:=by rw [h]; rfl
 have q96:(bt b.data.toList (a) == 96)=true:=by rw [h]; rfl
 have hc:=No (ext:=ext) hb hl ih;refine dj (fn:=jN) (r:=6) (r2:=7) (by rfl) (by simp [jN]) (by rfl) (by rfl) ?_;unfold jN;exact nI hl q92 q96 hc
theorem MG {a p r e:Nat} (h:cj b.data.toList a=true) (ih:RC ext b (.exp a p) r e):RC ext b (.pass a p) r e:=by
 intro s;have hl1:=bS h;have hl:a < b.data.toList.length:=om;have q92:(bt b.data.toList (a) == 92)=false:=by rw [(zG h)]; rfl
 have q96:(bt b.data.toList (a) == 96)=false:=by rw [(zG h)]; rfl
 have hx0:=fun s=>da (ext:=ext) hb (i:=a) om s;have ih1:∀s,_:=ih;refine dj (fn:=jN) (r:=6) (r2:=7) (by rfl) (by simp [jN]) (by rfl) (by rfl) ?_;unfold jN;exact jK hl q92 q96 hx0 h ih1
theorem RQ {a:Nat} (hl:a < b.data.toList.length) (h:bt b.data.toList a=39) (h2:cB b.data.toList 39 (a + 1) < b.data.toList.length):RC ext b (.pass a 0) (cB b.data.toList 39 (a + 1) + 1) 0:=by
 intro s;have q92:(bt b.data.toList (a) == 92)=false:=by rw [h]; rfl
 have q96:(bt b.data.toList (a) == 96)=false:=by rw [h]; rfl
 have q39:(bt b.data.toList (a) == 39)=true:=by rw [h]; rfl
 have hx0:=fun s=>da (ext:=ext) hb (i:=a) om s;have nx:cj b.data.toList a=false:=by unfold cj; rw [h]; simp
 have hc:=Fl (ext:=ext) hb hl (fun _=>⟨rfl,rfl⟩) (fun hh=>absurd hh om);refine dj (fn:=jN) (r:=6) (r2:=7) (by rfl) (by simp [jN]) (by rfl) (by rfl) ?_;unfold jN;exact tD hl q92 q96 q39 hx0 nx hc
theorem Ln {a:Nat} (hl:a < b.data.toList.length) (h:bt b.data.toList a=39) (h2:cB b.data.toList 39 (a + 1)=b.data.toList.length):RC ext b (.pass a 0) a 7:=by
 intro s;have q92:(bt b.data.toList (a) == 92)=false:=by rw [h]; rfl
 have q96:(bt b.data.toList (a) == 96)=false:=by rw [h]; rfl
 have q39:(bt b.data.toList (a) == 39)=true:=by rw [h]; rfl
 have hx0:=fun s=>da (ext:=ext) hb (i:=a) om s;have nx:cj b.data.toList a=false:=by unfold cj; rw [h]; simp
 have hc:=Fl (ext:=ext) hb hl (fun hh=>absurd h2 om) (fun _=>⟨rfl,rfl⟩);refine dj (fn:=jN) (r:=6) (r2:=7) (by rfl) (by simp [jN]) (by rfl) (by rfl) ?_;unfold jN;exact tD hl q92 q96 q39 hx0 nx hc
theorem Rk {a r e:Nat} (hl:a < b.data.toList.length) (h:bt b.data.toList a=34) (ih:RC ext b (.dbl (a + 1) a) r e):RC ext b (.pass a 0) r e:=by
 intro s;have q92:(bt b.data.toList (a) == 92)=false:=by rw [h]; rfl
 have q96:(bt b.data.toList (a) == 96)=false:=by rw [h]; rfl
 have q39:(bt b.data.toList (a) == 39)=false:=by rw [h]; rfl
 have q34:(bt b.data.toList (a) == 34)=true:=by rw [h]; rfl
 have hx0:=fun s=>da (ext:=ext) hb (i:=a) om s;have nx:cj b.data.toList a=false:=by unfold cj; rw [h]; simp
 have hc:=Je (ext:=ext) hb hl ih;refine dj (fn:=jN) (r:=6) (r2:=7) (by rfl) (by simp [jN]) (by rfl) (by rfl) ?_;unfold jN;exact vY hl q92 q96 q39 q34 hx0 nx hc
theorem Mg {a p:Nat} (hl:a < b.data.toList.length) (h1:bt b.data.toList a≠92) (h2:bt b.data.toList a≠96) (nx:cj b.data.toList a=false) (h4:p=0→bt b.data.toList a≠39∧bt b.data.toList a≠34):RC ext b (.pass a p) (a + 1) 0:=by
 intro s;have q92:(bt b.data.toList a == 92)=false:=beq_eq_false_iff_ne.2 h1;have q96:(bt b.data.toList a == 96)=false:=beq_eq_false_iff_ne.2 h2;have hx0:=fun s=>da (ext:=ext) hb (i:=a) om s;refine dj (fn:=jN) (r:=6) (r2:=7) (by rfl) (by simp [jN]) (by rfl) (by rfl) ?_;unfold jN;cases qp:p == 0 with
 | true=>
  have h5:=h4 (eq_of_beq qp);have q39:(bt b.data.toList a == 39)=false:=beq_eq_false_iff_ne.2 h5.1;have q34:(bt b.data.toList a == 34)=false:=beq_eq_false_iff_ne.2 h5.2;simp -implicitDefEqProofs (disch:=omega) only [ZA,Nat.reduceAdd,Nat.reduceEqDiff,↓reduceIte,reduceCtorEq,aY,bM,bY,dH,hl,q92,q96,hx0,nx,q39,q34];rfl
 | false=>
  cases q39:bt b.data.toList a == 39 with
  | true=>
   have q34:(bt b.data.toList a == 34)=false:=by rw [eq_of_beq q39]; rfl
   simp -implicitDefEqProofs (disch:=omega) only [ZA,Nat.reduceAdd,Nat.reduceEqDiff,↓reduceIte,reduceCtorEq,aY,bM,bY,dH,hl,q92,q96,hx0,nx,qp,q39,q34];rfl
  | false=>
   cases q34:bt b.data.toList a == 34 with
   | true=>
    simp -implicitDefEqProofs (disch:=omega) only [ZA,Nat.reduceAdd,Nat.reduceEqDiff,↓reduceIte,reduceCtorEq,aY,bM,bY,dH,hl,q92,q96,hx0,nx,qp,q39,q34];rfl
   | false=>
    simp -implicitDefEqProofs (disch:=omega) only [ZA,Nat.reduceAdd,Nat.reduceEqDiff,↓reduceIte,reduceCtorEq,aY,bM,bY,dH,hl,q92,q96,hx0,nx,q39,q34];rfl
theorem qj {t:fX}{r e:Nat} (h:Lx b.data.toList t r e):t.ok b.data.toList→RC ext b t r e:=by
 induction h with
 | p_esc0 h h2=>intro ok; exact JH hb h h2
 | p_esc h h2=>intro ok; exact Ly hb h h2
 | p_bq hl h k ih=>intro ok; exact Pr hb hl h (ih ⟨om,hl⟩)
 | p_exp h k ih=>intro ok; exact MG hb h (ih h)
 | p_sq hl h h2=>intro ok; exact RQ hb hl h h2
 | p_sq0 hl h h2=>intro ok; exact Ln hb hl h h2
 | p_dq hl h k ih=>intro ok; exact Rk hb hl h (ih ⟨om,hl⟩)
 | p_one hl h1 h2 h3 h4=>intro ok; exact Mg hb hl h1 h2 h3 h4
 | e_brc h k ih=>intro ok; have hl:=bS ok; exact NR hb ok h (ih ⟨om,om⟩)
 | e_ari h h2 h3 k ih=>intro ok; have hl:=bS ok; exact MM hb ok h h2 h3 (ih ⟨om,om⟩)
 | e_cmd h h2 k ih=>intro ok; have hl:=bS ok; exact Mk hb ok h h2 (ih ⟨om,om⟩)
 | e_sp h=>intro ok; exact Qo hb ok h
 | e_nm h h2 h3=>intro ok; exact Ra hb ok h h2 h3
 | b_end=>intro ok; exact Mr hb
 | b_q hl h=>intro ok; exact TI hb hl h
 | b_esc0 h h2=>intro ok; exact J9 hb h h2
 | b_esc h h2 k ih=>intro ok; exact NF hb h h2 (ih ⟨om,ok.2⟩)
 | b_one hl h h2 k ih=>intro ok; exact MU hb hl h h2 (ih ⟨om,ok.2⟩)
 | d_end=>intro ok; exact Nn hb
 | d_q hl h=>intro ok; exact Ui hb hl h
 | d_err hl h k he ih=>intro ok; exact Lq hb hl h (ih hl) he
 | d_on hl h k k2 ih ih2=>intro ok; exact Rv hb hl h (ih hl) (ih2 ⟨(k.bound hl).1,ok.2⟩)
 | r_end=>intro ok; exact Mo hb
 | r_q hl h=>intro ok; exact TJ hb hl h
 | r_bad hl h=>intro ok; exact Ny hb hl h
 | r_err hl h h2 k he ih=>intro ok; exact LG hb hl h h2 (ih hl) he
 | r_on hl h h2 k k2 ih ih2=>intro ok; exact Pl hb hl h h2 (ih hl) (ih2 ⟨(k.bound hl).1,ok.2⟩)
 | c_end=>intro ok; exact Ou hb
 | @c_cmt i a o r e hl h k ih=>intro ok; exact Mx hb hl h (ih ⟨jH (q:=fun x=>x != 10) (l:=b.data.toList) (i:=i) om,ok.2⟩)
 | c_join h k ih=>intro ok; have hl:=gm h; exact HJ hb h (ih ⟨om,ok.2⟩)
 | c_q hl h=>intro ok; exact Uj hb hl h
 | c_err hl h h2 h3 k he ih=>intro ok; exact NS hb hl h h2 h3 (ih hl) he
 | c_on hl h h2 h3 k k2 ih ih2=>intro ok; exact P9 hb hl h h2 h3 ((k.bound hl).2 rfl) (ih hl) (ih2 ⟨(k.bound hl).1,ok.2⟩)
 | a_end=>intro ok; exact NX hb
 | a_q0 h h2=>intro ok; exact Qd hb h h2
 | a_q h h2 h3=>intro ok; exact Tk hb h h2 h3
 | a_bad h h2 h3=>intro ok; exact KL hb h h2 h3
 | a_err hl h k he ih=>intro ok; exact LE hb hl h (ih hl) he
 | a_on hl h k k2 ih ih2=>intro ok; exact Qg hb hl h ((k.bound hl).2 rfl) (ih hl) (ih2 ⟨(k.bound hl).1,ok.2⟩)
end
end Go.Proofs.YtgkggocjoolciaaGreatDoor
namespace Go.Mir
inductive aJ where
 | mk (kind:Int) (text:List UInt8) (op:Int) (colon:Bool) (parts:List aJ)
def aJ.kind:aJ→Int | .mk k _ _ _ _=>k
def aJ.text:aJ→List UInt8 | .mk _ t _ _ _=>t
def aJ.op:aJ→Int | .mk _ _ o _ _=>o
def aJ.colon:aJ→Bool | .mk _ _ _ c _=>c
def aJ.parts:aJ→List aJ | .mk _ _ _ _ p=>p
def fK (t:List UInt8):aJ:=.mk 1 t 0 false []
def uf (t:List UInt8):aJ:=.mk 2 t 0 false []
def H6 (t:List UInt8):aJ:=.mk 5 t 0 false []
def qd:aJ:=.mk 7 [] 0 false []
def se (t:List UInt8):aJ:=.mk 4 t 0 false []
def cN (p:Nat):Bool:=p == 0 || p == 1
def rQ (p:Nat):Nat:=if p=0∨p=1 then 0 else if p=2∨p=3 then 1 else 2
def dV (p:Nat):Nat:=if p=0∨p=1 then 1 else if p=2∨p=3 then 3 else 6
def sub (l:List UInt8) (a b:Nat):List UInt8:=(l.drop a).take (b - a)
def lK (l:List aJ) (t:List UInt8):List aJ:=match l.getLast? with
 | some p=>if p.kind=1 then l.dropLast ++ [fK (p.text ++ t)] else l ++ [fK t]
 | none=>[fK t]
def mF (l:List aJ) (p:aJ):List aJ:=if p.kind=1 then lK l p.text else l ++ [p]
inductive mM (l:List UInt8):Nat→Nat→Prop where
 | stop {i} (h:cH l i=false):mM l i i
 | step {i j} (h:cH l i=true) (k:mM l (i + 2) j):mM l i j
inductive lB (l:List UInt8) (a p:Nat):Bool→Prop where
 | no (h:(cN p && bt l a == 126)=false):lB l a p false
 | yes {j} (h:cN p=true) (h2:bt l a=126) (k:mM l (a + 1) j):lB l a p (decide (l.length≤j) || bt l j == 47 || (p == 1 && bt l j == 125))
def fg (c p o:Nat):Bool:=((p == 1 || p == 3 || p == 6) && c == 125) || (p == 2 && c == 34) || (p == 4 && c == 41 && o == 0)
def bX (c p:Nat):Bool:=(c == 36 || c == 96 || c == 92) || (c == 34 && (p == 2 || p == 3)) || (c == 125 && (p == 3 || p == 6))
def wrap (t:List UInt8):List UInt8:=36 :: 40 :: (t ++ [41])
inductive Closed (t:List UInt8):Bool→Prop where
 | mk {r e} (k:Lx (wrap t) (.pass 0 0) r e):Closed t (e == 0 && r == t.length + 3 && (t.isEmpty || t.head? != some 40))
def pL:List UInt8→List UInt8
 | []=>[]
 | [c]=>[c]
 | c :: d :: l=>if c=92∧(d=96∨d=92∨d=36) then d :: pL l else c :: pL (d :: l)
def fm (t:List UInt8):List UInt8:=if t.head?=some 40 then 32 :: t else t
inductive wM (l:List UInt8):Nat→Nat→Nat→Prop where
 | stop {v i} (h:l.length≤i∨bD (bt l i)=false∨2147483647 < 10 * v + (bt l i - 48)):wM l v i i
 | step {v i j} (h:i < l.length) (h2:bD (bt l i)=true) (h3 : 10 * v + (bt l i - 48)≤2147483647) (k:wM l (10 * v + (bt l i - 48)) (i + 1) j):wM l v i j
inductive gW (l:List UInt8):Nat→Nat→Prop where
 | none0 {i} (h:l.length≤i):gW l i i
 | zero {i} (hl:i < l.length) (h:bt l i=48):gW l i (i + 1)
 | num {i j} (hl:i < l.length) (h:bD (bt l i)=true) (h2:bt l i≠48) (k:wM l 0 i j):gW l i j
 | name {i} (hl:i < l.length) (h:bD (bt l i)=false) (h2:eo (bt l i)=true):gW l i (dY l i)
 | spec {i} (hl:i < l.length) (h:bD (bt l i)=false) (h2:cm (bt l i)=true):gW l i (i + 1)
 | none {i} (hl:i < l.length) (h:eo (bt l i)=false) (h2:cm (bt l i)=false):gW l i i
def Bc (l:List UInt8) (a:Nat):Int × Bool × Nat:=
 if decide (l.length≤a + 1) then (0,false,0) else
 if bt l (a + 1) == 45 then (1,true,a + 1 - a + 1) else
 if bt l (a + 1) == 61 then (2,true,a + 1 - a + 1) else
 if bt l (a + 1) == 63 then (3,true,a + 1 - a + 1) else
 if bt l (a + 1) == 43 then (4,true,a + 1 - a + 1) else (0,false,0)
def sk (l:List UInt8) (a:Nat):Int × Bool × Nat:=
 if bt l a == 45 then (1,false,a - a + 1) else
 if bt l a == 61 then (2,false,a - a + 1) else
 if bt l a == 63 then (3,false,a - a + 1) else
 if bt l a == 43 then (4,false,a - a + 1) else
 if bt l a == 37 && (decide (a + 1 < l.length) && bt l (a + 1) == 37) then (7,false,2) else
 if bt l a == 37 then (6,false,1) else
 if bt l a == 35 && (decide (a + 1 < l.length) && bt l (a + 1) == 35) then (9,false,2) else
 if bt l a == 35 then (8,false,1) else (0,false,0)
def lj (l:List UInt8) (a:Nat):Int × Bool × Nat:=if bt l a == 58 then Bc l a else sk l a
def j9 (o:Int):List UInt8:=
 if o == 1 then [45] else if o == 2 then [61] else if o == 3 then [63] else if o == 4 then [43] else
 if o == 6 then [37] else if o == 7 then [37,37] else if o == 8 then [35] else if o == 9 then [35,35] else []
def er (l:List UInt8):Nat:=l.foldl (fun v c=>10 * v + (c.toNat - 48)) 0
def vH (l:List UInt8):Bool:=decide (l.length≤10) && !(bt l 0 == 48 && decide (1 < l.length)) && decide (er l≤2147483647)
abbrev R:=Except (Nat × Nat) (List aJ × Nat)
inductive dS where
 | loop (a p lv fr o:Nat) (acc:List aJ)
 | part (a p lv:Nat)
 | brc (a p lv:Nat)
 | brc2 (a p lv:Nat)
inductive Wx (l:List UInt8):dS→R→Prop where
 | l_end {p lv fr o acc} (h:p=0∨p=5):Wx l (.loop l.length p lv fr o acc) (.ok (acc,l.length))
 | l_open {p lv fr o acc} (h:p≠0) (h2:p≠5):Wx l (.loop l.length p lv fr o acc) (.error (fr,7))
 | l_q {a p lv fr o acc} (hl:a < l.length) (h:fg (bt l a) p o=true) (h2:p≠4):Wx l (.loop a p lv fr o acc) (.ok (acc,a))
 | l_a0 {a lv fr o acc} (h:fg (bt l a) 4 o=true) (h2:a + 1=l.length):Wx l (.loop a 4 lv fr o acc) (.error (fr,7))
 | l_a {a lv fr o acc} (h:fg (bt l a) 4 o=true) (h2:a + 1 < l.length) (h3:bt l (a + 1)=41):Wx l (.loop a 4 lv fr o acc) (.ok (acc,a))
 | l_a1 {a lv fr o acc} (h:fg (bt l a) 4 o=true) (h2:a + 1 < l.length) (h3:bt l (a + 1)≠41):Wx l (.loop a 4 lv fr o acc) (.error (a,6))
 | l_tilde {a p lv fr o r} (hl:a < l.length) (h:fg (bt l a) p o=false) (h2:lB l a p true) (k:Wx l (.loop (a + 1) p lv fr o [qd]) r):Wx l (.loop a p lv fr o []) r
 | l_err {a p lv fr o acc x} (hl:a < l.length) (h:fg (bt l a) p o=false) (h2:acc=[]→lB l a p false) (k:Wx l (.part a p lv) (.error x)):Wx l (.loop a p lv fr o acc) (.error x)
 | l_on {a p lv fr o acc ps j r} (hl:a < l.length) (h:fg (bt l a) p o=false) (h2:acc=[]→lB l a p false) (k:Wx l (.part a p lv) (.ok (ps,j))) (k2:Wx l (.loop j p lv fr (if p=4 then cM (bt l a) o else o) (ps.foldl mF acc)) r):Wx l (.loop a p lv fr o acc) r
 | s_end5 {a lv} (h:bt l a=92) (h2:a + 1=l.length):Wx l (.part a 5 lv) (.ok ([fK [92]],a + 1))
 | s_end {a p lv} (h:bt l a=92) (h2:a + 1=l.length) (h3:p≠5):Wx l (.part a p lv) (.error (a,7))
 | s_nl {a p lv} (h:bt l a=92) (h2:a + 1 < l.length) (h3:bt l (a + 1)=10):Wx l (.part a p lv) (.ok ([],a + 2))
 | s_out {a p lv} (h:bt l a=92) (h2:a + 1 < l.length) (h3:bt l (a + 1)≠10) (h4:cN p=true):Wx l (.part a p lv) (.ok ([uf (sub l (a + 1) (a + 2))],a + 2))
 | s_esc {a p lv} (h:bt l a=92) (h2:a + 1 < l.length) (h3:bt l (a + 1)≠10) (h4:cN p=false) (h5:bX (bt l (a + 1)) p=true):Wx l (.part a p lv) (.ok ([fK (sub l (a + 1) (a + 2))],a + 2))
 | s_par {a lv} (h:bt l a=92) (h2:a + 1 < l.length) (h3:bt l (a + 1)=40∨bt l (a + 1)=41):Wx l (.part a 4 lv) (.error (a,6))
 | s_two {a p lv} (h:bt l a=92) (h2:a + 1 < l.length) (h3:bt l (a + 1)≠10) (h4:cN p=false) (h5:bX (bt l (a + 1)) p=false) (h6:p=4→bt l (a + 1)≠40∧bt l (a + 1)≠41):Wx l (.part a p lv) (.ok ([fK (sub l a (a + 2))],a + 2))
 | q_err {a p lv r e} (hl:a < l.length) (h:bt l a=96) (k:Lx l (.bq (a + 1) a) r e) (he:e≠0):Wx l (.part a p lv) (.error (r,e))
 | q_ok {a p lv r} (hl:a < l.length) (h:bt l a=96) (k:Lx l (.bq (a + 1) a) r 0) (c:Closed (fm (pL (sub l (a + 1) (r - 1)))) true):Wx l (.part a p lv) (.ok ([H6 (fm (pL (sub l (a + 1) (r - 1))))],r))
 | q_nl {a p lv r} (hl:a < l.length) (h:bt l a=96) (k:Lx l (.bq (a + 1) a) r 0) (c:Closed (fm (pL (sub l (a + 1) (r - 1)))) false) (c2:Closed (fm (pL (sub l (a + 1) (r - 1))) ++ [10]) true):Wx l (.part a p lv) (.ok ([H6 (fm (pL (sub l (a + 1) (r - 1))) ++ [10])],r))
 | q_no {a p lv r} (hl:a < l.length) (h:bt l a=96) (k:Lx l (.bq (a + 1) a) r 0) (c:Closed (fm (pL (sub l (a + 1) (r - 1)))) false) (c2:Closed (fm (pL (sub l (a + 1) (r - 1))) ++ [10]) false):Wx l (.part a p lv) (.error (a,6))
 | x_brc {a p lv r} (h:cj l a=true) (h2:bt l (a + 1)=123) (k:Wx l (.brc a p lv) r):Wx l (.part a p lv) r
 | x_deep {a p lv} (h:cj l a=true) (h2:bt l (a + 1)=40) (hl:a + 2 < l.length) (h3:bt l (a + 2)=40) (h4 : 32≤lv):Wx l (.part a p lv) (.error (a,5))
 | x_ari {a p lv ps j} (h:cj l a=true) (h2:bt l (a + 1)=40) (hl:a + 2 < l.length) (h3:bt l (a + 2)=40) (h4:lv < 32) (k:Wx l (.loop (a + 3) 4 (lv + 1) a 0 []) (.ok (ps,j))):Wx l (.part a p lv) (.ok ([.mk 6 [] 0 false ps],j + 2))
 | x_ari0 {a p lv x} (h:cj l a=true) (h2:bt l (a + 1)=40) (hl:a + 2 < l.length) (h3:bt l (a + 2)=40) (h4:lv < 32) (k:Wx l (.loop (a + 3) 4 (lv + 1) a 0 []) (.error x)):Wx l (.part a p lv) (.error x)
 | x_cmd {a p lv r} (h:cj l a=true) (h2:bt l (a + 1)=40) (h3:a + 2 < l.length→bt l (a + 2)≠40) (k:Lx l (.cmd (a + 2) a 1 true) r 0):Wx l (.part a p lv) (.ok ([H6 (sub l (a + 2) (r - 1))],r))
 | x_cmd0 {a p lv r e} (h:cj l a=true) (h2:bt l (a + 1)=40) (h3:a + 2 < l.length→bt l (a + 2)≠40) (k:Lx l (.cmd (a + 2) a 1 true) r e) (he:e≠0):Wx l (.part a p lv) (.error (r,e))
 | x_sp {a p lv} (h:cj l a=true) (h2:cm (bt l (a + 1))=true):Wx l (.part a p lv) (.ok ([se (sub l (a + 1) (a + 2))],a + 2))
 | x_long {a p lv} (h:cj l a=true) (h2:cm (bt l (a + 1))=false) (h3:bt l (a + 1)≠123) (h4:bt l (a + 1)≠40) (h5 : 32 < dY l (a + 1) - (a + 1)):Wx l (.part a p lv) (.error (a,3))
 | x_nm {a p lv} (h:cj l a=true) (h2:cm (bt l (a + 1))=false) (h3:bt l (a + 1)≠123) (h4:bt l (a + 1)≠40) (h5:dY l (a + 1) - (a + 1)≤32):Wx l (.part a p lv) (.ok ([se (sub l (a + 1) (dY l (a + 1)))],dY l (a + 1)))
 | x_bad {a p lv} (hl:a < l.length) (h:bt l a=36) (h2:cj l a=false) (h3:cN p=true) (h4:(a + 1 < l.length∧bt l (a + 1)=96)∨cH l (a + 1)=true):Wx l (.part a p lv) (.error (a,6))
 | x_lit {a p lv} (hl:a < l.length) (h:bt l a=36) (h2:cj l a=false) (h3:cN p=true→¬ (a + 1 < l.length∧bt l (a + 1)=96)∧cH l (a + 1)=false):Wx l (.part a p lv) (.ok ([fK [36]],a + 1))
 | t_sq0 {a p lv} (hl:a < l.length) (h:bt l a=39) (h2:cN p=true) (h3:cB l 39 (a + 1)=l.length):Wx l (.part a p lv) (.error (a,7))
 | t_sq {a p lv} (hl:a < l.length) (h:bt l a=39) (h2:cN p=true) (h3:cB l 39 (a + 1) < l.length):Wx l (.part a p lv) (.ok ([uf (sub l (a + 1) (cB l 39 (a + 1)))],cB l 39 (a + 1) + 1))
 | t_deep {a p lv} (hl:a < l.length) (h:bt l a=34) (h2:cN p=true) (h3 : 32≤lv):Wx l (.part a p lv) (.error (a,5))
 | t_dq {a p lv ps j} (hl:a < l.length) (h:bt l a=34) (h2:cN p=true) (h3:lv < 32) (k:Wx l (.loop (a + 1) 2 (lv + 1) a 0 []) (.ok (ps,j))):Wx l (.part a p lv) (.ok ([.mk 3 [] 0 false ps],j + 1))
 | t_dq0 {a p lv x} (hl:a < l.length) (h:bt l a=34) (h2:cN p=true) (h3:lv < 32) (k:Wx l (.loop (a + 1) 2 (lv + 1) a 0 []) (.error x)):Wx l (.part a p lv) (.error x)
 | o_op {a lv} (hl:a < l.length) (h:ce (bt l a)=true):Wx l (.part a 0 lv) (.error (a,6))
 | o_dq {a lv} (hl:a < l.length) (h:bt l a=34):Wx l (.part a 3 lv) (.error (a,6))
 | o_lit {a p lv} (hl:a < l.length) (h1:bt l a≠92) (h2:bt l a≠96) (h3:bt l a≠36) (h4:cN p=true→bt l a≠39∧bt l a≠34) (h5:p=0→ce (bt l a)=false) (h6:p=3→bt l a≠34):Wx l (.part a p lv) (.ok ([fK (sub l a (a + 1))],a + 1))
 | r_long {a p lv j} (hl:a + 2 < l.length) (h:bt l (a + 2)=35) (k:gW l (a + 3) j) (h2 : 32 < j - (a + 3)):Wx l (.brc a p lv) (.error (a + 3,3))
 | r_len {a p lv j} (hl:a + 2 < l.length) (h:bt l (a + 2)=35) (k:gW l (a + 3) j) (h2:j - (a + 3)≤32) (h3:a + 3 < j) (h4:j < l.length) (h5:bt l j=125):Wx l (.brc a p lv) (.ok ([.mk 4 (sub l (a + 3) j) 5 false []],j + 1))
 | r_end {a p lv j} (hl:a + 2 < l.length) (h:bt l (a + 2)=35) (k:gW l (a + 3) j) (h2:j - (a + 3)≤32) (h3:a + 3 < j) (h4:j=l.length):Wx l (.brc a p lv) (.error (a,7))
 | r_sharp {a p lv j r} (hl:a + 2 < l.length) (h:bt l (a + 2)=35) (k:gW l (a + 3) j) (h2:j - (a + 3)≤32) (h3:a + 3 < j→j < l.length∧bt l j≠125) (k2:Wx l (.brc2 a p lv) r):Wx l (.brc a p lv) r
 | r_two {a p lv r} (h:a + 2 < l.length→bt l (a + 2)≠35) (k2:Wx l (.brc2 a p lv) r):Wx l (.brc a p lv) r
 | w_long {a p lv j} (k:gW l (a + 2) j) (h : 32 < j - (a + 2)):Wx l (.brc2 a p lv) (.error (a + 2,3))
 | w_end {a p lv j} (k:gW l (a + 2) j) (h:j - (a + 2)≤32) (h2:j=l.length):Wx l (.brc2 a p lv) (.error (a,7))
 | w_none {a p lv} (k:gW l (a + 2) (a + 2)) (h2:a + 2 < l.length):Wx l (.brc2 a p lv) (.error (a + 2,6))
 | w_plain {a p lv j} (k:gW l (a + 2) j) (h:j - (a + 2)≤32) (h2:j < l.length) (h3:a + 2 < j) (h4:bt l j=125):Wx l (.brc2 a p lv) (.ok ([se (sub l (a + 2) j)],j + 1))
 | w_colon0 {a p lv j} (k:gW l (a + 2) j) (h:j - (a + 2)≤32) (h2:j < l.length) (h3:a + 2 < j) (h4:bt l j≠125) (h5:(lj l j).1=0) (h6:bt l j=58) (h7:j + 1=l.length):Wx l (.brc2 a p lv) (.error (a,7))
 | w_colon {a p lv j} (k:gW l (a + 2) j) (h:j - (a + 2)≤32) (h2:j < l.length) (h3:a + 2 < j) (h4:bt l j≠125) (h5:(lj l j).1=0) (h6:bt l j=58) (h7:j + 1 < l.length):Wx l (.brc2 a p lv) (.error (j + 1,6))
 | w_sharp {a p lv j i} (k:gW l (a + 2) j) (h:j - (a + 2)≤32) (h2:j < l.length) (h3:a + 2 < j) (h4:bt l j≠125) (h5:(lj l j).1=0) (h6:bt l j≠58) (h7:bt l (a + 2)=35) (k2:gW l (a + 3) i):Wx l (.brc2 a p lv) (.error (i,6))
 | w_bad {a p lv j} (k:gW l (a + 2) j) (h:j - (a + 2)≤32) (h2:j < l.length) (h3:a + 2 < j) (h4:bt l j≠125) (h5:(lj l j).1=0) (h6:bt l j≠58) (h7:bt l (a + 2)≠35):Wx l (.brc2 a p lv) (.error (j,6))
 | w_deep {a p lv j} (k:gW l (a + 2) j) (h:j - (a + 2)≤32) (h2:j < l.length) (h3:a + 2 < j) (h4:bt l j≠125) (h5:(lj l j).1≠0) (h6 : 32≤lv):Wx l (.brc2 a p lv) (.error (j,5))
 | w_join {a p lv j} (k:gW l (a + 2) j) (h:j - (a + 2)≤32) (h2:j < l.length) (h3:a + 2 < j) (h4:bt l j≠125) (h5:(lj l j).1≠0) (h6:lv < 32) (h7:cH l (j + (lj l j).2.2)=true):Wx l (.brc2 a p lv) (.error (j + (lj l j).2.2,6))
 | w_err {a p lv j x} (k:gW l (a + 2) j) (h:j - (a + 2)≤32) (h2:j < l.length) (h3:a + 2 < j) (h4:bt l j≠125) (h5:(lj l j).1≠0) (h6:lv < 32) (h7:cH l (j + (lj l j).2.2)=false) (k2:Wx l (.loop (j + (lj l j).2.2) (dV p) (lv + 1) a 0 []) (.error x)):Wx l (.brc2 a p lv) (.error x)
 | w_ok {a p lv j ps i} (k:gW l (a + 2) j) (h:j - (a + 2)≤32) (h2:j < l.length) (h3:a + 2 < j) (h4:bt l j≠125) (h5:(lj l j).1≠0) (h6:lv < 32) (h7:cH l (j + (lj l j).2.2)=false) (k2:Wx l (.loop (j + (lj l j).2.2) (dV p) (lv + 1) a 0 []) (.ok (ps,i))):Wx l (.brc2 a p lv) (.ok ([.mk 4 (sub l (a + 2) j) (lj l j).1 (lj l j).2.1 ps],i + 1))
end Go.Mir
