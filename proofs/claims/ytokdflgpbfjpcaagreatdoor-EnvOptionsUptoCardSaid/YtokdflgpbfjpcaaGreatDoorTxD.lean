/- What functions of the program and of the reference compute, on values. No statement is proved here. -/
import Derived.Test.YtokdflgpbfjpcaaGreatDoorTxC
import Derived.Test.YtokdflgpbfjpcaaGreatDoorTxA
set_option linter.all false
namespace Go.Proofs.YtokdflgpbfjpcaaGreatDoor
open Go Go.EvL Go.PE
variable {ext:ar}
structure au where
 kind:Int
 text:ByteArray
 op:Int
 colon:Bool
 parts:PV
def au.cells (x:au):List PV:=[.sc (.int .i64 x.kind),.sc (.string x.text),.sc (.int .i64 x.op),.sc (.bool x.colon),x.parts]
theorem au.len (x:au):x.cells.length=5:=(rfl)
def au.eqB (x y:au):Bool:=x.kind == y.kind && (x.text.toList == y.text.toList && (x.op == y.op && x.colon == y.colon))
def pH:bj:=(.seq (.draw [(⟨some 19,.mv (.tmp 0),none⟩,[0],[]),
       (⟨some 20,.mv (.tmp 5),none⟩,[5],[0]),
       (⟨some 21,.iaddr 5 (.tmp 19) (.tmp 20),none⟩,[19,20],[]),
       (⟨some 22,.load 155 true 5 (.tmp 21),none⟩,[21],[]),
       (⟨some 23,.mv (.tmp 1),none⟩,[1],[3,2,1,0]),
       (⟨some 24,.mv (.tmp 5),none⟩,[5],[4,3,2,1,0]),
       (⟨some 25,.iaddr 5 (.tmp 23) (.tmp 24),none⟩,[23,24],[3,2,1,0]),
       (⟨some 26,.load 155 true 5 (.tmp 25),none⟩,[25],[3,2,1,0]),
       (⟨some 6,.alloc 155 (.agg #[(.int .i64 0),(.string ⟨#[]⟩),(.int .i64 0),(.bool false),(.slice none 0 0)]),none⟩,[],[7,6,5,4,3,2,1,0]),
       (⟨some 7,.alloc 155 (.agg #[(.int .i64 0),(.string ⟨#[]⟩),(.int .i64 0),(.bool false),(.slice none 0 0)]),none⟩,[],[8,7,6,5,4,3,2,1,0]),
       (⟨none,.store 155 5 (.tmp 6) (.tmp 22),none⟩,[6,22],[7,6,5,4]),
       (⟨none,.store 155 5 (.tmp 7) (.tmp 26),none⟩,[7,26],[])])
     (.seq (.reg [⟨some 27,.faddr 0 (.tmp 6),none⟩,
       ⟨some 28,.load 3 false 1 (.tmp 27),none⟩,
       ⟨some 29,.faddr 0 (.tmp 7),none⟩,
       ⟨some 30,.load 3 false 1 (.tmp 29),none⟩,
       ⟨some 31,.bin .neq 3 (.tmp 28) (.tmp 30),none⟩,
       ⟨some 32,.mv (.tmp 31),none⟩,
       ⟨some 33,.faddr 1 (.tmp 6),(some (32,false))⟩,
       ⟨some 34,.load 9 false 1 (.tmp 33),(some (32,false))⟩,
       ⟨some 35,.faddr 1 (.tmp 7),(some (32,false))⟩,
       ⟨some 36,.load 9 false 1 (.tmp 35),(some (32,false))⟩,
       ⟨some 37,.bin .neq 9 (.tmp 34) (.tmp 36),(some (32,false))⟩,
       ⟨some 38,.pick (.tmp 32) (.const (.bool true)) (.tmp 37),none⟩,
       ⟨some 39,.mv (.tmp 38),none⟩,
       ⟨some 40,.faddr 2 (.tmp 6),(some (39,false))⟩,
       ⟨some 41,.load 3 false 1 (.tmp 40),(some (39,false))⟩,
       ⟨some 42,.faddr 2 (.tmp 7),(some (39,false))⟩,
       ⟨some 43,.load 3 false 1 (.tmp 42),(some (39,false))⟩,
       ⟨some 44,.bin .neq 3 (.tmp 41) (.tmp 43),(some (39,false))⟩,
       ⟨some 45,.pick (.tmp 39) (.const (.bool true)) (.tmp 44),none⟩,
       ⟨some 46,.mv (.tmp 45),none⟩,
       ⟨some 47,.faddr 3 (.tmp 6),(some (46,false))⟩,
       ⟨some 48,.load 4 false 1 (.tmp 47),(some (46,false))⟩,
       ⟨some 49,.faddr 3 (.tmp 7),(some (46,false))⟩,
       ⟨some 50,.load 4 false 1 (.tmp 49),(some (46,false))⟩,
       ⟨some 51,.bin .neq 4 (.tmp 48) (.tmp 50),(some (46,false))⟩,
       ⟨some 52,.pick (.tmp 46) (.const (.bool true)) (.tmp 51),none⟩,
       ⟨some 53,.mv (.tmp 52),none⟩,
       ⟨some 54,.faddr 4 (.tmp 6),(some (53,false))⟩,
       ⟨some 55,.load 100 false 1 (.tmp 54),(some (53,false))⟩,
       ⟨some 56,.faddr 4 (.tmp 7),(some (53,false))⟩,
       ⟨some 57,.load 100 false 1 (.tmp 56),(some (53,false))⟩,
       ⟨some 58,.call (.func 151) [(.tmp 55),(.tmp 57)],(some (53,false))⟩,
       ⟨some 59,.un .not (.tmp 58),(some (53,false))⟩,
       ⟨some 60,.pick (.tmp 53) (.const (.bool true)) (.tmp 59),none⟩])
     (.cond (.tmp 60)
      (.seq (.reg [⟨some 4,.mv (.const (.bool false)),none⟩])
      .ret)
      (.skip))))
theorem Rf:UM=yp 61 pH:=rfl
theorem zY:ek Γ 151=true:=(rfl)
theorem SB (x y:au) (hx:db x.parts=true) (hy:db y.parts=true) (r:Bool) (h:∀s,aH Tryz.prog Γ ext 151 [x.parts,y.parts] s=some (.sc (.bool r),s)) {l m:Option (List au)}{i:Nat} (hl:(l.getD [])[i]?=some x) (hm:(m.getD [])[i]?=some y) (f:aX) (s:PS) (hin:qG 155 au.cells l m i f) :
  ∃f' s',aT Tryz.prog Γ ext (.block 1 pH) f s=some (if (x.eqB y && r) then (.normal,f',s') else (.ret,f',s'))∧((x.eqB y && r)=true→f' 0=f 0∧f' 1=f 1∧f' 5=f 5)∧((x.eqB y && r)=false→f' 4=.sc (.bool false))∧(∀n0,n0≤s.n→n0≤s.w→n0≤s'.n∧n0≤s'.w):=by
 obtain⟨l,rfl⟩ : ∃k,l=some k:=by cases l with | none=>simp at hl | some k=>exact⟨k,rfl⟩
 obtain⟨m,rfl⟩ : ∃k,m=some k:=by cases m with | none=>simp at hm | some k=>exact⟨k,rfl⟩
 obtain⟨ha,hb,hii⟩:=hin;simp only [aU,Option.getD_some] at ha hb hl hm;have hi:i < l.length:=(List.getElem?_eq_some_iff.1 hl).1;have hj:i < m.length:=(List.getElem?_eq_some_iff.1 hm).1;have h1:=aJ au.len l;have h2:=aJ au.len m;have h3:=kX au.len hl;have h4:=kX au.len hm;have ox:x.cells.all db=true:=by simp only [au.cells,List.all_cons,List.all_nil,hx,Bool.and_true]; rfl
 have oy:y.cells.all db=true:=by simp only [au.cells,List.all_cons,List.all_nil,hy,Bool.and_true]; rfl
 have lx:x.cells.length=5:=x.len;have ly:y.cells.length=5:=y.len;have c1:(bne x.kind y.kind)=!(x.kind == y.kind):=(rfl)
 have c2:(bne x.op y.op)=!(x.op == y.op):=(rfl)
 have fin:∀(n0:Nat),n0≤s.n→n0≤s.w→n0≤s.n + 1 + 1∧n0≤min (min s.w s.n) (s.n + 1):=fun n0 w1 w2=>⟨by omega,by omega⟩
 simp -implicitDefEqProofs only [ZS,seval,ZT,ZX,pH,aC,List.map_cons,List.map_nil,List.mem_cons,List.not_mem_nil,implies_true,ha,hb,hii,hi,hj,h1,h2,h3,h4,ox,oy,lx,ly];simp -implicitDefEqProofs only [au.cells] at h ⊢;cases e1:x.kind == y.kind with
 | false=>
  simp -implicitDefEqProofs only [ZS,seval,ZX,bG,au.eqB,e1,c1];exact⟨_,_,rfl,fun hh=>(by cases hh),fun _=>by simp -implicitDefEqProofs only [aZ,↓reduceIte],fin⟩
 | true=>
  cases e2:x.text.toList == y.text.toList with
  | false=>
   simp -implicitDefEqProofs only [ZS,seval,ZX,bG,au.eqB,e1,e2,c1];exact⟨_,_,rfl,fun hh=>(by cases hh),fun _=>by simp -implicitDefEqProofs only [aZ,↓reduceIte],fin⟩
  | true=>
   cases e3:x.op == y.op with
   | false=>
    simp -implicitDefEqProofs only [ZS,seval,ZX,bG,au.eqB,e1,e2,e3,c1,c2];exact⟨_,_,rfl,fun hh=>(by cases hh),fun _=>by simp -implicitDefEqProofs only [aZ,↓reduceIte],fin⟩
   | true=>
    cases e4:x.colon == y.colon with
    | false=>
     simp -implicitDefEqProofs only [ZS,seval,ZX,bG,au.eqB,e1,e2,e3,e4,c1,c2,g9 Tryz.underlying4];exact⟨_,_,rfl,fun hh=>(by cases hh),fun _=>by simp -implicitDefEqProofs only [aZ,↓reduceIte],fin⟩
    | true=>
     cases r with
     | false=>
      simp -implicitDefEqProofs only [ZS,seval,ZX,bG,List.map_cons,List.map_nil,List.append_nil,au.eqB,e1,e2,e3,e4,h,c1,c2,g9 Tryz.underlying4];exact⟨_,_,rfl,fun hh=>(by cases hh),fun _=>by simp -implicitDefEqProofs only [aZ,↓reduceIte],fin⟩
     | true=>
      simp -implicitDefEqProofs only [ZS,seval,ZX,bG,List.map_cons,List.map_nil,List.append_nil,au.eqB,e1,e2,e3,e4,h,c1,c2,g9 Tryz.underlying4];exact⟨_,_,rfl,fun _=>⟨by simp -implicitDefEqProofs only [aZ,↓reduceIte,reduceCtorEq,ha],by simp -implicitDefEqProofs only [aZ,Nat.reduceEqDiff,↓reduceIte,hb],by simp -implicitDefEqProofs only [aZ,Nat.reduceEqDiff,↓reduceIte,hii]⟩,fun hh=>(by cases hh),fin⟩
def iC {α:Type} (q:α→α→Bool):List α→List α→Bool
 | [],[]=>true
 | x :: l,y :: m=>q x y && iC q l m
 | _,_=>false
def Dv (t es:Nat) (ag:Bool):bj:=(sr [ob 14 (bn .lss 3 13 12)]
 (.seq (.cond (tp 14)
 .skip
 (.exit 0))
 (.seq (.block 1 (sr [mt 15 13,mt 5 15]
 (.seq (.draw [(mt 16 0,[0],[]),(mt 17 5,[5],[0]),(ob 18 (.iaddr es (tp 16) (tp 17)),[16,17],[]),(ob 19 (.load t ag es (tp 18)),[18],[]),(mt 20 1,[1],[3,2,1,0]),(mt 21 5,[5],[4,3,2,1,0]),(ob 22 (.iaddr es (tp 20) (tp 21)),[20,21],[3,2,1,0]),(ob 23 (.load t ag es (tp 22)),[22],[3,2,1,0]),(ob 24 (bn .neq t 19 23),[19,23],[])])
 (.cond (tp 24)
 (sr [mk 4 (.bool false)]
 .ret)
 .skip))))
 (.reg [ob 25 (bi .add 13 1),mt 13 25]))))
def ud:bj:=(sr [mk 4 (.bool true)]
 .ret)
def EH (t es:Nat) (ag:Bool):gk:=⟨26,(sr [mk 4 (.bool false)]
 (.seq (tO [mt 6 0,ob 7 (.len false (tp 6)),mt 8 1,ob 9 (.len false (tp 8)),ob 10 (bn .neq 3 7 9)] 10
 (sr [mk 4 (.bool false)]
 .ret)
 .skip)
 (.seq (sr [mt 11 0,ob 12 (.len false (tp 11)),mk 13 (.int .i64 0)]
 (.block 0 (.loop (Dv t es ag)))) ud))),[.tmp 4],false⟩
def Eo (t es:Nat) (ag:Bool):bj:=(.seq (tO [mt 11 5,mt 12 0,ob 13 (.len false (tp 12)),ob 14 (bn .lss 3 11 13)] 14
 .skip
 (.exit 0))
 (.seq (.block 1 (.seq (.draw [(mt 17 0,[0],[]),(mt 18 5,[5],[0]),(ob 19 (.iaddr es (tp 17) (tp 18)),[17,18],[]),(ob 20 (.load t ag es (tp 19)),[19],[]),(mt 21 1,[1],[3,2,1,0]),(mt 22 5,[5],[4,3,2,1,0]),(ob 23 (.iaddr es (tp 21) (tp 22)),[21,22],[3,2,1,0]),(ob 24 (.load t ag es (tp 23)),[23],[3,2,1,0]),(ob 25 (bn .neq t 20 24),[20,24],[])])
 (.cond (tp 25)
 (sr [mk 4 (.bool false)]
 .ret)
 .skip)))
 (.reg [mt 15 5,ob 16 (bi .add 15 1),mt 5 16])))
def Eu (t es:Nat) (ag:Bool):gk:=⟨26,(sr [mk 4 (.bool false)]
 (.seq (tO [mt 6 0,ob 7 (.len false (tp 6)),mt 8 1,ob 9 (.len false (tp 8)),ob 10 (bn .neq 3 7 9)] 10
 (sr [mk 4 (.bool false)]
 .ret)
 .skip)
 (.seq (sr [mk 5 (.int .i64 0)]
 (.block 0 (.loop (Eo t es ag)))) ud))),[.tmp 4],false⟩
theorem Wb:Γ 49=some (EH 44 5 true):=rfl
theorem Wp:Γ 50=some (EH 9 1 false):=rfl
theorem Vy:Γ 52=some (EH 75 2 true):=rfl
theorem VV:Γ 53=some (EH 46 2 true):=rfl
theorem XH:Γ 20=some (Eu 44 5 true):=rfl
theorem XI:Γ 21=some (Eu 9 1 false):=rfl
theorem XP:Γ 23=some (Eu 75 2 true):=rfl
theorem XM:Γ 24=some (Eu 46 2 true):=rfl
structure B7 {α:Type} (t es:Nat) (ag:Bool) (c:α→List PV) (v:α→PV) (q:α→α→Bool) (l m:List α):Prop where
 len:∀x,(c x).length=es
 val:∀x,aW ag (c x)=some (v x)
 cmp:∀x∈l,∀y∈m,∀i j,fJ Tryz.prog .neq t (.tmp i) (.tmp j) (v x) (v y)=some (.sc (.bool (!(q x y))))
section
variable {α:Type}{t es:Nat}{ag:Bool}{c:α→List PV}{v:α→PV}{q:α→α→Bool}{l m:List α}
theorem Kv (hE:B7 t es ag c v q l m) (hlm:l.length=m.length) (hx:l.length < 1000000000000) (s:PS):∀(k i:Nat) (f:aX),i + k=l.length→f 0=.lit t l.length (l.flatMap c)→f 1=.lit t m.length (m.flatMap c)→f 12=.sc (.int .i64 (l.length:Int))→f 13=iN i→
  Er (fun f' s'=>s'=s∧f' 4=.sc (.bool (iC q (l.drop i) (m.drop i)))) (LP Tryz.prog Γ ext 0 (Dv t es ag) ud f s):=by
 intro k
 induction k with
 | zero=>
  intro i f hk h0 h1 h12 h13;have e1:decide (i < l.length)=false:=df;have ha:iC q (l.drop i) (m.drop i)=true:=by rw [List.drop_eq_nil_of_le om,List.drop_eq_nil_of_le om]; rfl
  refine ad fun L hL=>?_;exact Az @Dv.eq_1 @ud.eq_1 h0 h1 h12 h13 e1 ha
 | succ k ih=>
  intro i f hk h0 h1 h12 h13;have hl:i < l.length:=om;have hm:i < m.length:=om;have e1:decide (i < l.length)=true:=decide_eq_true hl;have hj:l[i]?=some l[i]:=List.getElem?_eq_getElem hl;have hj2:m[i]?=some m[i]:=List.getElem?_eq_getElem hm;have hfl:=aJ hE.len l;have hfm:=aJ hE.len m;have hk3:=kX hE.len hj;have hk4:=kX hE.len hj2;have v1:=hE.val l[i];have v2:=hE.val m[i];simp only [aW] at v1 v2;have hc:=hE.cmp _ (List.getElem_mem hl) _ (List.getElem_mem hm);have hd:iC q (l.drop i) (m.drop i)=(q l[i] m[i] && iC q (l.drop (i + 1)) (m.drop (i + 1))):=by
   rw [List.drop_eq_getElem_cons hl,List.drop_eq_getElem_cons hm];rfl
  rw [hd];refine ad fun L hL=>?_;cases cq:q l[i] m[i] with
  | false=>
   rw [cq] at hc;simp -implicitDefEqProofs (disch:=first | omega | (unfold cZ cd; simp<;>omega)) only [ZA,Nat.reduceAdd,Nat.reduceEqDiff,↓reduceIte,Nat.reduceLeDiff,reduceCtorEq,Nat.reduceBEq,Nat.reduceLT,bE,cg,cI,aW,cP,b9,cV,bz,frz,cT,cM,er,ZD,da,eS,gE,Dv,ud,h0,h1,h12,h13,e1,hl,hm,hfl,hfm,hk3,hk4,v1,v2,hc,Bool.not_false,Bool.false_and]
  | true=>
   rw [cq] at hc;simp -implicitDefEqProofs (disch:=first | omega | (unfold cZ cd; simp<;>omega)) only [ZA,Nat.reduceAdd,Nat.reduceEqDiff,↓reduceIte,Nat.reduceLeDiff,reduceCtorEq,Nat.reduceBEq,Nat.reduceLT,bE,cg,cI,aW,cP,b9,cV,bz,frz,cT,cM,er,ZD,da,eS,gE,Dv,h0,h1,h12,h13,e1,hl,hm,hfl,hfm,hk3,hk4,v1,v2,hc,Bool.not_true,Bool.true_and];subst hL;exact ih (i + 1) _ om (fP h0) (fP h1) (fP h12) fp
theorem IK (hE:B7 t es ag c v q l m) (hlm:l.length=m.length) (hx:l.length < 1000000000000) (s:PS):∀(k i:Nat) (f:aX),i + k=l.length→f 0=.lit t l.length (l.flatMap c)→f 1=.lit t m.length (m.flatMap c)→f 5=iN i→
  Er (fun f' s'=>s'=s∧f' 4=.sc (.bool (iC q (l.drop i) (m.drop i)))) (LP Tryz.prog Γ ext 0 (Eo t es ag) ud f s):=by
 intro k
 induction k with
 | zero=>
  intro i f hk h0 h1 h5;have e1:decide (i < l.length)=false:=df;have ha:iC q (l.drop i) (m.drop i)=true:=by rw [List.drop_eq_nil_of_le om,List.drop_eq_nil_of_le om]; rfl
  refine ad fun L hL=>?_;exact uP @Eo.eq_1 @ud.eq_1 h0 h1 h5 e1 ha
 | succ k ih=>
  intro i f hk h0 h1 h5;have hl:i < l.length:=om;have hm:i < m.length:=om;have e1:decide (i < l.length)=true:=decide_eq_true hl;have hj:l[i]?=some l[i]:=List.getElem?_eq_getElem hl;have hj2:m[i]?=some m[i]:=List.getElem?_eq_getElem hm;have hfl:=aJ hE.len l;have hfm:=aJ hE.len m;have hk3:=kX hE.len hj;have hk4:=kX hE.len hj2;have v1:=hE.val l[i];have v2:=hE.val m[i];simp only [aW] at v1 v2;have hc:=hE.cmp _ (List.getElem_mem hl) _ (List.getElem_mem hm);have hd:iC q (l.drop i) (m.drop i)=(q l[i] m[i] && iC q (l.drop (i + 1)) (m.drop (i + 1))):=by
   rw [List.drop_eq_getElem_cons hl,List.drop_eq_getElem_cons hm];rfl
  rw [hd];refine ad fun L hL=>?_;cases cq:q l[i] m[i] with
  | false=>
   rw [cq] at hc;simp -implicitDefEqProofs (disch:=first | omega | (unfold cZ cd; simp<;>omega)) only [ZA,Nat.reduceAdd,Nat.reduceEqDiff,↓reduceIte,Nat.reduceLeDiff,reduceCtorEq,Nat.reduceBEq,Nat.reduceLT,bE,cg,cI,aW,cP,b9,cV,bz,frz,cT,cM,er,ZD,da,eS,gE,Eo,ud,h0,h1,h5,e1,gB,hl,hm,hfl,hfm,hk3,hk4,v1,v2,hc,Bool.not_false,Bool.false_and]
  | true=>
   rw [cq] at hc;simp -implicitDefEqProofs (disch:=first | omega | (unfold cZ cd; simp<;>omega)) only [ZA,Nat.reduceAdd,Nat.reduceEqDiff,↓reduceIte,Nat.reduceLeDiff,reduceCtorEq,Nat.reduceBEq,Nat.reduceLT,bE,cg,cI,aW,cP,b9,cV,bz,frz,cT,cM,er,ZD,da,eS,gE,Eo,h0,h1,h5,e1,gB,hl,hm,hfl,hfm,hk3,hk4,v1,v2,hc,Bool.not_true,Bool.true_and];subst hL;exact ih (i + 1) _ om (fP h0) (fP h1) fp
theorem rD {α:Type}{q:α→α→Bool} : ∀{l m:List α},l.length≠m.length→iC q l m=false
 | [],[],h=>absurd rfl h
 | [],_ :: _,_=>rfl
 | _ :: _,[],_=>rfl
 | x :: l,y :: m,h=>by
  rw [iC,rD (fun e=>h (by rw [List.length_cons,List.length_cons,e])),Bool.and_false]
theorem yP {G:Nat} (hG:Γ G=some (EH t es ag)) {la lb:Option (List α)} (hE:B7 t es ag c v q (la.getD []) (lb.getD [])) (hx:(la.getD []).length < 1000000000000) (hy:(lb.getD []).length < 1000000000000) (s:PS) :
  aH Tryz.prog Γ ext G [aU t c la,aU t c lb] s=some (.sc (.bool (iC q (la.getD []) (lb.getD []))),s):=by
 have h1:=bT (e:=t) (c:=c) la;have h2:=bT (e:=t) (c:=c) lb;refine xb (r:=4) hG (by simp [EH]) (by rfl) (by rfl) ?_;unfold EH;cases cn:(la.getD []).length == (lb.getD []).length with
 | false=>
  rw [rD (beq_eq_false_iff_ne.1 cn)];exact qN h1 h2 @cj cn
 | true=>
  have hn:=eq_of_beq cn;refine CJ h1 h2 @cj cn ?_;cases la with
  | none=>
   have hb:lb.getD []=[]:=List.eq_nil_of_length_eq_zero hn.symm;have z0:decide ((0:Int) < ((0:Nat):Int))=false:=rfl;rw [hb];refine ad fun L hL=>?_;refine CJ @Dv.eq_1 @ud.eq_1 @Option.getD_none.{0} z0 ?_;rfl
  | some l=>
   cases lb with
   | none=>
    have ha:l=[]:=List.eq_nil_of_length_eq_zero hn;subst ha;have z0:decide ((0:Int) < ((0:Nat):Int))=false:=rfl;refine ad fun L hL=>?_;refine CJ @Dv.eq_1 @ud.eq_1 @Option.getD_some.{0} z0 ?_;rfl
   | some m=>
    have key:=fun f a b c d=>Kv (ext:=ext) hE hn hx ⟨s.h,s.n,s.n⟩ l.length 0 f (Nat.zero_add _) a b c d;simp only [List.drop_zero,Option.getD_some] at key;exact key _ (bm @bU) (bm @bU) (bm @Option.getD_some.{0}) bw
theorem Ag {G:Nat} (hG:Γ G=some (Eu t es ag)) {la lb:Option (List α)} (hE:B7 t es ag c v q (la.getD []) (lb.getD [])) (hx:(la.getD []).length < 1000000000000) (hy:(lb.getD []).length < 1000000000000) (s:PS) :
  aH Tryz.prog Γ ext G [aU t c la,aU t c lb] s=some (.sc (.bool (iC q (la.getD []) (lb.getD []))),s):=by
 have h1:=bT (e:=t) (c:=c) la;have h2:=bT (e:=t) (c:=c) lb;refine xb (r:=4) hG (by simp [Eu]) (by rfl) (by rfl) ?_;unfold Eu;cases cn:(la.getD []).length == (lb.getD []).length with
 | false=>
  rw [rD (beq_eq_false_iff_ne.1 cn)];exact qN h1 h2 @cj cn
 | true=>
  have hn:=eq_of_beq cn;refine CJ h1 h2 @cj cn ?_;cases la with
  | none=>
   have hb:lb.getD []=[]:=List.eq_nil_of_length_eq_zero hn.symm;have z0:decide ((0:Int) < 0)=false:=rfl;rw [hb];refine ad fun L hL=>?_;refine CJ @Eo.eq_1 @ud.eq_1 @bU z0 ?_;rfl
  | some l=>
   cases lb with
   | none=>
    have ha:l=[]:=List.eq_nil_of_length_eq_zero hn;subst ha;have z0:decide ((0:Int) < ((0:Nat):Int))=false:=rfl;refine ad fun L hL=>?_;refine CJ @Eo.eq_1 @ud.eq_1 @bU z0 ?_;rfl
   | some m=>
    have key:=fun f a b c=>IK (ext:=ext) hE hn hx ⟨s.h,s.n,s.n⟩ l.length 0 f (Nat.zero_add _) a b c;simp only [List.drop_zero,Option.getD_some] at key;exact key _ (bm @bU) (bm @bU) bw
end
end Go.Proofs.YtokdflgpbfjpcaaGreatDoor
namespace Go.Proofs.YtokdflgpbfjpcaaGreatDoor
open Go Go.EvL Go.PE Go.Mir
variable {ext:ar}
theorem sg (c:Nat) (s:PS):aH Tryz.prog Γ ext 152 [.sc (.int .u8 (c:Int))] s=some (.sc (.bool (iP c)),s):=by
 rw [ej (fn:=xB) (by rfl) _ _ (by simp [xB])];cases h1:decide (97≤c) with
 | false=>
  cases h2:decide (65≤c) with
  | false=>
   exact qN @xB.eq_1 @iP.eq_1 h1 h2
  | true=>
   cases h3:decide (c≤90) with
   | false=>
    exact ub @xB.eq_1 @iP.eq_1 h1 h2 h3
   | true=>
    exact ub @xB.eq_1 @iP.eq_1 h1 h2 h3
 | true=>
  cases h4:decide (c≤122) with
  | false=>
   cases h5:decide (65≤c) with
   | false=>
    exact ub @xB.eq_1 @iP.eq_1 h1 h4 h5
   | true=>
    cases h6:decide (c≤90) with
    | false=>
     exact lW @xB.eq_1 @iP.eq_1 h1 h4 h5 h6
    | true=>
     exact lW @xB.eq_1 @iP.eq_1 h1 h4 h5 h6
  | true=>
   exact qN @xB.eq_1 @iP.eq_1 h1 h4
theorem cL (c:Nat) (s:PS):aH Tryz.prog Γ ext 107 [.sc (.int .u8 (c:Int))] s=some (.sc (.bool (bM c)),s):=by
 rw [ej (fn:=Hv) (by rfl) _ _ (by simp [Hv])];cases h1:decide (48≤c) with
 | false=>
  exact jB @Hv.eq_1 @bM.eq_1 h1
 | true=>
  cases h2:decide (c≤57) with
  | false=>
   exact qN @Hv.eq_1 @bM.eq_1 h1 h2
  | true=>
   exact qN @Hv.eq_1 @bM.eq_1 h1 h2
theorem fh (c:Nat) (s:PS):aH Tryz.prog Γ ext 108 [.sc (.int .u8 (c:Int))] s=some (.sc (.bool (eI c)),s):=by
 rw [ej (fn:=Em) (by rfl) _ _ (by simp [Em])];cases h1:iP c with
 | false=>
  cases h2:bM c with
  | false=>
   cases h3:c == 95 with
   | false=>
    exact uP @Em.eq_1 @eI.eq_1 @sg @cL h1 h2 h3
   | true=>
    exact uP @Em.eq_1 @eI.eq_1 @sg @cL h1 h2 h3
  | true=>
   exact lW @Em.eq_1 @eI.eq_1 @sg @cL h1 h2
 | true=>
  exact ub @Em.eq_1 @eI.eq_1 @sg @cL h1
theorem dK (c:Nat) (s:PS):aH Tryz.prog Γ ext 301 [.sc (.int .u8 (c:Int))] s=some (.sc (.bool (fA c)),s):=by
 rw [ej (fn:=Gu) (by rfl) _ _ (by simp [Gu])];cases h1:c == 9 with
 | false=>
  cases h2:c == 32 with
  | false=>
   exact qN @Gu.eq_1 @fA.eq_1 h1 h2
  | true=>
   exact qN @Gu.eq_1 @fA.eq_1 h1 h2
 | true=>
  exact jB @Gu.eq_1 @fA.eq_1 h1
theorem dy (c:Nat) (s:PS):aH Tryz.prog Γ ext 302 [.sc (.int .u8 (c:Int))] s=some (.sc (.bool (dE c)),s):=by
 rw [ej (fn:=wI) (by rfl) _ _ (by simp [wI])];cases h1:c == 38 with
 | false=>
  cases h2:c == 124 with
  | false=>
   cases h3:c == 59 with
   | false=>
    cases h4:c == 40 with
    | false=>
     cases h5:c == 41 with
     | false=>
      cases h6:c == 60 with
      | false=>
       cases h7:c == 62 with
       | false=>
        exact sL @wI.eq_1 @dE.eq_1 h1 h2 h3 h4 h5 h6 h7
       | true=>
        exact sL @wI.eq_1 @dE.eq_1 h1 h2 h3 h4 h5 h6 h7
      | true=>
       exact Az @wI.eq_1 @dE.eq_1 h1 h2 h3 h4 h5 h6
     | true=>
      exact uP @wI.eq_1 @dE.eq_1 h1 h2 h3 h4 h5
    | true=>
     exact lW @wI.eq_1 @dE.eq_1 h1 h2 h3 h4
   | true=>
    exact ub @wI.eq_1 @dE.eq_1 h1 h2 h3
  | true=>
   exact qN @wI.eq_1 @dE.eq_1 h1 h2
 | true=>
  exact jB @wI.eq_1 @dE.eq_1 h1
theorem KB {b:ByteArray} (hb:b.data.toList.length < 4611686018427387904) (c:Nat) (s:PS):∀(k i:Nat) (f:aX),i + k=b.data.toList.length→f 0=.sc (.string b)→f 1=.sc (.int .u8 (c:Int))→f 5=iN i→
  Er (fun f' s'=>s'=s∧f' 4=.sc (.bool ((b.data.toList.drop i).any fun x=>x.toNat == c))) (LP Tryz.prog Γ ext 0 tl EA f s):=by
 intro k
 induction k with
 | zero=>
  intro i f hk h0 h1 h5;have e1:decide (i < b.data.toList.length)=false:=df;refine ad fun L hL=>?_;refine Ej @tl.eq_1 @EA.eq_1 h0 h1 h5 e1 ?_;rw [List.drop_of_length_le om]; rfl
 | succ k ih=>
  intro i f hk h0 h1 h5;have hl:i < b.data.toList.length:=om;have e1:decide (i < b.data.toList.length)=true:=dt;have ed:=pA hl;have eg:=oY hl;cases e2:(bt b.data.toList i == c) with
  | true=>
   refine ad fun L hL=>?_;refine Fy @tl.eq_1 h0 h1 h5 e1 hl e2 ?_;rw [ed,List.any_cons,← eg,e2]; rfl
  | false=>
   rw [ed,List.any_cons,← eg,e2,Bool.false_or];refine ad fun L hL=>?_;refine Fy @tl.eq_1 h0 h1 h5 e1 hl e2 ?_;subst hL;exact ih (i + 1) _ om (bm h0) (bm h1) bw
theorem PC {b:ByteArray} (hb:b.data.toList.length < 4611686018427387904) (c:Nat) (s:PS):Pc ext 156 [.sc (.string b),.sc (.int .u8 (c:Int))] (.sc (.bool (b.data.toList.any fun x=>x.toNat == c))) s:=by
 refine q1 QT 4 ?_;unfold QT;refine LD ?_;exact KB hb c _ b.data.toList.length 0 _ om fp fp fp
theorem Ch (c:Nat):cJ c=(bM c || ([64,42,35,63,45,36,33]:List UInt8).any fun x=>x.toNat == c):=by
 unfold cJ;have h:∀k:Nat,(k == c)=(c == k):=fun k=>by rw [Bool.eq_iff_iff,beq_iff_eq,beq_iff_eq]; exact eq_comm
 show _=(bM c || ((64 == c) || ((42 == c) || ((35 == c) || ((63 == c) || ((45 == c) || ((36 == c) || ((33 == c) || false))))))))
 simp only [h,Bool.or_false,Bool.or_assoc]
theorem gO (c:Nat) (s:PS):Pc ext 325 [.sc (.int .u8 (c:Int))] (.sc (.bool (cJ c))) s:=by
 refine q1 RN 2 ?_;have hh:=fun s=>PC (ext:=ext) (b:=⟨#[64,42,35,63,45,36,33]⟩) (by decide) c s;unfold RN;rw [Ch];cases e:bM c with
 | true=>exact qO @cL e
 | false=>exact jB @cL e hh
theorem Mg {b:ByteArray} (hb:b.data.toList.length < 4611686018427387904) (s:PS):∀(k i:Nat) (f:aX),i + k=b.data.toList.length→f 0=.sc (.string b)→f 1=iN i→
  Er (fun f' s'=>s'=s∧f' 4=iN (eC b.data.toList i)) (LP Tryz.prog Γ ext 0 sZ zT f s):=by
 intro k
 induction k with
 | zero=>
  intro i f hk h0 h1;have e1:decide (i < b.data.toList.length)=false:=df;refine ad fun L hL=>?_;exact uP @sZ.eq_1 @zT.eq_1 h0 h1 e1 @eC.eq_1 (zL (q:=eI) (l:=b.data.toList) (i:=i) om)
 | succ k ih=>
  intro i f hk h0 h1;have hl:i < b.data.toList.length:=om;have e1:decide (i < b.data.toList.length)=true:=dt;refine ad fun L hL=>?_;cases e2:eI (bt b.data.toList i) with
  | false=>exact ue @sZ.eq_1 @zT.eq_1 h0 h1 e1 hl @fh e2 @eC.eq_1 (Ad hl e2)
  | true=>
   refine Fy @sZ.eq_1 h0 h1 e1 hl @fh e2 ?_;subst hL;unfold eC;rw [wU hl e2];exact ih (i + 1) _ om (bm h0) bw
theorem wh {b:ByteArray} (hb:b.data.toList.length < 4611686018427387904) {i:Nat} (hi:i≤b.data.toList.length) (s:PS):Pc ext 268 [.sc (.string b),iN i] (iN (eC b.data.toList i)) s:=by
 refine q1 Qh 4 ?_;unfold Qh;refine Gq ?_;exact Mg hb _ (b.data.toList.length - i) i _ om bw bw
theorem Lz {b:ByteArray} (hb:b.data.toList.length < 4611686018427387904) (s:PS):∀(k i:Nat) (f:aX),i + k=b.data.toList.length→f 0=.sc (.string b)→f 1=iN i→
  Er (fun f' s'=>s'=s∧f' 4=iN (cQ b.data.toList 10 i)) (LP Tryz.prog Γ ext 0 sM zP f s):=by
 intro k
 induction k with
 | zero=>
  intro i f hk h0 h1;have e1:decide (i < b.data.toList.length)=false:=df;refine ad fun L hL=>?_;exact uP @sM.eq_1 @zP.eq_1 h0 h1 e1 @cQ.eq_1 (zL (q:=fun x=>x != 10) (l:=b.data.toList) (i:=i) om)
 | succ k ih=>
  intro i f hk h0 h1;have hl:i < b.data.toList.length:=om;have e1:decide (i < b.data.toList.length)=true:=dt;refine ad fun L hL=>?_;cases e2:bt b.data.toList i == 10 with
  | true=>exact sL @sM.eq_1 @zP.eq_1 h0 h1 e1 hl e2 @cQ.eq_1 (Ad (q:=fun x=>x != 10) hl (by show (!(bt b.data.toList i == 10))=false; rw [e2]; rfl))
  | false=>
   refine Ej @sM.eq_1 h0 h1 e1 hl e2 ?_;subst hL;unfold cQ;rw [wU (q:=fun x=>x != 10) hl (by show (!(bt b.data.toList i == 10))=true; rw [e2]; rfl)];exact ih (i + 1) _ om (bm h0) bw
theorem I6 {b:ByteArray} (hb:b.data.toList.length < 4611686018427387904) {i:Nat} (hi:i≤b.data.toList.length) (s:PS):Pc ext 343 [.sc (.string b),iN i] (iN (cQ b.data.toList 10 i)) s:=by
 refine q1 Rp 4 ?_;unfold Rp;refine Gq ?_;exact Lz hb _ (b.data.toList.length - i) i _ om bw bw
theorem rY {b:ByteArray} (hb:b.data.toList.length < 4611686018427387904) {i:Nat} (hi:i≤b.data.toList.length) (s:PS):Pc ext 344 [.sc (.string b),iN i] (.sc (.bool (cX b.data.toList i))) s:=by
 refine q1 QV 4 ?_;unfold QV cX;cases e1:decide (i + 1 < b.data.toList.length) with
 | false=>exact bm e1
 | true=>
  have h1:i + 1 < b.data.toList.length:=of_decide_eq_true e1;have hl:i < b.data.toList.length:=om;cases e2:bt b.data.toList i == 92 with
  | false=>exact jB e1 hl e2
  | true=>exact qN e1 hl h1 e2
theorem gR {b:ByteArray} (hb:b.data.toList.length < 4611686018427387904) {i:Nat} (hi:i≤b.data.toList.length) (s:PS):Pc ext 296 [.sc (.string b),iN i] (.sc (.bool (cX b.data.toList i))) s:=by
 refine q1 S2 4 ?_;unfold S2 cX;cases e1:decide (i + 1 < b.data.toList.length) with
 | false=>exact bm e1
 | true=>
  have h1:i + 1 < b.data.toList.length:=of_decide_eq_true e1;have hl:i < b.data.toList.length:=om;cases e2:bt b.data.toList i == 92 with
  | false=>exact jB e1 hl e2
  | true=>exact qN e1 hl h1 e2
theorem dw {b:ByteArray} (hb:b.data.toList.length < 4611686018427387904) {i:Nat} (hi:i≤b.data.toList.length) (s:PS):Pc ext 315 [.sc (.string b),iN i] (.sc (.bool (cG b.data.toList i))) s:=by
 refine q1 Ri 4 ?_;unfold Ri cG;by_cases h1:i + 1 < b.data.toList.length
 ·have hl:i < b.data.toList.length:=om;have e0:decide (i + 1 < b.data.toList.length)=true:=decide_eq_true h1;have e1:decide (b.data.toList.length≤i + 1)=false:=df;cases e2:bt b.data.toList i == 36 with
  | false=>exact qN e0 e1 hl e2
  | true=>
   cases e3:eI (bt b.data.toList (i + 1)) with
   | true=>exact uP e0 e1 hl h1 e2 @fh e3
   | false=>
    cases e4:cJ (bt b.data.toList (i + 1)) with
    | true=>exact sL e0 e1 hl h1 e2 @fh @gO e3 e4
    | false=>
     cases e5:bt b.data.toList (i + 1) == 123 with
     | true=>exact ue e0 e1 hl h1 e2 @fh @gO e3 e4 e5
     | false=>exact ue e0 e1 hl h1 e2 @fh @gO e3 e4 e5
 ·have e0:decide (i + 1 < b.data.toList.length)=false:=decide_eq_false h1;have e1:decide (b.data.toList.length≤i + 1)=true:=dt;exact qO e0 e1
variable {ext:ar}{b:ByteArray}
def RC (ext:ar) (b:ByteArray):gH→Nat→Nat→Prop
 | .pass a p,r,e=>∀s,aH Tryz.prog Γ ext 313 [.sc (.string b),.sc (.int .i64 (a:Int)),.sc (.int .i64 (p:Int))] s=some (.tup [.sc (.int .i64 (r:Int)),.sc (.int .i64 (e:Int))],s)
 | .exp a p,r,e=>∀s,aH Tryz.prog Γ ext 322 [.sc (.string b),.sc (.int .i64 (a:Int)),.sc (.int .i64 (p:Int))] s=some (.tup [.sc (.int .i64 (r:Int)),.sc (.int .i64 (e:Int))],s)
 | .bq i a,r,e=>∀s f,f 0=.sc (.string b)→f 1=.sc (.int .i64 (a:Int))→f 6=.sc (.int .i64 (i:Int))→Er (fun f' s'=>s'=s∧f' 4=.sc (.int .i64 (r:Int))∧f' 5=.sc (.int .i64 (e:Int))) (LP Tryz.prog Γ ext 0 oq Es f s)
 | .dbl i a,r,e=>∀s f,f 0=.sc (.string b)→f 1=.sc (.int .i64 (a:Int))→f 6=.sc (.int .i64 (i:Int))→Er (fun f' s'=>s'=s∧f' 4=.sc (.int .i64 (r:Int))∧f' 5=.sc (.int .i64 (e:Int))) (LP Tryz.prog Γ ext 0 qT CM f s)
 | .brc i a p,r,e=>∀s f,f 0=.sc (.string b)→f 1=.sc (.int .i64 (a:Int))→f 2=.sc (.int .i64 (p:Int))→f 8=.sc (.int .i64 (i:Int))→Er (fun f' s'=>s'=s∧f' 6=.sc (.int .i64 (r:Int))∧f' 7=.sc (.int .i64 (e:Int))) (LP Tryz.prog Γ ext 0 lK CP f s)
 | .cmd i a o g,r,e=>1≤o→o≤i→∀s f,f 0=.sc (.string b)→f 1=.sc (.int .i64 (a:Int))→f 6=.sc (.int .i64 (i:Int))→f 7=.sc (.int .i64 (o:Int))→f 8=.sc (.bool g)→Er (fun f' s'=>s'=s∧f' 4=.sc (.int .i64 (r:Int))∧f' 5=.sc (.int .i64 (e:Int))) (LP Tryz.prog Γ ext 0 dM vV f s)
 | .ari i a o,r,e=>o≤i→∀s f,f 0=.sc (.string b)→f 1=.sc (.int .i64 (a:Int))→f 6=.sc (.int .i64 (i:Int))→f 7=.sc (.int .i64 (o:Int))→Er (fun f' s'=>s'=s∧f' 4=.sc (.int .i64 (r:Int))∧f' 5=.sc (.int .i64 (e:Int))) (LP Tryz.prog Γ ext 0 jD Et f s)
section
variable (hb:b.data.toList.length < 4611686018427387904)
include hb
theorem P5 {a:Nat} : RC ext b (.bq b.data.toList.length a) a 7:=by
 intro s f h0 h1 h6;have e1:decide (b.data.toList.length < b.data.toList.length)=false:=decide_eq_false (by omega);refine ad fun L hL=>?_;refine Nc @oq.eq_1 @Es.eq_1 h0 h1 h6 e1 ?_;rfl
theorem Uo {i a:Nat} (hl:i < b.data.toList.length) (h:bt b.data.toList i=96):RC ext b (.bq i a) (i + 1) 0:=by
 intro s f h0 h1 h6;have e1:decide (i < b.data.toList.length)=true:=decide_eq_true (by omega);have q96:(bt b.data.toList (i) == 96)=true:=by rw [h]; rfl
 refine ad fun L hL=>?_;refine H3 @oq.eq_1 h0 h1 h6 e1 hl q96 ?_;rfl
theorem J1 {i a:Nat} (h:bt b.data.toList i=92) (h2:i + 1=b.data.toList.length):RC ext b (.bq i a) i 7:=by
 intro s f h0 h1 h6;have hl:i < b.data.toList.length:=by omega
 have e1:decide (i < b.data.toList.length)=true:=decide_eq_true (by omega);have q96:(bt b.data.toList (i) == 96)=false:=by rw [h]; rfl
 have q92:(bt b.data.toList (i) == 92)=true:=by rw [h]; rfl
 have e2:(i + 1 == b.data.toList.length)=true:=by rw [h2]; exact beq_self_eq_true _
 refine ad fun L hL=>?_;refine UP @oq.eq_1 h0 h1 h6 e1 hl e2 q96 q92 ?_;rfl
theorem LQ {i a r e:Nat} (h:bt b.data.toList i=92) (h2:i + 1 < b.data.toList.length) (ih:RC ext b (.bq (i + 2) a) r e):RC ext b (.bq i a) r e:=by
 intro s f h0 h1 h6;have hl:i < b.data.toList.length:=by omega
 have e1:decide (i < b.data.toList.length)=true:=decide_eq_true (by omega);have q96:(bt b.data.toList (i) == 96)=false:=by rw [h]; rfl
 have q92:(bt b.data.toList (i) == 92)=true:=by rw [h]; rfl
 have e2:(i + 1 == b.data.toList.length)=false:=beq_eq_false_iff_ne.2 (by omega);refine ad fun L hL=>?_;refine DV @oq.eq_1 h0 h1 h6 e1 hl e2 q96 q92 ?_;subst hL;exact ih s _ (bm h0) (bm h1) bw
theorem NZ {i a r e:Nat} (hl:i < b.data.toList.length) (h:bt b.data.toList i≠96) (h2:bt b.data.toList i≠92) (ih:RC ext b (.bq (i + 1) a) r e):RC ext b (.bq i a) r e:=by
 intro s f h0 h1 h6;have e1:decide (i < b.data.toList.length)=true:=decide_eq_true (by omega);have q96:(bt b.data.toList (i) == 96)=false:=beq_eq_false_iff_ne.2 (h);have q92:(bt b.data.toList (i) == 92)=false:=beq_eq_false_iff_ne.2 (h2);refine ad fun L hL=>?_;refine Cc @oq.eq_1 h0 h1 h6 e1 hl q96 q92 ?_;subst hL;exact ih s _ (fP h0) (fP h1) fp
theorem MF {a:Nat} : RC ext b (.dbl b.data.toList.length a) a 7:=by
 intro s f h0 h1 h6;have e1:decide (b.data.toList.length < b.data.toList.length)=false:=decide_eq_false (by omega);refine ad fun L hL=>?_;refine Nc @qT.eq_1 @CM.eq_1 h0 h1 h6 e1 ?_;rfl
theorem UQ {i a:Nat} (hl:i < b.data.toList.length) (h:bt b.data.toList i=34):RC ext b (.dbl i a) (i + 1) 0:=by
 intro s f h0 h1 h6;have e1:decide (i < b.data.toList.length)=true:=decide_eq_true (by omega);have q34:(bt b.data.toList (i) == 34)=true:=by rw [h]; rfl
 refine ad fun L hL=>?_;refine H3 @qT.eq_1 h0 h1 h6 e1 hl q34 ?_;rfl
theorem NG {i a r e:Nat} (hl:i < b.data.toList.length) (h:bt b.data.toList i≠34) (ih:RC ext b (.pass i 1) r e) (he:e≠0):RC ext b (.dbl i a) r e:=by
 intro s f h0 h1 h6;have e1:decide (i < b.data.toList.length)=true:=decide_eq_true (by omega);have q34:(bt b.data.toList (i) == 34)=false:=beq_eq_false_iff_ne.2 (h);have e2:(e == 0)=false:=beq_eq_false_iff_ne.2 he;have ih1:∀s,_:=ih;rw [show ((1:Nat):Int)=1 from rfl] at ih1;refine ad fun L hL=>?_;exact sL @qT.eq_1 h0 h1 h6 e1 hl ih1 e2 q34
theorem Qp {i a j r e:Nat} (hl:i < b.data.toList.length) (h:bt b.data.toList i≠34) (ih:RC ext b (.pass i 1) j 0) (ih2:RC ext b (.dbl j a) r e):RC ext b (.dbl i a) r e:=by
 intro s f h0 h1 h6;have e1:decide (i < b.data.toList.length)=true:=decide_eq_true (by omega);have q34:(bt b.data.toList (i) == 34)=false:=beq_eq_false_iff_ne.2 (h);have ih1:∀s,_:=ih;rw [show ((1:Nat):Int)=1 from rfl] at ih1;refine ad fun L hL=>?_;refine Cc @qT.eq_1 h0 h1 h6 e1 hl ih1 q34 ?_;subst hL;exact ih2 s _ (bm h0) (bm h1) bw
end
section
variable (hb:b.data.toList.length < 4611686018427387904)
include hb
theorem P2 {a p:Nat} : RC ext b (.brc b.data.toList.length a p) a 7:=by
 intro s f h0 h1 h2 h8;have e1:decide (b.data.toList.length < b.data.toList.length)=false:=df;refine ad fun L hL=>?_;refine H3 @lK.eq_1 @CP.eq_1 h0 h1 h2 h8 e1 ?_;rfl
theorem Tn {i a p:Nat} (hl:i < b.data.toList.length) (h:bt b.data.toList i=125):RC ext b (.brc i a p) (i + 1) 0:=by
 intro s f h0 h1 h2 h8;have e1:decide (i < b.data.toList.length)=true:=dt;have q125:(bt b.data.toList (i) == 125)=true:=by rw [h]; rfl
 refine ad fun L hL=>?_;refine HA @lK.eq_1 h0 h1 h2 h8 e1 hl q125 ?_;rfl
theorem Ol {i a:Nat} (hl:i < b.data.toList.length) (h:bt b.data.toList i=34):RC ext b (.brc i a 1) i 6:=by
 intro s f h0 h1 h2 h8;have e1:decide (i < b.data.toList.length)=true:=dt;have q125:(bt b.data.toList (i) == 125)=false:=by rw [h]; rfl
 have q34:(bt b.data.toList (i) == 34)=true:=by rw [h]; rfl
 refine ad fun L hL=>?_;refine UP @lK.eq_1 h0 h1 h2 h8 e1 hl q125 q34 ?_;rfl
theorem N6 {i a p r e:Nat} (hl:i < b.data.toList.length) (h:bt b.data.toList i≠125) (h3:p=1→bt b.data.toList i≠34) (ih:RC ext b (.pass i p) r e) (he:e≠0):RC ext b (.brc i a p) r e:=by
 intro s f h0 h1 h2 h8;have e1:decide (i < b.data.toList.length)=true:=dt;have q125:(bt b.data.toList i == 125)=false:=beq_eq_false_iff_ne.2 h;have ih1:∀s,_:=ih;have e2:(e == 0)=false:=beq_eq_false_iff_ne.2 he;cases q34:bt b.data.toList i == 34 with
 | false=>
  refine ad fun L hL=>?_;exact qj @lK.eq_1 h0 h1 h2 h8 e1 hl q125 q34 ih1 e2 tv
 | true=>
  have qp:(p == 1)=false:=beq_eq_false_iff_ne.2 fun hp=>h3 hp (eq_of_beq q34);refine ad fun L hL=>?_;exact qj @lK.eq_1 h0 h1 h2 h8 e1 hl q125 q34 qp ih1 e2
theorem S5 {i a p j r e:Nat} (hl:i < b.data.toList.length) (h:bt b.data.toList i≠125) (h3:p=1→bt b.data.toList i≠34) (ih:RC ext b (.pass i p) j 0) (ih2:RC ext b (.brc j a p) r e):RC ext b (.brc i a p) r e:=by
 intro s f h0 h1 h2 h8;have e1:decide (i < b.data.toList.length)=true:=dt;have q125:(bt b.data.toList i == 125)=false:=beq_eq_false_iff_ne.2 h;have ih1:∀s,_:=ih;cases q34:bt b.data.toList i == 34 with
 | false=>
  refine ad fun L hL=>?_;refine AZ @lK.eq_1 h0 h1 h2 h8 e1 hl q125 q34 ih1 ?_;subst hL;exact ih2 s _ (bm h0) (bm h1) (bm h2) bw
 | true=>
  have qp:(p == 1)=false:=beq_eq_false_iff_ne.2 fun hp=>h3 hp (eq_of_beq q34);refine ad fun L hL=>?_;refine jU @lK.eq_1 h0 h1 h2 h8 e1 hl q125 q34 qp ih1 tv ?_;subst hL;exact ih2 s _ (fP h0) (fP h1) (fP h2) fp
theorem Ml {a o:Nat} : RC ext b (.ari b.data.toList.length a o) a 7:=by
 intro ho s f h0 h1 h6 h7;have e1:decide (b.data.toList.length < b.data.toList.length)=false:=df;refine ad fun L hL=>?_;refine H3 @jD.eq_1 @Et.eq_1 h0 h1 h6 h7 e1 ?_;rfl
theorem Qw {i a:Nat} (h:bt b.data.toList i=41) (h2:i + 1=b.data.toList.length):RC ext b (.ari i a 0) a 7:=by
 intro ho s f h0 h1 h6 h7;have hl:i < b.data.toList.length:=om;have e1:decide (i < b.data.toList.length)=true:=dt;have q40:(bt b.data.toList (i) == 40)=false:=by rw [h]; rfl
 have q41:(bt b.data.toList (i) == 41)=true:=by rw [h]; rfl
 have z0:decide (0 < 0)=false:=rfl;have e2:(i + 1 == b.data.toList.length)=true:=by rw [h2]; exact beq_self_eq_true _
 refine ad fun L hL=>?_;refine FL @jD.eq_1 h0 h1 h6 h7 e1 hl q40 q41 z0 e2 tv ?_;rfl
theorem Tz {i a:Nat} (h:bt b.data.toList i=41) (h2:i + 1 < b.data.toList.length) (h3:bt b.data.toList (i + 1)=41):RC ext b (.ari i a 0) (i + 2) 0:=by
 intro ho s f h0 h1 h6 h7;have hl:i < b.data.toList.length:=om;have e1:decide (i < b.data.toList.length)=true:=dt;have q40:(bt b.data.toList (i) == 40)=false:=by rw [h]; rfl
 have q41:(bt b.data.toList (i) == 41)=true:=by rw [h]; rfl
 have z0:decide (0 < 0)=false:=rfl;have e2:(i + 1 == b.data.toList.length)=false:=bf;have q1:(bt b.data.toList (i + 1) == 41)=true:=by rw [h3]; rfl
 refine ad fun L hL=>?_;refine Pz @jD.eq_1 h0 h1 h6 h7 e1 hl q40 q41 z0 e2 h2 q1 tv ?_;rfl
theorem Mm {i a:Nat} (h:bt b.data.toList i=41) (h2:i + 1 < b.data.toList.length) (h3:bt b.data.toList (i + 1)≠41):RC ext b (.ari i a 0) i 6:=by
 intro ho s f h0 h1 h6 h7;have hl:i < b.data.toList.length:=om;have e1:decide (i < b.data.toList.length)=true:=dt;have q40:(bt b.data.toList (i) == 40)=false:=by rw [h]; rfl
 have q41:(bt b.data.toList (i) == 41)=true:=by rw [h]; rfl
 have z0:decide (0 < 0)=false:=rfl;have e2:(i + 1 == b.data.toList.length)=false:=bf;have q1:(bt b.data.toList (i + 1) == 41)=false:=beq_eq_false_iff_ne.2 h3;refine ad fun L hL=>?_;refine Pz @jD.eq_1 h0 h1 h6 h7 e1 hl q40 q41 z0 e2 h2 q1 tv ?_;rfl
theorem O4 {i a o r e:Nat} (hl:i < b.data.toList.length) (h:bt b.data.toList i=41→o≠0) (ih:RC ext b (.pass i 2) r e) (he:e≠0):RC ext b (.ari i a o) r e:=by
 intro ho s f h0 h1 h6 h7;have e1:decide (i < b.data.toList.length)=true:=dt;have ih1:∀s,_:=ih;rw [show ((2:Nat):Int)=2 from rfl] at ih1;have e2:(e == 0)=false:=beq_eq_false_iff_ne.2 he;cases q40:bt b.data.toList i == 40 with
 | true=>
  have c40:(bt b.data.toList i=40)=True:=eq_true (eq_of_beq q40);have c41:True:=trivial;refine ad fun L hL=>?_;exact ue @jD.eq_1 h0 h1 h6 h7 e1 hl q40 ih1 e2
 | false=>
  have c40:(bt b.data.toList i=40)=False:=eq_false (beq_eq_false_iff_ne.1 q40);cases q41:bt b.data.toList i == 41 with
  | true=>
   have c41:(bt b.data.toList i=41)=True:=eq_true (eq_of_beq q41);have ho1 : 1≤o:=by have:=h (eq_of_beq q41); omega
   have z1:decide (0 < o)=true:=dt;refine ad fun L hL=>?_;exact qj @jD.eq_1 h0 h1 h6 h7 e1 hl q40 q41 z1 ih1 e2
  | false=>
   have c41:(bt b.data.toList i=41)=False:=eq_false (beq_eq_false_iff_ne.1 q41);refine ad fun L hL=>?_;exact qj @jD.eq_1 h0 h1 h6 h7 e1 hl q40 q41 ih1 e2 tv
theorem Sg {i a o j r e:Nat} (hl:i < b.data.toList.length) (h:bt b.data.toList i=41→o≠0) (hj:i < j) (ih:RC ext b (.pass i 2) j 0) (ih2:RC ext b (.ari j a (di (bt b.data.toList i) o)) r e):RC ext b (.ari i a o) r e:=by
 intro ho s f h0 h1 h6 h7;have e1:decide (i < b.data.toList.length)=true:=dt;have ih1:∀s,_:=ih;rw [show ((2:Nat):Int)=2 from rfl] at ih1;cases q40:bt b.data.toList i == 40 with
 | true=>
  have c40:(bt b.data.toList i=40)=True:=eq_true (eq_of_beq q40);have c41:True:=trivial;refine ad fun L hL=>?_;refine DV @jD.eq_1 h0 h1 h6 h7 e1 hl q40 ih1 ?_;subst hL;have hop:di (bt b.data.toList i) o=o + 1:=by unfold di; simp only [c40,c41,if_true,if_false]
  rw [hop] at ih2;exact ih2 om s _ (bm h0) (bm h1) bw (bm h7)
 | false=>
  have c40:(bt b.data.toList i=40)=False:=eq_false (beq_eq_false_iff_ne.1 q40);cases q41:bt b.data.toList i == 41 with
  | true=>
   have c41:(bt b.data.toList i=41)=True:=eq_true (eq_of_beq q41);have ho1 : 1≤o:=by have:=h (eq_of_beq q41); omega
   have z1:decide (0 < o)=true:=dt;refine ad fun L hL=>?_;refine jU @jD.eq_1 h0 h1 h6 h7 e1 hl q40 q41 z1 ih1 tv ?_;subst hL;have hop:di (bt b.data.toList i) o=o - 1:=by unfold di; simp only [c40,c41,if_true,if_false]
   rw [hop] at ih2;exact ih2 om s _ (bm h0) (bm h1) bw (bm h7)
  | false=>
   have c41:(bt b.data.toList i=41)=False:=eq_false (beq_eq_false_iff_ne.1 q41);refine ad fun L hL=>?_;refine AZ @jD.eq_1 h0 h1 h6 h7 e1 hl q40 q41 ih1 ?_;subst hL;have hop:di (bt b.data.toList i) o=o:=by unfold di; simp only [c40,c41,if_true,if_false]
   rw [hop] at ih2;exact ih2 om s _ (bm h0) (bm h1) bw (bm h7)
end
section
variable (hb:b.data.toList.length < 4611686018427387904)
include hb
theorem MB {a o:Nat}{g:Bool} : RC ext b (.cmd b.data.toList.length a o g) a 7:=by
 intro ho1 ho s f h0 h1 h6 h7 h8;have e1:decide (b.data.toList.length < b.data.toList.length)=false:=df;refine ad fun L hL=>?_;refine HA @dM.eq_1 @vV.eq_1 h0 h1 h6 h7 h8 e1 ?_;rfl
theorem MO {i a o r e:Nat} (hl:i < b.data.toList.length) (h:bt b.data.toList i=35) (ih:RC ext b (.cmd (cQ b.data.toList 10 i) a o true) r e):RC ext b (.cmd i a o true) r e:=by
 intro ho1 ho s f h0 h1 h6 h7 h8;have e1:decide (i < b.data.toList.length)=true:=dt;have q35:(bt b.data.toList (i) == 35)=true:=by rw [h]; rfl
 have hc:=fun s=>I6 (ext:=ext) hb (i:=i) om s;have hge:i≤cQ b.data.toList 10 i:=oJ _ _ _;refine ad fun L hL=>?_;refine AZ @dM.eq_1 h0 h1 h6 h7 h8 e1 hl q35 hc ?_;subst hL;exact ih ho1 om s _ (bm h0) (bm h1) bw (bm h7) (bm h8)
theorem L6 {i a o:Nat}{g:Bool}{r e:Nat} (h:cX b.data.toList i=true) (ih:RC ext b (.cmd (i + 2) a o g) r e):RC ext b (.cmd i a o g) r e:=by
 intro ho1 ho s f h0 h1 h6 h7 h8;have hl1:=ij h;have hl:i < b.data.toList.length:=om;have e1:decide (i < b.data.toList.length)=true:=dt;have hj:=fun s=>rY (ext:=ext) hb (i:=i) om s;have q35:(bt b.data.toList i == 35)=false:=by rw [(AM h).1]; rfl
 cases g with
 | false=>
  refine ad fun L hL=>?_;refine jU @dM.eq_1 h0 h1 h6 h7 h8 e1 hl q35 hj h tv ?_;subst hL;exact ih ho1 om s _ (bm h0) (bm h1) bw (bm h7) (bm h8)
 | true=>
  refine ad fun L hL=>?_;refine jU @dM.eq_1 h0 h1 h6 h7 h8 e1 hl q35 hj h tv ?_;subst hL;exact ih ho1 om s _ (fP h0) (fP h1) fp (fP h7) (fP h8)
theorem UH {i a:Nat}{g:Bool} (hl:i < b.data.toList.length) (h:bt b.data.toList i=41):RC ext b (.cmd i a 1 g) (i + 1) 0:=by
 intro ho1 ho s f h0 h1 h6 h7 h8;have e1:decide (i < b.data.toList.length)=true:=dt;have hj:=fun s=>rY (ext:=ext) hb (i:=i) om s;have hn:cX b.data.toList i=false:=by unfold cX; rw [h]; cases decide (i + 1 < b.data.toList.length)<;>rfl
 have q35:(bt b.data.toList (i) == 35)=false:=by rw [h]; rfl
 have q41:(bt b.data.toList (i) == 41)=true:=by rw [h]; rfl
 cases g with
 | false=>
  refine ad fun L hL=>?_;refine FL @dM.eq_1 h0 h1 h6 h7 h8 e1 hl q35 q41 hj hn ?_;rfl
 | true=>
  refine ad fun L hL=>?_;refine FL @dM.eq_1 h0 h1 h6 h7 h8 e1 hl q35 q41 hj hn ?_;rfl
theorem O3 {i a o:Nat}{g:Bool}{r e:Nat} (hl:i < b.data.toList.length) (h:g=true→bt b.data.toList i≠35) (hn:cX b.data.toList i=false) (h3:bt b.data.toList i=41→o≠1) (ih:RC ext b (.pass i 0) r e) (he:e≠0):RC ext b (.cmd i a o g) r e:=by
 intro ho1 ho s f h0 h1 h6 h7 h8;have e1:decide (i < b.data.toList.length)=true:=dt;have ih1:∀s,_:=ih;rw [show ((0:Nat):Int)=0 from rfl] at ih1;have hjn:=fun s=>rY (ext:=ext) hb (i:=i) om s;have hg:g=false∨(bt b.data.toList i == 35)=false:=by
  cases g with
  | false=>exact .inl rfl
  | true=>exact .inr (beq_eq_false_iff_ne.2 (h rfl))
 have e2:(e == 0)=false:=beq_eq_false_iff_ne.2 he;have key:∀(qg:g=false∨(bt b.data.toList i == 35)=false),Er (fun f' s'=>s'=s∧f' 4=iN r∧f' 5=iN e) (LP Tryz.prog Γ ext 0 dM vV f s):=by
  intro qg;cases q40:bt b.data.toList i == 40 with
  | true=>
   have c40:(bt b.data.toList i=40)=True:=eq_true (eq_of_beq q40);have c41:True:=trivial;have e40:=eq_of_beq q40;have q35:(bt b.data.toList i == 35)=false:=by rw [e40]; rfl
   have q41:(bt b.data.toList i == 41)=false:=by rw [e40]; rfl
   have q10:(bt b.data.toList i == 10)=false:=by rw [e40]; rfl
   have hB:fA (bt b.data.toList i)=false:=by rw [e40]; rfl
   have hO:dE (bt b.data.toList i)=true:=by rw [e40]; rfl
   have hbr:cu (bt b.data.toList i)=true:=by rw [e40]; rfl
   cases g with
   | false=>
    refine ad fun L hL=>?_;exact Cm @dM.eq_1 h0 h1 h6 h7 h8 e1 hl q35 q40 q41 q10 hB hO hjn hn @dK @dy ih1 e2 tv tv
   | true=>
    refine ad fun L hL=>?_;exact Cm @dM.eq_1 h0 h1 h6 h7 h8 e1 hl q35 q40 q41 q10 hB hO hjn hn @dK @dy ih1 e2 tv tv
  | false=>
   have c40:(bt b.data.toList i=40)=False:=eq_false (beq_eq_false_iff_ne.1 q40);cases q41:bt b.data.toList i == 41 with
   | true=>
    have c41:(bt b.data.toList i=41)=True:=eq_true (eq_of_beq q41);have e41:=eq_of_beq q41;have qo:(o == 1)=false:=beq_eq_false_iff_ne.2 (h3 e41);have ho2 : 2≤o:=by have:=h3 e41; omega
    have q35:(bt b.data.toList i == 35)=false:=by rw [e41]; rfl
    have q10:(bt b.data.toList i == 10)=false:=by rw [e41]; rfl
    have hB:fA (bt b.data.toList i)=false:=by rw [e41]; rfl
    have hO:dE (bt b.data.toList i)=true:=by rw [e41]; rfl
    have hbr:cu (bt b.data.toList i)=true:=by rw [e41]; rfl
    cases g with
    | false=>
     refine ad fun L hL=>?_;exact Cm @dM.eq_1 h0 h1 h6 h7 h8 e1 hl q35 q40 q41 qo q10 hB hO hjn hn @dK @dy ih1 e2 tv
    | true=>
     refine ad fun L hL=>?_;exact Cm @dM.eq_1 h0 h1 h6 h7 h8 e1 hl q35 q40 q41 qo q10 hB hO hjn hn @dK @dy ih1 e2 tv
   | false=>
    have c41:(bt b.data.toList i=41)=False:=eq_false (beq_eq_false_iff_ne.1 q41);cases g with
    | false=>
     cases hB:fA (bt b.data.toList i) with
     | true=>
      have hbr:cu (bt b.data.toList i)=true:=by unfold cu; rw [hB]; rfl
      refine ad fun L hL=>?_;exact my @dM.eq_1 h0 h1 h6 h7 h8 e1 hl q40 q41 hB hjn hn @dK @dy ih1 e2 tv tv
     | false=>
      cases q10:bt b.data.toList i == 10 with
      | true=>
       have hbr:cu (bt b.data.toList i)=true:=by unfold cu; rw [hB,q10]; rfl
       refine ad fun L hL=>?_;exact my @dM.eq_1 h0 h1 h6 h7 h8 e1 hl q40 q41 hB q10 hjn hn @dK @dy ih1 e2 tv
      | false=>
       have hbr:cu (bt b.data.toList i)=dE (bt b.data.toList i):=by unfold cu; rw [hB,q10]; rfl
       refine ad fun L hL=>?_;exact my @dM.eq_1 h0 h1 h6 h7 h8 e1 hl q40 q41 hB q10 hjn hn @dK @dy ih1 e2 tv
    | true=>
     have q35:=qg.resolve_left (fun hh=>by cases hh);cases hB:fA (bt b.data.toList i) with
     | true=>
      have hbr:cu (bt b.data.toList i)=true:=by unfold cu; rw [hB]; rfl
      refine ad fun L hL=>?_;exact my @dM.eq_1 h0 h1 h6 h7 h8 e1 hl q35 q40 q41 hB hjn hn @dK @dy ih1 e2 tv
     | false=>
      cases q10:bt b.data.toList i == 10 with
      | true=>
       have hbr:cu (bt b.data.toList i)=true:=by unfold cu; rw [hB,q10]; rfl
       refine ad fun L hL=>?_;exact my @dM.eq_1 h0 h1 h6 h7 h8 e1 hl q35 q40 q41 hB q10 hjn hn @dK @dy ih1 e2
      | false=>
       have hbr:cu (bt b.data.toList i)=dE (bt b.data.toList i):=by unfold cu; rw [hB,q10]; rfl
       refine ad fun L hL=>?_;exact my @dM.eq_1 h0 h1 h6 h7 h8 e1 hl q35 q40 q41 hB q10 hjn hn @dK @dy ih1 e2
 exact key hg
theorem Rx {i a o:Nat}{g:Bool}{j r e:Nat} (hl:i < b.data.toList.length) (h:g=true→bt b.data.toList i≠35) (hn:cX b.data.toList i=false) (h3:bt b.data.toList i=41→o≠1) (hj:i < j) (ih:RC ext b (.pass i 0) j 0) (ih2:RC ext b (.cmd j a (di (bt b.data.toList i) o) (cu (bt b.data.toList i))) r e):RC ext b (.cmd i a o g) r e:=by
 intro ho1 ho s f h0 h1 h6 h7 h8;have e1:decide (i < b.data.toList.length)=true:=dt;have ih1:∀s,_:=ih;rw [show ((0:Nat):Int)=0 from rfl] at ih1;have hjn:=fun s=>rY (ext:=ext) hb (i:=i) om s;have hg:g=false∨(bt b.data.toList i == 35)=false:=by
  cases g with
  | false=>exact .inl rfl
  | true=>exact .inr (beq_eq_false_iff_ne.2 (h rfl))
 have key:∀(qg:g=false∨(bt b.data.toList i == 35)=false),Er (fun f' s'=>s'=s∧f' 4=iN r∧f' 5=iN e) (LP Tryz.prog Γ ext 0 dM vV f s):=by
  intro qg;cases q40:bt b.data.toList i == 40 with
  | true=>
   have c40:(bt b.data.toList i=40)=True:=eq_true (eq_of_beq q40);have c41:True:=trivial;have e40:=eq_of_beq q40;have q35:(bt b.data.toList i == 35)=false:=by rw [e40]; rfl
   have q41:(bt b.data.toList i == 41)=false:=by rw [e40]; rfl
   have q10:(bt b.data.toList i == 10)=false:=by rw [e40]; rfl
   have hB:fA (bt b.data.toList i)=false:=by rw [e40]; rfl
   have hO:dE (bt b.data.toList i)=true:=by rw [e40]; rfl
   have hbr:cu (bt b.data.toList i)=true:=by rw [e40]; rfl
   cases g with
   | false=>
    refine ad fun L hL=>?_;refine rO @dM.eq_1 h0 h1 h6 h7 h8 e1 hl q35 q40 q41 q10 hB hO hjn hn @dK @dy ih1 ?_;subst hL;have hop:di (bt b.data.toList i) o=o + 1:=by unfold di; simp only [c40,c41,if_true,if_false]
    rw [hop] at ih2;exact ih2 om om s _ (bm h0) (bm h1) bw (bm h7) (bm hbr)
   | true=>
    refine ad fun L hL=>?_;refine rO @dM.eq_1 h0 h1 h6 h7 h8 e1 hl q35 q40 q41 q10 hB hO hjn hn @dK @dy ih1 ?_;subst hL;have hop:di (bt b.data.toList i) o=o + 1:=by unfold di; simp only [c40,c41,if_true,if_false]
    rw [hop] at ih2;exact ih2 om om s _ (bm h0) (bm h1) bw (bm h7) (bm hbr)
  | false=>
   have c40:(bt b.data.toList i=40)=False:=eq_false (beq_eq_false_iff_ne.1 q40);cases q41:bt b.data.toList i == 41 with
   | true=>
    have c41:(bt b.data.toList i=41)=True:=eq_true (eq_of_beq q41);have e41:=eq_of_beq q41;have qo:(o == 1)=false:=beq_eq_false_iff_ne.2 (h3 e41);have ho2 : 2≤o:=by have:=h3 e41; omega
    have q35:(bt b.data.toList i == 35)=false:=by rw [e41]; rfl
    have q10:(bt b.data.toList i == 10)=false:=by rw [e41]; rfl
    have hB:fA (bt b.data.toList i)=false:=by rw [e41]; rfl
    have hO:dE (bt b.data.toList i)=true:=by rw [e41]; rfl
    have hbr:cu (bt b.data.toList i)=true:=by rw [e41]; rfl
    cases g with
    | false=>
     refine ad fun L hL=>?_;refine ME @dM.eq_1 h0 h1 h6 h7 h8 e1 hl q35 q40 q41 qo q10 hB hO hjn hn @dK @dy ih1 tv tv ?_;subst hL;have hop:di (bt b.data.toList i) o=o - 1:=by unfold di; simp only [c40,c41,if_true,if_false]
     rw [hop] at ih2;exact ih2 om om s _ (bm h0) (bm h1) bw (bm h7) (bm hbr)
    | true=>
     refine ad fun L hL=>?_;refine ME @dM.eq_1 h0 h1 h6 h7 h8 e1 hl q35 q40 q41 qo q10 hB hO hjn hn @dK @dy ih1 tv tv ?_;subst hL;have hop:di (bt b.data.toList i) o=o - 1:=by unfold di; simp only [c40,c41,if_true,if_false]
     rw [hop] at ih2;exact ih2 om om s _ (bm h0) (bm h1) bw (bm h7) (bm hbr)
   | false=>
    have c41:(bt b.data.toList i=41)=False:=eq_false (beq_eq_false_iff_ne.1 q41);cases g with
    | false=>
     cases hB:fA (bt b.data.toList i) with
     | true=>
      have hbr:cu (bt b.data.toList i)=true:=by unfold cu; rw [hB]; rfl
      refine ad fun L hL=>?_;refine Dg @dM.eq_1 h0 h1 h6 h7 h8 e1 hl q40 q41 hB hjn hn @dK @dy ih1 ?_;subst hL;have hop:di (bt b.data.toList i) o=o:=by unfold di; simp only [c40,c41,if_true,if_false]
      rw [hop] at ih2;exact ih2 om om s _ (bm h0) (bm h1) bw (bm h7) (bm hbr)
     | false=>
      cases q10:bt b.data.toList i == 10 with
      | true=>
       have hbr:cu (bt b.data.toList i)=true:=by unfold cu; rw [hB,q10]; rfl
       refine ad fun L hL=>?_;refine rO @dM.eq_1 h0 h1 h6 h7 h8 e1 hl q40 q41 hB q10 hjn hn @dK @dy ih1 tv tv ?_;subst hL;have hop:di (bt b.data.toList i) o=o:=by unfold di; simp only [c40,c41,if_true,if_false]
       rw [hop] at ih2;exact ih2 om om s _ (bm h0) (bm h1) bw (bm h7) (bm hbr)
      | false=>
       have hbr:cu (bt b.data.toList i)=dE (bt b.data.toList i):=by unfold cu; rw [hB,q10]; rfl
       refine ad fun L hL=>?_;refine rO @dM.eq_1 h0 h1 h6 h7 h8 e1 hl q40 q41 hB q10 hjn hn @dK @dy ih1 tv tv ?_;subst hL;have hop:di (bt b.data.toList i) o=o:=by unfold di; simp only [c40,c41,if_true,if_false]
       rw [hop] at ih2;exact ih2 om om s _ (bm h0) (bm h1) bw (bm h7) (bm hbr)
    | true=>
     have q35:=qg.resolve_left (fun hh=>by cases hh);cases hB:fA (bt b.data.toList i) with
     | true=>
      have hbr:cu (bt b.data.toList i)=true:=by unfold cu; rw [hB]; rfl
      refine ad fun L hL=>?_;refine rO @dM.eq_1 h0 h1 h6 h7 h8 e1 hl q35 q40 q41 hB hjn hn @dK @dy ih1 tv tv ?_;subst hL;have hop:di (bt b.data.toList i) o=o:=by unfold di; simp only [c40,c41,if_true,if_false]
      rw [hop] at ih2;exact ih2 om om s _ (bm h0) (bm h1) bw (bm h7) (bm hbr)
     | false=>
      cases q10:bt b.data.toList i == 10 with
      | true=>
       have hbr:cu (bt b.data.toList i)=true:=by unfold cu; rw [hB,q10]; rfl
       refine ad fun L hL=>?_;refine rO @dM.eq_1 h0 h1 h6 h7 h8 e1 hl q35 q40 q41 hB q10 hjn hn @dK @dy ih1 tv ?_;subst hL;have hop:di (bt b.data.toList i) o=o:=by unfold di; simp only [c40,c41,if_true,if_false]
       rw [hop] at ih2;exact ih2 om om s _ (bm h0) (bm h1) bw (bm h7) (bm hbr)
      | false=>
       have hbr:cu (bt b.data.toList i)=dE (bt b.data.toList i):=by unfold cu; rw [hB,q10]; rfl
       refine ad fun L hL=>?_;refine rO @dM.eq_1 h0 h1 h6 h7 h8 e1 hl q35 q40 q41 hB q10 hjn hn @dK @dy ih1 tv ?_;subst hL;have hop:di (bt b.data.toList i) o=o:=by unfold di; simp only [c40,c41,if_true,if_false]
       rw [hop] at ih2;exact ih2 om om s _ (bm h0) (bm h1) bw (bm h7) (bm hbr)
 exact key hg
end
section
variable (hb:b.data.toList.length < 4611686018427387904)
include hb
theorem Pd {a r e:Nat} (hl:a < b.data.toList.length) (ih:RC ext b (.bq (a + 1) a) r e) (s:PS):Pc ext 321 [.sc (.string b),iN a] (.tup [iN r,iN e]) s:=by
 refine dF (fn:=NT) (r:=4) (r2:=5) (by rfl) (by simp [NT]) (by rfl) (by rfl) ?_;unfold NT;refine Gq ?_;exact ih _ _ bw bw bw
theorem JD {a r e:Nat} (hl:a < b.data.toList.length) (ih:RC ext b (.dbl (a + 1) a) r e) (s:PS):Pc ext 324 [.sc (.string b),iN a] (.tup [iN r,iN e]) s:=by
 refine dF (fn:=LY) (r:=4) (r2:=5) (by rfl) (by simp [LY]) (by rfl) (by rfl) ?_;unfold LY;refine Gq ?_;exact ih _ _ bw bw bw
theorem KI {a p r e:Nat} (hl:a < b.data.toList.length) (ih:RC ext b (.brc (a + 2) a p) r e) (s:PS):Pc ext 330 [.sc (.string b),iN a,iN p] (.tup [iN r,iN e]) s:=by
 refine dF (fn:=P9) (r:=6) (r2:=7) (by rfl) (by simp [P9]) (by rfl) (by rfl) ?_;unfold P9;refine Gq ?_;exact ih _ _ bw bw bw bw
theorem IQ {a r e:Nat} (hl:a < b.data.toList.length) (ih:RC ext b (.ari (a + 3) a 0) r e) (s:PS):Pc ext 331 [.sc (.string b),iN a] (.tup [iN r,iN e]) s:=by
 refine dF (fn:=OC) (r:=4) (r2:=5) (by rfl) (by simp [OC]) (by rfl) (by rfl) ?_;unfold OC;refine LD ?_;exact ih om _ _ fp fp fp fp
theorem JM {a r e:Nat} (hl:a < b.data.toList.length) (ih:RC ext b (.cmd (a + 2) a 1 true) r e) (s:PS):Pc ext 332 [.sc (.string b),iN a] (.tup [iN r,iN e]) s:=by
 refine dF (fn:=Of) (r:=4) (r2:=5) (by rfl) (by simp [Of]) (by rfl) (by rfl) ?_;unfold Of;refine LD ?_;exact ih om om _ _ fp fp fp fp fp
theorem N3 (s:PS) {a r e:Nat} : ∀(k i:Nat) (f:aX),i + k=b.data.toList.length→(cQ b.data.toList 39 i < b.data.toList.length→r=cQ b.data.toList 39 i + 1∧e=0)→(cQ b.data.toList 39 i=b.data.toList.length→r=a∧e=7)→f 0=.sc (.string b)→f 1=iN a→f 6=iN i→Er (fun f' s'=>s'=s∧f' 4=iN r∧f' 5=iN e) (LP Tryz.prog Γ ext 0 tB DY f s):=by
 intro k
 induction k with
 | zero=>
  intro i f hk g1 g2 h0 h1 h6;have e1:decide (i < b.data.toList.length)=false:=df;obtain⟨rfl,rfl⟩:=g2 (by unfold cQ; rw [zL om]; omega);refine ad fun L hL=>?_;refine Nc @tB.eq_1 @DY.eq_1 h0 h1 h6 e1 ?_;rfl
 | succ k ih=>
  intro i f hk g1 g2 h0 h1 h6;have hl:i < b.data.toList.length:=om;have e1:decide (i < b.data.toList.length)=true:=dt;cases q39:bt b.data.toList i == 39 with
  | true=>
   have ht:cQ b.data.toList 39 i=i:=Ad (q:=fun x=>x != 39) hl (by show (!(bt b.data.toList i == 39))=false; rw [q39]; rfl);obtain⟨rfl,rfl⟩:=g1 om;rw [ht];refine ad fun L hL=>?_;refine H3 @tB.eq_1 h0 h1 h6 e1 hl q39 ?_;rfl
  | false=>
   have ht:cQ b.data.toList 39 i=cQ b.data.toList 39 (i + 1):=wU (q:=fun x=>x != 39) hl (by show (!(bt b.data.toList i == 39))=true; rw [q39]; rfl);rw [ht] at g1 g2;refine ad fun L hL=>?_;refine Fy @tB.eq_1 h0 h1 h6 e1 hl q39 ?_;subst hL;exact ih (i + 1) _ om g1 g2 (bm h0) (bm h1) bw
theorem FB {a r e:Nat} (hl:a < b.data.toList.length) (g1:cQ b.data.toList 39 (a + 1) < b.data.toList.length→r=cQ b.data.toList 39 (a + 1) + 1∧e=0) (g2:cQ b.data.toList 39 (a + 1)=b.data.toList.length→r=a∧e=7) (s:PS):Pc ext 323 [.sc (.string b),iN a] (.tup [iN r,iN e]) s:=by
 refine dF (fn:=O0) (r:=4) (r2:=5) (by rfl) (by simp [O0]) (by rfl) (by rfl) ?_;unfold O0;refine Gq ?_;exact N3 hb _ (b.data.toList.length - (a + 1)) (a + 1) _ om g1 g2 bw bw bw
theorem Nt {a p r e:Nat} (hx:cG b.data.toList a=true) (h:bt b.data.toList (a + 1)=123) (ih:RC ext b (.brc (a + 2) a p) r e):RC ext b (.exp a p) r e:=by
 intro s;have hl1:=ce hx;have hl:a < b.data.toList.length:=om;have q123:(bt b.data.toList (a + 1) == 123)=true:=by rw [h]; rfl
 have q40:(bt b.data.toList (a + 1) == 40)=false:=by rw [h]; rfl
 have hc:=KI (ext:=ext) hb hl ih;refine dF (fn:=qq) (r:=6) (r2:=7) (by rfl) (by simp [qq]) (by rfl) (by rfl) ?_;unfold qq;exact ub hl1 hl q123 q40 hc
theorem O7 {a p r e:Nat} (hx:cG b.data.toList a=true) (h:bt b.data.toList (a + 1)=40) (h2:a + 2 < b.data.toList.length) (h3:bt b.data.toList (a + 2)=40) (ih:RC ext b (.ari (a + 3) a 0) r e):RC ext b (.exp a p) r e:=by
 intro s;have hl1:=ce hx;have hl:a < b.data.toList.length:=om;have q123:(bt b.data.toList (a + 1) == 123)=false:=by rw [h]; rfl
 have q40:(bt b.data.toList (a + 1) == 40)=true:=by rw [h]; rfl
 have e2:decide (a + 2 < b.data.toList.length)=true:=decide_eq_true h2;have q2:(bt b.data.toList (a + 2) == 40)=true:=by rw [h3]; rfl
 have hc:=IQ (ext:=ext) hb hl ih;refine dF (fn:=qq) (r:=6) (r2:=7) (by rfl) (by simp [qq]) (by rfl) (by rfl) ?_;unfold qq;exact Az hl1 hl h2 e2 q2 q123 q40 hc
theorem P7 {a p r e:Nat} (hx:cG b.data.toList a=true) (h:bt b.data.toList (a + 1)=40) (h2:a + 2 < b.data.toList.length→bt b.data.toList (a + 2)≠40) (ih:RC ext b (.cmd (a + 2) a 1 true) r e):RC ext b (.exp a p) r e:=by
 intro s;have hl1:=ce hx;have hl:a < b.data.toList.length:=om;have q123:(bt b.data.toList (a + 1) == 123)=false:=by rw [h]; rfl
 have q40:(bt b.data.toList (a + 1) == 40)=true:=by rw [h]; rfl
 have hc:=JM (ext:=ext) hb hl ih;refine dF (fn:=qq) (r:=6) (r2:=7) (by rfl) (by simp [qq]) (by rfl) (by rfl) ?_;unfold qq;cases e2:decide (a + 2 < b.data.toList.length) with
 | true=>
  have hl2:=of_decide_eq_true e2;have q2:(bt b.data.toList (a + 2) == 40)=false:=beq_eq_false_iff_ne.2 (h2 hl2);exact Az hl1 hl hl2 e2 q2 q123 q40 hc
 | false=>exact Wo hl1 hl e2 q123 q40 hc
theorem Si {a p:Nat} (hx:cG b.data.toList a=true) (h:cJ (bt b.data.toList (a + 1))=true):RC ext b (.exp a p) (a + 2) 0:=by
 intro s;have hl1:=ce hx;have hl:a < b.data.toList.length:=om;have n123:bt b.data.toList (a + 1)≠123:=fun hh=>by rw [hh] at h; cases h
 have n40:bt b.data.toList (a + 1)≠40:=fun hh=>by rw [hh] at h; cases h
 have q123:(bt b.data.toList (a + 1) == 123)=false:=beq_eq_false_iff_ne.2 n123;have q40:(bt b.data.toList (a + 1) == 40)=false:=beq_eq_false_iff_ne.2 n40;refine dF (fn:=qq) (r:=6) (r2:=7) (by rfl) (by simp [qq]) (by rfl) (by rfl) ?_;unfold qq;refine Nc hl1 hl q123 q40 @gO h ?_;rfl
theorem Qm {a p:Nat} (hx:cG b.data.toList a=true) (h:bt b.data.toList (a + 1)≠123) (h2:bt b.data.toList (a + 1)≠40) (h3:cJ (bt b.data.toList (a + 1))=false):RC ext b (.exp a p) (eC b.data.toList (a + 1)) 0:=by
 intro s;have hl1:=ce hx;have hl:a < b.data.toList.length:=om;have q123:(bt b.data.toList (a + 1) == 123)=false:=beq_eq_false_iff_ne.2 h;have q40:(bt b.data.toList (a + 1) == 40)=false:=beq_eq_false_iff_ne.2 h2;have hn:=fun s=>wh (ext:=ext) hb (i:=a + 1) om s;refine dF (fn:=qq) (r:=6) (r2:=7) (by rfl) (by simp [qq]) (by rfl) (by rfl) ?_;unfold qq;refine H3 hl1 hl q123 q40 @gO h3 hn ?_;rfl
theorem JE {a p:Nat} (h:bt b.data.toList a=92) (h2:a + 1=b.data.toList.length):RC ext b (.pass a p) a 7:=by
 intro s;have hl:a < b.data.toList.length:=om;have q92:(bt b.data.toList (a) == 92)=true:=by rw [h]; rfl
 have e2:(a + 1 == b.data.toList.length)=true:=by rw [h2]; exact beq_self_eq_true _
 refine dF (fn:=jZ) (r:=6) (r2:=7) (by rfl) (by simp [jZ]) (by rfl) (by rfl) ?_;unfold jZ;refine TJ hl e2 q92 ?_;rfl
theorem NF {a p:Nat} (h:bt b.data.toList a=92) (h2:a + 1 < b.data.toList.length):RC ext b (.pass a p) (a + 2) 0:=by
 intro s;have hl:a < b.data.toList.length:=om;have q92:(bt b.data.toList (a) == 92)=true:=by rw [h]; rfl
 have e2:(a + 1 == b.data.toList.length)=false:=bf;refine dF (fn:=jZ) (r:=6) (r2:=7) (by rfl) (by simp [jZ]) (by rfl) (by rfl) ?_;unfold jZ;refine TJ hl e2 q92 ?_;rfl
theorem RA {a p r e:Nat} (hl:a < b.data.toList.length) (h:bt b.data.toList a=96) (ih:RC ext b (.bq (a + 1) a) r e):RC ext b (.pass a p) r e:=by
 intro s;have q92:(bt b.data.toList (a) == 92)=false:=by rw [h]; rfl
 have q96:(bt b.data.toList (a) == 96)=true:=by rw [h]; rfl
 have hc:=Pd (ext:=ext) hb hl ih;refine dF (fn:=jZ) (r:=6) (r2:=7) (by rfl) (by simp [jZ]) (by rfl) (by rfl) ?_;unfold jZ;exact qN hl q92 q96 hc
theorem OL {a p r e:Nat} (h:cG b.data.toList a=true) (ih:RC ext b (.exp a p) r e):RC ext b (.pass a p) r e:=by
 intro s;have hl1:=ce h;have hl:a < b.data.toList.length:=om;have q92:(bt b.data.toList (a) == 92)=false:=by rw [(yN h)]; rfl
 have q96:(bt b.data.toList (a) == 96)=false:=by rw [(yN h)]; rfl
 have hx0:=fun s=>dw (ext:=ext) hb (i:=a) om s;have ih1:∀s,_:=ih;refine dF (fn:=jZ) (r:=6) (r2:=7) (by rfl) (by simp [jZ]) (by rfl) (by rfl) ?_;unfold jZ;exact lW hl q92 q96 hx0 h ih1
theorem Ru {a:Nat} (hl:a < b.data.toList.length) (h:bt b.data.toList a=39) (h2:cQ b.data.toList 39 (a + 1) < b.data.toList.length):RC ext b (.pass a 0) (cQ b.data.toList 39 (a + 1) + 1) 0:=by
 intro s;have q92:(bt b.data.toList (a) == 92)=false:=by rw [h]; rfl
 have q96:(bt b.data.toList (a) == 96)=false:=by rw [h]; rfl
 have q39:(bt b.data.toList (a) == 39)=true:=by rw [h]; rfl
 have hx0:=fun s=>dw (ext:=ext) hb (i:=a) om s;have nx:cG b.data.toList a=false:=by unfold cG; rw [h]; simp
 have hc:=FB (ext:=ext) hb hl (fun _=>⟨rfl,rfl⟩) (fun hh=>absurd hh om);refine dF (fn:=jZ) (r:=6) (r2:=7) (by rfl) (by simp [jZ]) (by rfl) (by rfl) ?_;unfold jZ;exact uP hl q92 q96 q39 hx0 nx hc
theorem NW {a:Nat} (hl:a < b.data.toList.length) (h:bt b.data.toList a=39) (h2:cQ b.data.toList 39 (a + 1)=b.data.toList.length):RC ext b (.pass a 0) a 7:=by
 intro s;have q92:(bt b.data.toList (a) == 92)=false:=by rw [h]; rfl
 have q96:(bt b.data.toList (a) == 96)=false:=by rw [h]; rfl
 have q39:(bt b.data.toList (a) == 39)=true:=by rw [h]; rfl
 have hx0:=fun s=>dw (ext:=ext) hb (i:=a) om s;have nx:cG b.data.toList a=false:=by unfold cG; rw [h]; simp
 have hc:=FB (ext:=ext) hb hl (fun hh=>absurd h2 om) (fun _=>⟨rfl,rfl⟩);refine dF (fn:=jZ) (r:=6) (r2:=7) (by rfl) (by simp [jZ]) (by rfl) (by rfl) ?_;unfold jZ;exact uP hl q92 q96 q39 hx0 nx hc
theorem SK {a r e:Nat} (hl:a < b.data.toList.length) (h:bt b.data.toList a=34) (ih:RC ext b (.dbl (a + 1) a) r e):RC ext b (.pass a 0) r e:=by
 intro s;have q92:(bt b.data.toList (a) == 92)=false:=by rw [h]; rfl
 have q96:(bt b.data.toList (a) == 96)=false:=by rw [h]; rfl
 have q39:(bt b.data.toList (a) == 39)=false:=by rw [h]; rfl
 have q34:(bt b.data.toList (a) == 34)=true:=by rw [h]; rfl
 have hx0:=fun s=>dw (ext:=ext) hb (i:=a) om s;have nx:cG b.data.toList a=false:=by unfold cG; rw [h]; simp
 have hc:=JD (ext:=ext) hb hl ih;refine dF (fn:=jZ) (r:=6) (r2:=7) (by rfl) (by simp [jZ]) (by rfl) (by rfl) ?_;unfold jZ;exact Az hl q92 q96 q39 q34 hx0 nx hc
theorem MQ {a p:Nat} (hl:a < b.data.toList.length) (h1:bt b.data.toList a≠92) (h2:bt b.data.toList a≠96) (nx:cG b.data.toList a=false) (h4:p=0→bt b.data.toList a≠39∧bt b.data.toList a≠34):RC ext b (.pass a p) (a + 1) 0:=by
 intro s;have q92:(bt b.data.toList a == 92)=false:=beq_eq_false_iff_ne.2 h1;have q96:(bt b.data.toList a == 96)=false:=beq_eq_false_iff_ne.2 h2;have hx0:=fun s=>dw (ext:=ext) hb (i:=a) om s;refine dF (fn:=jZ) (r:=6) (r2:=7) (by rfl) (by simp [jZ]) (by rfl) (by rfl) ?_;unfold jZ;cases qp:p == 0 with
 | true=>
  have h5:=h4 (eq_of_beq qp);have q39:(bt b.data.toList a == 39)=false:=beq_eq_false_iff_ne.2 h5.1;have q34:(bt b.data.toList a == 34)=false:=beq_eq_false_iff_ne.2 h5.2;refine HA hl q92 q96 hx0 nx qp q39 q34 ?_;rfl
 | false=>
  cases q39:bt b.data.toList a == 39 with
  | true=>
   have q34:(bt b.data.toList a == 34)=false:=by rw [eq_of_beq q39]; rfl
   refine HA hl q92 q96 hx0 nx qp q39 q34 ?_;rfl
  | false=>
   cases q34:bt b.data.toList a == 34 with
   | true=>
    refine HA hl q92 q96 hx0 nx qp q39 q34 ?_;rfl
   | false=>
    refine HA hl q92 q96 hx0 nx qp q39 q34 ?_;rfl
theorem qW {t:gH}{r e:Nat} (h:Lx b.data.toList t r e):t.ok b.data.toList→RC ext b t r e:=by
 induction h with
 | p_esc0 h h2=>intro ok; exact JE hb h h2
 | p_esc h h2=>intro ok; exact NF hb h h2
 | p_bq hl h k ih=>intro ok; exact RA hb hl h (ih ⟨om,hl⟩)
 | p_exp h k ih=>intro ok; exact OL hb h (ih h)
 | p_sq hl h h2=>intro ok; exact Ru hb hl h h2
 | p_sq0 hl h h2=>intro ok; exact NW hb hl h h2
 | p_dq hl h k ih=>intro ok; exact SK hb hl h (ih ⟨om,hl⟩)
 | p_one hl h1 h2 h3 h4=>intro ok; exact MQ hb hl h1 h2 h3 h4
 | e_brc h k ih=>intro ok; have hl:=ce ok; exact Nt hb ok h (ih ⟨om,om⟩)
 | e_ari h h2 h3 k ih=>intro ok; have hl:=ce ok; exact O7 hb ok h h2 h3 (ih ⟨om,om⟩)
 | e_cmd h h2 k ih=>intro ok; have hl:=ce ok; exact P7 hb ok h h2 (ih ⟨om,om⟩)
 | e_sp h=>intro ok; exact Si hb ok h
 | e_nm h h2 h3=>intro ok; exact Qm hb ok h h2 h3
 | b_end=>intro ok; exact P5 hb
 | b_q hl h=>intro ok; exact Uo hb hl h
 | b_esc0 h h2=>intro ok; exact J1 hb h h2
 | b_esc h h2 k ih=>intro ok; exact LQ hb h h2 (ih ⟨om,ok.2⟩)
 | b_one hl h h2 k ih=>intro ok; exact NZ hb hl h h2 (ih ⟨om,ok.2⟩)
 | d_end=>intro ok; exact MF hb
 | d_q hl h=>intro ok; exact UQ hb hl h
 | d_err hl h k he ih=>intro ok; exact NG hb hl h (ih hl) he
 | d_on hl h k k2 ih ih2=>intro ok; exact Qp hb hl h (ih hl) (ih2 ⟨(k.bound hl).1,ok.2⟩)
 | r_end=>intro ok; exact P2 hb
 | r_q hl h=>intro ok; exact Tn hb hl h
 | r_bad hl h=>intro ok; exact Ol hb hl h
 | r_err hl h h2 k he ih=>intro ok; exact N6 hb hl h h2 (ih hl) he
 | r_on hl h h2 k k2 ih ih2=>intro ok; exact S5 hb hl h h2 (ih hl) (ih2 ⟨(k.bound hl).1,ok.2⟩)
 | c_end=>intro ok; exact MB hb
 | @c_cmt i a o r e hl h k ih=>intro ok; exact MO hb hl h (ih ⟨kR (q:=fun x=>x != 10) (l:=b.data.toList) (i:=i) om,ok.2⟩)
 | c_join h k ih=>intro ok; have hl:=ij h; exact L6 hb h (ih ⟨om,ok.2⟩)
 | c_q hl h=>intro ok; exact UH hb hl h
 | c_err hl h h2 h3 k he ih=>intro ok; exact O3 hb hl h h2 h3 (ih hl) he
 | c_on hl h h2 h3 k k2 ih ih2=>intro ok; exact Rx hb hl h h2 h3 ((k.bound hl).2 rfl) (ih hl) (ih2 ⟨(k.bound hl).1,ok.2⟩)
 | a_end=>intro ok; exact Ml hb
 | a_q0 h h2=>intro ok; exact Qw hb h h2
 | a_q h h2 h3=>intro ok; exact Tz hb h h2 h3
 | a_bad h h2 h3=>intro ok; exact Mm hb h h2 h3
 | a_err hl h k he ih=>intro ok; exact O4 hb hl h (ih hl) he
 | a_on hl h k k2 ih ih2=>intro ok; exact Sg hb hl h ((k.bound hl).2 rfl) (ih hl) (ih2 ⟨(k.bound hl).1,ok.2⟩)
end
end Go.Proofs.YtokdflgpbfjpcaaGreatDoor
