/- What functions of the program and of the reference compute, on values. No statement is proved here. -/
import Derived.Test.YtokdflgpbfjpcaaGreatDoorTxJ
import Derived.Test.YtokdflgpbfjpcaaGreatDoorTxA
import Derived.Test.YtokdflgpbfjpcaaGreatDoorTxI
set_option linter.all false
namespace Go.Proofs.YtokdflgpbfjpcaaGreatDoor
open Go Go.EvL Go.PE Go.Mir
variable {ext:ar}
def yF (k e:Int):Bool:=!((k == 2 && !vN e) || (k == 6 && !G3 e && !(e == 7)))
theorem IT {x:am}{xs:List am} (hx:xs.length < 1000000000000) {b n0:Nat}{s:PS} (hn:n0≤s.w) (hb:s.h b=⟨x.cells,0,71⟩):∀(k i:Nat) (f:aX),i + k=xs.length→f 1=.ptr b 0 9→f 3=aU 71 am.cells (some xs)→f 4=iN i→
  Er (fun f' s'=>n0≤s'.w∧f' 2=.sc (.bool (((kinds xs).drop i).all (yF x.kind) && (x.kind == 2 && decide (2≤xs.length) || x.kind == 6 && decide (1≤xs.length))))) (LP Tryz.prog Γ ext 1 iF kI f s):=by
 obtain⟨K,p,nm,al,aa,ws,rs,v,is⟩:=x;simp only [am.cells] at hb;intro k
 induction k with
 | zero=>
  intro i f hk h1 h3 h4;have e1:decide (i < xs.length)=false:=df;have ha:((kinds xs).drop i).all (yF K)=true:=by rw [List.drop_eq_nil_of_le (by rw [kinds,List.length_map]; omega)]; rfl
  refine ad fun L hL=>?_;simp only [aU] at h3;cases c1:K == 2 with
  | true=>
   have c2:(K == 6)=false:=by rw [eq_of_beq c1]; rfl
   cases c3:decide (2≤xs.length) with
   | true=>exact jU @iF.eq_1 @kI.eq_1 h1 h3 h4 hb e1 ha c1 c2 c3 tv hn
   | false=>exact jU @iF.eq_1 @kI.eq_1 h1 h3 h4 hb e1 ha c1 c2 c3 tv hn
  | false=>
   cases c2:K == 6 with
   | true=>exact AZ @iF.eq_1 @kI.eq_1 h1 h3 h4 hb e1 ha c1 c2 hn
   | false=>exact AZ @iF.eq_1 @kI.eq_1 h1 h3 h4 hb e1 ha c1 c2 hn
 | succ k ih=>
  intro i f hk h1 h3 h4;have hl:i < xs.length:=om;have e1:decide (i < xs.length)=true:=decide_eq_true hl;have hj:xs[i]?=some xs[i]:=List.getElem?_eq_getElem hl;have hfl:=aJ am.len xs;obtain⟨rr,hk3⟩:=cm am.len hj;have hd:(kinds xs).drop i=xs[i].kind :: (kinds xs).drop (i + 1):=by
   rw [kinds,← List.map_drop,List.drop_eq_getElem_cons hl,List.map_cons,List.map_drop]
  simp only [aU] at h3;simp only [am.cells,List.cons_append,List.nil_append] at hk3;rw [hd,List.all_cons];have hgo:=ih (i + 1);generalize xs[i].kind=e at hk3 ⊢;simp only [yF];simp only [yF] at hgo;refine ad fun L hL=>?_;cases c1:K == 2 with
  | true=>
   have c2:(K == 6)=false:=by rw [eq_of_beq c1]; rfl
   simp only [c1,c2] at hgo ⊢;cases c3:vN e with
   | false=>exact Dg @iF.eq_1 @kI.eq_1 h1 h3 h4 hb e1 hl hfl hk3 @aw @iO c1 c2 c3 tv hn
   | true=>
    refine sa @iF.eq_1 h1 h3 h4 hb e1 hl hfl hk3 @aw @iO c1 c2 c3 ?_;subst hL;exact (hgo _ om (bm h1) (bm h3) bw).mono (fun f' s' h=>by simpa only [Bool.true_and,Bool.false_and,Bool.true_or,Bool.not_true,Bool.not_false,Bool.or_false,Bool.and_false] using h)
  | false=>
   simp only [c1] at hgo ⊢;cases c2:K == 6 with
   | true=>
    simp only [c2] at hgo ⊢;cases c3:G3 e with
    | true=>
     refine sa @iF.eq_1 h1 h3 h4 hb e1 hl hfl hk3 @aw @nb c1 c2 c3 ?_;subst hL;exact (hgo _ om (bm h1) (bm h3) bw).mono (fun f' s' h=>by simpa only [Bool.true_and,Bool.false_and,Bool.true_or,Bool.not_true,Bool.not_false,Bool.or_false,Bool.and_false,Bool.false_or] using h)
    | false=>
     cases c4:e == 7 with
     | false=>exact rO @iF.eq_1 @kI.eq_1 h1 h3 h4 hb e1 hl hfl hk3 @aw @nb @cj c1 c2 c3 c4 tv tv hn
     | true=>
      refine Dg @iF.eq_1 h1 h3 h4 hb e1 hl hfl hk3 @aw @nb @cj c1 c2 c3 c4 ?_;subst hL;exact (hgo _ om (bm h1) (bm h3) bw).mono (fun f' s' h=>by simpa only [Bool.true_and,Bool.false_and,Bool.true_or,Bool.not_true,Bool.not_false,Bool.or_false,Bool.and_false,Bool.false_or] using h)
   | false=>
    simp only [c2] at hgo ⊢;refine jU @iF.eq_1 h1 h3 h4 hb e1 hl hfl hk3 @aw c1 c2 ?_;subst hL;exact (hgo _ om (bm h1) (bm h3) bw).mono (fun f' s' h=>by simpa only [Bool.true_and,Bool.false_and,Bool.true_or,Bool.not_true,Bool.not_false,Bool.or_false,Bool.and_false,Bool.false_or] using h)
theorem Ql {x:am}{lk:Option (List am)} (hk:x.kids=aU 71 am.cells lk) (hx:(lk.getD []).length < 1000000000000) (s:PS):Pc ext 216 [.agg x.cells] (.sc (.bool (fq x.kind (kinds (lk.getD []))))) s:=by
 obtain⟨k,p,nm,al,aa,ws,rs,v,is⟩:=x;simp only at hk;have hlen:=bT (e:=71) (c:=am.cells) lk;have hkl:(kinds (lk.getD [])).length=(lk.getD []).length:=List.length_map _;rw [← hk,← hkl] at hlen;have hcv:aC v=[v]:=by rw [hk]; cases lk<;>rfl
 have hL:∀(lo hi:Nat),lo < 100→hi < 100→∀s,Pc ext 239 [v,iN lo,iN hi] (.sc (.bool (j4 (kinds (lk.getD [])) lo hi))) s:=fun lo hi h1 h2 s=>by
  rw [hk];exact EP hx h1 h2 s
 have hL11:∀s,aH Tryz.prog Γ ext 239 [v,.sc (.int .i64 1),.sc (.int .i64 1)] s=_:=hL 1 1 om om;have hL23:∀s,aH Tryz.prog Γ ext 239 [v,.sc (.int .i64 2),.sc (.int .i64 3)] s=_:=hL 2 3 om om;have hL22:∀s,aH Tryz.prog Γ ext 239 [v,.sc (.int .i64 2),.sc (.int .i64 2)] s=_:=hL 2 2 om om;have hK1:(kinds (lk.getD [])).length=1→∃a:am,v=.lit 71 1 a.cells∧kinds (lk.getD [])=[a.kind]:=fun h=>by
  rw [hkl] at h;cases lk with
  | none=>cases h
  | some l=>
   match l,h with
   | [a],_=>exact⟨a,by rw [hk]; simp only [aU,List.flatMap_cons,List.flatMap_nil,List.append_nil]; rfl,rfl⟩
 have hK2:(kinds (lk.getD [])).length=2→∃a b:am,v=.lit 71 2 (a.cells ++ b.cells)∧kinds (lk.getD [])=[a.kind,b.kind]:=fun h=>by
  rw [hkl] at h;cases lk with
  | none=>cases h
  | some l=>
   match l,h with
   | [a,b],_=>exact⟨a,b,by rw [hk]; simp only [aU,List.flatMap_cons,List.flatMap_nil,List.append_nil]; rfl,rfl⟩
 refine lH S3 2 ?_;unfold S3;simp only [am.cells];cases c1:k == 1 with
 | true=>
  have hB:fq k (kinds (lk.getD []))=((kinds (lk.getD [])).length == 0):=by unfold fq; simp only [c1,Bool.or_false,Bool.false_or,Bool.true_or,Bool.or_true,if_true,Bool.false_eq_true,if_false]
  simp only [hB];exact jB hcv hlen c1
 | false=>
 cases c14:k == 14 with
 | true=>
  have hB:fq k (kinds (lk.getD []))=((kinds (lk.getD [])).length == 0):=by unfold fq; simp only [c1,c14,Bool.or_false,Bool.false_or,Bool.true_or,Bool.or_true,if_true,Bool.false_eq_true,if_false]
  simp only [hB];exact qN hcv hlen c1 c14
 | false=>
 cases c3:k == 3 with
 | true=>
  have hB:fq k (kinds (lk.getD []))=((kinds (lk.getD [])).length == 1 && (vN ((kinds (lk.getD [])).getD 0 0) || (kinds (lk.getD [])).getD 0 0 == 2)):=by unfold fq; simp only [c1,c14,c3,Bool.or_false,Bool.false_or,Bool.true_or,Bool.or_true,if_true,Bool.false_eq_true,if_false]
  simp only [hB];cases d0:(kinds (lk.getD [])).length == 1 with
  | false=>
   exact lW hcv hlen d0 c1 c14 c3
  | true=>
   obtain⟨a,hv,hq⟩:=hK1 (of_decide_eq_true d0);obtain⟨ak,a1,a2,a3,a4,a5,a6,a7,a8⟩:=a;simp only [am.cells,List.cons_append,List.nil_append] at hv;rw [hq];subst hv;have z1:(((1:Nat):Int) == 1)=true:=rfl;have np1:l8 (.sc (.int .i64 1))=some 1:=rfl;simp only [List.getD_cons_zero,List.getD_cons_succ];cases d1:vN ak with
   | true=>
    cases d2:ak == 2 with
    | true=>
     exact sB hcv z1 np1 @Nat.zero_mul @Nat.one_mul @aw @iO @nb @ji @cA d1 d2 c1 c14 c3 tv
    | false=>
     exact sB hcv z1 np1 @Nat.zero_mul @Nat.one_mul @aw @iO @nb @ji @cA d1 d2 c1 c14 c3 tv
   | false=>
    cases d2:ak == 2 with
    | true=>
     exact sB hcv z1 np1 @Nat.zero_mul @Nat.one_mul @aw @iO @nb @ji @cA d1 d2 c1 c14 c3 tv
    | false=>
     exact sB hcv z1 np1 @Nat.zero_mul @Nat.one_mul @aw @iO @nb @ji @cA d1 d2 c1 c14 c3 tv
 | false=>
 cases c4:k == 4 with
 | true=>
  have hB:fq k (kinds (lk.getD []))=((kinds (lk.getD [])).length == 2 && G3 ((kinds (lk.getD [])).getD 0 0) && wM ((kinds (lk.getD [])).getD 1 0)):=by unfold fq; simp only [c1,c14,c3,c4,Bool.or_false,Bool.false_or,Bool.true_or,Bool.or_true,if_true,Bool.false_eq_true,if_false]
  simp only [hB];cases d0:(kinds (lk.getD [])).length == 2 with
  | false=>
   exact uP hcv hlen d0 c1 c14 c3 c4
  | true=>
   obtain⟨a,b,hv,hq⟩:=hK2 (of_decide_eq_true d0);obtain⟨ak,a1,a2,a3,a4,a5,a6,a7,a8⟩:=a;obtain⟨bk,b1,b2,b3,b4,b5,b6,b7,b8⟩:=b;simp only [am.cells,List.cons_append,List.nil_append] at hv;rw [hq];subst hv;have z1:(((2:Nat):Int) == 2)=true:=rfl;have np1:l8 (.sc (.int .i64 1))=some 1:=rfl;simp only [List.getD_cons_zero,List.getD_cons_succ];cases d1:G3 ak with
   | true=>
    cases d2:wM bk with
    | true=>
     exact sB hcv z1 np1 @Nat.zero_mul @Nat.one_mul @aw @iO @nb @ji @cA d1 d2 c1 c14 c3 c4
    | false=>
     exact sB hcv z1 np1 @Nat.zero_mul @Nat.one_mul @aw @iO @nb @ji @cA d1 d2 c1 c14 c3 c4
   | false=>
    cases d2:wM bk with
    | true=>
     exact sB hcv z1 np1 @Nat.zero_mul @Nat.one_mul @aw @iO @nb @ji @cA d1 d2 c1 c14 c3 c4
    | false=>
     exact sB hcv z1 np1 @Nat.zero_mul @Nat.one_mul @aw @iO @nb @ji @cA d1 d2 c1 c14 c3 c4
 | false=>
 cases c5:k == 5 with
 | true=>
  have hB:fq k (kinds (lk.getD []))=((kinds (lk.getD [])).length == 2 && G3 ((kinds (lk.getD [])).getD 0 0) && wM ((kinds (lk.getD [])).getD 1 0)):=by unfold fq; simp only [c1,c14,c3,c4,c5,Bool.or_false,Bool.false_or,Bool.true_or,Bool.or_true,if_true,Bool.false_eq_true,if_false]
  simp only [hB];cases d0:(kinds (lk.getD [])).length == 2 with
  | false=>
   exact Az hcv hlen d0 c1 c14 c3 c4 c5
  | true=>
   obtain⟨a,b,hv,hq⟩:=hK2 (of_decide_eq_true d0);obtain⟨ak,a1,a2,a3,a4,a5,a6,a7,a8⟩:=a;obtain⟨bk,b1,b2,b3,b4,b5,b6,b7,b8⟩:=b;simp only [am.cells,List.cons_append,List.nil_append] at hv;rw [hq];subst hv;have z1:(((2:Nat):Int) == 2)=true:=rfl;have np1:l8 (.sc (.int .i64 1))=some 1:=rfl;simp only [List.getD_cons_zero,List.getD_cons_succ];cases d1:G3 ak with
   | true=>
    cases d2:wM bk with
    | true=>
     exact my hcv z1 np1 @Nat.zero_mul @Nat.one_mul @aw @iO @nb @ji @cA d1 d2 c1 c14 c3 c4 c5 tv tv
    | false=>
     exact my hcv z1 np1 @Nat.zero_mul @Nat.one_mul @aw @iO @nb @ji @cA d1 d2 c1 c14 c3 c4 c5 tv tv
   | false=>
    cases d2:wM bk with
    | true=>
     exact my hcv z1 np1 @Nat.zero_mul @Nat.one_mul @aw @iO @nb @ji @cA d1 d2 c1 c14 c3 c4 c5 tv tv
    | false=>
     exact my hcv z1 np1 @Nat.zero_mul @Nat.one_mul @aw @iO @nb @ji @cA d1 d2 c1 c14 c3 c4 c5 tv tv
 | false=>
 cases c7:k == 7 with
 | true=>
  have hB:fq k (kinds (lk.getD []))=((kinds (lk.getD [])).length == 1 && G3 ((kinds (lk.getD [])).getD 0 0)):=by unfold fq; simp only [c1,c14,c3,c4,c5,c7,Bool.or_false,Bool.false_or,Bool.true_or,Bool.or_true,if_true,Bool.false_eq_true,if_false]
  simp only [hB];cases d0:(kinds (lk.getD [])).length == 1 with
  | false=>
   exact sL hcv hlen d0 c1 c14 c3 c4 c5 c7
  | true=>
   obtain⟨a,hv,hq⟩:=hK1 (of_decide_eq_true d0);obtain⟨ak,a1,a2,a3,a4,a5,a6,a7,a8⟩:=a;simp only [am.cells,List.cons_append,List.nil_append] at hv;rw [hq];subst hv;have z1:(((1:Nat):Int) == 1)=true:=rfl;have np1:l8 (.sc (.int .i64 1))=some 1:=rfl;simp only [List.getD_cons_zero,List.getD_cons_succ];cases d1:G3 ak with
   | true=>
    exact my hcv z1 np1 @Nat.zero_mul @Nat.one_mul @aw @iO @nb @ji @cA d1 c1 c14 c3 c4 c5 c7 tv tv
   | false=>
    exact my hcv z1 np1 @Nat.zero_mul @Nat.one_mul @aw @iO @nb @ji @cA d1 c1 c14 c3 c4 c5 c7 tv tv
 | false=>
 cases c8:k == 8 with
 | true=>
  have hB:fq k (kinds (lk.getD []))=j4 (kinds (lk.getD [])) 1 1:=by unfold fq; simp only [c1,c14,c3,c4,c5,c7,c8,Bool.or_false,Bool.false_or,Bool.true_or,Bool.or_true,if_true,Bool.false_eq_true,if_false]
  simp only [hB];exact sL hcv hL11 c1 c14 c3 c4 c5 c7 c8
 | false=>
 cases c9:k == 9 with
 | true=>
  have hB:fq k (kinds (lk.getD []))=j4 (kinds (lk.getD [])) 1 1:=by unfold fq; simp only [c1,c14,c3,c4,c5,c7,c8,c9,Bool.or_false,Bool.false_or,Bool.true_or,Bool.or_true,if_true,Bool.false_eq_true,if_false]
  simp only [hB];exact ue hcv hL11 c1 c14 c3 c4 c5 c7 c8 c9
 | false=>
 cases c13:k == 13 with
 | true=>
  have hB:fq k (kinds (lk.getD []))=j4 (kinds (lk.getD [])) 1 1:=by unfold fq; simp only [c1,c14,c3,c4,c5,c7,c8,c9,c13,Bool.or_false,Bool.false_or,Bool.true_or,Bool.or_true,if_true,Bool.false_eq_true,if_false]
  simp only [hB];exact qj hcv hL11 c1 c14 c3 c4 c5 c7 c8 c9 c13 tv
 | false=>
 cases c10:k == 10 with
 | true=>
  have hB:fq k (kinds (lk.getD []))=j4 (kinds (lk.getD [])) 2 3:=by unfold fq; simp only [c1,c14,c3,c4,c5,c7,c8,c9,c13,c10,Bool.or_false,Bool.false_or,Bool.true_or,Bool.or_true,if_true,Bool.false_eq_true,if_false]
  simp only [hB];exact qj hcv hL23 c1 c14 c3 c4 c5 c7 c8 c9 c13 c10
 | false=>
 cases c11:k == 11 with
 | true=>
  have hB:fq k (kinds (lk.getD []))=j4 (kinds (lk.getD [])) 2 2:=by unfold fq; simp only [c1,c14,c3,c4,c5,c7,c8,c9,c13,c10,c11,Bool.or_false,Bool.false_or,Bool.true_or,Bool.or_true,if_true,Bool.false_eq_true,if_false]
  simp only [hB];exact BR hcv hL22 c1 c14 c3 c4 c5 c7 c8 c9 c13 c10 c11 tv
 | false=>
 cases c12:k == 12 with
 | true=>
  have hB:fq k (kinds (lk.getD []))=j4 (kinds (lk.getD [])) 2 2:=by unfold fq; simp only [c1,c14,c3,c4,c5,c7,c8,c9,c13,c10,c11,c12,Bool.or_false,Bool.false_or,Bool.true_or,Bool.or_true,if_true,Bool.false_eq_true,if_false]
  simp only [hB];exact BR hcv hL22 c1 c14 c3 c4 c5 c7 c8 c9 c13 c10 c11 c12
 | false=>
 cases c15:k == 15 with
 | true=>
  have hB:fq k (kinds (lk.getD []))=((kinds (lk.getD [])).length == 1 && od ((kinds (lk.getD [])).getD 0 0)):=by unfold fq; simp only [c1,c14,c3,c4,c5,c7,c8,c9,c13,c10,c11,c12,c15,Bool.or_false,Bool.false_or,Bool.true_or,Bool.or_true,if_true,Bool.false_eq_true,if_false]
  simp only [hB];cases d0:(kinds (lk.getD [])).length == 1 with
  | false=>
   exact sB hcv hlen d0 c1 c14 c3 c4 c5 c7 c8 c9 c13 c10 c11 c12 c15
  | true=>
   obtain⟨a,hv,hq⟩:=hK1 (of_decide_eq_true d0);obtain⟨ak,a1,a2,a3,a4,a5,a6,a7,a8⟩:=a;simp only [am.cells,List.cons_append,List.nil_append] at hv;rw [hq];subst hv;have z1:(((1:Nat):Int) == 1)=true:=rfl;have np1:l8 (.sc (.int .i64 1))=some 1:=rfl;simp only [List.getD_cons_zero,List.getD_cons_succ];cases d1:od ak with
   | true=>
    exact Ib hcv z1 np1 @Nat.zero_mul @Nat.one_mul @aw @iO @nb @ji @cA d1 c1 c14 c3 c4 c5 c7 c8 c9 c13 c10 c11 c12 c15 tv tv
   | false=>
    exact Ib hcv z1 np1 @Nat.zero_mul @Nat.one_mul @aw @iO @nb @ji @cA d1 c1 c14 c3 c4 c5 c7 c8 c9 c13 c10 c11 c12 c15 tv tv
 | false=>
 have hB:fq k (kinds (lk.getD []))=((kinds (lk.getD [])).all (yF k) && (k == 2 && decide (2≤(kinds (lk.getD [])).length) || k == 6 && decide (1≤(kinds (lk.getD [])).length))):=by
  unfold fq;simp only [c1,c14,c3,c4,c5,c7,c8,c9,c13,c10,c11,c12,c15,Bool.or_false,Bool.false_or,Bool.true_or,Bool.or_true,if_true,Bool.false_eq_true,if_false];have hst:yF k=fun e=>!((k == 2 && !vN e) || (k == 6 && !G3 e && !(e == 7))):=rfl;cases d2:k == 2 with
  | true=>
   have d6:(k == 6)=false:=by rw [eq_of_beq d2]; rfl
   simp only [hst,d2,d6,if_true,Bool.true_and,Bool.false_and,Bool.or_false,Bool.not_not]
   all_goals rfl
  | false=>
   cases d6:k == 6 with
   | true=>
    simp only [hst,d2,d6,if_true,Bool.true_and,Bool.false_and,Bool.or_false,Bool.false_or,Bool.not_and,Bool.not_not,Bool.false_eq_true,if_false]
   | false=>simp only [hst,d2,d6,if_true,Bool.true_and,Bool.false_and,Bool.or_false,Bool.and_false,Bool.false_eq_true,if_false]
 simp only [hB];cases lk with
 | none=>
  have z0:decide ((0:Int) < 0)=false:=rfl;have z1:decide (2≤(0:Int))=false:=rfl;have z2:decide (1≤(0:Int))=false:=rfl;simp only [aU] at hk;subst hk;refine sa hcv c1 c14 c3 c4 c5 c7 c8 c9 c13 c10 c11 c12 c15 ?_;refine ad fun L hL=>?_;cases d2:k == 2 with
  | true=>
   have d6:(k == 6)=false:=by rw [eq_of_beq d2]; rfl
   exact qj @iF.eq_1 @kI.eq_1 z0 z1 z2 d2 d6 @Option.getD_none.{0} @kinds.eq_1 @List.map_nil.{0,0} decide_false tv
  | false=>
   cases d6:k == 6 with
   | true=>exact qj @iF.eq_1 @kI.eq_1 z0 z1 z2 d2 d6 @Option.getD_none.{0} @kinds.eq_1 @List.map_nil.{0,0} decide_false tv
   | false=>exact qj @iF.eq_1 @kI.eq_1 z0 z1 z2 d2 d6 @Option.getD_none.{0} @kinds.eq_1 @List.map_nil.{0,0} decide_false tv
 | some xs=>
  simp only [aU] at hk;subst hk;refine sa hcv c1 c14 c3 c4 c5 c7 c8 c9 c13 c10 c11 c12 c15 ?_;rw [hkl];exact IT (x:=⟨k,p,nm,al,aa,ws,rs,.lit 71 xs.length (xs.flatMap am.cells),is⟩) (xs:=xs) hx (b:=s.n) (n0:=s.n) bw (bm @am.cells.eq_1) xs.length 0 _ (Nat.zero_add _) bw bw bw
end Go.Proofs.YtokdflgpbfjpcaaGreatDoor
namespace Go.PE
open Go Go.EvL
section
variable {P:Program}{Γ:Nat→Option gk}{ext:ar}
theorem GA {g r r2:Nat}{fn:gk}{args:List PV}{s:PS}{u v:Value} (hg:Γ g=some fn) (hl:args.length≤fn.nt) (hr:fn.res=[.tmp r,.tmp r2]) (hk:fn.keep=false) (h:Er (fun f' s'=>s.n≤s'.w∧f' r=.sc u∧f' r2=.sc v) (aT P Γ ext fn.body (bC args 0) ⟨s.h,s.n,s.n⟩)):aH P Γ ext g args s=some (.tup [.sc u,.sc v],s):=by
 refine iQ hg hl h ?_;rintro f s' ⟨hw,h,h2⟩;exact gx (vs:=[.sc u,.sc v]) hk (by rw [hr]; simp only [cV,Option.map_some,h,h2]) hw rfl
end
end Go.PE
namespace Go.Proofs.YtokdflgpbfjpcaaGreatDoor
open Go Go.EvL Go.PE Go.Mir
variable {ext:ar}
def Hl (l:List au):Bool:=match l with
 | [p]=>p.kind == 1
 | _=>false
def DT (l:List au):ByteArray:=match l with
 | [p]=>if p.kind == 1 then p.text else ⟨#[]⟩
 | _=>⟨#[]⟩
def Dq (l:List au):Bool:=match l with
 | p :: _=>p.kind == 1 && decide (0 < Ro p.text.data.toList)
 | _=>false
def i3 (l:List au):Bool:=!(Hl l && lY (DT l).data.toList || Dq l)
theorem Uh {y:Option (List au)} (u:Value) (s:PS):Pc ext 243 [.agg [.sc u,aU 155 au.cells y]] (.tup [.sc (.string (DT (y.getD []))),.sc (.bool (Hl (y.getD [])))]) s:=by
 have hc:aC (aU 155 au.cells y)=[aU 155 au.cells y]:=by cases y<;>rfl
 refine GA (fn:=Oa) (r:=2) (r2:=3) (by rfl) (by simp [Oa]) (by rfl) (by rfl) ?_;unfold Oa
 match y,hc with
 | none,hc=>
  have z0:((0:Int) == 1)=false:=rfl;simp only [aU] at hc ⊢;refine vp hc z0 ?_;exact⟨rfl,rfl⟩
 | some [],hc=>
  have z0:(((0:Nat):Int) == 1)=false:=rfl;simp only [aU,List.flatMap_nil] at hc ⊢;refine vp hc z0 ?_;exact⟨rfl,rfl⟩
 | some (p :: q :: r),hc=>
  have z0:(r.length + 1 + 1 == 1)=false:=by simp
  simp only [aU] at hc ⊢;refine vp hc z0 ?_;exact⟨rfl,rfl⟩
 | some [p],hc=>
  obtain⟨k,t,o,c,v⟩:=p;have z0:(((1:Nat):Int) == 1)=true:=rfl;simp only [aU,List.flatMap_cons,List.flatMap_nil,List.append_nil,au.cells] at hc ⊢;simp only [Option.getD_some,Hl,DT];cases c0:k == 1 with
  | false=>exact ub hc z0 c0 @Nat.zero_mul @aw
  | true=>exact ub hc z0 c0 @Nat.zero_mul @aw
theorem TZ {y:Option (List au)} (hy:(y.getD []).length < 1000000000000) (ht:∀p∈y.getD [],p.text.data.toList.length < 1000000000000) (u:Value) (s:PS):Pc ext 244 [.agg [.sc u,aU 155 au.cells y]] (.sc (.bool (Dq (y.getD [])))) s:=by
 have hc:aC (aU 155 au.cells y)=[aU 155 au.cells y]:=by cases y<;>rfl
 refine lH S0 2 ?_;unfold S0
 match y,hc,hy,ht with
 | none,hc,hy,ht=>
  have z0:decide ((0:Int) < 0)=false:=rfl;simp only [aU] at hc ⊢;refine vp hc z0 ?_
  first | rfl | exact⟨Nat.le_refl _,rfl⟩
 | some [],hc,hy,ht=>
  have z0:decide ((0:Int) < ((0:Nat):Int))=false:=rfl;simp only [aU,List.flatMap_nil] at hc ⊢;refine vp hc z0 ?_
  first | rfl | exact⟨Nat.le_refl _,rfl⟩
 | some (p :: r),hc,hy,ht=>
  obtain⟨k,t,o,c,v⟩:=p;have hA:=fun s=>Tp (ext:=ext) (ht _ (List.mem_cons_self ..)) s;have hf:=aJ au.len r;have z0:decide (0 < r.length + 1)=true:=decide_eq_true (Nat.succ_pos _);have hl0 : 0 < r.length + 1:=Nat.succ_pos _;have q5:(r.length * 5 + 1 + 1 + 1 + 1 + 1=(r.length + 1) * 5)=True:=eq_true om;simp only [aU,List.flatMap_cons,au.cells,List.cons_append,List.nil_append] at hc ⊢;simp only [Option.getD_some,Dq];cases c0:k == 1 with
  | false=>exact Az hc z0 hl0 hf q5 c0 @Nat.zero_mul @aw
  | true=>exact sL hc z0 hl0 hf q5 c0 @Nat.zero_mul @aw hA
def oS (l:List ay) (q:ay→Bool):Bool:=match l with
 | []=>true
 | w :: _=>q w
def pX (okV:PV→Bool) (pv:PV→List au) (x:am) (la:List aB) (lw:List ay) (nr ni:Nat):Bool:=
 (la.all fun a=>gK a.name.data.toList && okV a.parts) && (oS lw (fun w=>i3 (pv w.parts)) && (decide (0 < la.length + lw.length + nr) && x.name.data.toList.isEmpty && !x.all && (ni == 0)))
theorem ND {x:am}{la:List aB}{okV:PV→Bool}{R:Bool} (hx:la.length < 1000000000000) {b n0:Nat}{s:PS} (hn:n0≤s.w) (hb:s.h b=⟨x.cells,0,71⟩) (ha:x.assigns=aU 104 aB.cells (some la))
  (hv:∀a∈la,∀s,Pc ext 242 [a.parts] (.sc (.int .i64 (if okV a.parts then 0 else 1))) s) (hc:∀a∈la,a.name.data.toList.length < 1000000000000∧aC a.parts=[a.parts])
  (hR:∀f,f 1=.ptr b 0 9→Er (fun f' s'=>n0≤s'.w∧f' 2=.sc (.bool R)) (aT Tryz.prog Γ ext wJ f s)):∀(k i:Nat) (f:aX),i + k=la.length→f 1=.ptr b 0 9→f 3=iN i→
  Er (fun f' s'=>n0≤s'.w∧f' 2=.sc (.bool (((la.drop i).all fun a=>gK a.name.data.toList && okV a.parts) && R))) (LP Tryz.prog Γ ext 0 ol wJ f s):=by
 obtain⟨K,p,nm,al,aa,ws,rs,v,is⟩:=x;simp only at ha;simp only [am.cells] at hb;subst ha;intro k
 induction k with
 | zero=>
  intro i f hk h1 h3;have e1:decide (i < la.length)=false:=df;rw [List.drop_eq_nil_of_le om,List.all_nil,Bool.true_and];have hgo:=hR;refine ad fun L hL=>?_;refine Ej @ol.eq_1 h1 h3 hb @bU e1 ?_;exact hgo _ (bm h1)
 | succ k ih=>
  intro i f hk h1 h3;have hl:i < la.length:=om;have e1:decide (i < la.length)=true:=decide_eq_true hl;have hj:la[i]?=some la[i]:=List.getElem?_eq_getElem hl;have hfl:=aJ aB.len la;obtain⟨rr,hk3⟩:=cm aB.len hj;have hv1:=hv _ (List.getElem_mem hl);obtain⟨hc1,hc2⟩:=hc _ (List.getElem_mem hl);have hnm:=fun s=>rL (ext:=ext) (b:=la[i].name) om s;rw [List.drop_eq_getElem_cons hl,List.all_cons];have hgo:=ih (i + 1);simp only [aB.cells,List.cons_append,List.nil_append] at hk3;have z0:((0:Int) == 0)=true:=rfl;have z1:((1:Int) == 0)=false:=rfl;refine ad fun L hL=>?_;cases c1:gK la[i].name.data.toList with
  | false=>exact jU @ol.eq_1 h1 h3 hb @bU e1 hl hfl hk3 @aw hnm c1 hn
  | true=>
  cases c2:okV la[i].parts with
  | false=>
   rw [c2] at hv1;simp only [Bool.false_eq_true,if_false] at hv1;exact Dg @ol.eq_1 h1 h3 hb @bU e1 hl hfl hk3 @aw hnm c1 hc2 hv1 @cj z1 hn
  | true=>
   rw [c2] at hv1;simp only [if_true] at hv1;refine Dg @ol.eq_1 h1 h3 hb @bU e1 hl hfl hk3 @aw hnm c1 hc2 hv1 @cj z0 ?_;subst hL;exact hgo _ om (bm h1) bw
def Qd:bj:=(sr [ob 56 (.faddr 4 (tp 1)),ob 57 (.load 65 false 1 (tp 56)),ob 58 (.len false (tp 57)),ob 59 (.faddr 5 (tp 1)),ob 60 (.load 66 false 1 (tp 59)),ob 61 (.len false (tp 60)),ob 62 (bn .add 3 58 61),ob 63 (.faddr 6 (tp 1)),ob 64 (.load 67 false 1 (tp 63)),ob 65 (.len false (tp 64)),ob 66 (bn .add 3 62 65),ob 67 (bi .gtr 66 0),mt 68 67,og 68 true 69 (.faddr 2 (tp 1)),og 68 true 70 (.load 9 false 1 (tp 69)),og 68 true 71 (.bin .eql 9 (tp 70) (ks #[])),ob 72 (pk 68 71),mt 73 72,og 73 true 74 (.faddr 3 (tp 1)),og 73 true 75 (.load 4 false 1 (tp 74)),og 73 true 76 (.un .not (tp 75)),ob 77 (pk 73 76),mt 78 77,og 78 true 79 (.faddr 8 (tp 1)),og 78 true 80 (.load 69 false 1 (tp 79)),og 78 true 81 (.len false (tp 80)),og 78 true 82 (bi .eql 81 0),ob 83 (pk 78 82),mt 2 83]
 .ret)
theorem Od:wJ=(.seq (tO [ob 32 (.faddr 5 (tp 1)),ob 33 (.load 66 false 1 (tp 32)),ob 34 (.len false (tp 33)),ob 35 (bi .gtr 34 0)] 35
 (sr [ob 37 (.faddr 5 (tp 1)),ob 38 (.load 66 false 1 (tp 37)),ob 39 (.iaddr 2 (tp 38) (ki 0)),ob 40 (.load 102 true 2 (tp 39)),ob 41 (cl 243 [(tp 40)]),mt 36 41,ob 42 (.ext (tp 36) 0),ob 43 (.ext (tp 36) 1),mt 4 42,mt 5 43]
 (tO [mt 44 5,mt 45 44,gt 45 true 46 4,og 45 true 47 (cl 112 [(tp 46)]),ob 48 (pk 45 47),mt 49 48,og 49 false 50 (.faddr 5 (tp 1)),og 49 false 51 (.load 66 false 1 (tp 50)),og 49 false 52 (.iaddr 2 (tp 51) (ki 0)),og 49 false 53 (.load 102 true 2 (tp 52)),og 49 false 54 (cl 244 [(tp 53)]),ob 55 (po 49 54)] 55
 (sr [mk 2 (.bool false)]
 .ret)
 .skip))
 .skip) Qd):=rfl
theorem Gc {k p:Int}{nm:ByteArray}{al:Bool}{aa ws rs v is:PV}{na nw nr ni:Nat}{lw:List ay}{y:Option (List au)} (hna:na < 1000000000000) (hnr:nr < 1000000000000) {b n0:Nat}{s:PS} (hn:n0≤s.w) (hb:s.h b=⟨[.sc (.int .i64 k),.sc (.int .i64 p),.sc (.string nm),.sc (.bool al),aa,ws,rs,v,is],0,71⟩)
  (ha:gB false aa=some (iN na)) (hr:gB false rs=some (iN nr)) (hi:gB false is=some (iN ni)) (hw:(nw=0∧gB false ws=some (.sc (.int .i64 0))∧lw=[])∨∃w r,lw=w :: r∧nw=lw.length∧ws=.lit 102 lw.length (lw.flatMap ay.cells)∧w.parts=aU 155 au.cells y∧(y.getD []).length < 1000000000000∧∀p∈y.getD [],p.text.data.toList.length < 1000000000000) (hnw:nw < 1000000000000) (f:aX) (h1:f 1=.ptr b 0 9) :
  Er (fun f' s'=>n0≤s'.w∧f' 2=.sc (.bool (oS lw (fun _=>i3 (y.getD [])) && (decide (0 < na + nw + nr) && nm.data.toList.isEmpty && !al && (ni == 0))))) (aT Tryz.prog Γ ext wJ f s):=by
 have fin:∀{Q:Bool}{f:aX},f 1=.ptr b 0 9→(gB false ws=some (iN nw))→Q=(decide (0 < na + nw + nr) && nm.data.toList.isEmpty && !al && (ni == 0))→Er (fun f' s'=>n0≤s'.w∧f' 2=.sc (.bool Q)) (aT Tryz.prog Γ ext Qd f s):=by
  intro Q f h1 hw hQ;subst hQ;unfold Qd;cases c1:decide (0 < na + nw + nr) with
  | false=>exact Ej h1 hb ha hr hw c1 hn
  | true=>
  cases c2:nm.data.toList.isEmpty with
  | false=>exact Cc h1 hb ha hr hw c1 @aV c2 hn
  | true=>
  cases al with
  | true=>exact Cc h1 hb ha hr hw c1 @aV c2 hn
  | false=>exact DV h1 hb ha hr hi hw c1 @aV c2 hn
 rw [Od];rcases hw with ⟨rfl,hw,rfl⟩ | ⟨w,r,rfl,rfl,rfl,hy,hy1,hy2⟩
 ·have z0:decide ((0:Int) < 0)=false:=rfl;refine CJ h1 hb hw z0 ?_;refine fin (bm h1) hw ?_;simp only [oS,Bool.true_and,Nat.add_zero]
 ·obtain⟨u,q⟩:=w;simp only at hy;subst hy;have hcq:aC (aU 155 au.cells y)=[aU 155 au.cells y]:=by cases y<;>rfl
  have hL:=fun s=>Uh (ext:=ext) (y:=y) (.int .i64 u) s;have hA:=fun s=>TZ (ext:=ext) hy1 hy2 (.int .i64 u) s;have hR:=fun s=>vZ (ext:=ext) (b:=DT (y.getD [])) s;have z0:decide (0 < r.length + 1)=true:=decide_eq_true (Nat.succ_pos _);have hl0 : 0 < r.length + 1:=Nat.succ_pos _;have q2:(r.length * 2 + 1 + 1=(r.length + 1) * 2)=True:=eq_true om;have hf:=aJ ay.len r;have hfin:=fun f h=>fin (f:=f) (Q:=(decide (0 < na + (r.length + 1) + nr) && nm.data.toList.isEmpty && !al && (ni == 0))) h rfl rfl;simp only [List.flatMap_cons,List.length_cons,ay.cells,List.cons_append,List.nil_append] at hb hfin ⊢;simp only [oS,i3];generalize aU 155 au.cells y=q at *;cases c1:Hl (y.getD []) with
  | true=>
   rw [c1] at hL;cases c2:lY (DT (y.getD [])).data.toList with
   | true=>
    rw [c2] at hR;exact jU h1 hb z0 hl0 hf q2 @Nat.zero_mul @aw hcq hL hR tv hn
   | false=>
    rw [c2] at hR;cases c3:Dq (y.getD []) with
    | true=>
     rw [c3] at hA;exact jU h1 hb z0 hl0 hf q2 @Nat.zero_mul @aw hcq hL hR hA hn
    | false=>
     rw [c3] at hA;refine jU h1 hb z0 hl0 hf q2 @Nat.zero_mul @aw hcq hL hR hA ?_;exact hfin _ (bm h1)
  | false=>
   rw [c1] at hL;cases c3:Dq (y.getD []) with
   | true=>
    rw [c3] at hA;exact jU h1 hb z0 hl0 hf q2 @Nat.zero_mul @aw hcq hL hA tv hn
   | false=>
    rw [c3] at hA;refine jU h1 hb z0 hl0 hf q2 @Nat.zero_mul @aw hcq hL hA tv ?_;exact hfin _ (bm h1)
def KC (k:Int) (nm:List UInt8) (al:Bool) (na nw nr ni:Nat):Bool:=
 !(decide (0 < na) || (decide (0 < nr) && !od k) || (decide (0 < ni) && !(k == 14))) && (!((k == 13 || k == 15) == nm.isEmpty) && (!((k == 13 || k == 15) && !gK nm) &&
  (if k == 13 then !al || nw == 0 else if k == 14 then !al && nw == 1 else !al && nw == 0)))
set_option maxHeartbeats 2000000 in
theorem cF:(true == false)=false:=rfl
theorem cD:(false == true)=false:=rfl
set_option maxHeartbeats 2000000 in
theorem IW {k p:Int}{nm:ByteArray}{al:Bool}{aa ws rs v is:PV}{na nw nr ni:Nat}{kb wb rb ib sb:Bool} (hnm:nm.data.toList.length < 1000000000000) (hna:gB false aa=some (iN na)) (hnw:gB false ws=some (iN nw)) (hnr:gB false rs=some (iN nr)) (hni:gB false is=some (iN ni))
  (cas:aC aa=[aa]) (cws:aC ws=[ws]) (crs:aC rs=[rs]) (cis:aC is=[is])
  (h126:∀s,Pc ext 216 [.agg [.sc (.int .i64 k),.sc (.int .i64 p),.sc (.string nm),.sc (.bool al),aa,ws,rs,v,is]] (.sc (.bool kb)) s) (h127:∀s,Pc ext 217 [ws] (.sc (.bool wb)) s) (h128:∀s,Pc ext 218 [rs] (.sc (.bool rb)) s)
  (h129:∀s,Pc ext 219 [is] (.sc (.bool ib)) s) (h130:k=1→∀s,Pc ext 220 [.agg [.sc (.int .i64 k),.sc (.int .i64 p),.sc (.string nm),.sc (.bool al),aa,ws,rs,v,is]] (.sc (.bool sb)) s) (s:PS) :
  Pc ext 181 [.agg [.sc (.int .i64 k),.sc (.int .i64 p),.sc (.string nm),.sc (.bool al),aa,ws,rs,v,is]] (.sc (.bool (kb && (wb && (rb && (ib && if k == 1 then sb else KC k nm.data.toList al na nw nr ni)))))) s:=by
 have hbn:=fun x y a b=>g9 (P:=Tryz.prog) (t:=4) Tryz.underlying4 x y a b;have hN:=fun s=>rL (ext:=ext) (b:=nm) om s;refine lH RQ 2 ?_;unfold RQ KC;cases c1:kb with
 | false=>
  exact sB h126 hna hnw hnr hni cas cws crs cis @aV @cj hbn c1 @cF @cD tv
 | true=>
  cases c2:wb with
  | false=>
   exact my h126 h127 hna hnw hnr hni cas cws crs cis @aV @cj hbn c1 c2 @cF @cD tv tv
  | true=>
   cases c3:rb with
   | false=>
    exact my h126 h127 h128 hna hnw hnr hni cas cws crs cis @aV @cj hbn c1 c2 c3 @cF @cD
   | true=>
    cases c4:ib with
    | false=>
     exact Cm h126 h127 h128 h129 hna hnw hnr hni cas cws crs cis @aV @cj hbn c1 c2 c3 c4 @cF @cD tv
    | true=>
     cases c5:k == 1 with
     | false=>
      cases c6:decide (0 < na) with
      | false=>
       have c6p:=of_decide_eq_false c6;cases c7:decide (0 < nr) with
       | false=>
        have c7p:=of_decide_eq_false c7;cases c8:decide (0 < ni) with
        | false=>
         have c8p:=of_decide_eq_false c8;cases c9:k == 13 with
         | false=>
          cases c10:k == 15 with
          | false=>
           cases c11:nm.data.toList.isEmpty with
           | false=>
            exact eR h126 h127 h128 h129 hna hnw hnr hni cas cws crs cis @aV @cj hbn c1 c2 c3 c4 c5 c6 c7 c8 c9 c10 c11 @cF @cD tv tv tv tv
           | true=>
            cases c12:k == 14 with
            | false=>
             cases al with
             | false=>
              exact eR h126 h127 h128 h129 hna hnw hnr hni cas cws crs cis @aV @cj hbn c1 c2 c3 c4 c5 c6 c7 c8 c9 c10 c11 c12 @cF @cD tv tv tv
             | true=>
              exact eR h126 h127 h128 h129 hna hnw hnr hni cas cws crs cis @aV @cj hbn c1 c2 c3 c4 c5 c6 c7 c8 c9 c10 c11 c12 @cF @cD tv tv tv
            | true=>
             cases al with
             | false=>
              exact eR h126 h127 h128 h129 hna hnw hnr hni cas cws crs cis @aV @cj hbn c1 c2 c3 c4 c5 c6 c7 c8 c9 c10 c11 c12 @cF @cD tv tv tv
             | true=>
              exact eR h126 h127 h128 h129 hna hnw hnr hni cas cws crs cis @aV @cj hbn c1 c2 c3 c4 c5 c6 c7 c8 c9 c10 c11 c12 @cF @cD tv tv tv
          | true=>
           cases c15:nm.data.toList.isEmpty with
           | false=>
            cases c16:gK nm.data.toList with
            | false=>
             exact eR h126 h127 h128 h129 hN hna hnw hnr hni cas cws crs cis @aV @cj hbn c1 c2 c3 c4 c5 c6 c7 c8 c9 c10 c15 c16 @cF @cD tv tv
            | true=>
             cases c17:k == 14 with
             | false=>
              cases al with
              | false=>
               exact eR h126 h127 h128 h129 hN hna hnw hnr hni cas cws crs cis @aV @cj hbn c1 c2 c3 c4 c5 c6 c7 c8 c9 c10 c15 c16 c17 @cF @cD tv
              | true=>
               exact eR h126 h127 h128 h129 hN hna hnw hnr hni cas cws crs cis @aV @cj hbn c1 c2 c3 c4 c5 c6 c7 c8 c9 c10 c15 c16 c17 @cF @cD tv
             | true=>
              cases al with
              | false=>
               exact eR h126 h127 h128 h129 hN hna hnw hnr hni cas cws crs cis @aV @cj hbn c1 c2 c3 c4 c5 c6 c7 c8 c9 c10 c15 c16 c17 @cF @cD tv
              | true=>
               exact eR h126 h127 h128 h129 hN hna hnw hnr hni cas cws crs cis @aV @cj hbn c1 c2 c3 c4 c5 c6 c7 c8 c9 c10 c15 c16 c17 @cF @cD tv
           | true=>
            exact eR h126 h127 h128 h129 hna hnw hnr hni cas cws crs cis @aV @cj hbn c1 c2 c3 c4 c5 c6 c7 c8 c9 c10 c15 @cF @cD tv tv tv tv
         | true=>
          cases c20:nm.data.toList.isEmpty with
          | false=>
           cases c21:gK nm.data.toList with
           | false=>
            exact eR h126 h127 h128 h129 hN hna hnw hnr hni cas cws crs cis @aV @cj hbn c1 c2 c3 c4 c5 c6 c7 c8 c9 c20 c21 @cF @cD tv tv tv
           | true=>
            cases al with
            | false=>
             exact eR h126 h127 h128 h129 hN hna hnw hnr hni cas cws crs cis @aV @cj hbn c1 c2 c3 c4 c5 c6 c7 c8 c9 c20 c21 @cF @cD tv tv tv
            | true=>
             exact eR h126 h127 h128 h129 hN hna hnw hnr hni cas cws crs cis @aV @cj hbn c1 c2 c3 c4 c5 c6 c7 c8 c9 c20 c21 @cF @cD tv tv tv
          | true=>
           exact eR h126 h127 h128 h129 hna hnw hnr hni cas cws crs cis @aV @cj hbn c1 c2 c3 c4 c5 c6 c7 c8 c9 c20 @cF @cD tv tv tv tv tv
        | true=>
         have c8p:=of_decide_eq_true c8;cases c23:k == 14 with
         | false=>
          exact Ib h126 h127 h128 h129 hna hnw hnr hni cas cws crs cis @aV @cj hbn c1 c2 c3 c4 c5 c6 c7 c8 c23 @cF @cD
         | true=>
          cases c24:k == 13 with
          | false=>
           cases c25:k == 15 with
           | false=>
            cases c26:nm.data.toList.isEmpty with
            | false=>
             exact eR h126 h127 h128 h129 hna hnw hnr hni cas cws crs cis @aV @cj hbn c1 c2 c3 c4 c5 c6 c7 c8 c23 c24 c25 c26 @cF @cD tv tv tv
            | true=>
             cases al with
             | false=>
              exact eR h126 h127 h128 h129 hna hnw hnr hni cas cws crs cis @aV @cj hbn c1 c2 c3 c4 c5 c6 c7 c8 c23 c24 c25 c26 @cF @cD tv tv tv
             | true=>
              exact eR h126 h127 h128 h129 hna hnw hnr hni cas cws crs cis @aV @cj hbn c1 c2 c3 c4 c5 c6 c7 c8 c23 c24 c25 c26 @cF @cD tv tv tv
           | true=>
            cases c28:nm.data.toList.isEmpty with
            | false=>
             cases c29:gK nm.data.toList with
             | false=>
              exact eR h126 h127 h128 h129 hN hna hnw hnr hni cas cws crs cis @aV @cj hbn c1 c2 c3 c4 c5 c6 c7 c8 c23 c24 c25 c28 c29 @cF @cD tv
             | true=>
              cases al with
              | false=>
               exact eR h126 h127 h128 h129 hN hna hnw hnr hni cas cws crs cis @aV @cj hbn c1 c2 c3 c4 c5 c6 c7 c8 c23 c24 c25 c28 c29 @cF @cD tv
              | true=>
               exact eR h126 h127 h128 h129 hN hna hnw hnr hni cas cws crs cis @aV @cj hbn c1 c2 c3 c4 c5 c6 c7 c8 c23 c24 c25 c28 c29 @cF @cD tv
            | true=>
             exact eR h126 h127 h128 h129 hna hnw hnr hni cas cws crs cis @aV @cj hbn c1 c2 c3 c4 c5 c6 c7 c8 c23 c24 c25 c28 @cF @cD tv tv tv
          | true=>
           cases c31:nm.data.toList.isEmpty with
           | false=>
            cases c32:gK nm.data.toList with
            | false=>
             exact eR h126 h127 h128 h129 hN hna hnw hnr hni cas cws crs cis @aV @cj hbn c1 c2 c3 c4 c5 c6 c7 c8 c23 c24 c31 c32 @cF @cD tv tv
            | true=>
             cases al with
             | false=>
              exact eR h126 h127 h128 h129 hN hna hnw hnr hni cas cws crs cis @aV @cj hbn c1 c2 c3 c4 c5 c6 c7 c8 c23 c24 c31 c32 @cF @cD tv tv
             | true=>
              exact eR h126 h127 h128 h129 hN hna hnw hnr hni cas cws crs cis @aV @cj hbn c1 c2 c3 c4 c5 c6 c7 c8 c23 c24 c31 c32 @cF @cD tv tv
           | true=>
            exact eR h126 h127 h128 h129 hna hnw hnr hni cas cws crs cis @aV @cj hbn c1 c2 c3 c4 c5 c6 c7 c8 c23 c24 c31 @cF @cD tv tv tv tv
       | true=>
        have c7p:=of_decide_eq_true c7;cases c34:od k with
        | false=>
         exact Ib h126 h127 h128 h129 @cA hna hnw hnr hni cas cws crs cis @aV @cj hbn c1 c2 c3 c4 c5 c6 c7 c34 @cF @cD
        | true=>
         cases c35:decide (0 < ni) with
         | false=>
          have c35p:=of_decide_eq_false c35;cases c36:k == 13 with
          | false=>
           cases c37:k == 15 with
           | false=>
            cases c38:nm.data.toList.isEmpty with
            | false=>
             exact eR h126 h127 h128 h129 @cA hna hnw hnr hni cas cws crs cis @aV @cj hbn c1 c2 c3 c4 c5 c6 c7 c34 c35 c36 c37 c38 @cF @cD tv tv
            | true=>
             cases c39:k == 14 with
             | false=>
              cases al with
              | false=>
               exact eR h126 h127 h128 h129 @cA hna hnw hnr hni cas cws crs cis @aV @cj hbn c1 c2 c3 c4 c5 c6 c7 c34 c35 c36 c37 c38 c39 @cF @cD tv
              | true=>
               exact eR h126 h127 h128 h129 @cA hna hnw hnr hni cas cws crs cis @aV @cj hbn c1 c2 c3 c4 c5 c6 c7 c34 c35 c36 c37 c38 c39 @cF @cD tv
             | true=>
              cases al with
              | false=>
               exact eR h126 h127 h128 h129 @cA hna hnw hnr hni cas cws crs cis @aV @cj hbn c1 c2 c3 c4 c5 c6 c7 c34 c35 c36 c37 c38 c39 @cF @cD tv
              | true=>
               exact eR h126 h127 h128 h129 @cA hna hnw hnr hni cas cws crs cis @aV @cj hbn c1 c2 c3 c4 c5 c6 c7 c34 c35 c36 c37 c38 c39 @cF @cD tv
           | true=>
            cases c42:nm.data.toList.isEmpty with
            | false=>
             cases c43:gK nm.data.toList with
             | false=>
              exact eR h126 h127 h128 h129 @cA hN hna hnw hnr hni cas cws crs cis @aV @cj hbn c1 c2 c3 c4 c5 c6 c7 c34 c35 c36 c37 c42 c43 @cF @cD
             | true=>
              cases c44:k == 14 with
              | false=>
               cases al with
               | false=>
                exact kU h126 h127 h128 h129 @cA hN hna hnw hnr hni cas cws crs cis @aV @cj hbn c1 c2 c3 c4 c5 c6 c7 c34 c35 c36 c37 c42 c43 c44 @cF @cD tv tv tv tv tv tv tv
               | true=>
                exact kU h126 h127 h128 h129 @cA hN hna hnw hnr hni cas cws crs cis @aV @cj hbn c1 c2 c3 c4 c5 c6 c7 c34 c35 c36 c37 c42 c43 c44 @cF @cD tv tv tv tv tv tv tv
              | true=>
               cases al with
               | false=>
                exact kU h126 h127 h128 h129 @cA hN hna hnw hnr hni cas cws crs cis @aV @cj hbn c1 c2 c3 c4 c5 c6 c7 c34 c35 c36 c37 c42 c43 c44 @cF @cD tv tv tv tv tv tv tv
               | true=>
                exact kU h126 h127 h128 h129 @cA hN hna hnw hnr hni cas cws crs cis @aV @cj hbn c1 c2 c3 c4 c5 c6 c7 c34 c35 c36 c37 c42 c43 c44 @cF @cD tv tv tv tv tv tv tv
            | true=>
             exact eR h126 h127 h128 h129 @cA hna hnw hnr hni cas cws crs cis @aV @cj hbn c1 c2 c3 c4 c5 c6 c7 c34 c35 c36 c37 c42 @cF @cD tv tv
          | true=>
           cases c47:nm.data.toList.isEmpty with
           | false=>
            cases c48:gK nm.data.toList with
            | false=>
             exact eR h126 h127 h128 h129 @cA hN hna hnw hnr hni cas cws crs cis @aV @cj hbn c1 c2 c3 c4 c5 c6 c7 c34 c35 c36 c47 c48 @cF @cD tv
            | true=>
             cases al with
             | false=>
              exact eR h126 h127 h128 h129 @cA hN hna hnw hnr hni cas cws crs cis @aV @cj hbn c1 c2 c3 c4 c5 c6 c7 c34 c35 c36 c47 c48 @cF @cD tv
             | true=>
              exact eR h126 h127 h128 h129 @cA hN hna hnw hnr hni cas cws crs cis @aV @cj hbn c1 c2 c3 c4 c5 c6 c7 c34 c35 c36 c47 c48 @cF @cD tv
           | true=>
            exact eR h126 h127 h128 h129 @cA hna hnw hnr hni cas cws crs cis @aV @cj hbn c1 c2 c3 c4 c5 c6 c7 c34 c35 c36 c47 @cF @cD tv tv tv
         | true=>
          have c35p:=of_decide_eq_true c35;cases c50:k == 14 with
          | false=>
           exact eR h126 h127 h128 h129 @cA hna hnw hnr hni cas cws crs cis @aV @cj hbn c1 c2 c3 c4 c5 c6 c7 c34 c35 c50 @cF @cD tv tv tv tv
          | true=>
           cases c51:k == 13 with
           | false=>
            cases c52:k == 15 with
            | false=>
             cases c53:nm.data.toList.isEmpty with
             | false=>
              exact eR h126 h127 h128 h129 @cA hna hnw hnr hni cas cws crs cis @aV @cj hbn c1 c2 c3 c4 c5 c6 c7 c34 c35 c50 c51 c52 c53 @cF @cD tv
             | true=>
              cases al with
              | false=>
               exact eR h126 h127 h128 h129 @cA hna hnw hnr hni cas cws crs cis @aV @cj hbn c1 c2 c3 c4 c5 c6 c7 c34 c35 c50 c51 c52 c53 @cF @cD tv
              | true=>
               exact eR h126 h127 h128 h129 @cA hna hnw hnr hni cas cws crs cis @aV @cj hbn c1 c2 c3 c4 c5 c6 c7 c34 c35 c50 c51 c52 c53 @cF @cD tv
            | true=>
             cases c55:nm.data.toList.isEmpty with
             | false=>
              cases c56:gK nm.data.toList with
              | false=>
               exact kU h126 h127 h128 h129 @cA hN hna hnw hnr hni cas cws crs cis @aV @cj hbn c1 c2 c3 c4 c5 c6 c7 c34 c35 c50 c51 c52 c55 c56 @cF @cD tv tv tv tv tv tv tv
              | true=>
               cases al with
               | false=>
                exact kU h126 h127 h128 h129 @cA hN hna hnw hnr hni cas cws crs cis @aV @cj hbn c1 c2 c3 c4 c5 c6 c7 c34 c35 c50 c51 c52 c55 c56 @cF @cD tv tv tv tv tv tv tv
               | true=>
                exact kU h126 h127 h128 h129 @cA hN hna hnw hnr hni cas cws crs cis @aV @cj hbn c1 c2 c3 c4 c5 c6 c7 c34 c35 c50 c51 c52 c55 c56 @cF @cD tv tv tv tv tv tv tv
             | true=>
              exact eR h126 h127 h128 h129 @cA hna hnw hnr hni cas cws crs cis @aV @cj hbn c1 c2 c3 c4 c5 c6 c7 c34 c35 c50 c51 c52 c55 @cF @cD tv
           | true=>
            cases c58:nm.data.toList.isEmpty with
            | false=>
             cases c59:gK nm.data.toList with
             | false=>
              exact eR h126 h127 h128 h129 @cA hN hna hnw hnr hni cas cws crs cis @aV @cj hbn c1 c2 c3 c4 c5 c6 c7 c34 c35 c50 c51 c58 c59 @cF @cD
             | true=>
              cases al with
              | false=>
               exact eR h126 h127 h128 h129 @cA hN hna hnw hnr hni cas cws crs cis @aV @cj hbn c1 c2 c3 c4 c5 c6 c7 c34 c35 c50 c51 c58 c59 @cF @cD
              | true=>
               exact eR h126 h127 h128 h129 @cA hN hna hnw hnr hni cas cws crs cis @aV @cj hbn c1 c2 c3 c4 c5 c6 c7 c34 c35 c50 c51 c58 c59 @cF @cD
            | true=>
             exact eR h126 h127 h128 h129 @cA hna hnw hnr hni cas cws crs cis @aV @cj hbn c1 c2 c3 c4 c5 c6 c7 c34 c35 c50 c51 c58 @cF @cD tv tv
      | true=>
       have c6p:=of_decide_eq_true c6;exact Ib h126 h127 h128 h129 hna hnw hnr hni cas cws crs cis @aV @cj hbn c1 c2 c3 c4 c5 c6 @cF @cD tv tv tv
     | true=>
      exact Ib h126 h127 h128 h129 (h130 (eq_of_beq c5)) hna hnw hnr hni cas cws crs cis @aV @cj hbn c1 c2 c3 c4 c5 @cF @cD tv tv tv
end Go.Proofs.YtokdflgpbfjpcaaGreatDoor
namespace Go.PE
open Go Go.EvL
end Go.PE
namespace Go.Proofs.YtokdflgpbfjpcaaGreatDoor
open Go Go.EvL Go.PE
variable {ext:ar}
structure Xt (ext:ar) (D:Nat) (x:am) (kl:List am):Prop where
 ref:∀s,Pc ext 68 [.agg x.cells] (aU 71 am.cells (eo kl)) s
 len:kl.length≤16777216
theorem Rw {D d:Nat}{x:am} (hx:bB D (d + 1) x) (hN:aR x.cells≤16777216):∃kl,Xt ext D x kl∧∀y∈kl,bB D d y∧aR y.cells + 1≤aR x.cells:=by
 obtain⟨la,lw,lr,lk,li,pt,bd,hd⟩:=hx.dec;obtain⟨n1,n2,n3,n4⟩:=hd.sizes hN;have hkb:=hd.kidsBulk;refine⟨j9 (lk.getD []) (li.getD []) bd,⟨hd.kids_ok hN,by simp only [j9,List.length_append]; exact n2⟩,fun y hy=>⟨hd.kids y hy,?_⟩⟩;have:=gY (c:=am.cells) hy;omega
end Go.Proofs.YtokdflgpbfjpcaaGreatDoor
namespace Go.Proofs.YtokdflgpbfjpcaaGreatDoor
open Go Go.EvL Go.PE Go.Mir
variable {ext:ar}
theorem xM {α:Type}{c:α→List PV} (x:α) (l:List α):aR ((x :: l).flatMap c)=aR (c x) + aR (l.flatMap c):=by rw [List.flatMap_cons,j7]
mutual
theorem DO:∀(p:aS) (x:au),uh p x→qI p≤2 * aR x.cells
 | .mk k t o c ps,x,h=>by
  rw [uh] at h;obtain⟨rfl,h2,rfl,rfl,y,h3,h4⟩:=h;have h5:=re ps _ h4;have h6:=dO 155 au.cells y;have h7:(PV.sc (.string x.text)).bulk=t.length + 1:=by rw [h2]; simp only [PV.bulk,Cv]
  have b1:=sq (.sc (.int .i64 x.kind));have b2:=sq (.sc (.int .i64 x.op));have b3:=sq (.sc (.bool x.colon));simp only [au.cells,cx,cH,h3,h7];rw [qI];omega
theorem re:∀(l:List aS) (xs:List au),nL l xs→gW l≤2 * aR (xs.flatMap au.cells)
 | [],xs,h=>by rw [gW]; exact Nat.zero_le _
 | p :: l,xs,h=>by
  obtain⟨x,xs',rfl,h1,h2⟩:=h.cons;have h3:=DO p x h1;have h4:=re l xs' h2;rw [gW,xM];omega
end
theorem mI {l:List aS}{v:PV} (h:tJ l v):gW l≤2 * v.bulk:=by
 obtain⟨y,rfl,h⟩:=h;have h1:=re l _ h;have h2:=dO 155 au.cells y;omega
def If:PS:=⟨fun _=>⟨[],0,0⟩,0,0⟩
open Classical in
noncomputable def xq (ext:ar) (g:Nat) (a:List PV) (q:PV):Bool:=decide (∀s,aH Tryz.prog Γ ext g a s=some (q,s))
open Classical in
theorem gN {g:Nat}{a:List PV}{b:Bool} (h:∀s,aH Tryz.prog Γ ext g a s=some (.sc (.bool b),s)):xq ext g a (.sc (.bool true))=b:=by
 unfold xq;cases b with
 | true=>exact decide_eq_true h
 | false=>
  refine decide_eq_false fun hh=>?_;have h1:=hh If;rw [h If] at h1;cases h1
open Classical in
theorem y7 {g:Nat}{a:List PV}{b:Bool} (h:∀s,aH Tryz.prog Γ ext g a s=some (.sc (.int .i64 (if b then 0 else 1)),s)):xq ext g a (.sc (.int .i64 0))=b:=by
 unfold xq;cases b with
 | true=>exact decide_eq_true h
 | false=>
  refine decide_eq_false fun hh=>?_;have h1:=hh If;rw [h If] at h1;injection h1 with h1;injection h1 with h1;injection h1 with h1;injection h1 with _ h1;cases h1
noncomputable def okW (ext:ar) (v:PV):Bool:=xq ext 240 [.agg [.sc (.int .i64 0),v]] (.sc (.bool true))
noncomputable def okV (ext:ar) (v:PV):Bool:=xq ext 242 [v] (.sc (.int .i64 0))
noncomputable def okH (ext:ar) (v:PV):Bool:=xq ext 241 [v] (.sc (.bool true))
open Classical in
noncomputable def EV (v:PV):List au:=if h:∃y,v=aU 155 au.cells y then (Classical.choose h).getD [] else []
theorem Ei {v:PV} (h:∃y,v=aU 155 au.cells y):∃y,v=aU 155 au.cells y∧y.getD []=EV v:=by
 refine⟨Classical.choose h,Classical.choose_spec h,?_⟩;unfold EV;rw [dif_pos h]
theorem aN.sl {d:Nat}{v:PV} (h:aN d v):∃y,v=aU 155 au.cells y:=by
 cases d with
 | zero=>cases h
 | succ d=>
  obtain⟨y,h,_⟩:=h;exact⟨y,h⟩
theorem aN.one' {d:Nat}{v:PV} (h:aN d v):db v=true∧aC v=[v]:=by
 obtain⟨y,rfl⟩:=h.sl;exact⟨h.one,by cases y<;>rfl⟩
theorem DN {d:Nat}{v:PV} (h:aN d v) (hb:v.bulk≤16777216) (u:PV) (s:PS):Pc ext 240 [.agg [u,v]] (.sc (.bool (okW ext v))) s:=by
 obtain⟨l,hl⟩:=h.read;have hs:=mI hl;obtain⟨r,same,_,_,_,hS⟩:=tY (ext:=ext) h hl om;obtain⟨y,hy⟩:=h.sl;have hn:=bT (e:=155) (c:=au.cells) y;rw [← hy] at hn;have hw:=fun u=>Il (ext:=ext) (u:=u) hn h.one'.2 hS;rw [show okW ext v=_ from gN (hw _)];exact hw u s
theorem U0 {d:Nat}{v:PV} (h:aN d v) (hb:v.bulk≤16777216) (s:PS):Pc ext 242 [v] (.sc (.int .i64 (if okV ext v then 0 else 1))) s:=by
 obtain⟨l,hl⟩:=h.read;have hs:=mI hl;obtain⟨r,same,_,_,hV,_⟩:=tY (ext:=ext) h hl om;rw [show okV ext v=_ from y7 hV];exact hV s
theorem vU {y:Option (List au)}{N:Nat} (hb:(aU 155 au.cells y).bulk≤N):(y.getD []).length≤N∧∀p∈y.getD [],p.text.data.toList.length≤N∧p.parts.bulk≤N:=by
 refine⟨lP rfl (fun x=>by rw [au.len]; omega) hb,fun p hp=>?_⟩;have h1:=(dL rfl hp (p:=.sc (.string p.text)) (by simp [au.cells]) hb).1;have h2:(PV.sc (.string p.text)).bulk=p.text.data.toList.length + 1:=by simp only [PV.bulk,Cv]
 exact⟨om,(dL rfl hp (p:=p.parts) (by simp [au.cells]) hb).1⟩
theorem RO {d:Nat}{v:PV} (h:aN d v) (hb:v.bulk≤16777216) (s:PS):Pc ext 241 [v] (.sc (.bool (okH ext v))) s:=by
 obtain⟨l,hl⟩:=h.read;have hs:=mI hl;obtain⟨r,same,_,_,hS⟩:=Dz (ext:=ext) h hl om;cases d with
 | zero=>cases h
 | succ d=>
  obtain⟨y,rfl,h1,h2⟩:=h;obtain⟨t1,t2⟩:=vU hb;have hw:=IC (ext:=ext) (y:=y) om (fun p hp=>⟨by have:=(t2 p hp).1; omega,(h2 p hp).sl⟩) hS;rw [show okH ext _=_ from gN hw];exact hw s
structure aL where
 name:ByteArray
 body:am
def aL.cells (x:aL):List PV:=.sc (.string x.name) :: x.body.cells
theorem aL.len (x:aL):x.cells.length=10:=rfl
noncomputable def xK (ext:ar) (x y:am):Bool:=xq ext 61 [.agg x.cells,.agg y.cells] (.sc (.bool true))
theorem Ez {D d:Nat}{x y:am} (hx:bB D d x) (hy:bB D d y):(∀s,Pc ext 48 [.agg x.cells,.agg y.cells] (.sc (.bool (xK ext x y))) s)∧∀s,Pc ext 61 [.agg x.cells,.agg y.cells] (.sc (.bool (xK ext x y))) s:=by
 obtain⟨r,h1,h2⟩:=GT (ext:=ext) d x y hx hy;rw [show xK ext x y=r from gN h2];exact⟨h1,h2⟩
noncomputable def mp (ext:ar) (x y:aL):Bool:=l9 x.name y.name && xK ext x.body y.body
theorem UL {D d:Nat}{x y:aL} (hx:bB D d x.body) (hy:bB D d y.body) (s:PS):Pc ext 47 [.agg x.cells,.agg y.cells] (.sc (.bool (mp ext x y))) s:=by
 have h:=(Ez (ext:=ext) hx hy).1;have o1:=hx.ones;have o2:=hy.ones;refine lH VT 4 ?_;unfold VT mp;obtain⟨n,⟨k,p,nm,al,aa,ws,rs,v,is⟩⟩:=x;obtain⟨n',⟨k',p',nm',al',aa',ws',rs',v',is'⟩⟩:=y;simp only [aL.cells,am.cells] at h ⊢;have hs:(n.toList == n'.toList)=l9 n n':=rfl;cases c1:l9 n n' with
 | false=>exact qO hs c1
 | true=>exact jB hs c1 h
theorem Gg {D d:Nat}{l m:List aL} (hl:∀x∈l,bB D d x.body) (hm:∀x∈m,bB D d x.body) (hlm:l.length=m.length) (hx:l.length < 1000000000000) (s:PS):∀(k i:Nat) (f:aX),i + k=l.length→f 0=.lit 73 l.length (l.flatMap aL.cells)→f 1=.lit 73 m.length (m.flatMap aL.cells)→f 5=iN i→
  Er (fun f' s'=>s'=s∧f' 4=.sc (.bool (iC (mp ext) (l.drop i) (m.drop i)))) (LP Tryz.prog Γ ext 0 sE wP f s):=by
 intro k
 induction k with
 | zero=>
  intro i f hk h0 h1 h5;have e1:decide (i < l.length)=false:=df;have ha:iC (mp ext) (l.drop i) (m.drop i)=true:=by rw [List.drop_eq_nil_of_le om,List.drop_eq_nil_of_le om]; rfl
  refine ad fun L hL=>?_;exact uP @sE.eq_1 @wP.eq_1 h0 h1 h5 e1 ha
 | succ k ih=>
  intro i f hk h0 h1 h5;have hil:i < l.length:=om;have him:i < m.length:=om;have e1:decide (i < l.length)=true:=decide_eq_true hil;have hj:l[i]?=some l[i]:=List.getElem?_eq_getElem hil;have hj2:m[i]?=some m[i]:=List.getElem?_eq_getElem him;have hfl:=aJ aL.len l;have hfm:=aJ aL.len m;obtain⟨rr,hk3⟩:=cm aL.len hj;obtain⟨rr2,hk4⟩:=cm aL.len hj2;have hs:=(Ez (ext:=ext) (hl _ (List.getElem_mem hil)) (hm _ (List.getElem_mem him))).2;have hd:iC (mp ext) (l.drop i) (m.drop i)=(mp ext l[i] m[i] && iC (mp ext) (l.drop (i + 1)) (m.drop (i + 1))):=by
   rw [List.drop_eq_getElem_cons hil,List.drop_eq_getElem_cons him];rfl
  rw [hd];have hgo:=ih (i + 1);have pu56:ek Γ 61=true:=rfl;generalize l[i]=x at *;generalize m[i]=y at *;obtain⟨n,⟨k1,p,nm,al,aa,ws,rs,v,is⟩⟩:=x;obtain⟨n',⟨k',p',nm',al',aa',ws',rs',v',is'⟩⟩:=y;simp only [aL.cells,am.cells,List.cons_append,List.nil_append] at hk3 hk4 hs;simp only [mp];have hq:(n.toList == n'.toList)=l9 n n':=rfl;refine ad fun L hL=>?_;cases c1:l9 n n' with
  | false=>simp -implicitDefEqProofs (disch:=first | omega | (unfold cZ cd; simp<;>omega)) only [ZS,seval,ZT,ZX,sE,wP,h0,h1,h5,e1,hil,him,hfl,hfm,hk3,hk4,aw,hq,c1,pu56]
  | true=>
   generalize hcs:xK ext _ _=cs at hs ⊢;cases cs with
   | false=>simp -implicitDefEqProofs (disch:=first | omega | (unfold cZ cd; simp<;>omega)) only [ZS,seval,ZT,ZX,sE,wP,h0,h1,h5,e1,hil,him,hfl,hfm,hk3,hk4,aw,hq,c1,hs,pu56]
   | true=>
    simp -implicitDefEqProofs (disch:=first | omega | (unfold cZ cd; simp<;>omega)) only [ZS,seval,ZT,ZX,sE,h0,h1,h5,e1,hil,him,hfl,hfm,hk3,hk4,aw,hq,c1,hs,pu56];subst hL;exact hgo _ om (bm h0) (bm h1) bw
theorem Mi {D d:Nat}{la lb:Option (List aL)} (hl:∀x∈la.getD [],bB D d x.body) (hm:∀x∈lb.getD [],bB D d x.body) (hx:(la.getD []).length < 1000000000000) (hy:(lb.getD []).length < 1000000000000) (s:PS) :
  Pc ext 22 [aU 73 aL.cells la,aU 73 aL.cells lb] (.sc (.bool (iC (mp ext) (la.getD []) (lb.getD [])))) s:=by
 have h1:=bT (e:=73) (c:=aL.cells) la;have h2:=bT (e:=73) (c:=aL.cells) lb;refine q1 sN 4 ?_;unfold sN;cases cn:(la.getD []).length == (lb.getD []).length with
 | false=>
  rw [rD (aj cn)];exact qN h1 h2 @cj cn
 | true=>
  have hn:=eq_of_beq cn;refine CJ h1 h2 @cj cn ?_;cases la with
  | none=>
   have hb:lb.getD []=[]:=List.eq_nil_of_length_eq_zero hn.symm;have z0:decide ((0:Int) < 0)=false:=rfl;rw [hb];refine ad fun L hL=>?_;refine CJ @sE.eq_1 @wP.eq_1 @bU z0 ?_;rfl
  | some l=>
   cases lb with
   | none=>
    have ha:l=[]:=List.eq_nil_of_length_eq_zero hn;subst ha;have z0:decide ((0:Int) < ((0:Nat):Int))=false:=rfl;refine ad fun L hL=>?_;refine CJ @sE.eq_1 @wP.eq_1 @bU z0 ?_;rfl
   | some m=>
    have key:=fun f a b c=>Gg (ext:=ext) hl hm hn hx ⟨s.h,s.n,s.n⟩ l.length 0 f (Nat.zero_add _) a b c;simp only [List.drop_zero,Option.getD_some] at key;exact key _ (bm @bU) (bm @bU) bw
theorem VJ:Γ 51=some (DG 73 10 #[(.string ⟨#[]⟩),(.int .i64 0),(.int .i64 0),(.string ⟨#[]⟩),(.bool false),(.slice none 0 0),(.slice none 0 0),(.slice none 0 0),(.slice none 0 0),(.slice none 0 0)] 3):=rfl
theorem yx {α:Type}{q:α→α→Bool}{R:Nat→Bool} : ∀(l m:List α) (i0:Nat),l.length=m.length→(∀i x y,l[i]?=some x→m[i]?=some y→R (i0 + i)=q x y)→iH R i0 l.length=iC q l m
 | [],[],i0,_,_=>rfl
 | [],_ :: _,_,h,_=>by cases h
 | _ :: _,[],_,h,_=>by cases h
 | p :: l,r :: m,i0,h,hr=>by
  rw [iC,← hr 0 p r rfl rfl,← yx l m (i0 + 1) (by simpa using h) fun i p q h1 h2=>by
   rw [← hr (i + 1) p q (by simpa using h1) (by simpa using h2)];congr 1;omega]
  rfl
theorem Ou {D d:Nat}{la lb:Option (List aL)} (hl:∀x∈la.getD [],bB D d x.body) (hm:∀x∈lb.getD [],bB D d x.body) (hx:(la.getD []).length < 1000000000000) (s:PS) :
  Pc ext 51 [aU 73 aL.cells la,aU 73 aL.cells lb,.fn 47 [] []] (.sc (.bool (iC (mp ext) (la.getD []) (lb.getD [])))) s:=by
 have ones:∀{x:aL},bB D d x.body→x.cells.all db=true:=fun {x} h=>by
  have:=h.ones;simp only [aL.cells,List.all_cons,this,Bool.and_true];rfl
 have h:=s9 (P:=Tryz.prog) (ext:=ext) (e:=73) (t:=73) aL.len (by rfl) VJ (l:=la) (m:=lb) (fun x hx=>hx.elim (fun h=>ones (hl x h)) (fun h=>ones (hm x h))) (g:=47) om (r:=fun i=>match (la.getD [])[i]?,(lb.getD [])[i]? with | some x,some y=>mp ext x y | _,_=>true) (fun i x y h1 h2 s=>by
  simp only [h1,h2];exact UL (hl x (List.mem_of_getElem? h1)) (hm y (List.mem_of_getElem? h2)) s) s
 have e:((la.getD []).length == (lb.getD []).length && iH (fun i=>match (la.getD [])[i]?,(lb.getD [])[i]? with | some x,some y=>mp ext x y | _,_=>true) 0 (la.getD []).length)=iC (mp ext) (la.getD []) (lb.getD []):=by
  cases cn:(la.getD []).length == (lb.getD []).length with
  | false=>rw [Bool.false_and,rD (aj cn)]
  | true=>
   rw [Bool.true_and];exact yx _ _ 0 (eq_of_beq cn) fun i x y h1 h2=>by simp only [Nat.zero_add,h1,h2]
 rw [← e];exact h
structure dG where
 name:ByteArray
 vars:PV
 params:PV
 funcs:PV
 aliases:PV
 traps:PV
 opts:Int
 stat:Int
 pid:Int
 last:Int
 cwd:ByteArray
 gi:Int
 go:Int
 lev:Int
 talks:Bool
def dG.cells (x:dG):List PV:=[.sc (.string x.name),x.vars,x.params,x.funcs,x.aliases,x.traps,.sc (.int .i64 x.opts),.sc (.int .i64 x.stat),.sc (.int .i64 x.pid),.sc (.int .i64 x.last),.sc (.string x.cwd),.sc (.int .i64 x.gi),.sc (.int .i64 x.go),.sc (.int .i64 x.lev),.sc (.bool x.talks)]
theorem dG.len (x:dG):x.cells.length=15:=rfl
set_option maxHeartbeats 4000000 in
theorem QW {an bn ac bc:ByteArray}{av ap af aa at' bv bp bf ba bt':PV}{ao as' ai al ag ah ae bo bs bi' bl bg bh be:Int}{ak bk:Bool}{qn qv qp qf qa qt qo qs qi ql qc qg qe qk:Bool} (hn:(an.toList == bn.toList)=qn) (hc:(ac.toList == bc.toList)=qc) (ho:(ao == bo)=qo) (hs:(as' == bs)=qs) (hi:(ai == bi')=qi) (hl:(al == bl)=ql) (hg:(ag == bg && ah == bh)=qg) (he:(ae == be)=qe) (hk:(ak == bk)=qk) (cv1:aC av=[av]) (cv2:aC bv=[bv]) (cp1:aC ap=[ap]) (cp2:aC bp=[bp]) (cf1:aC af=[af]) (cf2:aC bf=[bf]) (ca1:aC aa=[aa]) (ca2:aC ba=[ba]) (ct1:aC at'=[at']) (ct2:aC bt'=[bt']) (h101:∀s,Pc ext 49 [av,bv] (.sc (.bool qv)) s) (h102:∀s,Pc ext 50 [ap,bp] (.sc (.bool qp)) s) (h103:∀s,Pc ext 51 [af,bf,.fn 47 [] []] (.sc (.bool qf)) s) (h104:∀s,Pc ext 52 [aa,ba] (.sc (.bool qa)) s) (h105:∀s,Pc ext 53 [at',bt'] (.sc (.bool qt)) s) (s:PS) :
  Pc ext 16 [.agg [.sc (.string an),av,ap,af,aa,at',.sc (.int .i64 ao),.sc (.int .i64 as'),.sc (.int .i64 ai),.sc (.int .i64 al),.sc (.string ac),.sc (.int .i64 ag),.sc (.int .i64 ah),.sc (.int .i64 ae),.sc (.bool ak)],.agg [.sc (.string bn),bv,bp,bf,ba,bt',.sc (.int .i64 bo),.sc (.int .i64 bs),.sc (.int .i64 bi'),.sc (.int .i64 bl),.sc (.string bc),.sc (.int .i64 bg),.sc (.int .i64 bh),.sc (.int .i64 be),.sc (.bool bk)]] (.sc (.bool (qn && (qv && (qp && (qf && (qa && (qt && (qo && (qs && (qi && (ql && (qc && (qg && (qe && (qk)))))))))))))))) s:=by
 have hb1:=fun x y a b=>gV (P:=Tryz.prog) (t:=4) Tryz.underlying4 x y a b;have hb2:=fun x y a b=>g9 (P:=Tryz.prog) (t:=4) Tryz.underlying4 x y a b;have hg1:=fun i j=>(uz ag ah bg bh i j).1;have hg2:=fun i j=>(uz ag ah bg bh i j).2;simp only [hg] at hg1 hg2;refine lH ko 4 ?_;unfold ko;cases c1:qn with
 | false=>
  exact eR hn hc ho hs hi hl he hk hg1 hg2 hb1 hb2 @cj @dp cv1 cv2 cp1 cp2 cf1 cf2 ca1 ca2 ct1 ct2 h101 h102 h103 h104 h105 c1 tv tv
 | true=>
  cases c2:qv with
  | false=>
   exact eR hn hc ho hs hi hl he hk hg1 hg2 hb1 hb2 @cj @dp cv1 cv2 cp1 cp2 cf1 cf2 ca1 ca2 ct1 ct2 h101 h102 h103 h104 h105 c1 c2 tv
  | true=>
   cases c3:qp with
   | false=>
    exact eR hn hc ho hs hi hl he hk hg1 hg2 hb1 hb2 @cj @dp cv1 cv2 cp1 cp2 cf1 cf2 ca1 ca2 ct1 ct2 h101 h102 h103 h104 h105 c1 c2 c3
   | true=>
    cases c4:qf with
    | false=>
     exact kU hn hc ho hs hi hl he hk hg1 hg2 hb1 hb2 @cj @dp cv1 cv2 cp1 cp2 cf1 cf2 ca1 ca2 ct1 ct2 h101 h102 h103 h104 h105 c1 c2 c3 c4 tv tv tv tv tv tv tv
    | true=>
     cases c5:qa with
     | false=>
      exact kU hn hc ho hs hi hl he hk hg1 hg2 hb1 hb2 @cj @dp cv1 cv2 cp1 cp2 cf1 cf2 ca1 ca2 ct1 ct2 h101 h102 h103 h104 h105 c1 c2 c3 c4 c5 tv tv tv tv tv tv
     | true=>
      cases c6:qt with
      | false=>
       exact kU hn hc ho hs hi hl he hk hg1 hg2 hb1 hb2 @cj @dp cv1 cv2 cp1 cp2 cf1 cf2 ca1 ca2 ct1 ct2 h101 h102 h103 h104 h105 c1 c2 c3 c4 c5 c6 tv tv tv tv tv
      | true=>
       cases c7:qo with
       | false=>
        exact kU hn hc ho hs hi hl he hk hg1 hg2 hb1 hb2 @cj @dp cv1 cv2 cp1 cp2 cf1 cf2 ca1 ca2 ct1 ct2 h101 h102 h103 h104 h105 c1 c2 c3 c4 c5 c6 c7 tv tv tv tv
       | true=>
        cases c8:qs with
        | false=>
         exact kU hn hc ho hs hi hl he hk hg1 hg2 hb1 hb2 @cj @dp cv1 cv2 cp1 cp2 cf1 cf2 ca1 ca2 ct1 ct2 h101 h102 h103 h104 h105 c1 c2 c3 c4 c5 c6 c7 c8 tv tv tv
        | true=>
         cases c9:qi with
         | false=>
          exact kU hn hc ho hs hi hl he hk hg1 hg2 hb1 hb2 @cj @dp cv1 cv2 cp1 cp2 cf1 cf2 ca1 ca2 ct1 ct2 h101 h102 h103 h104 h105 c1 c2 c3 c4 c5 c6 c7 c8 c9 tv tv
         | true=>
          cases c10:ql with
          | false=>
           exact kU hn hc ho hs hi hl he hk hg1 hg2 hb1 hb2 @cj @dp cv1 cv2 cp1 cp2 cf1 cf2 ca1 ca2 ct1 ct2 h101 h102 h103 h104 h105 c1 c2 c3 c4 c5 c6 c7 c8 c9 c10 tv
          | true=>
           cases c11:qc with
           | false=>
            exact kU hn hc ho hs hi hl he hk hg1 hg2 hb1 hb2 @cj @dp cv1 cv2 cp1 cp2 cf1 cf2 ca1 ca2 ct1 ct2 h101 h102 h103 h104 h105 c1 c2 c3 c4 c5 c6 c7 c8 c9 c10 c11
           | true=>
            cases c12:qg with
            | false=>
             simp -implicitDefEqProofs (disch:=omega) only [ZS,seval,ZX,hn,hc,ho,hs,hi,hl,he,hk,hg1,hg2,hb1,hb2,bne,dp,cv1,cv2,cp1,cp2,cf1,cf2,ca1,ca2,ct1,ct2,h101,h102,h103,h104,h105,c1,c2,c3,c4,c5,c6,c7,c8,c9,c10,c11,c12]
             all_goals exact Nat.le_refl _
            | true=>
             cases c13:qe with
             | false=>
              simp -implicitDefEqProofs (disch:=omega) only [ZS,seval,ZX,hn,hc,ho,hs,hi,hl,he,hk,hg1,hg2,hb1,hb2,bne,dp,cv1,cv2,cp1,cp2,cf1,cf2,ca1,ca2,ct1,ct2,h101,h102,h103,h104,h105,c1,c2,c3,c4,c5,c6,c7,c8,c9,c10,c11,c12,c13]
              all_goals exact Nat.le_refl _
             | true=>
              simp -implicitDefEqProofs (disch:=omega) only [ZS,seval,ZX,hn,hc,ho,hs,hi,hl,he,hk,hg1,hg2,hb1,hb2,bne,dp,cv1,cv2,cp1,cp2,cf1,cf2,ca1,ca2,ct1,ct2,h101,h102,h103,h104,h105,c1,c2,c3,c4,c5,c6,c7,c8,c9,c10,c11,c12,c13]
              all_goals exact Nat.le_refl _
set_option maxHeartbeats 4000000 in
theorem Sb {an bn ac bc:ByteArray}{av ap af aa at' bv bp bf ba bt':PV}{ao as' ai al ag ah ae bo bs bi' bl bg bh be:Int}{ak bk:Bool}{qn qv qp qf qa qt qo qs qi ql qc qg qe qk:Bool} (hn:(an.toList == bn.toList)=qn) (hc:(ac.toList == bc.toList)=qc) (ho:(ao == bo)=qo) (hs:(as' == bs)=qs) (hi:(ai == bi')=qi) (hl:(al == bl)=ql) (hg:(ag == bg && ah == bh)=qg) (he:(ae == be)=qe) (hk:(ak == bk)=qk) (cv1:aC av=[av]) (cv2:aC bv=[bv]) (cp1:aC ap=[ap]) (cp2:aC bp=[bp]) (cf1:aC af=[af]) (cf2:aC bf=[bf]) (ca1:aC aa=[aa]) (ca2:aC ba=[ba]) (ct1:aC at'=[at']) (ct2:aC bt'=[bt']) (h42:∀s,Pc ext 20 [av,bv] (.sc (.bool qv)) s) (h43:∀s,Pc ext 21 [ap,bp] (.sc (.bool qp)) s) (h82:∀s,Pc ext 22 [af,bf] (.sc (.bool qf)) s) (h44:∀s,Pc ext 23 [aa,ba] (.sc (.bool qa)) s) (h83:∀s,Pc ext 24 [at',bt'] (.sc (.bool qt)) s) (s:PS) :
  Pc ext 8 [.agg [.sc (.string an),av,ap,af,aa,at',.sc (.int .i64 ao),.sc (.int .i64 as'),.sc (.int .i64 ai),.sc (.int .i64 al),.sc (.string ac),.sc (.int .i64 ag),.sc (.int .i64 ah),.sc (.int .i64 ae),.sc (.bool ak)],.agg [.sc (.string bn),bv,bp,bf,ba,bt',.sc (.int .i64 bo),.sc (.int .i64 bs),.sc (.int .i64 bi'),.sc (.int .i64 bl),.sc (.string bc),.sc (.int .i64 bg),.sc (.int .i64 bh),.sc (.int .i64 be),.sc (.bool bk)]] (.sc (.bool (qn && (qo && (qs && (qi && (ql && (qc && (qg && (qe && (qk && (qv && (qp && (qf && (qa && (qt)))))))))))))))) s:=by
 have hb1:=fun x y a b=>gV (P:=Tryz.prog) (t:=4) Tryz.underlying4 x y a b;have hb2:=fun x y a b=>g9 (P:=Tryz.prog) (t:=4) Tryz.underlying4 x y a b;have hg1:=fun i j=>(uz ag ah bg bh i j).1;have hg2:=fun i j=>(uz ag ah bg bh i j).2;simp only [hg] at hg1 hg2;refine lH p8 4 ?_;unfold p8;cases c1:qn with
 | false=>
  exact eR hn hc ho hs hi hl he hk hg1 hg2 hb1 hb2 @cj @dp cv1 cv2 cp1 cp2 cf1 cf2 ca1 ca2 ct1 ct2 h42 h43 h82 h44 h83 c1 tv tv
 | true=>
  cases c2:qo with
  | false=>
   exact eR hn hc ho hs hi hl he hk hg1 hg2 hb1 hb2 @cj @dp cv1 cv2 cp1 cp2 cf1 cf2 ca1 ca2 ct1 ct2 h42 h43 h82 h44 h83 c1 c2 tv
  | true=>
   cases c3:qs with
   | false=>
    exact eR hn hc ho hs hi hl he hk hg1 hg2 hb1 hb2 @cj @dp cv1 cv2 cp1 cp2 cf1 cf2 ca1 ca2 ct1 ct2 h42 h43 h82 h44 h83 c1 c2 c3
   | true=>
    cases c4:qi with
    | false=>
     exact kU hn hc ho hs hi hl he hk hg1 hg2 hb1 hb2 @cj @dp cv1 cv2 cp1 cp2 cf1 cf2 ca1 ca2 ct1 ct2 h42 h43 h82 h44 h83 c1 c2 c3 c4 tv tv tv tv tv tv tv
    | true=>
     cases c5:ql with
     | false=>
      exact kU hn hc ho hs hi hl he hk hg1 hg2 hb1 hb2 @cj @dp cv1 cv2 cp1 cp2 cf1 cf2 ca1 ca2 ct1 ct2 h42 h43 h82 h44 h83 c1 c2 c3 c4 c5 tv tv tv tv tv tv
     | true=>
      cases c6:qc with
      | false=>
       exact kU hn hc ho hs hi hl he hk hg1 hg2 hb1 hb2 @cj @dp cv1 cv2 cp1 cp2 cf1 cf2 ca1 ca2 ct1 ct2 h42 h43 h82 h44 h83 c1 c2 c3 c4 c5 c6 tv tv tv tv tv
      | true=>
       cases c7:qg with
       | false=>
        exact kU hn hc ho hs hi hl he hk hg1 hg2 hb1 hb2 @cj @dp cv1 cv2 cp1 cp2 cf1 cf2 ca1 ca2 ct1 ct2 h42 h43 h82 h44 h83 c1 c2 c3 c4 c5 c6 c7 tv tv tv tv
       | true=>
        cases c8:qe with
        | false=>
         exact kU hn hc ho hs hi hl he hk hg1 hg2 hb1 hb2 @cj @dp cv1 cv2 cp1 cp2 cf1 cf2 ca1 ca2 ct1 ct2 h42 h43 h82 h44 h83 c1 c2 c3 c4 c5 c6 c7 c8 tv tv tv
        | true=>
         cases c9:qk with
         | false=>
          exact kU hn hc ho hs hi hl he hk hg1 hg2 hb1 hb2 @cj @dp cv1 cv2 cp1 cp2 cf1 cf2 ca1 ca2 ct1 ct2 h42 h43 h82 h44 h83 c1 c2 c3 c4 c5 c6 c7 c8 c9 tv tv
         | true=>
          cases c10:qv with
          | false=>
           exact kU hn hc ho hs hi hl he hk hg1 hg2 hb1 hb2 @cj @dp cv1 cv2 cp1 cp2 cf1 cf2 ca1 ca2 ct1 ct2 h42 h43 h82 h44 h83 c1 c2 c3 c4 c5 c6 c7 c8 c9 c10 tv
          | true=>
           cases c11:qp with
           | false=>
            exact kU hn hc ho hs hi hl he hk hg1 hg2 hb1 hb2 @cj @dp cv1 cv2 cp1 cp2 cf1 cf2 ca1 ca2 ct1 ct2 h42 h43 h82 h44 h83 c1 c2 c3 c4 c5 c6 c7 c8 c9 c10 c11
           | true=>
            cases c12:qf with
            | false=>
             simp -implicitDefEqProofs (disch:=omega) only [ZS,seval,ZX,hn,hc,ho,hs,hi,hl,he,hk,hg1,hg2,hb1,hb2,bne,dp,cv1,cv2,cp1,cp2,cf1,cf2,ca1,ca2,ct1,ct2,h42,h43,h82,h44,h83,c1,c2,c3,c4,c5,c6,c7,c8,c9,c10,c11,c12]
             all_goals exact Nat.le_refl _
            | true=>
             cases c13:qa with
             | false=>
              simp -implicitDefEqProofs (disch:=omega) only [ZS,seval,ZX,hn,hc,ho,hs,hi,hl,he,hk,hg1,hg2,hb1,hb2,bne,dp,cv1,cv2,cp1,cp2,cf1,cf2,ca1,ca2,ct1,ct2,h42,h43,h82,h44,h83,c1,c2,c3,c4,c5,c6,c7,c8,c9,c10,c11,c12,c13]
              all_goals exact Nat.le_refl _
             | true=>
              simp -implicitDefEqProofs (disch:=omega) only [ZS,seval,ZX,hn,hc,ho,hs,hi,hl,he,hk,hg1,hg2,hb1,hb2,bne,dp,cv1,cv2,cp1,cp2,cf1,cf2,ca1,ca2,ct1,ct2,h42,h43,h82,h44,h83,c1,c2,c3,c4,c5,c6,c7,c8,c9,c10,c11,c12,c13]
              all_goals exact Nat.le_refl _
end Go.Proofs.YtokdflgpbfjpcaaGreatDoor
namespace Go.PE
open Go Go.EvL
section
variable {P:Program}{Γ:Nat→Option gk}{ext:ar}
theorem wF {g r:Nat}{fn:gk}{args:List PV}{s:PS} (hg:Γ g=some fn) (hl:args.length≤fn.nt) (hr:fn.res=[.tmp r]) (hk:fn.keep=false) (h:Er (fun f' s'=>s.n≤s'.w∧∃b:Bool,f' r=.sc (.bool b)) (aT P Γ ext fn.body (bC args 0) ⟨s.h,s.n,s.n⟩)):∃b:Bool,aH P Γ ext g args s=some (.sc (.bool b),s):=by
 obtain⟨f',s',e,hw,b,hb⟩:=h;exact⟨b,fe hg hl hr hk ⟨f',s',e,hw,hb⟩⟩
end
end Go.PE
namespace Go.Proofs.YtokdflgpbfjpcaaGreatDoor
open Go Go.EvL Go.PE Go.Mir
variable {ext:ar}
def wd (t:List UInt8):Bool:=decide (t.length≤60) || decide (4096 < t.length)
theorem jm {b:ByteArray} (s:PS):Pc ext 34 [.sc (.string b)] (.sc (.bool (wd b.data.toList))) s:=by
 refine q1 Oz 2 ?_;unfold Oz wd;cases c1:decide (b.data.toList.length≤60) with
 | true=>exact bm c1
 | false=>exact bm c1
theorem Md {xs:List eD} (hx:xs.length < 1000000000000) {n0:Nat}{s:PS} (hn:n0≤s.w):∀(k i:Nat) (f:aX),i + k=xs.length→f 0=.lit 44 xs.length (xs.flatMap eD.cells)→f 3=iN i→
  Er (fun f' s'=>n0≤s'.w∧∃b:Bool,f' 2=.sc (.bool b)) (LP Tryz.prog Γ ext 0 qL vF f s):=by
 intro k
 induction k with
 | zero=>
  intro i f hk h0 h3;have e1:decide (i < xs.length)=false:=df;refine ad fun L hL=>?_;refine He @qL.eq_1 @vF.eq_1 h0 h3 e1 ?_;exact⟨hn,_,rfl⟩
 | succ k ih=>
  intro i f hk h0 h3;have hl:i < xs.length:=om;have e1:decide (i < xs.length)=true:=decide_eq_true hl;have hj:xs[i]?=some xs[i]:=List.getElem?_eq_getElem hl;have hfl:=aJ (c:=eD.cells) (es:=5) (fun _=>rfl) xs;obtain⟨rr,hk3⟩:=cm (c:=eD.cells) (es:=5) (fun _=>rfl) hj;have hgo:=ih (i + 1);generalize xs[i]=x at hk3;obtain⟨n,v,a1,a2,a3⟩:=x;simp only [eD.cells,List.cons_append,List.nil_append] at hk3;refine ad fun L hL=>?_;cases c2:decide (i≤130) with
  | false=>
   refine Fy @qL.eq_1 @vF.eq_1 h0 h3 e1 c2 hl ?_;exact⟨hn,_,rfl⟩
  | true=>
  cases c3:decide (60 < n.data.toList.length) with
  | true=>
   refine jU @qL.eq_1 @vF.eq_1 h0 h3 e1 c2 c3 hl hfl hk3 @aw tv ?_;exact⟨hn,_,rfl⟩
  | false=>
  cases c4:decide (60 < v.data.toList.length) with
  | false=>
   refine jU @qL.eq_1 h0 h3 e1 c2 c3 c4 hl hfl hk3 @aw tv ?_;subst hL;exact hgo _ om (bm h0) bw
  | true=>
  cases c5:decide (v.data.toList.length≤4096) with
  | true=>
   refine sa @qL.eq_1 @vF.eq_1 h0 h3 e1 c2 c3 c4 c5 hl hfl hk3 @aw tv ?_;exact⟨hn,_,rfl⟩
  | false=>
   refine jU @qL.eq_1 h0 h3 e1 c2 c3 c4 c5 hl hfl hk3 @aw ?_;subst hL;exact hgo _ om (bm h0) bw
theorem Ko {y:Option (List eD)} (hx:(y.getD []).length < 1000000000000) (s:PS):∃b:Bool,Pc ext 32 [aU 44 eD.cells y] (.sc (.bool b)) s:=by
 refine wF (fn:=LN) (r:=2) (by rfl) (by simp [LN]) (by rfl) (by rfl) ?_;unfold LN;cases y with
 | none=>
  have z0:decide ((0:Int) < 0)=false:=rfl;refine uA @bU ?_;refine ad fun L hL=>?_;simp -implicitDefEqProofs (disch:=omega) only [ZS,seval,qL,vF,z0]
  all_goals first | exact⟨Nat.le_refl _,_,rfl⟩ | exact⟨_,rfl⟩
 | some xs=>
  refine uA @bU ?_;exact Md (xs:=xs) hx (n0:=s.n) bw xs.length 0 _ (Nat.zero_add _) (bm @bU) bw
theorem Oc {xs:List ByteArray} (hx:xs.length < 1000000000000) {n0:Nat}{s:PS} (hn:n0≤s.w):∀(k i:Nat) (f:aX),i + k=xs.length→f 0=.lit 9 xs.length (xs.flatMap gq)→f 3=iN i→
  Er (fun f' s'=>n0≤s'.w∧∃b:Bool,f' 2=.sc (.bool b)) (LP Tryz.prog Γ ext 0 tQ yk f s):=by
 intro k
 induction k with
 | zero=>
  intro i f hk h0 h3;have e1:decide (i < xs.length)=false:=df;refine ad fun L hL=>?_;refine He @tQ.eq_1 @yk.eq_1 h0 h3 e1 ?_;exact⟨hn,_,rfl⟩
 | succ k ih=>
  intro i f hk h0 h3;have hl:i < xs.length:=om;have e1:decide (i < xs.length)=true:=decide_eq_true hl;have hj:xs[i]?=some xs[i]:=List.getElem?_eq_getElem hl;have hfl:=aJ (c:=gq) (es:=1) (fun _=>rfl) xs;obtain⟨rr,hk3⟩:=cm (c:=gq) (es:=1) (fun _=>rfl) hj;have hgo:=ih (i + 1);generalize xs[i]=x at hk3;simp only [gq,List.cons_append,List.nil_append,Nat.mul_one] at hk3 hfl;refine ad fun L hL=>?_;cases c2:decide (i≤514) with
  | false=>
   refine Fy @tQ.eq_1 @yk.eq_1 h0 h3 e1 c2 hl ?_;exact⟨hn,_,rfl⟩
  | true=>
  cases c3:wd x.data.toList with
  | false=>
   refine sa @tQ.eq_1 @yk.eq_1 h0 h3 e1 c2 c3 hl hfl hk3 @Nat.mul_one @aw @jm tv ?_;exact⟨hn,_,rfl⟩
  | true=>
   refine jU @tQ.eq_1 h0 h3 e1 c2 c3 hl hfl hk3 @Nat.mul_one @aw @jm ?_;subst hL;exact hgo _ om (bm h0) bw
theorem N1 {y:Option (List ByteArray)} (hx:(y.getD []).length < 1000000000000) (s:PS):∃b:Bool,Pc ext 33 [aU 9 gq y] (.sc (.bool b)) s:=by
 refine wF (fn:=LL) (r:=2) (by rfl) (by simp [LL]) (by rfl) (by rfl) ?_;unfold LL;cases y with
 | none=>
  have z0:decide ((0:Int) < 0)=false:=rfl;refine uA @bU ?_;refine ad fun L hL=>?_;simp -implicitDefEqProofs (disch:=omega) only [ZS,seval,tQ,yk,z0]
  all_goals first | exact⟨Nat.le_refl _,_,rfl⟩ | exact⟨_,rfl⟩
 | some xs=>
  refine uA @bU ?_;exact Oc (xs:=xs) hx (n0:=s.n) bw xs.length 0 _ (Nat.zero_add _) (bm @bU) bw
noncomputable def Up (ext:ar) (x:am) (la:List aB) (lw:List ay) (lr:List aD) (lk:List am) (li:List aK) (pt:aK→Option (List ay)) (bd:aK→Option (List am)):Bool:=
 fq x.kind (kinds lk) && ((lw.all fun w=>okW ext w.parts) && (lr.all (Cg (okW ext) (okH ext)) && (li.all (sd (okW ext) pt bd) &&
  if x.kind == 1 then pX (okV ext) EV x la lw lr.length li.length else KC x.kind x.name.data.toList x.all la.length lw.length lr.length li.length)))
theorem cK {α:Type}{e:Nat}{c:α→List PV} (y:Option (List α)):aC (aU e c y)=[aU e c y]:=by cases y<;>rfl
theorem Hw {D d:Nat}{x:am}{la:Option (List aB)}{lw:Option (List ay)}{lr:Option (List aD)}{lk:Option (List am)}{li:Option (List aK)}{pt:aK→Option (List ay)}{bd:aK→Option (List am)} (hd:Ih D d x la lw lr lk li pt bd) (hN:aR x.cells≤16777216) (s:PS) :
  Pc ext 220 [.agg x.cells] (.sc (.bool (pX (okV ext) EV x (la.getD []) (lw.getD []) (lr.getD []).length (li.getD []).length))) s:=by
 obtain⟨n1,n2,n3,n4⟩:=hd.sizes hN;have hA:=fun a (ha:a∈la.getD [])=>hd.words a.val (by
  simp only [eT,List.mem_append,List.mem_map];exact .inl (.inl (.inl ⟨a,ha,rfl⟩)))
 have hW:=fun w (hw:w∈lw.getD [])=>hd.words w (by
  simp only [eT,List.mem_append];exact .inl (.inl (.inr hw)))
 have hba:x.assigns.bulk≤16777216:=Nat.le_trans (gQ (by simp [am.cells])) hN;have hbw:x.words.bulk≤16777216:=Nat.le_trans (gQ (by simp [am.cells])) hN;have hav:∀a∈la.getD [],∀s,Pc ext 242 [a.parts] (.sc (.int .i64 (if okV ext a.parts then 0 else 1))) s:=fun a ha s=>
  U0 (hA a ha) (dL hd.a ha (p:=a.parts) (by simp [aB.cells]) hba).1 s
 have hac:∀a∈la.getD [],a.name.data.toList.length < 1000000000000∧aC a.parts=[a.parts]:=fun a ha=>by
  have h1:=(dL hd.a ha (p:=.sc (.string a.name)) (by simp [aB.cells]) hba).1;have h2:(PV.sc (.string a.name)).bulk=a.name.data.toList.length + 1:=by simp only [PV.bulk,Cv]
  exact⟨om,(hA a ha).one'.2⟩
 have hw:∃y:Option (List au),((lw.getD []).length=0∧gB false x.words=some (.sc (.int .i64 0))∧lw.getD []=[])∨∃w r,lw.getD []=w :: r∧(lw.getD []).length=(lw.getD []).length∧x.words=.lit 102 (lw.getD []).length ((lw.getD []).flatMap ay.cells)∧w.parts=aU 155 au.cells y∧EV w.parts=y.getD []∧(y.getD []).length < 1000000000000∧∀p∈y.getD [],p.text.data.toList.length < 1000000000000:=by
  have hxw:=hd.w;cases lw with
  | none=>exact⟨none,.inl ⟨rfl,by rw [hxw]; rfl,rfl⟩⟩
  | some l=>
   cases l with
   | nil=>exact⟨none,.inl ⟨rfl,by rw [hxw]; rfl,rfl⟩⟩
   | cons w r=>
    have hp:=hW w (List.mem_cons_self ..);obtain⟨y,hy,hy2⟩:=Ei hp.sl;have hb:=(dL hd.w (x:=w) (List.mem_cons_self ..) (p:=w.parts) (by simp [ay.cells]) hbw).1;rw [hy] at hb;obtain⟨t1,t2⟩:=vU hb;exact⟨y,.inr ⟨w,r,rfl,rfl,hxw,hy,hy2.symm,om,fun p hp=>by have:=(t2 p hp).1; omega⟩⟩
 obtain⟨y,hw⟩:=hw;have hr:=bT (e:=129) (c:=aD.cells) lr;have hi:=bT (e:=134) (c:=aK.cells) li;have ha:=bT (e:=104) (c:=aB.cells) la;rw [← hd.r] at hr;rw [← hd.i] at hi;rw [← hd.a] at ha;obtain⟨k,p,nm,al,aa,ws,rs,v,is⟩:=x;simp only at hr hi ha hw;have hrest:=fun (b n0:Nat) (s:PS) (h1:n0≤s.w) (h2:s.h b=_) f h3=>Gc (ext:=ext) (k:=k) (p:=p) (nm:=nm) (al:=al) (aa:=aa) (ws:=ws) (rs:=rs) (v:=v) (is:=is) (na:=(la.getD []).length) (nw:=(lw.getD []).length) (nr:=(lr.getD []).length) (ni:=(li.getD []).length) (lw:=lw.getD []) (y:=y) om om h1 h2 ha hr hi (hw.imp id fun ⟨w,r,e1,e2,e3,e4,_,e5,e6⟩=>⟨w,r,e1,rfl,e3,e4,e5,e6⟩) om f h3;have hm:oS (lw.getD []) (fun _=>i3 (y.getD []))=oS (lw.getD []) (fun w=>i3 (EV w.parts)):=by
  rcases hw with ⟨_,_,h⟩ | ⟨w,r,h,_,_,_,h2,_⟩
  ·rw [h];rfl
  ·rw [h];show i3 _=i3 _;rw [h2]
 rw [hm] at hrest;have hxa:=hd.a;simp only at hxa;clear hm hw;refine lH Sv 2 ?_;unfold Sv pX;simp only [am.cells];cases la with
 | none=>
  have z0:decide ((0:Int) < 0)=false:=rfl;simp only [Option.getD_none,List.all_nil,Bool.true_and,List.length_nil,Nat.zero_add] at hrest ⊢;refine Gq ?_;refine ad fun L hL=>?_;simp only [aU] at hxa;subst hxa;refine vp @ol.eq_1 z0 ?_;exact hrest s.n _ _ bw bw _ bw
 | some l=>
  simp only [Option.getD_some] at hrest hav hac n1 ⊢;refine Gq ?_;exact ND (x:=⟨k,p,nm,al,aa,ws,rs,v,is⟩) (b:=s.n) (n0:=s.n) om bw (bm @am.cells.eq_1) hxa hav hac (fun f h=>hrest s.n _ _ bw bw f h) l.length 0 _ (Nat.zero_add _) bw bw
theorem Db {D d:Nat}{x:am}{la:Option (List aB)}{lw:Option (List ay)}{lr:Option (List aD)}{lk:Option (List am)}{li:Option (List aK)}{pt:aK→Option (List ay)}{bd:aK→Option (List am)} (hd:Ih D d x la lw lr lk li pt bd) (hN:aR x.cells≤16777216) (s:PS) :
  Pc ext 181 [.agg x.cells] (.sc (.bool (Up ext x (la.getD []) (lw.getD []) (lr.getD []) (lk.getD []) (li.getD []) pt bd))) s:=by
 obtain⟨n1,n2,n3,n4⟩:=hd.sizes hN;have hW:=fun w (hw:w∈lw.getD [])=>hd.words w (by
  simp only [eT,List.mem_append];exact .inl (.inl (.inr hw)))
 have hR:=fun r (hr:r∈lr.getD [])=>hd.words r.tgt (by
  simp only [eT,List.mem_append,List.mem_map];exact .inl (.inr ⟨r,hr,rfl⟩))
 have hI:=fun it (hi:it∈li.getD []) w (hw:w∈(pt it).getD [])=>hd.words w (by
  simp only [eT,List.mem_append,List.mem_flatMap];exact .inr ⟨it,hi,hw⟩)
 have hmem:∀p∈x.cells,p.bulk≤16777216:=fun p hp=>Nat.le_trans (gQ hp) hN;have hbw:=hmem x.words (by simp [am.cells]);have hbr:=hmem x.redirs (by simp [am.cells]);have hbi:=hmem x.items (by simp [am.cells]);have hbn:=hmem (.sc (.string x.name)) (by simp [am.cells]);rw [show (PV.sc (.string x.name)).bulk=x.name.data.toList.length + 1 by simp only [PV.bulk,Cv]] at hbn;have hpb:∀it∈li.getD [],it.pats.bulk≤16777216∧it.body.bulk≤16777216:=fun it hi=>
  ⟨(dL hd.i hi (p:=it.pats) (by simp [aK.cells]) hbi).1,(dL hd.i hi (p:=it.body) (by simp [aK.cells]) hbi).1⟩
 have h1:=fun s=>Ql (ext:=ext) hd.k om s;have h2:=fun s=>JR (ext:=ext) (y:=lw) (ok:=fun w=>okW ext w.parts) om (fun w hw s=>DN (hW w hw) (dL hd.w hw (p:=w.parts) (by simp [ay.cells]) hbw).1 _ s) s;have hrb:=fun r (hr:r∈lr.getD [])=>(dL hd.r hr (p:=r.parts) (by simp [aD.cells]) hbr).1;have h3:=fun s=>Ik (ext:=ext) (y:=lr) (okW:=okW ext) (okH:=okH ext) om (fun r hr=>(hR r hr).one') (fun r hr s=>DN (hR r hr) (hrb r hr) _ s) (fun r hr s=>RO (hR r hr) (hrb r hr) s) s;have h4:=fun s=>MY (ext:=ext) (y:=li) (okW:=okW ext) (pt:=pt) (bd:=bd) om hd.hpt hd.hbd (fun it hi w hw s=>DN (hI it hi w hw) (dL (hd.hpt it hi) hw (p:=w.parts) (by simp [ay.cells]) (hpb it hi).1).1 _ s) (fun it hi=>⟨by have:=lP (hd.hpt it hi) (fun x=>by rw [ay.len]; omega) (hpb it hi).1; omega,by have:=lP (hd.hbd it hi) (fun x=>by rw [am.len]; omega) (hpb it hi).2; omega⟩) s;have h5:=fun s=>Hw (ext:=ext) hd hN s;have l1:=bT (e:=104) (c:=aB.cells) la;have l2:=bT (e:=102) (c:=ay.cells) lw;have l3:=bT (e:=129) (c:=aD.cells) lr;have l4:=bT (e:=134) (c:=aK.cells) li;have c1:=cK (e:=104) (c:=aB.cells) la;have c2:=cK (e:=102) (c:=ay.cells) lw;have c3:=cK (e:=129) (c:=aD.cells) lr;have c4:=cK (e:=134) (c:=aK.cells) li;rw [← hd.a] at l1 c1;rw [← hd.w] at l2 c2 h2;rw [← hd.r] at l3 c3 h3;rw [← hd.i] at l4 c4 h4;exact IW (ext:=ext) om l1 l2 l3 l4 c1 c2 c3 c4 h1 h2 h3 h4 (fun _=>h5) s
end Go.Proofs.YtokdflgpbfjpcaaGreatDoor
