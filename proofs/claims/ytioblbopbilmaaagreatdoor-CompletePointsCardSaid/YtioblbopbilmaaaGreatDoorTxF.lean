/- What functions of the program and of the reference compute, on values. No statement is proved here. -/
import Derived.Test.YtioblbopbilmaaaGreatDoorTxE
import Derived.Test.YtioblbopbilmaaaGreatDoorTxB
import Derived.Test.YtioblbopbilmaaaGreatDoorTxA
import Derived.Test.YtioblbopbilmaaaGreatDoorTxD
set_option linter.all false
open Nat renaming reduceEqDiff → qA, reduceAdd → qB, reduceLeDiff → qC, reduceLT → qD, reduceBEq → qE, reduceMul → qF, reduceSub → qG
namespace Go.PE
open Go Go.EvL
section
variable {P:Program}{Γ:Nat→Option fe}{ext:aw}{c:dW}
theorem SU (f:aE) (s:PS) (t:Nat) (z:Value) (x:Operand):cq P c f s (.asr t z x)=zv (Je t z (aA f x)) s:=by
 show fj (bS P f s (.asr t z x))=_;unfold zv;simp only [bS]
end
end Go.PE
namespace Go.Proofs.YtioblbopbilmaaaGreatDoor
open Go Go.EvL Go.PE Go.Mir
variable {ext:aw}
theorem SA (a e:Nat):LO true (E0 (.sc (lw a e)))=some (.sc (.bool true)):=rfl
theorem Tu (a e:Nat) (z:Value):Je 164 z (.sc (lw a e))=some (.tup [.agg [iv a,iv e],.sc (.bool true)]):=rfl
def Fx (ts:List Nat):ZC→Option ZR
 | .go .ret f s=>some (.ok (.tup (ts.map f)) s)
 | .go .normal f s=>some (.ok (.tup (ts.map f)) s)
 | .pan v f s=>some (.ok (.agg (.sc v :: ts.map f)) s)
 | _=>none
theorem Sg (ts:List Nat) (f:aE) (s:PS):Fx ts (.go .ret f s)=some (.ok (.tup (ts.map f)) s):=rfl
theorem E5 (ts:List Nat) (f:aE) (s:PS):Fx ts (.go .normal f s)=some (.ok (.tup (ts.map f)) s):=rfl
theorem QE (ts:List Nat) (v:Value) (f:aE) (s:PS):Fx ts (.pan v f s)=some (.ok (.agg (.sc v :: ts.map f)) s):=rfl
theorem FA {X:Option ZR}{v:PV}{s:PS}{Q:PS→Prop} (h:∀R,R=some (.ok v s)→X=R) (q:Q s):∃s,X=some (.ok v s)∧Q s:=⟨s,h _ rfl,q⟩
theorem D2 {ts:List Nat}{c:aR}{f:aE}{s:PS}{l:List PV}{s':PS} (h:zr Tryz.prog Γ ext (Fx ts) c f s []=some (.ok (.tup l) s')):∃x f',io Tryz.prog Γ ext c f s=some (x,f',s')∧(x=.normal∨x=.ret)∧ts.map f'=l:=by
 unfold zr iD kz at h;rw [Option.bind_eq_some_iff] at h;obtain⟨zc,h1,h2⟩:=h;rcases zc with ⟨x,f',s1⟩ | ⟨v',f',s1⟩
 ·cases x with
  | normal=>
   injection h2 with h2;injection h2 with e1 e2;injection e1 with e1;subst e2;exact⟨_,f',yM h1,.inl rfl,e1⟩
  | ret=>
   injection h2 with h2;injection h2 with e1 e2;injection e1 with e1;subst e2;exact⟨_,f',yM h1,.inr rfl,e1⟩
  | exit i=>cases h2
 ·injection h2 with h2;injection h2 with e1 e2;cases e1
theorem SS {ts:List Nat}{c:aR}{f:aE}{s:PS}{v:Value}{l:List PV}{s':PS} (h:zr Tryz.prog Γ ext (Fx ts) c f s []=some (.ok (.agg (.sc v :: l)) s')):∃f',eg Tryz.prog Γ ext c f s=some (.pan v f' s')∧ts.map f'=l:=by
 unfold zr iD kz at h;rw [Option.bind_eq_some_iff] at h;obtain⟨zc,h1,h2⟩:=h;rcases zc with ⟨x,f',s1⟩ | ⟨v',f',s1⟩
 ·cases x with
  | normal=>injection h2 with h2; injection h2 with e1 e2; cases e1
  | ret=>injection h2 with h2; injection h2 with e1 e2; cases e1
  | exit i=>cases h2
 ·injection h2 with h2;injection h2 with e1 e2;injection e1 with e1;injection e1 with e1 e3;injection e1 with e1;subst e1; subst e2;exact⟨f',h1,e3⟩
theorem wo {ts:List Nat}{l:List PI}{f:aE}{s:PS}{vs:List PV}{s':PS} (h:zr Tryz.prog Γ ext (Fx ts) (.reg l) f s []=some (.ok (.tup vs) s')):∃f',uf Tryz.prog Γ ext l f s=some (f',s')∧ts.map f'=vs:=by
 obtain⟨x,f',h1,_,q⟩:=D2 h;rw [Dp,Option.map_eq_some_iff] at h1;obtain⟨⟨f1,s1⟩,h1,h2⟩:=h1;injection h2 with _ h2;injection h2 with e1 e2;subst e1; subst e2;exact⟨_,h1,q⟩
def BE (l:List UInt8) (pl:Nat):R:=if 16384 < l.length then .error (0,3) else wd 16384 l (4 * l.length + 4) (.loop 0 (bW pl false) 1 0 0 [])
def AV:R→PV
 | .ok (ps,_)=>.tup [bK ps,iv 0,iv 0]
 | .error (x,e)=>.tup [nv,iv x,iv e]
set_option maxRecDepth 3000
set_option maxHeartbeats 3000000
theorem Dc {n x e:Nat}{f2:aE}{s2:PS} (h4:f2 4=.ptr n 0 1) (h5:f2 5=.ptr (n + 1) 0 1) (h6:f2 6=.ptr (n + 2) 0 1) (hn:n + 3≤s2.n) (hw:n≤s2.w) {v0 v1 v2:PV} (a0:s2.h n=⟨[v0],0,78⟩) (a1:s2.h (n + 1)=⟨[v1],0,3⟩) (a2:s2.h (n + 2)=⟨[v2],0,43⟩) :
  s5 Tryz.prog Γ ext gO [.ptr n 0 1,.ptr (n + 1) 0 1,.ptr (n + 2) 0 1] n (.tup [nv,iv x,iv e]) (lw x e) f2 s2:=by
 refine⟨by show 3≤19; omega,?_⟩;obtain⟨s3,z3,rfl⟩ : ∃S,zr Tryz.prog Γ ext (Fx [0,1,2,3]) (.reg gO.l3) (aE.set (ej [.ptr n 0 1,.ptr (n + 1) 0 1,.ptr (n + 2) 0 1] 0) gO.d2 (.sc (lw x e))) s2 []=some (.ok (.tup [.ptr n 0 1,.ptr (n + 1) 0 1,.ptr (n + 2) 0 1,.sc (lw x e)]) S)∧S=s2:=by
  apply FA
  ·intro R hR;unfold gO;simp -implicitDefEqProofs (disch:=first | assumption | (apply Ar.mk; first | omega | (simp only [Zj]; omega))) only [ZN,ai,qA,↓reduceIte,qB,reduceCtorEq,E5];exact hR.symm
  ·rfl
 obtain⟨fd1,p3,q3⟩:=wo z3;simp only [List.map_cons,List.map_nil,List.cons.injEq,and_true] at q3;obtain⟨q0,q1,q2,q3⟩:=q3;obtain⟨s4,z4,b0,b1,b2,bw⟩ : ∃S,zr Tryz.prog Γ ext (Fx []) gO.c3 fd1 s3 []=some (.ok (.tup []) S)∧S.h n=⟨[nv],1,78⟩∧S.h (n + 1)=⟨[iv x],1,3⟩∧S.h (n + 2)=⟨[iv e],1,43⟩∧n≤S.w:=by
  apply FA
  ·intro R hR;unfold gO;simp -implicitDefEqProofs (disch:=first | assumption | (apply Ar.mk; first | omega | (simp only [Zj]; omega)) | (apply Ak.mk; first | rfl | exact .inl rfl | exact .inr rfl | exact aq _ _ | exact av _ _ | (unfold aG az; simp<;>omega) | with_unfolding_all rfl | exact .inr (by with_unfolding_all rfl))) only [ZN,ai,qA,↓reduceIte,qB,qC,reduceCtorEq,aa,ad,ZM,ZV,aW,aZ,aS,E5,q0,q1,q2,q3,Mb,SA,SU,Tu,a0,a1,a2];exact hR.symm
  ·refine⟨?_,?_,?_,?_⟩
   ·simp -implicitDefEqProofs (disch:=(apply Ar.mk; (try simp only [aj,ak]); omega)) only [ap,ao,ak,au,aI]
   ·simp -implicitDefEqProofs (disch:=(apply Ar.mk; (try simp only [aj,ak]); omega)) only [ap,ao,ak,au,aI]
   ·simp -implicitDefEqProofs (disch:=(apply Ar.mk; (try simp only [aj,ak]); omega)) only [ap,ao,ak,au,aI]
   ·(simp only [cO,db]; omega)
 obtain⟨x4,fd2,p4,hx4,_⟩:=D2 z4;refine⟨fd1,s3,x4,fd2,s4,[nv,iv x,iv e],p3,p4,hx4,?_,bw,rfl⟩;unfold gO;simp only [gj,h4,h5,h6,ur,b0,b1,b2,List.length_cons,List.length_nil,List.drop_zero,List.take_succ_cons,List.take_zero,ad,Option.bind_some,Option.map_some,Nat.zero_add,Nat.le_refl,and_self,if_true,Bool.false_eq_true,if_false]
set_option maxRecDepth 3000
set_option maxHeartbeats 3000000
theorem EA {l:List UInt8}{pl:Nat} (hpl:pl=0∨pl=3) (hl:l.length < 1000000) (s:PS):SK Tryz.prog Γ ext gO 109 [sv l,iv pl] s (AV (BE l pl)):=by
 have hm1:ig (.int .i64 (-1))=.sc (.int .i64 (-1)):=rfl;refine⟨by show 2≤23; omega,?_⟩;obtain⟨s0,z0,n0,a0,a1,a2,w0,o0⟩ : ∃S,zr Tryz.prog Γ ext (Fx [0,1,4,5,6]) (.reg gO.l1) (ej [sv l,iv pl] 0) ⟨s.h,s.n,s.n⟩ []=some (.ok (.tup [sv l,iv pl,.ptr s.n 0 1,.ptr (s.n + 1) 0 1,.ptr (s.n + 2) 0 1]) S)∧S.n=s.n + 3∧S.h s.n=⟨[nv],0,78⟩∧S.h (s.n + 1)=⟨[iv 0],0,3⟩∧S.h (s.n + 2)=⟨[iv 0],0,43⟩∧S.w=s.n∧∀j,j < s.n→S.h j=s.h j:=by
  apply FA
  ·intro R hR;unfold gO;simp -implicitDefEqProofs (disch:=first | assumption | (apply Ar.mk; first | omega | (simp only [Zj]; omega))) only [ZN,ai,qA,↓reduceIte,qB,reduceCtorEq,E5];exact hR.symm
  ·refine⟨rfl,?_,?_,?_,rfl,fun j hj=>?_⟩
   ·simp -implicitDefEqProofs (disch:=(apply Ar.mk; (try simp only [aj,ak]); omega)) only [ap,aj,au,aI]
   ·simp -implicitDefEqProofs (disch:=(apply Ar.mk; (try simp only [aj,ak]); omega)) only [ap,aj,au,aI]
   ·simp -implicitDefEqProofs (disch:=(apply Ar.mk; (try simp only [aj,ak]); omega)) only [ap,aj,au,aI]
   ·simp -implicitDefEqProofs (disch:=(apply Ar.mk; (try simp only [aj,ak]); omega)) only [ap,aj,au]
 obtain⟨f0,p0,q0⟩:=wo z0;simp only [List.map_cons,List.map_nil,List.cons.injEq,and_true] at q0;obtain⟨b0,b1,b4,b5,b6⟩:=q0;have z1:zr Tryz.prog Γ ext (Fx [0,1,4,5,6,8]) (.reg gO.l2) f0 s0 []=some (.ok (.tup [sv l,iv pl,.ptr s.n 0 1,.ptr (s.n + 1) 0 1,.ptr (s.n + 2) 0 1,.fn 109 [] [.ptr s.n 0 1,.ptr (s.n + 1) 0 1,.ptr (s.n + 2) 0 1]]) s0):=by
  unfold gO;simp -implicitDefEqProofs (disch:=first | assumption | (apply Ar.mk; first | omega | (simp only [Zj]; omega))) only [ZN,qA,↓reduceIte,reduceCtorEq,aa,E5,b0,b1,b4,b5,b6]
 obtain⟨f1,p1,q1⟩:=wo z1;simp only [List.map_cons,List.map_nil,List.cons.injEq,and_true] at q1;obtain⟨c0,c1,c4,c5,c6,c8⟩:=q1;refine⟨f0,s0,f1,s0,[.ptr s.n 0 1,.ptr (s.n + 1) 0 1,.ptr (s.n + 2) 0 1],p0,p1,c8,?_⟩;have pan:∀(x e:Nat) (S1:PS),zr Tryz.prog Γ ext (Fx [4,5,6]) gO.rest f1 s0 []=some (.ok (.agg [.sc (lw x e),.ptr s.n 0 1,.ptr (s.n + 1) 0 1,.ptr (s.n + 2) 0 1]) S1)→Fr s0.n s0 S1→XC Tryz.prog Γ ext (XK Tryz.prog Γ ext) gO.rest f1 s0 (s5 Tryz.prog Γ ext gO [.ptr s.n 0 1,.ptr (s.n + 1) 0 1,.ptr (s.n + 2) 0 1] s.n (.tup [nv,iv x,iv e])):=fun x e S1 hz hF=>by
  obtain⟨f',h1,h2⟩:=SS hz;simp only [List.map_cons,List.map_nil,List.cons.injEq,and_true] at h2;obtain⟨h4,h5,h6⟩:=h2;have hn:=hF.n;exact DG h1 (Dc (v0:=nv) (v1:=iv 0) (v2:=iv 0) h4 h5 h6 (by omega) (hF.w s.n (by omega) (by omega)) ((hF.h _ (by omega)).trans a0) ((hF.h _ (by omega)).trans a1) ((hF.h _ (by omega)).trans a2))
 by_cases hb : 16384 < l.length
 ·rw [show BE l pl=.error (0,3) from if_pos hb];refine .inr (pan 0 3 s0 ?_ .refl);unfold gO;simp -implicitDefEqProofs (disch:=first | assumption | (apply Ar.mk; first | omega | (simp only [Zj]; omega))) only [ZN,↓dt,qA,↓reduceIte,aa,QE,c0,c4,c5,c6,dN]
 have hb':l.length < 16385:=by omega
 have hip:=Xm (ext:=ext) hb' (4 * l.length + 4) s0.n pl false 1 none 0 0 [] (s0.new ⟨lr l 0 pl false 1 (gY none) 0 nv nv,0,169⟩) (by omega) (by omega) (Nat.le_refl _) (by rcases hpl with rfl | rfl<;>simp [JK,bW])
  ⟨⟨[],[],nv,nv,0,Nat.zero_le _,(by simp -implicitDefEqProofs (disch:=(apply Ar.mk; (try simp only [aj,ak]); omega)) only [ap,aI]),.inl ⟨rfl,rfl⟩,.inl ⟨rfl,rfl⟩,(fun j m f m' f' h=>by cases h),rfl,uP,Nat.zero_le _⟩,(by (simp only [aj]; omega)),Nat.zero_le _⟩ (by omega)
 rw [show BE l pl=wd 16384 l (4 * l.length + 4) (.loop 0 (bW pl false) 1 0 0 []) from if_neg hb];simp only [Option.getD_none] at hip;generalize wd 16384 l (4 * l.length + 4) (.loop 0 (bW pl false) 1 0 0 [])=r at *;have hfn:gY none = -1:=rfl;rcases r with ⟨x,e⟩ | ⟨ps,j⟩
 ·obtain⟨S1,y1,f1'⟩:=hip;refine .inr (pan x e S1 ?_ ⟨by have:=f1'.n; exact Nat.le_trans (Nat.le_succ _) this,fun i hi=>(f1'.h i hi).trans (by simp -implicitDefEqProofs (disch:=(apply Ar.mk; (try simp only [aj,ak]); omega)) only [ap,au]),fun m g1 g2=>f1'.w m g1 g2⟩);have y1:ah Tryz.prog Γ ext 111 [.ptr s0.n 0 9] (s0.new ⟨[sv l,iv 0,iv pl,.sc (.bool false),iv 1,.sc (.int .i64 (-1)),iv 0,nv,nv],0,169⟩)=_:=y1;unfold gO;simp -implicitDefEqProofs (disch:=first | assumption | (apply Ar.mk; first | omega | (simp only [Zj]; omega))) only [ZN,↓df,qA,↓reduceIte,qB,qC,reduceCtorEq,aa,aD,QE,c0,c1,c4,c5,c6,hm1,y1]
 ·obtain⟨S1,y1,⟨o',v',low',hlow',hk',hA⟩,f1'⟩:=hip;have y1:ah Tryz.prog Γ ext 111 [.ptr s0.n 0 9] (s0.new ⟨[sv l,iv 0,iv pl,.sc (.bool false),iv 1,.sc (.int .i64 (-1)),iv 0,nv,nv],0,169⟩)=_:=y1;have hS:s0.n + 1≤S1.n:=f1'.n;have e0:S1.h s.n=⟨[nv],0,78⟩:=(f1'.h _ (by omega)).trans (by simp -implicitDefEqProofs (disch:=(apply Ar.mk; (try simp only [aj,ak]); omega)) only [ap,au]; exact a0);have e1:S1.h (s.n + 1)=⟨[iv 0],0,3⟩:=(f1'.h _ (by omega)).trans (by simp -implicitDefEqProofs (disch:=(apply Ar.mk; (try simp only [aj,ak]); omega)) only [ap,au]; exact a1);have e2:S1.h (s.n + 2)=⟨[iv 0],0,43⟩:=(f1'.h _ (by omega)).trans (by simp -implicitDefEqProofs (disch:=(apply Ar.mk; (try simp only [aj,ak]); omega)) only [ap,au]; exact a2);have hw:s.n≤S1.w:=f1'.w s.n (by omega) (by (simp only [cO]; omega));obtain⟨s2,z2,g0,g1,g2,g3,g5,g4⟩ : ∃S,zr Tryz.prog Γ ext (Fx [4,5,6]) gO.rest f1 s0 []=some (.ok (.tup [.ptr s.n 0 1,.ptr (s.n + 1) 0 1,.ptr (s.n + 2) 0 1]) S)∧S.h s.n=⟨[v'],1,78⟩∧S.h (s.n + 1)=⟨[iv 0],1,3⟩∧S.h (s.n + 2)=⟨[iv 0],1,43⟩∧s.n≤S.w∧S.n=S1.n∧(∀j,s0.n < j→S.h j=S1.h j):=by
   rcases hA with ⟨rfl,rfl⟩ | ⟨_,kk,ll,_,_,_,rfl,_,_⟩
   ·apply FA
    ·intro R hR;unfold gO;simp -implicitDefEqProofs (disch:=first | assumption | (apply Ar.mk; first | omega | (simp only [Zj]; omega))) only [ZN,↓df,ai,qA,↓reduceIte,qB,qC,reduceCtorEq,aa,aD,ad,ZM,Sg,c0,c1,c4,c5,c6,hm1,y1,hk',e0,e1,e2];exact hR.symm
    ·refine⟨?_,?_,?_,?_,rfl,fun j hj=>?_⟩
     ·simp -implicitDefEqProofs (disch:=(apply Ar.mk; (try simp only [aj,ak]); omega)) only [ao,au,aI]
     ·simp -implicitDefEqProofs (disch:=(apply Ar.mk; (try simp only [aj,ak]); omega)) only [ao,au,aI]
     ·simp -implicitDefEqProofs (disch:=(apply Ar.mk; (try simp only [aj,ak]); omega)) only [ao,au,aI]
     ·(simp only [db]; omega)
     ·simp -implicitDefEqProofs (disch:=(apply Ar.mk; (try simp only [aj,ak]); omega)) only [ao,au]
   ·apply FA
    ·intro R hR;unfold gO;simp -implicitDefEqProofs (disch:=first | assumption | (apply Ar.mk; first | omega | (simp only [Zj]; omega))) only [ZN,↓df,ai,qA,↓reduceIte,qB,qC,reduceCtorEq,aa,aD,ad,ZM,Sg,c0,c1,c4,c5,c6,hm1,y1,hk',e0,e1,e2];exact hR.symm
    ·refine⟨?_,?_,?_,?_,rfl,fun j hj=>?_⟩
     ·simp -implicitDefEqProofs (disch:=(apply Ar.mk; (try simp only [aj,ak]); omega)) only [ao,au,aI]
     ·simp -implicitDefEqProofs (disch:=(apply Ar.mk; (try simp only [aj,ak]); omega)) only [ao,au,aI]
     ·simp -implicitDefEqProofs (disch:=(apply Ar.mk; (try simp only [aj,ak]); omega)) only [ao,au,aI]
     ·(simp only [db]; omega)
     ·simp -implicitDefEqProofs (disch:=(apply Ar.mk; (try simp only [aj,ak]); omega)) only [ao,au]
  obtain⟨x2,f2,p2,hx2,q2⟩:=D2 z2;simp only [List.map_cons,List.map_nil,List.cons.injEq,and_true] at q2;obtain⟨d4,d5,d6⟩:=q2;refine .inl ⟨x2,f2,s2,p2,hx2,by show 3≤19; omega,?_⟩;have z3:zr Tryz.prog Γ ext (Fx [3]) (.reg gO.l3) (aE.set (ej [.ptr s.n 0 1,.ptr (s.n + 1) 0 1,.ptr (s.n + 2) 0 1] 0) gO.d2 (.sc .nilIface)) s2 []=some (.ok (.tup [.sc .nilIface]) s2):=by
   unfold gO;simp -implicitDefEqProofs (disch:=first | assumption | (apply Ar.mk; first | omega | (simp only [Zj]; omega))) only [ZN,ai,↓reduceIte,qB,E5]
  obtain⟨fd1,p3,q3⟩:=wo z3;simp only [List.map_cons,List.map_nil,List.cons.injEq,and_true] at q3;have z4:zr Tryz.prog Γ ext (Fx []) gO.c3 fd1 s2 []=some (.ok (.tup []) s2):=by
   unfold gO;simp -implicitDefEqProofs (disch:=first | assumption | (apply Ar.mk; first | omega | (simp only [Zj]; omega))) only [ZN,↓reduceIte,aa,E5,q3,Mb,QY]
  obtain⟨x4,fd2,p4,hx4,_⟩:=D2 z4;refine⟨fd1,s2,x4,fd2,s2,[v',iv 0,iv 0],p3,p4,hx4,?_,g3,?_⟩
  ·unfold gO;simp only [gj,d4,d5,d6,ur,g0,g1,g2,List.length_cons,List.length_nil,List.drop_zero,List.take_succ_cons,List.take_zero,ad,Option.bind_some,Option.map_some,Nat.zero_add,Nat.le_refl,and_self,if_true,Bool.false_eq_true,if_false]
  ·have hA2:oD 135 5 cJ (s0.n + 1) ID ps v' s2:=by
    rcases hA with ⟨h1,h2⟩ | ⟨h1,kk,ll,h2,h3,h4,h5,h6,h7⟩
    ·exact .inl ⟨h1,h2⟩
    ·refine .inr ⟨h1,kk,ll,h2,?_,h4,h5,(g4 kk (by omega)).trans h6,h7⟩;rw [g5]; exact h3
   have hfz:=zo hA2 (n0:=s.n) (by omega);rcases hA with ⟨_,rfl⟩ | ⟨_,kk,ll,_,_,_,rfl,_,_⟩
   ·simp only [ae,frz,aX,frz2,hfz,Option.bind_some,Option.map_some]; rfl
   ·simp only [ae,frz,aX,frz2,hfz,Option.bind_some,Option.map_some]; rfl
end Go.Proofs.YtioblbopbilmaaaGreatDoor
namespace Go.Mir
theorem unq_len:∀l:List UInt8,(kH l).length≤l.length
 | []=>Nat.le_refl _
 | [c]=>Nat.le_refl _
 | c :: d :: l=>by
  unfold kH;split
  ·have:=unq_len l; simp only [List.length_cons]; omega
  ·have:=unq_len (d :: l); simp only [List.length_cons] at *; omega
theorem AK (t:List UInt8):(lH t).length≤t.length + 1:=by
 unfold lH; split<;>simp
theorem NW (l:List UInt8) (a b:Nat):(sub l a b).length≤b - a:=by
 unfold sub; rw [List.length_take]; omega
theorem Gg {L L':Nat}{l:List UInt8} (h:l.length + 3≤L) (h':l.length + 3≤L') {a:Nat} (ha:a < l.length):fJ L l a=fJ L' l a:=by
 have hr:=jq (l:=l) (t:=.bq (a + 1) a) ⟨by omega,by omega⟩;unfold fJ;simp only;generalize lx l (.bq (a + 1) a)=r at *;simp only [aV.at] at hr;by_cases h2:r.2=0
 ·have h1:=AK (kH (sub l (a + 1) (r.1 - 1)));have h3:=unq_len (sub l (a + 1) (r.1 - 1));have h4:=NW l (a + 1) (r.1 - 1);have h5:=hr.2 h2;have hc:∀t:List UInt8,t.length≤l.length→(ik L t↔ik L' t):=fun t ht=>by
   unfold ik;constructor
   ·rintro⟨_,k⟩; exact⟨by omega,k⟩
   ·rintro⟨_,k⟩; exact⟨by omega,k⟩
  generalize lH (kH (sub l (a + 1) (r.1 - 1)))=t at *;have hr1:=hr.1;have e1:=hc t (by omega);have e2:=hc (t ++ [10]) (by rw [List.length_append]; show t.length + 1≤_; omega);simp only [h2,e1,e2]
 ·rw [if_pos h2,if_pos h2]
theorem Wb {L L':Nat}{l:List UInt8} (h:l.length + 3≤L) (h':l.length + 3≤L'):∀n t,t.ok l→t.size l < n→wd L l n t=wd L' l n t:=by
 intro n
 induction n with
 | zero=>intro t _ _; rfl
 | succ n ih=>
  intro t ok hn;cases t with
  | loop a p lv fr o acc=>
   simp only [aT.ok,aT.size] at ok hn;rw [wd,wd];by_cases ha:a < l.length
   ·have e1:=ih (.loop (a + 1) p lv fr o [dr]) (by simp only [aT.ok]; omega) (by simp only [aT.size]; omega);have e2:=ih (.part a p lv) ha (by simp only [aT.size]; omega);have hw:=fw L' l n (.part a p lv) ha (by simp only [aT.size]; omega);rw [e1,e2];generalize wd L' l n (.part a p lv)=r at *;rcases r with x | ⟨ps,j⟩
    ·rfl
    ·have hj:a < j:=hw.1;have e3:=ih (.loop j p lv fr (if p=4 then bD (bt l a) o else o) (ps.foldl dO acc)) hw.2.1 (by simp only [aT.size]; omega);simp only [e3]
   ·rw [if_neg ha,if_neg ha]
  | part a p lv=>
   simp only [aT.ok,aT.size] at ok hn;rw [wd,wd];have hx:=fun h:ch l a=true=>dD h;have e0:=Gg h h' ok;have e1:=fun hh:a + 1 < l.length=>ih (.brc a p lv) hh (by simp only [aT.size]; omega);have e2:=fun hh:a + 3≤l.length=>ih (.loop (a + 3) 4 (lv + 1) a 0 []) hh (by simp only [aT.size]; omega);have e3:=ih (.loop (a + 1) 2 (lv + 1) a 0 []) (by simp only [aT.ok]; omega) (by simp only [aT.size]; omega);rw [e0,e3];by_cases c1:ch l a=true
   ·rw [e1 (hx c1)];by_cases c2:a + 2 < l.length
    ·rw [e2 (by omega)]
    ·simp only [c2,false_and,if_false]
   ·simp only [c1,Bool.false_eq_true,if_false]
  | brc a p lv=>
   simp only [aT.ok,aT.size] at ok hn;have e1:=ih (.brc2 a p lv) ok (by simp only [aT.size]; omega);rw [wd,wd,e1]
  | brc2 a p lv=>
   simp only [aT.ok,aT.size] at ok hn;rw [wd,wd];have hj:=fA (l:=l) (i:=a + 2) (by omega);have ho:=sw l (ax l (a + 2));by_cases c1:l.length≤ax l (a + 2)
   ·simp only [c1,if_true]
   ·by_cases c2:(nR l (ax l (a + 2))).1=0
    ·simp only [c2,if_true]
    ·have ho:=ho (by omega) c2;rw [ih (.loop (ax l (a + 2) + (nR l (ax l (a + 2))).2.2) (cX p) (lv + 1) a 0 []) ho.2 (by simp only [aT.size]; omega)]
end Go.Mir
namespace Go.Mir
def nL (L:Nat) (l:List UInt8) (p:Nat):R:=if 16384 < l.length then .error (0,3) else wd L l (4 * l.length + 4) (.loop 0 p 1 0 0 [])
theorem OQ {L L':Nat}{l:List UInt8} (h:l.length + 3≤L) (h':l.length + 3≤L') (p:Nat):nL L l p=nL L' l p:=by
 unfold nL;split
 ·rfl
 ·exact Wb h h' _ _ (Nat.zero_le _) (by simp only [aT.size]; omega)
end Go.Mir
namespace Go.Proofs.YtioblbopbilmaaaGreatDoor
open Go Go.EvL Go.PE Go.Mir
variable {ext:aw}
set_option maxRecDepth 3000
set_option maxHeartbeats 3000000
theorem O8 (l:List UInt8):BE l 0=nL 16384 l 0:=rfl
theorem uL (n:Nat) (s:PS) (l:List aJ):frz2 n s (bK l)=some (bK l):=by cases l<;>(rw [bK]; rfl)
def Kh:List PV→Option (List UInt8 × Nat)
 | [.sc (.string b),.sc (.int .i64 p)]=>if p=0 then some (b.data.toList,0) else if p=3 then some (b.data.toList,3) else none
 | _=>none
theorem J9 {args:List PV}{l:List UInt8}{pl:Nat} (h:Kh args=some (l,pl)):args=[sv l,iv pl]∧(pl=0∨pl=3):=by
 unfold Kh at h;split at h
 ·rename_i b p;split at h
  ·rename_i hp;injection h with h; injection h with h1 h2;subst h1; subst h2; subst hp;exact⟨rfl,.inl rfl⟩
  ·split at h
   ·rename_i hp;injection h with h; injection h with h1 h2;subst h1; subst h2; subst hp;exact⟨rfl,.inr rfl⟩
   ·cases h
 ·cases h
def Bs (B:aw):aw:=fun g args s=>if g=66 then (match Kh args with
 | some (l,pl)=>if l.length < 1000000 then some (AV (BE l pl),s) else B g args s
 | none=>B g args s) else B g args s
theorem IM (hE:lW Tryz.prog) (hO:be Tryz.prog) (hm:Tryz.prog.follows .mixedOrders=true) (hP:hZ Tryz.prog) (hT:gx Tryz.prog Γ) {B:aw} (hX:bM Tryz.prog (cz Γ) B):bM Tryz.prog (cz Γ) (Bs B):=by
 intro g args s q s' h;unfold Bs at h;split at h
 ·rename_i hg;subst hg;split at h
  ·rename_i l pl ha;obtain⟨rfl,hp⟩:=J9 ha;split at h
   ·rename_i hl;injection h with h;injection h with e1 e2;subst e1; subst e2;obtain⟨k1,k2⟩:=O6 hE hO hm hP hT hX Tryz.func66 Tryz.func109 UI (EA hp hl s);refine⟨k1,.refl _,fun A β vs hi hs hr=>?_⟩;obtain⟨u,A',β',m1,m2,m3,m4,m5⟩:=k2 A β vs hi hs hr;exact⟨u,A',β',m1,m2,m3,m4,fun _=>m5⟩
   ·exact hX 66 _ s q s' h
  ·exact hX 66 args s q s' h
 ·exact hX g args s q s' h
def JW (ext:aw):Prop:=∀(l:List UInt8) (pl:Nat) (s:PS),pl=0∨pl=3→l.length < 1000000→ext 66 [sv l,iv pl] s=some (AV (BE l pl),s)
theorem zC (B:aw):JW (Bs B):=by
 intro l pl s hp hl;unfold Bs;rw [if_pos rfl];have e:Kh [sv l,iv pl]=some (l,pl):=by
  rcases hp with rfl | rfl<;>rfl
 rw [e];exact if_pos hl
section
variable (hx:JW ext)
include hx
theorem A7 {l:List UInt8} (hl:l.length < 1000000) {pl:Nat} (hp:pl=0∨pl=3) (s:PS):ah Tryz.prog Γ ext 66 [sv l,iv pl] s=some (.ok (AV (BE l pl)) s):=by
 rw [pV (by rfl),hx l pl s hp hl]; rfl
theorem Jw {l:List UInt8} (hl:l.length < 1000000) (s:PS):ah Tryz.prog Γ ext 30 [sv l] s=some (.ok (AV (nL 16384 l 0)) s):=by
 have h:=A7 hx hl (pl:=0) (.inl rfl);rw [O8] at h;have h:∀s,ah Tryz.prog Γ ext 66 [sv l,.sc (.int .i64 ((0:Nat):Int))] s=some (.ok (AV (nL 16384 l 0)) s):=h;generalize nL 16384 l 0=r at *;rcases r with ⟨x,e⟩ | ⟨ps,j⟩
 ·have h:∀s,ah Tryz.prog Γ ext 66 [sv l,.sc (.int .i64 ((0:Nat):Int))] s=some (.ok (.tup [nv,iv x,iv e]) s):=h;show _=some (ZR.ok (.tup [nv,iv x,iv e]) s);refine am (fn:=Uh) [2,3,4] rfl rfl rfl rfl (by unfold Uh; rfl) ?_; intro R hR;simp -implicitDefEqProofs (disch:=first | assumption | (apply Ar.mk; omega)) only [ZN,ai,qA,↓reduceIte,reduceCtorEq,aa,ae,frz,frz2,aP,aX,h];exact hR.symm
 ·have h:∀s,ah Tryz.prog Γ ext 66 [sv l,.sc (.int .i64 ((0:Nat):Int))] s=some (.ok (.tup [bK ps,iv 0,iv 0]) s):=h;show _=some (ZR.ok (.tup [bK ps,iv 0,iv 0]) s);refine am (fn:=Uh) [2,3,4] rfl rfl rfl rfl (by unfold Uh; rfl) ?_; intro R hR;simp -implicitDefEqProofs (disch:=first | assumption | (apply Ar.mk; omega)) only [ZN,ai,qA,↓reduceIte,reduceCtorEq,aa,ae,frz,frz2,aX,ZM,h,↓uL];exact hR.symm
end
end Go.Proofs.YtioblbopbilmaaaGreatDoor
namespace Go.Mir
def j8:List aJ→Option (List UInt8)
 | []=>some []
 | p :: l=>if p.kind=1 then (j8 l).map (p.text ++ ·) else none
def fZ:List aJ→Option (List UInt8)
 | []=>some []
 | p :: l=>if p.kind=1∨p.kind=2 then (fZ l).map (p.text ++ ·) else
   if p.kind=3 then (j8 p.parts).bind fun u=>(fZ l).map (u ++ ·) else none
def np (t:List UInt8):Option (List UInt8):=match nL 16384 t 0 with
 | .ok x=>fZ x.1
 | .error _=>none
def tj:List (List UInt8):=[[59],[38],[38,38],[124,124],[124],[40]]
def jD (t:List UInt8):Bool:=tj.any fun x=>t == x
def zn (t:List UInt8):Bool:=t == [41] || t == [59,59]
def nh:List (List UInt8):=[[33],[123],[100,111],[101,108,105,102],[101,108,115,101],[105,102],[116,104,101,110],[117,110,116,105,108],[119,104,105,108,101]]
def ge (t:List UInt8):Bool:=nh.any fun x=>t == x
def im (t:List UInt8):Bool:=ge t || decide (0 < kr t)
structure Pt where
 ws:List (List UInt8)
 fi:Bool
 ta:Bool
def sD (x:Pt) (t:List UInt8):Pt:=⟨x.ws ++ [(np t).getD t],false,false⟩
def uy (x:Pt) (t:List UInt8):Pt:=if jD t=true then ⟨[],true,false⟩ else if zn t=true then ⟨[],false,false⟩ else ⟨x.ws,x.fi,true⟩
def eV (x:Pt) (k:Nat) (t:List UInt8):Pt:=
 if k=3 then ⟨[],true,false⟩ else
 if k=2 then uy x t else
 if k=1 then (if x.ta=true∨(x.fi=true∧im t=true) then ⟨x.ws,x.fi,false⟩ else sD x t) else ⟨x.ws,x.fi,false⟩
def da (x:Pt) (k:Nat) (t:List UInt8):Pt:=
 if k=3 then ⟨[],true,false⟩ else
 if k=2 then uy x t else
 if k=4 then x else
 if x.ta=true then ⟨x.ws,x.fi,false⟩ else
 if x.fi=true∧im t=true then x else sD x t
theorem Kv (x:Pt) {k:Nat} (h1 : 1≤k) (h2:k≤3) (t:List UInt8):eV x k t=da x k t:=by
 obtain⟨ws,fi,ta⟩:=x;unfold eV da;by_cases c3:k=3
 ·rw [if_pos c3,if_pos c3]
 rw [if_neg c3,if_neg c3];by_cases c2:k=2
 ·rw [if_pos c2,if_pos c2]
 rw [if_neg c2,if_neg c2,if_pos (show k=1 by omega),if_neg (show ¬ k=4 by omega)];cases ta with
 | true=>rw [if_pos (.inl rfl),if_pos rfl]
 | false=>
  simp only [Bool.false_eq_true,false_or,if_false]
theorem NK {l:List UInt8}{i:Nat} (hi:i < l.length) (h:bt l i=60∨bt l i=62) (x y:Pt) (hw:x.ws=y.ws) (hf:x.fi=y.fi):eV x 2 (sub l i (i + sx l i))=da y 2 (sub l i (i + sx l i)):=by
 have h0:sx l i≠0:=AQ hi (by rcases h with h | h<;>rw [h]<;>rfl);have hb:∃t,sub l i (i + sx l i)=l[i] :: t:=by
  unfold sub;rw [dp hi];obtain⟨n,hn⟩ : ∃n,i + sx l i - i=n + 1:=⟨sx l i - 1,by omega⟩
  rw [hn]; exact⟨_,rfl⟩
 obtain⟨t,ht⟩:=hb;rw [ht];rw [cf hi] at h;have hc:l[i]=60∨l[i]=62:=by
  rcases h with h | h
  ·exact .inl (UInt8.toNat_inj.1 h)
  ·exact .inr (UInt8.toNat_inj.1 h)
 have ho:jD (l[i] :: t)=false:=by
  rcases hc with h | h<;>(rw [h]; unfold jD tj; simp)
 have hcl:zn (l[i] :: t)=false:=by
  rcases hc with h | h<;>(rw [h]; unfold zn; simp)
 show uy x _=uy y _;unfold uy;rw [ho,hcl,hw,hf]
structure X3 (l:List UInt8) (i:Nat) (b:Bool) (x y:Pt):Prop where
 ws:x.ws=y.ws
 fi:x.fi=y.fi
 eq:b=false→x=y
 an:b=true→i < l.length∧(bt l i=60∨bt l i=62)
theorem C7 {l:List UInt8}{t:Tk}{suf:List Tk} (ht:t.k≠2):∀(pre:List Tk) (n i:Nat) (b:Bool) (x y:Pt),i≤l.length→X3 l i b x y→fE l n i=.ok (pre ++ t :: suf)→pre.foldl (fun x u=>eV x u.k (u.t l)) x=pre.foldl (fun x u=>da x u.k (u.t l)) y:=by
 intro pre
 induction pre with
 | nil=>
  intro n i b x y hi hs ha;cases b with
  | false=>exact hs.eq rfl
  | true=>
   exfalso;have hn:=sg (hs.an rfl).1 (hs.an rfl).2;cases n with
   | zero=>cases ha
   | succ n=>
    rw [fE,hn] at ha;simp only [show ¬ (2:Nat)=5 by decide,if_false] at ha;split at ha
    ·cases ha
    ·injection ha with ha;injection ha with ha _;rw [← ha] at ht;exact ht rfl
 | cons u pre ih=>
  intro n i b x y hi hs ha;cases n with
  | zero=>cases ha
  | succ n=>
   have hk:=jS (l:=l) hi;rw [fE] at ha;cases hn:iO l i with
   | error e=>rw [hn] at ha; cases ha
   | ok v=>
    rw [hn] at ha hk;simp only at ha hk;have key:v.k≠5∧v=u∧fE l n v.e=.ok (pre ++ t :: suf):=by
     by_cases h5:v.k=5
     ·rw [if_pos h5] at ha;injection ha with ha;injection ha with _ ha;cases pre<;>cases ha
     ·rw [if_neg h5] at ha;split at ha
      ·cases ha
      ·rename_i r hr;injection ha with ha;injection ha with h1 h2;exact⟨h5,h1,by rw [hr,h2]; rfl⟩
    obtain⟨h5,rfl,ha2⟩:=key;clear ha;rw [List.foldl_cons,List.foldl_cons];by_cases h4:v.k=4
    ·cases b with
     | false=>
      have:=hs.eq rfl;subst this;refine ih n v.e true _ _ hk.el ⟨?_,?_,fun h=>(by cases h),fun _=>hk.nu h4⟩ ha2
      ·rw [h4]; rfl
      ·rw [h4]; rfl
     | true=>
      exfalso;have hn':=sg (hs.an rfl).1 (hs.an rfl).2;rw [hn'] at hn;injection hn with hn;rw [← hn] at h4;cases h4
    ·cases b with
     | false=>
      have:=hs.eq rfl;subst this;have e:=Kv x (k:=v.k) hk.ra.1 (by have:=hk.ra.2; omega) (v.t l);refine ih n v.e false _ _ hk.el ⟨by rw [e],by rw [e],fun _=>e,fun h=>(by cases h)⟩ ha2
     | true=>
      have hn':=sg (hs.an rfl).1 (hs.an rfl).2;rw [hn'] at hn;injection hn with hn;subst hn;have e:=NK (hs.an rfl).1 (hs.an rfl).2 x y hs.ws hs.fi;exact ih n _ false _ _ hk.el ⟨congrArg Pt.ws e,congrArg Pt.fi e,fun _=>e,fun h=>(by cases h)⟩ ha2
def cP (q:Nat→Bool) (l:List UInt8):Nat→Nat
 | 0=>0
 | n + 1=>if q (bt l n)=true then cP q l n else n + 1
theorem rT (q:Nat→Bool) (l:List UInt8):∀n,cP q l n≤n
 | 0=>Nat.le_refl _
 | n + 1=>by
  rw [cP];have:=rT q l n;split<;>omega
def i7 (l:List UInt8):Nat:=if 2≤cP aF l l.length∧bt l (cP aF l l.length - 1)=123 then cP aF l l.length - 1 else cP aF l l.length
def j5 (l:List UInt8):Bool:=decide (i7 l≠0∧bt l (i7 l - 1)=36∧(i7 l - 1 - cP (fun c=>c == 92) l (i7 l - 1)) % 2=0)
def jx (l:List UInt8) (ts:List Tk):List UInt8 × Nat × List Tk:=match ts.getLast? with
 | none=>([],l.length,ts)
 | some u=>if (u.k=1∨u.k=4)∧u.e=l.length then (u.t l,u.p,ts.dropLast) else ([],l.length,ts)
def En (ts:List Tk):Nat:=match ts.getLast? with
 | none=>0
 | some u=>u.e
def qs (x:Pt):Nat:=if x.ta=true then 4 else if x.fi=true then 1 else 2
def ql (l:List UInt8) (q:List UInt8 × Nat) (x:Pt):List (List UInt8) × Nat × Nat:=match np q.1 with
 | none=>([],l.length,0)
 | some v=>if x.fi=true∧x.ta=false∧0 < kr q.1 then ([],l.length,0) else (x.ws ++ [v],q.2,qs x)
def pX (step:Pt→Nat→List UInt8→Pt) (l:List UInt8) (ts:List Tk):List (List UInt8) × Nat × Nat:=
 if j9 (l.drop (En ts))=true then ([],l.length,0) else
 ql l ((jx l ts).1,(jx l ts).2.1) ((jx l ts).2.2.foldl (fun x u=>step x u.k (u.t l)) ⟨[],true,false⟩)
def dI (step:Pt→Nat→List UInt8→Pt) (l:List UInt8):List (List UInt8) × Nat × Nat:=
 if j5 l=true then ([],cP aF l l.length,3) else
 match fE l (l.length + 1) 0 with
 | .error _=>([],l.length,0)
 | .ok r=>pX step l r.dropLast
theorem rr {l:List UInt8} : ∀(n i:Nat),i≤l.length→l.length < i + n→∀r,fE l n i=.ok r→∃ts u,r=ts ++ [u]∧u.k=5∧∀v∈ts,v.p < v.e∧v.e≤l.length∧1≤v.k∧v.k≤4∧(v.k=4→v.e < l.length):=by
 intro n
 induction n with
 | zero=>intro i h1 h2; omega
 | succ n ih=>
  intro i h1 h2 r hr;have hk:=jS (l:=l) h1;rw [fE] at hr;cases hn:iO l i with
  | error e=>rw [hn] at hr; cases hr
  | ok v=>
   rw [hn] at hr hk;simp only at hr hk;by_cases h5:v.k=5
   ·rw [if_pos h5] at hr;injection hr with hr;exact⟨[],v,hr.symm,h5,fun w hw=>by cases hw⟩
   ·rw [if_neg h5] at hr;have hlt:=hk.lt h5;have hle:=hk.le;have hel:=hk.el;have ih:=ih v.e hel (by omega);cases ha:fE l n v.e with
    | error e=>rw [ha] at hr; cases hr
    | ok r'=>
     rw [ha] at hr;injection hr with hr;obtain⟨ts,u,e1,e2,e3⟩:=ih r' ha;refine⟨v :: ts,u,by rw [← hr,e1]; rfl,e2,fun w hw=>?_⟩;cases hw with
     | head=>exact⟨hlt,hel,hk.ra.1,by have:=hk.ra.2; omega,fun h=>(hk.nu h).1⟩
     | tail _ hw=>exact e3 w hw
theorem mR {l:List UInt8} : ∀(n i:Nat),i≤l.length→∀r,fE l n i=.ok r→r.length≤l.length - i + 1:=by
 intro n
 induction n with
 | zero=>intro i h r hr; injection hr with hr; subst hr; exact Nat.zero_le _
 | succ n ih=>
  intro i h1 r hr;have hk:=jS (l:=l) h1;rw [fE] at hr;cases hn:iO l i with
  | error e=>rw [hn] at hr; cases hr
  | ok v=>
   rw [hn] at hr hk;simp only at hr hk;by_cases h5:v.k=5
   ·rw [if_pos h5] at hr;injection hr with hr;subst hr;exact Nat.succ_le_succ (Nat.zero_le _)
   ·rw [if_neg h5] at hr;have hlt:=hk.lt h5;have hle:=hk.le;have hel:=hk.el;cases ha:fE l n v.e with
    | error e=>rw [ha] at hr; cases hr
    | ok r'=>
     rw [ha] at hr;injection hr with hr;subst hr;have:=ih v.e hel r' ha;rw [List.length_cons]; omega
theorem CH {l:List UInt8} : ∀(n i:Nat),i≤l.length→∀x,fE l n i=.error x→x.2≠0:=by
 intro n
 induction n with
 | zero=>intro i h x hr; cases hr
 | succ n ih=>
  intro i h1 x hr;have hk:=jS (l:=l) h1;rw [fE] at hr;cases hn:iO l i with
  | error e=>
   rw [hn] at hr hk;injection hr with hr;subst hr;exact hk
  | ok v=>
   rw [hn] at hr hk;simp only at hr hk;by_cases h5:v.k=5
   ·rw [if_pos h5] at hr; cases hr
   ·rw [if_neg h5] at hr;cases ha:fE l n v.e with
    | error e=>
     rw [ha] at hr;injection hr with hr;subst hr;exact ih v.e hk.el e ha
    | ok r'=>rw [ha] at hr; cases hr
theorem Hj (l:List UInt8):dI eV l=dI da l:=by
 unfold dI;split
 ·rfl
 cases ha:fE l (l.length + 1) 0 with
 | error e=>rfl
 | ok r=>
  obtain⟨ts,u,rfl,h5,hts⟩:=rr (l.length + 1) 0 (Nat.zero_le _) (by omega) r ha;simp only [List.dropLast_concat];have s0:X3 l 0 false ⟨[],true,false⟩ ⟨[],true,false⟩:=⟨rfl,rfl,fun _=>rfl,fun h=>by cases h⟩
  have h1:=C7 (t:=u) (suf:=[]) (by omega) ts (l.length + 1) 0 false _ _ (Nat.zero_le _) s0 ha;unfold pX;split
  ·rfl
  have key:((jx l ts).2.2.foldl (fun x u=>eV x u.k (u.t l)) ⟨[],true,false⟩)=((jx l ts).2.2.foldl (fun x u=>da x u.k (u.t l)) ⟨[],true,false⟩):=by
   unfold jx;split
   ·exact h1
   ·rename_i w hw;split
    ·rename_i hc;obtain⟨us,rfl⟩:=List.getLast?_eq_some_iff.1 hw;have hw:=hts w (by simp);simp only [List.dropLast_concat];rw [List.append_assoc] at ha;exact C7 (t:=w) (suf:=[u]) (by rcases hc.1 with h | h<;>omega) us (l.length + 1) 0 false _ _ (Nat.zero_le _) s0 ha
    ·exact h1
  rw [key]
end Go.Mir
namespace Go.Proofs.YtioblbopbilmaaaGreatDoor
open Go Go.EvL Go.PE Go.Mir
variable {ext:aw}
def PX (z:Option ZR) (v:PV) (Q:PS→Prop):Prop:=∃s,z=some (.ok v s)∧Q s
theorem PX.mk' {v:PV}{s:PS}{Q:PS→Prop} (q:Q s):PX (some (.ok v s)) v Q:=⟨s,rfl,q⟩
section
variable {F:ZC→Option ZR}{v:PV}{Q Q':PS→Prop}
theorem ff {g:Nat}{fn:fe}{args:List PV}{s:PS}{B:aR} (res:List Nat) (h:Γ g=some fn) (hr:fn.res=res.map .tmp) (hk:fn.keep=true) (hl:Nat.ble args.length fn.nt=true) (hb:fn.body=B)
  (hR:PX (zr Tryz.prog Γ ext (ZK res s) B (ej args 0) ⟨s.h,s.n,s.n⟩ []) v Q):PX (ah Tryz.prog Γ ext g args s) v Q:=by
 rw [pn fn h args s (Nat.le_of_ble_eq_true hl),M3 hr hk,hb]; exact hR
theorem Sl {z:Option ZR}{v':PV}{d:Option Nat}{f:aE}{l:List PI}{k:List KI} (h:PX z v' Q') (hR:∀s,Q' s→PX (ra Tryz.prog Γ ext F (some (.ok v' s)) d f l k) v Q):PX (ra Tryz.prog Γ ext F z d f l k) v Q:=by
 obtain⟨s,rfl,hq⟩:=h;exact hR s hq
theorem gR {b B:aR} (hb:b=B) (f:aE) (s:PS) (k:List KI):zr Tryz.prog Γ ext F (.loop b) f s k=zr Tryz.prog Γ ext F B f s (.s (.loop b) :: k):=by
 rw [tB]; subst hb; rfl
end
theorem Dq {F:ZC→Option ZR}{z:Option ZR}{v':PV}{Q':PS→Prop}{d:Option Nat}{f:aE}{l:List PI}{k:List KI}{R:Option ZR} (h:PX z v' Q') (hR:∀s,Q' s→ra Tryz.prog Γ ext F (some (.ok v' s)) d f l k=R):ra Tryz.prog Γ ext F z d f l k=R:=by
 obtain⟨s,rfl,hq⟩:=h;exact hR s hq
end Go.Proofs.YtioblbopbilmaaaGreatDoor
namespace Go.PE
open Go Go.EvL
section
variable {P:Program}{c:dW}
noncomputable def WB (s:PS) (e:Nat) (x y:PV):Option (PV × PS):=match y with
 | .sc (.string b)=>fo s e 1 1 x (eN b.data.toList) b.data.toList.length
 | _=>none
theorem vr (f:aE) (s:PS) (e:Nat) (x y:Operand):cq P c f s (.apps e x y)=P3 (WB s e (aA f x) (aA f y)):=rfl
theorem J4 (s:PS) (e:Nat) (x:PV) (l:List UInt8):WB s e x (.sc (.string ⟨⟨l⟩⟩))=fo s e 1 1 x (eN l) l.length:=rfl
theorem Bj (l:List UInt8):(eN l).length=l.length:=List.length_map _
theorem OD (l:List UInt8):(eN l).all eQ=true:=by
 rw [List.all_eq_true];intro x hx;obtain⟨c,_,rfl⟩:=List.mem_map.1 hx;rfl
theorem PM (a b:List UInt8):eN a ++ eN b=eN (a ++ b):=(List.map_append).symm
theorem GE (l:List UInt8):fC (eN l)=some l:=by
 induction l with
 | nil=>rfl
 | cons c l ih=>
  show (fC (eN l)).map _=_;rw [ih];simp [UInt8.ofNat_toNat]
end
end Go.PE
namespace Go.Proofs.YtioblbopbilmaaaGreatDoor
open Go Go.EvL Go.PE Go.Mir
variable {ext:aw}
set_option maxHeartbeats 1000000
theorem RH:pE Tryz.prog 133 133 0 1 2=true:=by kernel_rfl
def wq:Option Bool→Nat | none=>2 | some _=>3
def IF:Option Bool→Nat | none=>133 | some _=>277
def EL (a b:PV):Option Bool→List PV | none=>[a,b] | some w=>[a,b,.sc (.bool w)]
def BA (k b:Nat) (wr:Option Bool) (t:List UInt8) (s:PS):Prop:=∃bV,s.h k=⟨EL (.ptr k 0 (wq wr)) bV wr,wq wr,IF wr⟩∧(t=[]∧bV=nv∨t≠[]∧∃j lj,lj≤t.length∧b≤j∧j < s.n∧bV=.own j 0 t.length t.length∧s.h j=⟨eN t,lj,5⟩)
def BS (k b:Nat) (wr:Option Bool) (t:List UInt8) (s:PS):Prop:=BA k b wr t s∨(t=[]∧∃low,low≤wq wr∧s.h k=⟨EL (.sc (.pointer none)) nv wr,low,IF wr⟩)
def NB (k i:Nat) (s:PS):Prop:=∀m f,(s.h k).cells.getD 1 nv≠.own i 0 m f
structure Fz (k b:Nat) (s s':PS):Prop where
 le:s.n≤s'.n
 fr:∀i,i < s.n→i≠k→NB k i s→s'.h i=s.h i∧NB k i s'
 w:∀n0,n0≤k→n0≤b→n0≤s.n→n0≤s.w→n0≤s'.w
structure Wt (k b:Nat) (wr:Option Bool) (t:List UInt8) (s s':PS):Prop where
 at':BA k b wr t s'
 fz:Fz k b s s'
theorem BS.fr {k b:Nat}{wr:Option Bool}{t:List UInt8}{s s':PS} (h:BS k b wr t s) (hk:k < s.n) (hn:s.n≤s'.n) (hh:∀i,i < s.n→s'.h i=s.h i):BS k b wr t s':=by
 rcases h with ⟨bV,h1,h2⟩ | ⟨h1,low,hl,h2⟩
 ·refine .inl ⟨bV,(hh k hk).trans h1,?_⟩;rcases h2 with h2 | ⟨h0,j,lj,a,c,d,e,f⟩
  ·exact .inl h2
  ·exact .inr ⟨h0,j,lj,a,c,Nat.lt_of_lt_of_le d hn,e,(hh j d).trans f⟩
 ·exact .inr ⟨h1,low,hl,(hh k hk).trans h2⟩
section
variable {k b:Nat}{wr:Option Bool}{s:PS}
theorem Xg {t:List UInt8} (h:BS k b none t s) (hk:k < s.n):PX (ah Tryz.prog Γ ext 112 [.ptr k 0 2] s) (.tup []) (Wt k b none t s):=by
 rcases h with ⟨bV,hk1,h2⟩ | ⟨rfl,low,hlow,hk1⟩
 ·have hk1:s.h k=⟨[.ptr k 0 2,bV],2,133⟩:=hk1;refine ff (fn:=G3) [] rfl rfl rfl rfl (by unfold G3; rfl) ?_;simp -implicitDefEqProofs (disch:=first | assumption | (apply Ar.mk; first | omega | (simp only [Zj]; omega)) | (apply Ar.mk; decide)) only [ZN,ai,qA,↓reduceIte,qB,qC,reduceCtorEq,aa,ae,ad,ZM,ZU,hk1];exact PX.mk' ⟨⟨bV,hk1,h2⟩,⟨Nat.le_refl _,fun i _ _ h=>⟨rfl,h⟩,fun n0 a c d e=>Nat.le_min.2 ⟨e,d⟩⟩⟩
 ·have hend:∀s':PS,s'.h=(s.put k ⟨EL (.ptr k 0 2) nv none,2,133⟩).h→s'.n=s.n→s'.w=min s.w (min s.n k)→Wt k b none [] s s':=fun s' e1 e2 e3=>by
   have hkk:s'.h k=⟨EL (.ptr k 0 (wq none)) nv none,wq none,IF none⟩:=by rw [e1]; exact if_pos rfl
   refine⟨⟨nv,hkk,.inl ⟨rfl,rfl⟩⟩,⟨by rw [e2]; exact Nat.le_refl _,fun i h1 h2 h3=>⟨?_,fun m f=>?_⟩,fun n0 a c d e=>?_⟩⟩
   ·rw [e1]; exact if_neg h2
   ·rw [hkk]; simp [EL]
   ·rw [e3]; omega
  have hk1:s.h k=⟨[.sc (.pointer none),nv],low,133⟩:=hk1;have hlow:low≤2:=hlow;have hf:=RH;refine ff (fn:=G3) [] rfl rfl rfl rfl (by unfold G3; rfl) ?_;simp -implicitDefEqProofs (disch:=first | assumption | (apply Ar.mk; first | omega | (simp only [Zj]; omega)) | (apply Ar.mk; decide)) only [ZN,ai,qA,↓reduceIte,qB,qC,qD,reduceCtorEq,aa,ae,ad,ZM,ZU,hk1,hf,hlow];exact PX.mk' (hend _ rfl rfl rfl)
end
set_option maxHeartbeats 1000000
section
variable {k b:Nat}{s s1:PS}
theorem D5 {wr:Option Bool}{t:List UInt8}{bV:PV}{s2:PS} (g1:s1.h k=⟨EL (.ptr k 0 (wq wr)) bV wr,wq wr,IF wr⟩) (g2:t=[]∧bV=nv∨t≠[]∧∃j lj,lj≤t.length∧b≤j∧j < s1.n∧bV=.own j 0 t.length t.length∧s1.h j=⟨eN t,lj,5⟩) (g3:Fz k b s s1)
  (e1:s2.h=(s1.put k ⟨EL (.ptr k 0 (wq wr)) bV wr,wq wr,IF wr⟩).h) (e2:s2.n=s1.n) (e3:s2.w=min s.w (min s1.w k)):Wt k b wr t s s2:=by
 have hkk:s2.h=s1.h:=by
  rw [e1]; funext i; show hn i k _ _=_;unfold hn; split
  ·rename_i e; rw [e,g1]
  ·rfl
 have g0:=g3.le;refine⟨⟨bV,by rw [hkk]; exact g1,?_⟩,⟨by rw [e2]; exact g0,fun i h1 h2 h3=>?_,fun n0 a c d e=>?_⟩⟩
 ·rw [hkk,e2]; exact g2
 ·obtain⟨q1,q2⟩:=g3.fr i h1 h2 h3;exact⟨by rw [hkk]; exact q1,fun m f=>by rw [hkk]; exact q2 m f⟩
 ·rw [e3]; have:=g3.w n0 a c d e; omega
theorem NU {wr:Option Bool}{u:List UInt8}{s2:PS} (hu:u≠[]) (hk:k < s.n) (hb:b≤s.n) (g3:Fz k b s s1)
  (e1:s2.h=((s1.new ⟨eN u,0,5⟩).put k ⟨EL (.ptr k 0 (wq wr)) (.own s1.n 0 u.length u.length) wr,wq wr,IF wr⟩).h) (e2:s2.n=s1.n + 1) (e3:s2.w=min s.w (min s1.w k)):Wt k b wr u s s2:=by
 have g0:=g3.le;have hkk:s2.h k=⟨EL (.ptr k 0 (wq wr)) (.own s1.n 0 u.length u.length) wr,wq wr,IF wr⟩:=by rw [e1]; exact if_pos rfl
 refine⟨⟨.own s1.n 0 u.length u.length,hkk,.inr ⟨hu,s1.n,0,Nat.zero_le _,by omega,by omega,rfl,?_⟩⟩,⟨by omega,fun i h1 h2 h3=>?_,fun n0 a c d e=>?_⟩⟩
 ·rw [e1]; show hn s1.n k _ (hn s1.n s1.n _ _)=_;rw [au ⟨by omega⟩,aI]
 ·obtain⟨q1,q2⟩:=g3.fr i h1 h2 h3;refine⟨?_,fun m f=>?_⟩
  ·rw [e1]; show hn i k _ (hn i s1.n _ _)=_;rw [au ⟨h2⟩,au ⟨by omega⟩]; exact q1
  ·rw [hkk];have hne:PV.own s1.n 0 u.length u.length≠.own i 0 m f:=fun he=>by injection he; omega
   cases wr<;>exact hne
 ·rw [e3]; have:=g3.w n0 a c d e; omega
theorem K0 {wr:Option Bool}{t u:List UInt8}{j lj:Nat}{s2:PS} (h0:t≠[]) (hk:k < s.n) (hjk:j≠k) (hkb:k < b) (q1:lj≤t.length) (q2:b≤j) (q3:j < s1.n) (g1:s1.h k=⟨EL (.ptr k 0 (wq wr)) (.own j 0 t.length t.length) wr,wq wr,IF wr⟩) (g3:Fz k b s s1)
  (e1:s2.h=((s1.put j ⟨eN (t ++ u),lj,5⟩).put k ⟨EL (.ptr k 0 (wq wr)) (.own j 0 (t ++ u).length (t ++ u).length) wr,wq wr,IF wr⟩).h) (e2:s2.n=s1.n) (e3:s2.w=min s.w (min (min s1.w j) k)):Wt k b wr (t ++ u) s s2:=by
 have g0:=g3.le;have hkk:s2.h k=⟨EL (.ptr k 0 (wq wr)) (.own j 0 (t ++ u).length (t ++ u).length) wr,wq wr,IF wr⟩:=by rw [e1]; exact if_pos rfl
 refine⟨⟨_,hkk,.inr ⟨fun he=>h0 (List.append_eq_nil_iff.1 he).1,j,lj,by rw [List.length_append]; omega,q2,by omega,rfl,?_⟩⟩,⟨by omega,fun i h1 h2 h3=>?_,fun n0 a c d e=>?_⟩⟩
 ·rw [e1]; show hn j k _ (hn j j _ _)=_;rw [au ⟨hjk⟩,aI]
 ·obtain⟨p1,p2⟩:=g3.fr i h1 h2 h3;have hij:i≠j:=fun e=>p2 t.length t.length (by rw [g1,e]; cases wr<;>rfl);refine⟨?_,fun m f=>?_⟩
  ·rw [e1]; show hn i k _ (hn i j _ _)=_;rw [au ⟨h2⟩,au ⟨hij⟩]; exact p1
  ·rw [hkk];have hne:PV.own j 0 (t ++ u).length (t ++ u).length≠.own i 0 m f:=fun he=>by injection he with he; exact hij he.symm
   cases wr<;>exact hne
 ·rw [e3]; have:=g3.w n0 a c d e; omega
theorem UH {t:List UInt8} (u:List UInt8) (h:BS k b (none) t s) (hk:k < s.n) (hkb:k < b) (hb:b≤s.n) (ht:t.length + u.length < 100000000):PX (ah Tryz.prog Γ ext 67 [.ptr k 0 2,sv u] s) (.tup [iv u.length,.sc .nilIface]) (Wt k b (none) (t ++ u) s):=by
 have hbl:=Bj u;have hbo:=OD u;have hcp:=fun (s:PS) (h:BS k b (none) t s) (hk:k < s.n)=>Xg (ext:=ext) h hk;refine ff (fn:=W2) [4,5] rfl rfl rfl rfl (by unfold W2; rfl) ?_;simp -implicitDefEqProofs (disch:=first | assumption | (apply Ar.mk; first | omega | (simp only [Zj]; omega))) only [ZN,ai,↓reduceIte,qB,reduceCtorEq,aa];refine Sl (hcp _ ?_ ?_) fun s1 h1=>?_
 ·exact h
 ·exact hk
 obtain⟨⟨bV,g1,g2⟩,g3⟩:=h1;have g3:Fz k b s s1:=⟨g3.le,g3.fr,fun n0 a c d e=>g3.w n0 a c d (by show n0≤s.n; omega)⟩
 have g0:s.n≤s1.n:=g3.le;have g1':=g1;have g1:s1.h k=⟨[.ptr k 0 2,bV],2,133⟩:=g1;by_cases hu:u=[]
 ·subst hu;rw [List.append_nil];rcases g2 with ⟨rfl,rfl⟩ | ⟨h0,j,lj,q1,q2,q3,rfl,q5⟩
  ·simp -implicitDefEqProofs (disch:=first | assumption | (apply Ar.mk; first | omega | (simp only [Zj]; omega))) only [ZN,ai,qA,↓reduceIte,qB,reduceCtorEq,aa,ae,ad,ZM,g1,vr,J4,eN];exact PX.mk' (D5 g1' (.inl ⟨rfl,rfl⟩) g3 rfl rfl rfl)
  ·simp -implicitDefEqProofs (disch:=first | assumption | (apply Ar.mk; first | omega | (simp only [Zj]; omega))) only [ZN,ai,qA,↓reduceIte,qB,reduceCtorEq,aa,ae,ad,ZM,g1,vr,J4,eN];exact PX.mk' (D5 g1' (.inr ⟨h0,j,lj,q1,q2,q3,rfl,q5⟩) g3 rfl rfl rfl)
 ·have hul:u.length≠0:=by simpa using hu
  rcases g2 with ⟨rfl,rfl⟩ | ⟨h0,j,lj,q1,q2,q3,rfl,q5⟩
  ·simp -implicitDefEqProofs (disch:=first | assumption | (apply Ar.mk; first | omega | (simp only [Zj]; omega))) only [ZN,ai,qA,↓reduceIte,qB,reduceCtorEq,aa,ae,ad,ZM,g1,vr,J4,hbl,hbo];exact PX.mk' (NU hu hk hb g3 rfl rfl rfl)
  ·have hbt:=Bj t;have hba:=PM t u;have hla:(t ++ u).length=t.length + u.length:=List.length_append;have hjk:j≠k:=by omega
   simp -implicitDefEqProofs (disch:=first | assumption | (apply Ar.mk; first | omega | (simp only [Zj]; omega))) only [ZN,ai,qA,↓reduceIte,qB,reduceCtorEq,aa,ae,ad,ZM,g1,q5,vr,J4,hbl,hbo,hbt];rw [hba,← hla];exact PX.mk' (K0 h0 hk hjk hkb q1 q2 q3 g1' g3 rfl rfl rfl)
end
end Go.Proofs.YtioblbopbilmaaaGreatDoor
namespace Go.PE
open Go Go.EvL
theorem OZ:pM (.sc (.slice none 0 0))=some (.sc (.pointer none)):=rfl
theorem Ph (s:PS) (e:Nat):oQ s e (.sc (.pointer none)) (.sc (.int .i64 ((0:Nat):Int)))=some (.sc (.string ⟨⟨[]⟩⟩),s):=rfl
end Go.PE
namespace Go.Proofs.YtioblbopbilmaaaGreatDoor
open Go Go.EvL Go.PE Go.Mir
variable {ext:aw}
set_option maxHeartbeats 1000000
section
variable {k b:Nat}{s:PS}
theorem T8 {a:PV}{t:List UInt8}{j low e:Nat}{rest:List PV}{x:pD} (hk1:s.h k=⟨a :: .own j 0 t.length t.length :: rest,low,e⟩) (hjk:j≠k) (q2:b≤j) {s2:PS} (e1:s2.h=(s.put j x).h) (e2:s2.n=s.n) (e3:s2.w=min s.w (min s.n j)):Fz k b s s2:=by
 have hkk:s2.h k=s.h k:=by rw [e1]; exact au ⟨Ne.symm hjk⟩ _ _
 refine⟨by omega,fun i h1 h2 h3=>⟨?_,fun m f=>by rw [hkk]; exact h3 m f⟩,fun n0 a c d e=>by rw [e3]; omega⟩;rw [e1];exact au ⟨fun e=>h3 t.length t.length (by rw [hk1,e]; rfl)⟩ _ _
theorem WU {t:List UInt8} (h:BS k b (none) t s) (hk:k < s.n) (hkb:k < b) (hb:b≤s.n) (ht:t.length < 100000000):PX (ah Tryz.prog Γ ext 68 [.ptr k 0 2] s) (sv t) (Fz k b s):=by
 have hbt:=Bj t;have hbb:=GE t;have key:∀(bV:PV),(t=[]∧bV=nv∨t≠[]∧∃j lj,lj≤t.length∧b≤j∧j < s.n∧bV=.own j 0 t.length t.length∧s.h j=⟨eN t,lj,5⟩)→∀a low,s.h k=⟨[a,bV],low,133⟩→low≤2→PX (ah Tryz.prog Γ ext 68 [.ptr k 0 2] s) (sv t) (Fz k b s):=by
  intro bV h2 a low hk1 hlow;rcases h2 with ⟨rfl,rfl⟩ | ⟨h0,j,lj,q1,q2,q3,rfl,q5⟩
  ·refine ff (fn:=TT) [2] rfl rfl rfl rfl (by unfold TT; rfl) ?_;simp -implicitDefEqProofs (disch:=first | assumption | (apply Ar.mk; first | omega | (simp only [Zj]; omega)) | (apply Ak.mk; first | rfl | exact .inl rfl | exact .inr rfl | exact aq _ _ | exact av _ _ | (unfold aG az; simp<;>omega) | with_unfolding_all rfl | exact .inr (by with_unfolding_all rfl))) only [ZN,ai,qA,↓reduceIte,qB,reduceCtorEq,aa,ae,ad,ZM,ZU,ZV,aW,aZ,aS,hk1,OZ,Ph];exact PX.mk' ⟨Nat.le_refl _,fun i _ _ h=>⟨rfl,h⟩,fun n0 a c d e=>Nat.le_min.2 ⟨e,d⟩⟩
  ·have hl0 : 0 < t.length:=List.length_pos_iff.2 h0;have hu:=Wc (s:=⟨s.h,s.n,s.n⟩) (n:=t.length) q5 hbb q1 hbt hl0 (by omega);have hs:=fun k off fin=>Wz (k:=k) (off:=off) (fin:=fin) hl0;refine ff (fn:=TT) [2] rfl rfl rfl rfl (by unfold TT; rfl) ?_;simp -implicitDefEqProofs (disch:=first | assumption | (apply Ar.mk; first | omega | (simp only [Zj]; omega)) | (apply Ak.mk; first | rfl | exact .inl rfl | exact .inr rfl | exact aq _ _ | exact av _ _ | (unfold aG az; simp<;>omega) | with_unfolding_all rfl | exact .inr (by with_unfolding_all rfl))) only [ZN,ai,qA,↓reduceIte,qB,reduceCtorEq,aa,ae,ad,ZM,ZU,ZV,aW,aZ,aS,hk1,hu,hs];exact PX.mk' (T8 hk1 (by omega) q2 rfl rfl rfl)
 rcases h with ⟨bV,hk1,h2⟩ | ⟨rfl,low,hlow,hk1⟩
 ·exact key bV h2 _ _ hk1 (Nat.le_refl _)
 ·exact key nv (.inl ⟨rfl,rfl⟩) _ _ hk1 hlow
end
section
variable {l:List UInt8}{n:Nat} (hb:l.length < 1000000) (ih:IW ext l n)
include hb ih
set_option maxRecDepth 3000 in
set_option maxHeartbeats 3000000 in
theorem FF {a p lv:Nat} (ha:a + 1 < l.length) (hn : 4 * (l.length - a) < n + 1) (hlv:lv≤32) (s:PS):ah Tryz.prog Γ ext 224 [sv l,iv a,iv p,iv lv] s=some (.ok (iQ (wd LL l (n + 1 + 1) (.brc a p lv))) s):=by
 have p2:=fun s=>qw (ext:=ext) (l:=l) (by omega) (a:=a + 2) (by omega) s;have p3:=fun (h:Ar (a + 2 < l.length)) s=>qw (ext:=ext) (l:=l) (by omega) (a:=a + 2 + 1) (by have:=h.h; omega) s;have b2:=fA (l:=l) (i:=a + 2) (by omega);have b3:=fun h:a + 2 < l.length=>fA (l:=l) (i:=a + 3) (by omega);have op:=fun (h:Ar (ax l (a + 2) < l.length)) s=>AI (ext:=ext) (l:=l) (by omega) (a:=ax l (a + 2)) h.h s;have bo:=sw l (ax l (a + 2));rw [wd,wd];generalize hj:ax l (a + 2)=j at *;generalize hj3:ax l (a + 3)=j3 at *;generalize nR l j=q at *;have hop:(q.1 == ((0:Nat):Int))=decide (q.1=0):=by rw [Bool.eq_iff_iff]; simp
 have jn:=fun (h:Ar (j + q.2.2≤l.length)) s=>pG (ext:=ext) (l:=l) (by omega) (i:=j + q.2.2) h.h s;have hp:=fun h:Ar (lv < 32∧a + 2 < j∧j + q.2.2≤l.length)=>rI hb ih (a:=j + q.2.2) (p:=cX p) (lv:=lv + 1) (fr:=a) (by have:=h.h; omega) (by have:=h.h; omega) (by have:=h.h; omega);have hq:=fun h:j + q.2.2≤l.length∧a + 2 < j=>fw LL l n (.loop (j + q.2.2) (cX p) (lv + 1) a 0 []) (by simp only [aT.ok]; omega) (by simp only [aT.size]; omega);generalize wd LL l n (.loop (j + q.2.2) (cX p) (lv + 1) a 0 [])=r at *;have hra:=fun h=>ma (hq h);refine bF (fn:=Od) 8 3 rfl rfl rfl rfl (by unfold Od; rfl) ?_; intro R hR;simp -implicitDefEqProofs (maxSteps:=999999) (disch:=first | assumption | (apply Ar.mk; first | omega | (simp only [Zj]; omega)) | (apply Ak.mk; first | rfl | exact .inl rfl | exact .inr rfl | exact aq _ _ | exact av _ _ | (unfold aG az; simp<;>omega) | with_unfolding_all rfl | exact .inr (by with_unfolding_all rfl))) only [ZN,↓dt,↓df,ai,qA,↓reduceIte,qB,qC,reduceCtorEq,aa,aD,ad,ZM,ZV,aW,aZ,aS,p2,p3,op,hop,jn,hp,G7,kP,nK,C3,bU,eJ,kV];subst hR;refine cH (by first | exact Iff.rfl | omega) (fun h=>?_) fun h=>?_
 ·refine cH (by first | exact Iff.rfl | omega) (fun h=>?_) fun h=>?_
  ·rfl
  refine cH (by first | exact Iff.rfl | omega) (fun h=>?_) fun h=>?_
  ·rfl
  refine cH (by first | exact Iff.rfl | omega) (fun h=>?_) fun h=>?_
  ·rfl
  refine cH (by first | exact Iff.rfl | omega) (fun h=>?_) fun h=>?_
  ·rfl
  refine cH (by first | exact Iff.rfl | omega) (fun h=>?_) fun h=>?_
  ·rfl
  refine cH (by first | exact Iff.rfl | omega) (fun h=>?_) fun h=>?_
  ·rfl
  refine cH (by first | exact Iff.rfl | omega) (fun h=>?_) fun h=>?_
  ·rfl
  refine cH (by first | exact Iff.rfl | omega) (fun h=>?_) fun h=>?_
  ·(repeat' (apply DI_c<;>intro))<;>(repeat' split)<;>first | rfl | omega
  refine cH (by first | exact Iff.rfl | omega) (fun h=>?_) fun h=>?_
  ·rfl
  refine cH (by first | exact Iff.rfl | omega) (fun h=>?_) fun h=>?_
  ·rfl
  have hq:=hq (by have:=bo (by omega) (by omega); omega);clear hra hp;rcases r with ⟨x,e⟩ | ⟨ps,i⟩
  ·exact DI_c (fun _=>rfl) fun h=>absurd hq.1 h
  ·exact DI_c (fun h=>absurd rfl h) fun _=>by rw [Bool.decide_eq_true]; rfl
 ·refine cH (by first | exact Iff.rfl | omega) (fun h=>?_) fun h=>?_
  ·rfl
  refine cH (by first | exact Iff.rfl | omega) (fun h=>?_) fun h=>?_
  ·rfl
  refine cH (by first | exact Iff.rfl | omega) (fun h=>?_) fun h=>?_
  ·rfl
  refine cH (by first | exact Iff.rfl | omega) (fun h=>?_) fun h=>?_
  ·rfl
  refine cH (by first | exact Iff.rfl | omega) (fun h=>?_) fun h=>?_
  ·(repeat' (apply DI_c<;>intro))<;>(repeat' split)<;>first | rfl | omega
  refine cH (by first | exact Iff.rfl | omega) (fun h=>?_) fun h=>?_
  ·rfl
  refine cH (by first | exact Iff.rfl | omega) (fun h=>?_) fun h=>?_
  ·rfl
  have hq:=hq (by have:=bo (by omega) (by omega); omega);clear hra hp;rcases r with ⟨x,e⟩ | ⟨ps,i⟩
  ·exact DI_c (fun _=>rfl) fun h=>absurd hq.1 h
  ·exact DI_c (fun h=>absurd rfl h) fun _=>by rw [Bool.decide_eq_true]; rfl
end
section
variable {l:List UInt8}{n:Nat} (hb:l.length < 1000000) (ih:IW ext l n)
include hb ih
theorem Jg {a p lv:Nat} (he:ch l a=true) (hn : 4 * (l.length - a) + 2 < n + 1) (hlv:lv≤32) (s:PS):ah Tryz.prog Γ ext 211 [sv l,iv a,iv p,iv lv] s=some (.ok (iQ (if bt l (a + 1)=123 then wd LL l n (.brc a p lv) else
    if bt l (a + 1)=40 then
     if a + 2 < l.length∧bt l (a + 2)=40 then
      if 32≤lv then .error (a,5) else match wd LL l n (.loop (a + 3) 4 (lv + 1) a 0 []) with
      | .error x=>.error x
      | .ok (ps,j)=>one (.mk 6 [] 0 false ps) (j + 2)
     else
      let r:=lx l (.cmd (a + 2) a 1 true)
      if r.2=0 then one (j7 (sub l (a + 2) (r.1 - 1))) r.1 else .error r
    else if b7 (bt l (a + 1))=true then one (dY (sub l (a + 1) (a + 2))) (a + 2) else
    if 32 < bm l (a + 1) - (a + 1) then .error (a,3) else one (dY (sub l (a + 1) (bm l (a + 1)))) (bm l (a + 1)))) s):=by
 have hl:=dD he;have hd:=kJ he;have hx:∀q s,ah Tryz.prog Γ ext 179 [sv l,iv a,iv q] s=some (.ok (.tup [iv (lx l (.pass a q)).1,iv (lx l (.pass a q)).2]) s):=fun q=>oO (ext:=ext) (l:=l) (by omega) (ly l) (.pass a q) (by simp only [aV.ok]; omega) (by simp only [aV.size,ly]; omega);have hc:=fun h h2=>O2 (l:=l) (a:=a) (q:=rq p) he h h2;have hok:=jq (l:=l) (t:=.cmd (a + 2) a 1 true) ⟨by omega,by omega⟩;simp only [aV.at] at hok;have hbr:Ar (bt l (a + 1)=123)→∀s,ah Tryz.prog Γ ext 224 [sv l,iv a,iv p,iv lv] s=some (.ok (.agg [bK (rP (wd LL l n (.brc a p lv))),iv (rA (wd LL l n (.brc a p lv))),iv (rE (wd LL l n (.brc a p lv)))]) s):=fun _ s=>by
  rw [← fb]; exact ih (.brc a p lv) hl (by simp only [aT.size]; omega) hlv s
 have hp:=fun h:Ar (lv < 32∧a + 2 < l.length)=>rI hb ih (a:=a + 3) (p:=4) (lv:=lv + 1) (fr:=a) (by have:=h.h; omega) (by have:=h.h; omega) (by have:=h.h; omega);have hq:=fun h:a + 2 < l.length=>fw LL l n (.loop (a + 3) 4 (lv + 1) a 0 []) (by simp only [aT.ok]; omega) (by simp only [aT.size]; omega);have hnm:=fun s=>vz (ext:=ext) (l:=l) (by omega) (i:=a + 1) (by omega) s;have hne:bm l (a + 1)≤l.length:=gn (by omega);have hng:a + 1≤bm l (a + 1):=lJ _ _ _;generalize wd LL l n (.loop (a + 3) 4 (lv + 1) a 0 [])=r at *;generalize wd LL l n (.brc a p lv)=rb at *;have hra:=fun h=>ma (hq h);generalize lx l (.cmd (a + 2) a 1 true)=x at *;have hx2:Ar (bt l (a + 1)=40∧¬ (a + 2 < l.length∧bt l (a + 2)=40))→∀s,ah Tryz.prog Γ ext 179 [sv l,iv a,iv (rq p)] s=some (.ok (.tup [iv x.1,iv x.2]) s):=fun h s=>by rw [hx,hc h.h.1 h.h.2]
 clear hx hc;refine bF (fn:=Nn) 8 3 rfl rfl rfl rfl (by unfold Nn; rfl) ?_; intro R hR;simp -implicitDefEqProofs (disch:=first | assumption | (apply Ar.mk; first | omega | (simp only [Zj]; omega))) only [ZN,ai,qA,↓reduceIte,qB,qC,reduceCtorEq,aa,aD,ad,ZM,hbr,hx2,hp,hnm,FU,mp,kP,nK,C3,bU,eJ,kV];subst hR;refine cH (by first | exact Iff.rfl | omega) (fun h=>?_) fun h=>?_
 ·rw [fb]
 apply DI_c<;>intro h
 ·rw [if_pos h.1.1,if_pos ⟨h.1.2,h.2⟩];have hq:=hq h.1.2;refine cH (by first | exact Iff.rfl | omega) (fun h=>?_) fun h=>?_
  ·rfl
  clear hra hp;rcases r with ⟨x,e⟩ | ⟨ps,i⟩
  ·exact DI_c (fun _=>rfl) fun h=>absurd hq.1 h
  ·exact DI_c (fun h=>absurd rfl h) fun _=>rfl
 ·apply DI_c<;>intro h4
  ·rw [if_pos h4,if_neg fun hh=>h ⟨⟨h4,hh.1⟩,hh.2⟩];obtain⟨x1,x2⟩:=x;apply DI_c<;>intro hx
   ·show _=some (ZR.ok (iQ (if x2=0 then _ else _)) s);rw [if_neg hx]; rfl
   ·show _=some (ZR.ok (iQ (if x2=0 then _ else _)) s);rw [if_pos (by simpa using hx)]; rfl
  ·rw [if_neg h4];refine cH (by first | exact Iff.rfl | omega) (fun h=>?_) fun h=>?_
   ·rfl
   refine cH (by first | exact Iff.rfl | omega) (fun h=>?_) fun h=>?_
   ·rfl
   ·rfl
theorem Dm {a p lv:Nat} (ha:a < l.length) (hn : 4 * (l.length - a) + 2 < n + 1) (hlv:lv≤32) (s:PS):ah Tryz.prog Γ ext 184 [sv l,iv a,iv p,iv lv] s=some (.ok (iQ (if ch l a=true then (if bt l (a + 1)=123 then wd LL l n (.brc a p lv) else
    if bt l (a + 1)=40 then
     if a + 2 < l.length∧bt l (a + 2)=40 then
      if 32≤lv then .error (a,5) else match wd LL l n (.loop (a + 3) 4 (lv + 1) a 0 []) with
      | .error x=>.error x
      | .ok (ps,j)=>one (.mk 6 [] 0 false ps) (j + 2)
     else
      let r:=lx l (.cmd (a + 2) a 1 true)
      if r.2=0 then one (j7 (sub l (a + 2) (r.1 - 1))) r.1 else .error r
    else if b7 (bt l (a + 1))=true then one (dY (sub l (a + 1) (a + 2))) (a + 2) else
    if 32 < bm l (a + 1) - (a + 1) then .error (a,3) else one (dY (sub l (a + 1) (bm l (a + 1)))) (bm l (a + 1)))
   else if eE p=true∧((a + 1 < l.length∧bt l (a + 1)=96)∨bx l (a + 1)=true) then .error (a,6) else one (ck [36]) (a + 1))) s):=by
 have he:=fun h=>Jg hb ih (a:=a) (p:=p) (lv:=lv) h hn hlv;generalize ((if bt l (a + 1)=123 then wd LL l n (.brc a p lv) else
    if bt l (a + 1)=40 then
     if a + 2 < l.length∧bt l (a + 2)=40 then
      if 32≤lv then .error (a,5) else match wd LL l n (.loop (a + 3) 4 (lv + 1) a 0 []) with
      | .error x=>.error x
      | .ok (ps,j)=>one (.mk 6 [] 0 false ps) (j + 2)
     else
      let r:=lx l (.cmd (a + 2) a 1 true)
      if r.2=0 then one (j7 (sub l (a + 2) (r.1 - 1))) r.1 else .error r
    else if b7 (bt l (a + 1))=true then one (dY (sub l (a + 1) (a + 2))) (a + 2) else
    if 32 < bm l (a + 1) - (a + 1) then .error (a,3) else one (dY (sub l (a + 1) (bm l (a + 1)))) (bm l (a + 1))):R)=r at *
 have h1:=fun s=>qL (ext:=ext) (l:=l) (by omega) (i:=a) (by omega) s;have h2:=fun s=>pG (ext:=ext) (l:=l) (by omega) (i:=a + 1) (by omega) s;simp only [fb r] at he ⊢;have he:ch l a=true→∀s,ah Tryz.prog Γ ext 211 [sv l,iv a,iv p,iv lv] s=_:=he;refine bF (fn:=Mn) 8 3 rfl rfl rfl rfl (by unfold Mn; rfl) ?_; intro R hR;simp -implicitDefEqProofs (disch:=first | assumption | (apply Ar.mk; first | omega | (simp only [Zj]; omega))) only [ZN,ai,qA,↓reduceIte,qB,qC,reduceCtorEq,aa,aD,ZM,he,h1,h2,BX,kP,nK,bU,eJ];subst hR;refine cH (by first | exact Iff.rfl | omega) (fun h=>?_) fun h=>?_
 ·rw [fb]
 refine cH (by first | exact Iff.rfl | omega) (fun h=>?_) fun h=>?_
 ·rfl
 ·rfl
theorem Qf {a p lv:Nat} (ok:(aT.part a p lv).ok l) (hn:(aT.part a p lv).size l < n + 1):RW ext l (.part a p lv) (wd LL l (n + 1) (.part a p lv)):=by
 intro hlv s;have ha:a < l.length:=ok;simp only [aT.size] at hn;have e1:=fun s=>Ij (ext:=ext) (l:=l) (by omega) (a:=a) (p:=p) ha s;have e2:=fun (h:Ar (bt l a=96)) s=>HN (ext:=ext) (l:=l) hb (a:=a) ha h.h s;have e3:=Dm hb ih (a:=a) (p:=p) (lv:=lv) ha hn hlv;have e4:=EU hb ih (a:=a) (lv:=lv) ha hn hlv;rw [wd];generalize ii l a p=r1 at *;generalize fJ LL l a=r2 at *;generalize (if ch l a=true then (if bt l (a + 1)=123 then wd LL l n (.brc a p lv) else
    if bt l (a + 1)=40 then
     if a + 2 < l.length∧bt l (a + 2)=40 then
      if 32≤lv then .error (a,5) else match wd LL l n (.loop (a + 3) 4 (lv + 1) a 0 []) with
      | .error x=>.error x
      | .ok (ps,j)=>one (.mk 6 [] 0 false ps) (j + 2)
     else
      let r:=lx l (.cmd (a + 2) a 1 true)
      if r.2=0 then one (j7 (sub l (a + 2) (r.1 - 1))) r.1 else .error r
    else if b7 (bt l (a + 1))=true then one (dY (sub l (a + 1) (a + 2))) (a + 2) else
    if 32 < bm l (a + 1) - (a + 1) then .error (a,3) else one (dY (sub l (a + 1) (bm l (a + 1)))) (bm l (a + 1)))
   else if eE p=true∧((a + 1 < l.length∧bt l (a + 1)=96)∨bx l (a + 1)=true) then .error (a,6) else one (ck [36]) (a + 1):R)=r3 at *
 rw [show ∀x y:R,(if eE p=true∧bt l a=39 then x else if eE p=true∧bt l a=34 then y else if p=0∧bu (bt l a)=true then .error (a,6) else if p=3∧bt l a=34 then .error (a,6) else one (ck (sub l a (a + 1))) (a + 1)) =
  (if eE p=true∧(bt l a=39∨bt l a=34) then (if bt l a=39 then x else y) else if p=0∧bu (bt l a)=true then .error (a,6) else if p=3∧bt l a=34 then .error (a,6) else one (ck (sub l a (a + 1))) (a + 1)) from fun x y=>by (repeat' split)<;>first | rfl | omega | (exfalso; grind)]
 generalize (if bt l a=39 then _ else _:R)=r4 at *;simp only [fb] at e1 e2 e3 e4;have h11:decide ((bA (bt l a)=true∨bt l a=10)∨cn (bt l a)=true)=decide (bu (bt l a)=true):=by simp [bu]
 refine bF (fn:=Nl) 8 3 rfl rfl rfl rfl (by unfold Nl; rfl) ?_; intro R hR;simp -implicitDefEqProofs (disch:=first | assumption | (apply Ar.mk; first | omega | (simp only [Zj]; omega))) only [ZN,ai,qA,↓reduceIte,qB,qC,reduceCtorEq,aa,aD,ZM,e1,e2,e3,e4,h11,BX,iw,ka,kP,nK,bU,eJ];subst hR;refine cH (by first | exact Iff.rfl | omega) (fun h=>?_) fun h=>?_
 ·rw [fb]
 refine cH (by first | exact Iff.rfl | omega) (fun h=>?_) fun h=>?_
 ·rw [fb]
 refine cH (by first | exact Iff.rfl | omega) (fun h=>?_) fun h=>?_
 ·rw [fb]
 refine cH (by first | exact Iff.rfl | omega) (fun h=>?_) fun h=>?_
 ·rw [fb]
 refine cH (by first | exact Iff.rfl | omega) (fun h=>?_) fun h=>?_
 ·rfl
 refine cH (by first | exact Iff.rfl | omega) (fun h=>?_) fun h=>?_
 ·rfl
 ·rfl
end
theorem Ev {l:List UInt8} (hb:l.length < 1000000):∀n,IW ext l n:=by
 intro n
 induction n using Nat.strongRecOn with
 | ind n ih=>
  intro t ok hn;cases t with
  | loop a p lv fr o acc=>
   cases n with
   | zero=>omega
   | succ n=>exact Nr hb (ih n (by omega)) ok hn
  | part a p lv=>
   cases n with
   | zero=>omega
   | succ n=>exact Qf hb (ih n (by omega)) ok hn
  | brc2 a p lv=>exact trivial
  | brc a p lv=>
   simp only [aT.ok,aT.size] at ok hn
   match n,ih,hn with
   | 0,_,hn=>omega
   | 1,_,hn=>omega
   | n + 2,ih,hn=>exact fun hlv s=>FF hb (ih n (by omega)) ok (by omega) hlv s
set_option maxHeartbeats 1000000
theorem Ti {l:List UInt8} (hl:l.length < 1000000) (p:Nat) (s:PS):ah Tryz.prog Γ ext 116 [sv l,iv 0,iv p,iv 1,iv 0] s=some (.ok (iQ (wd LL l (4 * l.length + 4) (.loop 0 p 1 0 0 []))) s):=by
 have h:=rI (ext:=ext) hl (Ev (ext:=ext) hl (4 * l.length + 4)) (a:=0) (p:=p) (lv:=1) (fr:=0) (Nat.zero_le _) (by omega) (by omega) s;rw [fb]; exact h
theorem Bb {l:List UInt8} (s:PS):ah Tryz.prog Γ ext 74 [sv l] s=some (.ok (AV (nL LL l 0)) s):=by
 by_cases hb : 16384 < l.length
 ·rw [show nL LL l 0=.error (0,3) from if_pos hb];show _=some (ZR.ok (.tup [nv,iv 0,iv 3]) s);refine am (fn:=MQ) [2,3,4] rfl rfl rfl rfl (by unfold MQ; rfl) ?_; intro R hR;simp -implicitDefEqProofs (disch:=first | assumption | (apply Ar.mk; omega)) only [ZN,ai,qA,↓reduceIte,reduceCtorEq,aa,ae,frz,frz2,aP,aX,hb];exact hR.symm
 have h:=fun s=>Ti (ext:=ext) (l:=l) (by omega) 0 s;have hw:=fw LL l (4 * l.length + 4) (.loop 0 0 1 0 0 []) (Nat.zero_le _) (by simp only [aT.size]; omega);rw [show nL LL l 0=_ from if_neg hb];generalize wd LL l (4 * l.length + 4) (.loop 0 0 1 0 0 [])=r at *;rcases r with ⟨x,e⟩ | ⟨ps,j⟩
 ·have h:∀s,ah Tryz.prog Γ ext 116 [sv l,.sc (.int .i64 ((0:Nat):Int)),.sc (.int .i64 ((0:Nat):Int)),.sc (.int .i64 ((1:Nat):Int)),.sc (.int .i64 ((0:Nat):Int))] s=some (.ok (.agg [nv,iv x,iv e]) s):=h;have he:e≠0:=hw.1;show _=some (ZR.ok (.tup [nv,iv x,iv e]) s);refine am (fn:=MQ) [2,3,4] rfl rfl rfl rfl (by unfold MQ; rfl) ?_; intro R hR;simp -implicitDefEqProofs (disch:=first | assumption | (apply Ar.mk; omega) | (apply Ak.mk; first | rfl | exact .inl rfl | exact .inr rfl | exact aq _ _ | exact av _ _ | (unfold aG az; simp<;>omega) | with_unfolding_all rfl | exact .inr (by with_unfolding_all rfl))) only [ZN,ai,qA,↓reduceIte,qB,qC,reduceCtorEq,aa,ae,frz,frz2,aX,ad,ZM,ZV,aW,aZ,aS,h,hb,he];exact hR.symm
 ·have h:∀s,ah Tryz.prog Γ ext 116 [sv l,.sc (.int .i64 ((0:Nat):Int)),.sc (.int .i64 ((0:Nat):Int)),.sc (.int .i64 ((1:Nat):Int)),.sc (.int .i64 ((0:Nat):Int))] s=some (.ok (.agg [bK ps,iv j,iv 0]) s):=h;show _=some (ZR.ok (.tup [bK ps,iv 0,iv 0]) s);refine am (fn:=MQ) [2,3,4] rfl rfl rfl rfl (by unfold MQ; rfl) ?_; intro R hR;simp -implicitDefEqProofs (disch:=first | assumption | (apply Ar.mk; omega) | (apply Ak.mk; first | rfl | exact .inl rfl | exact .inr rfl | exact aq _ _ | exact av _ _ | (unfold aG az; simp<;>omega) | with_unfolding_all rfl | exact .inr (by with_unfolding_all rfl))) only [ZN,ai,qA,↓reduceIte,qB,qC,reduceCtorEq,aa,ae,frz,frz2,aX,ad,ZM,h,hb,↓uL,bU];exact hR.symm
end Go.Proofs.YtioblbopbilmaaaGreatDoor
namespace Go.Mir
def iM:Option (List UInt8)→Go.PE.PV
 | some u=>.tup [.sc (.string ⟨⟨u⟩⟩),.sc (.bool true)]
 | none=>.tup [.sc (.string ⟨⟨[]⟩⟩),.sc (.bool false)]
theorem mD (x:Option (List UInt8)) (t u:List UInt8):x.map ((t ++ u) ++ ·)=(x.map (u ++ ·)).map (t ++ ·):=by
 cases x with
 | none=>rfl
 | some a=>simp
theorem rV:∀(l:List aJ) (u:List UInt8),j8 l=some u→u.length=ud l
 | [],u,h=>by injection h with h; subst h; rfl
 | p :: l,u,h=>by
  rw [j8] at h;split at h
  ·rename_i hk;cases hq:j8 l with
   | none=>rw [hq] at h; cases h
   | some v=>
    rw [hq] at h;injection h with h;subst h;have:=rV l v hq;rw [ud,if_pos hk,List.length_append]; omega
  ·cases h
theorem rB (k:Int) (t:List UInt8) (o:Int) (c:Bool) (ps l:List aJ):j8 (.mk k t o c ps :: l)=if k=1 then (j8 l).map (t ++ ·) else none:=rfl
theorem Cq (k:Int) (t:List UInt8) (o:Int) (c:Bool) (ps l:List aJ):fZ (.mk k t o c ps :: l)=if k=1∨k=2 then (fZ l).map (t ++ ·) else if k=3 then (j8 ps).bind fun u=>(fZ l).map (u ++ ·) else none:=rfl
theorem vA (k:Int) (t:List UInt8) (o:Int) (c:Bool) (ps l:List aJ):ud (.mk k t o c ps :: l)=(if k=1 then t.length else 0) + ud l:=rfl
theorem HU (k:Int) (t:List UInt8) (o:Int) (c:Bool) (ps l:List aJ):fS (.mk k t o c ps :: l)=(if k=1∨k=2 then t.length else if k=3 then ud ps else 0) + fS l:=rfl
end Go.Mir
namespace Go.Proofs.YtioblbopbilmaaaGreatDoor
open Go Go.EvL Go.PE Go.Mir
variable {ext:aw}
set_option maxHeartbeats 4000000
abbrev Un:List PV:=[iv 0,sv [],iv 0,.sc (.bool false),nv]
theorem zL {k b:Nat}{t:List UInt8}{S:PS} (h:BS k b none t S) (hk:k < S.n) (cs:List PV) (E:Nat):BS k b none t ((S.new ⟨Un,0,E⟩).put S.n ⟨cs,5,E⟩):=by
 refine h.fr hk (by (simp only [aj,ak]; omega)) fun i hi=>?_;simp -implicitDefEqProofs (disch:=(apply Ar.mk; (try simp only [aj,ak]); omega)) only [ap,ao,au]
section
variable {k:Nat}{s0:PS} (hk0:s0.n≤k)
include hk0
theorem PC {n:Nat}{cs:List PV} (hcs:cs.length=n * 5) (hn:n < 1000000) {K:List KI}{R:Option ZR}{p9 p10 p11:PV} (w:List UInt8)
  (H:∀(f:aE) (S:PS),f 4=.ptr k 0 2→f 9=p9→f 10=p10→f 11=p11→BS k (k + 1) none w S→k < S.n→s0.n≤S.w→rn Tryz.prog Γ ext (ZT [2,3] s0) f S K=R) :
  ∀(l:List aJ) (i:Nat) (t u:List UInt8) (f:aE) (S:PS),j8 l=some u→t ++ u=w→cs.drop (i * 5)=eG l→i + l.length=n→BS k (k + 1) none t S→k < S.n→s0.n≤S.w→t.length + ud l < 100000000→f 4=.ptr k 0 2→f 9=p9→f 10=p10→f 11=p11→f 26=.lit 135 n cs→f 27=iv n→f 28=iv i→zr Tryz.prog Γ ext (ZT [2,3] s0) (.loop ip) f S (.b 3 :: K)=R:=by
 intro l
 induction l with
 | nil=>
  intro i t u f S hq hw hd hi hB hkn hS ht f4 f9 f10 f11 f26 f27 f28;injection hq with hq;subst hq;rw [List.append_nil] at hw;subst hw;have hi:i=n:=hi;subst hi;rw [gR (b:=ip) (by unfold ip; rfl)];simp -implicitDefEqProofs (disch:=first | assumption | (apply Ar.mk; first | omega | (simp only [Zj]; omega))) only [ZN,↓df,↓reduceIte,aa,f27,f28];refine H _ S ?_ ?_ ?_ ?_ hB hkn hS
  all_goals first | assumption | rfl
 | cons p l ih=>
  intro i t u f S hq hw hd hi hB hkn hS ht f4 f9 f10 f11 f26 f27 f28;obtain⟨kd,tx,o,c,ps⟩:=p;rw [rB] at hq;by_cases c1:kd=1
  ·have e1:(kd != ((1:Nat):Int))=false:=by rw [c1]; rfl
   rw [if_pos c1] at hq;rw [vA,if_pos c1] at ht;cases hq2:j8 l with
   | none=>rw [hq2] at hq; cases hq
   | some v=>
    rw [hq2] at hq;injection hq with hq;have hq:tx ++ v=u:=hq;have ht:t.length + (tx.length + ud l) < 100000000:=ht;rw [eG,cL] at hd;simp only [List.cons_append,List.nil_append] at hd;have hil:i < n:=by rw [← hi,List.length_cons]; omega
    have hB':=zL hB hkn [.sc (.int .i64 kd),sv tx,.sc (.int .i64 o),.sc (.bool c),bK ps] 135;have hoV:eQ (bK ps)=true:=bU ps;have hws:=UH (ext:=ext) tx hB' (by (simp only [aj,ak]; omega)) (Nat.lt_succ_self _) (by (simp only [aj,ak]; omega)) (by omega);rw [gR (b:=ip) (by unfold ip; rfl)];simp -implicitDefEqProofs (disch:=first | assumption | (apply Ar.mk; first | omega | (simp only [Zj]; omega))) only [ZN,↓dt,ai,qA,↓reduceIte,qB,qC,reduceCtorEq,aa,ad,ZM,f4,f26,f27,f28,hd,e1,hcs,hoV];refine Dq hws fun s1 h1=>?_;have g1:=h1.fz.le;have g2:S.n + 1≤s1.n:=g1;have g3:=h1.fz.w s0.n (by omega) (by omega) (by (simp only [aj,ak]; omega)) (by (simp only [cO,db]; omega));simp -implicitDefEqProofs (disch:=first | assumption | (apply Ar.mk; first | omega | (simp only [Zj]; omega))) only [ZN,qA,↓reduceIte,aa,f28];refine ih (i + 1) (t ++ tx) v _ s1 hq2 (by rw [List.append_assoc,hq]; exact hw) ?_ (by rw [← hi,List.length_cons]; omega) (.inl h1.at') (by omega) g3 (by rw [List.length_append]; omega) ?_ ?_ ?_ ?_ ?_ ?_ ?_
    ·have:=congrArg (List.drop 5) hd;rw [List.drop_drop] at this;rw [show (i + 1) * 5=i * 5 + 5 by omega]; exact this
    all_goals first | assumption | rfl
  ·rw [if_neg c1] at hq; cases hq
theorem ON {n:Nat}{cs:List PV} (hcs:cs.length=n * 5) (hn:n < 1000000) {K:List KI} :
  ∀(l:List aJ) (i:Nat) (t:List UInt8) (f:aE) (S:PS),j8 l=none→cs.drop (i * 5)=eG l→i + l.length=n→BS k (k + 1) none t S→k < S.n→s0.n≤S.w→t.length + ud l < 100000000→f 4=.ptr k 0 2→f 26=.lit 135 n cs→f 27=iv n→f 28=iv i→zr Tryz.prog Γ ext (ZT [2,3] s0) (.loop ip) f S (.b 3 :: K)=some (.ok (iM none) s0):=by
 intro l
 induction l with
 | nil=>intro i t f S hq; cases hq
 | cons p l ih=>
  intro i t f S hq hd hi hB hkn hS ht f4 f26 f27 f28;obtain⟨kd,tx,o,c,ps⟩:=p;have hil:i < n:=by rw [← hi,List.length_cons]; omega
  have hoV:eQ (bK ps)=true:=bU ps;rw [rB] at hq;rw [eG,cL] at hd;simp only [List.cons_append,List.nil_append] at hd;by_cases c1:kd=1
  ·have e1:(kd != ((1:Nat):Int))=false:=by rw [c1]; rfl
   rw [if_pos c1] at hq;rw [vA,if_pos c1] at ht;cases hq2:j8 l with
   | some v=>rw [hq2] at hq; cases hq
   | none=>
    have ht:t.length + (tx.length + ud l) < 100000000:=ht;have hB':=zL hB hkn [.sc (.int .i64 kd),sv tx,.sc (.int .i64 o),.sc (.bool c),bK ps] 135;have hws:=UH (ext:=ext) tx hB' (by (simp only [aj,ak]; omega)) (Nat.lt_succ_self _) (by (simp only [aj,ak]; omega)) (by omega);rw [gR (b:=ip) (by unfold ip; rfl)];simp -implicitDefEqProofs (disch:=first | assumption | (apply Ar.mk; first | omega | (simp only [Zj]; omega))) only [ZN,↓dt,ai,qA,↓reduceIte,qB,qC,reduceCtorEq,aa,ad,ZM,f4,f26,f27,f28,hd,e1,hcs,hoV];refine Dq hws fun s1 h1=>?_;have g1:=h1.fz.le;have g2:S.n + 1≤s1.n:=g1;have g3:=h1.fz.w s0.n (by omega) (by omega) (by (simp only [aj,ak]; omega)) (by (simp only [cO,db]; omega));simp -implicitDefEqProofs (disch:=first | assumption | (apply Ar.mk; first | omega | (simp only [Zj]; omega))) only [ZN,qA,↓reduceIte,aa,f28];refine ih (i + 1) (t ++ tx) _ s1 hq2 ?_ (by rw [← hi,List.length_cons]; omega) (.inl h1.at') (by omega) g3 (by rw [List.length_append]; omega) ?_ ?_ ?_ ?_
    ·have:=congrArg (List.drop 5) hd;rw [List.drop_drop] at this;rw [show (i + 1) * 5=i * 5 + 5 by omega]; exact this
    all_goals first | assumption | rfl
  ·have e1:(kd != ((1:Nat):Int))=true:=by rw [bne_iff_ne]; exact c1
   rw [gR (b:=ip) (by unfold ip; rfl)];simp -implicitDefEqProofs (disch:=first | assumption | (apply Ar.mk; first | omega | (simp only [Zj]; omega))) only [ZN,↓dt,ai,qA,↓reduceIte,qB,qC,reduceCtorEq,aa,ae,frz,frz2,aX,ad,ZM,f26,f27,f28,hd,e1,hcs,hoV];rfl
theorem Pl {K:List KI} (f:aE) (S:PS) (f27:f 27=iv 0) (f28:f 28=iv 0):zr Tryz.prog Γ ext (ZT [2,3] s0) (.loop ip) f S (.b 3 :: K)=rn Tryz.prog Γ ext (ZT [2,3] s0) ((f.set 29 (.sc (.bool false)))) S K:=by
 rw [gR (b:=ip) (by unfold ip; rfl)];simp -implicitDefEqProofs (disch:=first | assumption | (apply Ar.mk; first | omega | (simp only [Zj]; omega))) only [ZN,↓reduceIte,qD,aa,f27,f28]
theorem uW {n:Nat}{t:List UInt8}{f:aE}{S:PS} (hn:n < 1000000) (hB:BS k (k + 1) none t S) (hkn:k < S.n) (hS:s0.n≤S.w) (ht:t.length < 100000000) (f4:f 4=.ptr k 0 2) (f10:f 10=iv n) (f11:f 11=iv n):rl Tryz.prog Γ ext (ZT [2,3] s0) 0 jZ lb f S []=some (.ok (.tup [sv t,.sc (.bool true)]) s0):=by
 have hst:=WU (ext:=ext) hB hkn (Nat.lt_succ_self _) (by omega) ht;refine ar (by unfold jZ; rfl) (by unfold lb; rfl) ?_; intro hr R hR;simp -implicitDefEqProofs (disch:=first | assumption | (apply Ar.mk; first | omega | (simp only [Zj]; omega))) only [ZN,↓df,qA,↓reduceIte,aa,f4,f10,f11,hr];refine Dq hst fun s1 h1=>?_;have g3:=h1.w s0.n (by omega) (by omega) (by omega) hS;simp -implicitDefEqProofs (disch:=first | assumption | (apply Ar.mk; first | omega | (simp only [Zj]; omega))) only [ZN,qA,↓reduceIte,ae,frz,frz2,aX,ZM];exact hR.symm
theorem zI {n:Nat}{cs:List PV} (hcs:cs.length=n * 5) (hn:n < 1000000) {Y:PV} (hY:Y=.lit 135 n cs) :
  ∀(l:List aJ) (i:Nat) (t:List UInt8) (f:aE) (S:PS),(∀p∈l,p.parts.length < 1000000)→cs.drop (i * 5)=eG l→i + l.length=n→BS k (k + 1) none t S→k < S.n→s0.n≤S.w→t.length + fS l < 100000000→f 4=.ptr k 0 2→f 9=Y→f 10=iv n→f 11=iv i→rl Tryz.prog Γ ext (ZT [2,3] s0) 0 jZ lb f S []=some (.ok (iM ((fZ l).map (t ++ ·))) s0):=by
 intro l
 induction l with
 | nil=>
  intro i t f S hps hd hi hB hkn hS ht f4 f9 f10 f11;have hi:i=n:=hi;subst hi;have e:iM ((fZ []).map (t ++ ·))=.tup [sv t,.sc (.bool true)]:=by
   show PV.tup [sv (t ++ []),.sc (.bool true)]=_;rw [List.append_nil]
  rw [e];exact uW hk0 hn hB hkn hS (by omega) f4 f10 f11
 | cons p l ih=>
  intro i t f S hps hd hi hB hkn hS ht f4 f9 f10 f11;have hpl:=hps p (List.mem_cons_self ..);obtain⟨kd,tx,o,c,ps⟩:=p;have hpl:ps.length < 1000000:=hpl;have hil:i < n:=by rw [← hi,List.length_cons]; omega
  have hoV:eQ (bK ps)=true:=bU ps;rw [eG,cL] at hd;simp only [List.cons_append,List.nil_append] at hd;have hd2:cs.drop ((i + 1) * 5)=eG l:=by
   have:=congrArg (List.drop 5) hd;rw [List.drop_drop] at this;rw [show (i + 1) * 5=i * 5 + 5 by omega]; exact this
  have hi2:i + 1 + l.length=n:=by rw [← hi,List.length_cons]; omega
  have hps2:∀p∈l,p.parts.length < 1000000:=fun p hp=>hps p (List.mem_cons_of_mem _ hp);have hB':=zL hB hkn [.sc (.int .i64 kd),sv tx,.sc (.int .i64 o),.sc (.bool c),bK ps] 135;rw [HU] at ht;rw [Cq];rw [hY] at f9;by_cases c1:kd=1∨kd=2
  ·rw [if_pos c1,← mD];have ht:t.length + (tx.length + fS l) < 100000000:=by
    rw [if_pos c1] at ht; exact ht
   have hws:=UH (ext:=ext) tx hB' (by (simp only [aj,ak]; omega)) (Nat.lt_succ_self _) (by (simp only [aj,ak]; omega)) (by omega);have key:∀s1,Wt k (k + 1) none (t ++ tx) ((S.new ⟨Un,0,135⟩).put S.n ⟨[.sc (.int .i64 kd),sv tx,.sc (.int .i64 o),.sc (.bool c),bK ps],5,135⟩) s1→∀f':aE,f' 4=.ptr k 0 2→f' 9=.lit 135 n cs→f' 10=iv n→f' 11=iv (i + 1)→rl Tryz.prog Γ ext (ZT [2,3] s0) 0 jZ lb f' s1 []=some (.ok (iM ((fZ l).map ((t ++ tx) ++ ·))) s0):=by
    intro s1 h1 f' g4 g9 g10 g11;have g2:S.n + 1≤s1.n:=h1.fz.le;have g3:=h1.fz.w s0.n (by omega) (by omega) (by (simp only [aj,ak]; omega)) (by (simp only [cO,db]; omega));exact ih (i + 1) (t ++ tx) f' s1 hps2 hd2 hi2 (.inl h1.at') (by omega) g3 (by rw [List.length_append]; omega) g4 (by rw [hY]; exact g9) g10 g11
   rcases c1 with c1 | c1
   ·have e1:(kd == ((1:Nat):Int))=true:=by rw [c1]; rfl
    refine ar (by unfold jZ; rfl) (by unfold lb; rfl) ?_; intro hr R hR;simp -implicitDefEqProofs (disch:=first | assumption | (apply Ar.mk; first | omega | (simp only [Zj]; omega))) only [ZN,↓dt,ai,qA,↓reduceIte,qB,qC,reduceCtorEq,aa,ad,ZM,f4,f9,f10,f11,hd,e1,hcs,hoV];refine Dq hws fun s1 h1=>?_;simp -implicitDefEqProofs (disch:=first | assumption | (apply Ar.mk; first | omega | (simp only [Zj]; omega))) only [ZN,qA,↓reduceIte,aa,f11];rw [hR];apply key s1 h1
    all_goals first | assumption | rfl
   ·have e1:(kd == ((1:Nat):Int))=false:=by rw [c1]; rfl
    have e2:(kd == ((2:Nat):Int))=true:=by rw [c1]; rfl
    refine ar (by unfold jZ; rfl) (by unfold lb; rfl) ?_; intro hr R hR;simp -implicitDefEqProofs (disch:=first | assumption | (apply Ar.mk; first | omega | (simp only [Zj]; omega))) only [ZN,↓dt,ai,qA,↓reduceIte,qB,qC,reduceCtorEq,aa,ad,ZM,f4,f9,f10,f11,hd,e1,e2,hcs,hoV];refine Dq hws fun s1 h1=>?_;simp -implicitDefEqProofs (disch:=first | assumption | (apply Ar.mk; first | omega | (simp only [Zj]; omega))) only [ZN,qA,↓reduceIte,aa,f11];rw [hR];apply key s1 h1
    all_goals first | assumption | rfl
  rw [if_neg c1];have e1:(kd == ((1:Nat):Int))=false:=by rw [beq_eq_false_iff_ne]; exact fun h=>c1 (.inl h)
  have e2:(kd == ((2:Nat):Int))=false:=by rw [beq_eq_false_iff_ne]; exact fun h=>c1 (.inr h)
  by_cases c3:kd=3
  ·rw [if_pos c3];have e3:(kd == ((3:Nat):Int))=true:=by rw [c3]; rfl
   have ht:t.length + (ud ps + fS l) < 100000000:=by
    rw [if_neg c1,if_pos c3] at ht; exact ht
   show _=some (ZR.ok (iM (((j8 ps).bind fun u=>(fZ l).map (u ++ ·)).map (t ++ ·))) s0);have key:∀(u:List UInt8) s1,BS k (k + 1) none (t ++ u) s1→k < s1.n→s0.n≤s1.w→u.length=ud ps→∀f':aE,f' 4=.ptr k 0 2→f' 9=.lit 135 n cs→f' 10=iv n→f' 11=iv (i + 1)→rl Tryz.prog Γ ext (ZT [2,3] s0) 0 jZ lb f' s1 []=some (.ok (iM ((fZ l).map ((t ++ u) ++ ·))) s0):=by
    intro u s1 h1 h2 h3 h4 f' g4 g9 g10 g11;exact ih (i + 1) (t ++ u) f' s1 hps2 hd2 hi2 h1 h2 h3 (by rw [List.length_append]; omega) g4 (by rw [hY]; exact g9) g10 g11
   cases ps with
   | nil=>
    rw [show j8 []=some [] from rfl];show _=some (ZR.ok (iM (((fZ l).map ([] ++ ·)).map (t ++ ·))) s0);rw [← mD];rw [dl] at hd hB' hoV;refine ar (by unfold jZ; rfl) (by unfold lb; rfl) ?_; intro hr R hR;simp -implicitDefEqProofs (disch:=first | assumption | (apply Ar.mk; first | omega | (simp only [Zj]; omega))) only [ZN,↓dt,ai,qA,↓reduceIte,qB,qC,reduceCtorEq,aa,ad,ZM,f9,f10,f11,hd,e1,e2,e3,hcs];rw [Pl hk0 _ _ rfl rfl];simp -implicitDefEqProofs (disch:=first | assumption | (apply Ar.mk; first | omega | (simp only [Zj]; omega))) only [ZN,qA,↓reduceIte,aa,f11];rw [hR];apply key [] _ (by rw [List.append_nil]; exact hB') (by (simp only [aj,ak]; omega)) (by (simp only [cO,db]; omega)) rfl
    all_goals first | assumption | rfl
   | cons q ps=>
    rw [bK] at hd hB' hoV;have hec:(cJ q ++ eG ps)=eG (q :: ps):=by rw [eG]
    have hcs':(eG (q :: ps)).length=(ps.length + 1) * 5:=by
     rw [oa]; exact bB fq (q :: ps)
    rw [hec] at hd hB' hoV;cases hq:j8 (q :: ps) with
    | none=>
     refine ar (by unfold jZ; rfl) (by unfold lb; rfl) ?_; intro hr R hR;simp -implicitDefEqProofs (disch:=first | assumption | (apply Ar.mk; first | omega | (simp only [Zj]; omega))) only [ZN,↓dt,ai,qA,↓reduceIte,qB,qC,reduceCtorEq,aa,ad,ZM,f9,f10,f11,hd,e1,e2,e3,hcs];subst hR;refine ON (ext:=ext) (k:=k) (s0:=s0) hk0 hcs' hpl (q :: ps) 0 t _ _ hq rfl (Nat.zero_add _) hB' (by (simp only [aj,ak]; omega)) (by (simp only [cO,db]; omega)) (by omega) ?_ ?_ ?_ ?_
     all_goals first | assumption | rfl
    | some u=>
     show _=some (ZR.ok (iM (((fZ l).map (u ++ ·)).map (t ++ ·))) s0);rw [← mD];refine ar (by unfold jZ; rfl) (by unfold lb; rfl) ?_; intro hr R hR;simp -implicitDefEqProofs (disch:=first | assumption | (apply Ar.mk; first | omega | (simp only [Zj]; omega))) only [ZN,↓dt,ai,qA,↓reduceIte,qB,qC,reduceCtorEq,aa,ad,ZM,f9,f10,f11,hd,e1,e2,e3,hcs];refine PC (ext:=ext) (k:=k) (s0:=s0) hk0 hcs' hpl (p9:=.lit 135 n cs) (p10:=iv n) (p11:=iv i) (t ++ u) ?_ (q :: ps) 0 t u _ _ hq rfl rfl (Nat.zero_add _) hB' (by (simp only [aj,ak]; omega)) (by (simp only [cO,db]; omega)) (by omega) ?_ ?_ ?_ ?_ ?_ ?_ ?_
     ·intro f' S' g4 g9 g10 g11 h1 h2 h3;have hu:=rV _ _ hq;simp -implicitDefEqProofs (disch:=first | assumption | (apply Ar.mk; first | omega | (simp only [Zj]; omega))) only [ZN,↓reduceIte,aa,g11];rw [hR];apply key u _ h1 h2 h3 hu
      all_goals first | assumption | rfl
     all_goals first | assumption | rfl
  ·rw [if_neg c3];have e3:(kd == ((3:Nat):Int))=false:=by rw [beq_eq_false_iff_ne]; exact c3
   refine ar (by unfold jZ; rfl) (by unfold lb; rfl) ?_; intro hr R hR;simp -implicitDefEqProofs (disch:=first | assumption | (apply Ar.mk; first | omega | (simp only [Zj]; omega))) only [ZN,↓dt,ai,qA,↓reduceIte,qB,qC,reduceCtorEq,aa,ae,frz,frz2,aX,ad,ZM,f9,f10,f11,hd,e1,e2,e3,hcs,hoV];exact hR.symm
end
theorem E1 {l:List aJ} (hl:l.length < 1000000) (hps:∀p∈l,p.parts.length < 1000000) (ht:fS l < 100000000) (s:PS):ah Tryz.prog Γ ext 31 [bK l] s=some (.ok (iM (fZ l)) s):=by
 have e0:iM (fZ l)=iM ((fZ l).map ([] ++ ·)):=by cases fZ l<;>rfl
 have hB0:BS s.n (s.n + 1) none [] ((⟨s.h,s.n,s.n⟩ : PS).new ⟨[.sc (.pointer none),nv],0,133⟩):=.inr ⟨rfl,0,Nat.zero_le _,by simp -implicitDefEqProofs (disch:=(apply Ar.mk; (try simp only [aj,ak]); omega)) only [ap,aI]; rfl⟩;cases l with
 | nil=>
  rw [dl];refine am (fn:=QR) [2,3] rfl rfl rfl rfl (by unfold QR; rfl) ?_; intro R hR;simp -implicitDefEqProofs (disch:=first | assumption | (apply Ar.mk; first | omega | (simp only [Zj]; omega))) only [ZN,ai,↓reduceIte,qB,reduceCtorEq,aa,ZM];subst hR;refine uW (k:=s.n) (n:=0) (Nat.le_refl _) (by decide) hB0 (by (simp only [aj]; omega)) (by (simp only [cO]; omega)) (by decide) ?_ ?_ ?_
  all_goals rfl
 | cons p l=>
  have hec:(cJ p ++ eG l)=eG (p :: l):=by rw [eG]
  have hcs':(eG (p :: l)).length=(l.length + 1) * 5:=by
   rw [oa]; exact bB fq (p :: l)
  rw [e0,bK,hec];have hlp:=zI (ext:=ext) (k:=s.n) (s0:=s) (Nat.le_refl _) hcs' hl rfl (p :: l) 0 [];refine am (fn:=QR) [2,3] rfl rfl rfl rfl (by unfold QR; rfl) ?_; intro R hR;simp -implicitDefEqProofs (disch:=first | assumption | (apply Ar.mk; first | omega | (simp only [Zj]; omega))) only [ZN,ai,↓reduceIte,qB,reduceCtorEq,aa,ZM];subst hR;refine hlp _ _ hps rfl (Nat.zero_add _) hB0 (by (simp only [aj]; omega)) (by (simp only [cO]; omega)) (by simpa using ht) ?_ ?_ ?_ ?_
  all_goals rfl
end Go.Proofs.YtioblbopbilmaaaGreatDoor
namespace Go.PE
open Go Go.EvL
theorem Gn (s:PS) (k:IntKind) (a b:Nat):Lg s false (.sc (.int k (a:Int))) (.sc (.int k (b:Int)))=some (.sc (.int k ((min a b:Nat):Int)),s):=by
 show some (PV.sc (.int k (if (b:Int) < (a:Int) then (b:Int) else (a:Int))),s)=_;congr 4;split<;>omega
end Go.PE
namespace Go.Proofs.YtioblbopbilmaaaGreatDoor
open Go Go.EvL Go.PE Go.Mir
variable {ext:aw}
set_option maxHeartbeats 4000000
theorem pN {l:List UInt8}{i:Nat} (h:bx l i=true):bt l i=92:=by
 unfold bx at h;simp only [Bool.and_eq_true,beq_iff_eq] at h;exact h.1.2
section
variable {l:List UInt8} (hb:l.length < 4611686018427387904)
include hb
theorem kG (s0:PS) {p:Nat} (hp:p≤l.length) (h10:p < l.length→bt l p≠35∧bx l p=false∧bA (bt l p)=false) (f:aE) (s:PS) (hw:s0.n≤s.w) (h0:f 0=sv l) (h1:f 1=iv p):rl Tryz.prog Γ ext (ZT [4] s0) 0 oL qP f s []=some (.ok (iv p) s0):=by
 by_cases c:p < l.length
 ·obtain⟨n1,n2,n3⟩:=h10 c;have hj:=fun s=>wa (ext:=ext) hb (i:=p) hp s;have k1:Ar (¬ bA (bt l p)=true):=⟨by rw [n3]; decide⟩
  have k2:Ar (¬ bx l p=true):=⟨by rw [n2]; decide⟩
  refine ar (by unfold oL; rfl) (by unfold qP; rfl) ?_; intro hr R hR;simp -implicitDefEqProofs (disch:=first | assumption | (apply Ar.mk; omega)) only [ZN,↓dt,↓df,qA,↓reduceIte,reduceCtorEq,aa,ae,frz,frz2,aP,h0,h1,lY,hj];exact hR.symm
 ·refine ar (by unfold oL; rfl) (by unfold qP; rfl) ?_; intro hr R hR;simp -implicitDefEqProofs (disch:=first | assumption | (apply Ar.mk; omega)) only [ZN,↓df,qA,↓reduceIte,reduceCtorEq,aa,ae,frz,frz2,aP,h0,h1,hr];exact hR.symm
theorem xg (s0:PS):∀(n i:Nat) (f:aE) (s:PS),i≤l.length→l.length≤i + n→s0.n≤s.w→f 0=sv l→f 1=iv i→rl Tryz.prog Γ ext (ZT [4] s0) 0 oL qP f s []=some (.ok (iv (dh l n i)) s0):=by
 intro n
 induction n with
 | zero=>intro i f s hi hn hw h0 h1; exact kG hb s0 hi (fun h=>by omega) f s hw h0 h1
 | succ n ih=>
  intro i f s hi hn hw h0 h1;rw [dh];by_cases c0:i < l.length
  ·have hj:=fun s=>wa (ext:=ext) hb (i:=i) hi s;have hc:=fun s=>s9 (ext:=ext) hb (i:=i) hi s;rw [if_pos c0];by_cases c1:bt l i=35
   ·have k1:Ar (¬ bA (bt l i)=true):=⟨by rw [c1]; decide⟩
    have k2:Ar (¬ bx l i=true):=⟨fun h=>by have:=pN h; omega⟩
    rw [if_pos c1];have hge:=eK l 10 i;have hle:aQ l 10 i≤l.length:=fc hi;have e10:aQ l 10 i < l.length→bt l (aQ l 10 i)=10:=fun h=>by
     have:=wV (q:=fun x=>x != 10) (l:=l) (l.length - i) i (by omega) h;exact (by simpa using this:bt l (run (fun x=>x != 10) l i)=10)
    refine ar (by unfold oL; rfl) (by unfold qP; rfl) ?_; intro hr R hR;simp -implicitDefEqProofs (disch:=first | assumption | (apply Ar.mk; omega)) only [ZN,↓dt,↓df,qA,↓reduceIte,reduceCtorEq,aa,h0,h1,lY,hj,hc];subst hR;refine kG hb s0 hle (fun h=>?_) _ _ ?_ ?_ ?_
    ·have e:=e10 h;refine⟨by omega,?_,by rw [e]; decide⟩;cases hjj:bx l (aQ l 10 i) with
     | false=>rfl
     | true=>have:=pN hjj; omega
    all_goals first | assumption | rfl
   rw [if_neg c1];by_cases c2:bx l i=true
   ·have e92:=pN c2;have hlt:=dx c2;have k1:Ar (¬ bA (bt l i)=true):=⟨by rw [e92]; decide⟩
    have k2:Ar (bx l i=true):=⟨c2⟩
    rw [if_pos c2];refine ar (by unfold oL; rfl) (by unfold qP; rfl) ?_; intro hr R hR;simp -implicitDefEqProofs (disch:=first | assumption | (apply Ar.mk; omega)) only [ZN,↓dt,↓df,qA,↓reduceIte,reduceCtorEq,aa,h0,h1,lY,hj];subst hR;refine ih (i + 2) _ _ ?_ ?_ ?_ ?_ ?_
    all_goals first | omega | assumption | rfl
   rw [if_neg c2];by_cases c3:bA (bt l i)=true
   ·have k1:Ar (bA (bt l i)=true):=⟨c3⟩
    rw [if_pos c3];refine ar (by unfold oL; rfl) (by unfold qP; rfl) ?_; intro hr R hR;simp -implicitDefEqProofs (disch:=first | assumption | (apply Ar.mk; omega)) only [ZN,↓dt,qA,↓reduceIte,reduceCtorEq,aa,h0,h1,lY];subst hR;refine ih (i + 1) _ _ ?_ ?_ ?_ ?_ ?_
    all_goals first | omega | assumption | rfl
   rw [if_neg c3];exact kG hb s0 hi (fun _=>⟨c1,by simpa using c2,by simpa using c3⟩) f s hw h0 h1
  ·rw [if_neg c0];exact kG hb s0 hi (fun h=>absurd h c0) f s hw h0 h1
theorem N5 {i:Nat} (hi:i≤l.length) (s:PS):ah Tryz.prog Γ ext 58 [sv l,iv i] s=some (.ok (iv (dh l l.length i)) s):=by
 have e1:min i l.length=i:=by omega
 have e2:max 0 i=i:=by omega
 refine am (fn:=Wq) [4] rfl rfl rfl rfl (by unfold Wq; rfl) ?_; intro R hR;simp -implicitDefEqProofs (disch:=first | assumption | (apply Ar.mk; omega)) only [ZN,ai,qA,↓reduceIte,qB,reduceCtorEq,aa,Gn,e1,e2];subst hR;exact xg hb s l.length i _ _ hi (by omega) (Nat.le_refl _) rfl rfl
theorem wY (k:Nat) {p e:Nat} (h1:p≤e) (h2:e≤l.length) (s:PS):ah Tryz.prog Γ ext 59 [sv l,iv k,iv p,iv e] s=some (.ok (.agg [iv k,iv p,iv e,sv (sub l p e)]) s):=by
 refine bF (fn:=W6) 8 4 rfl rfl rfl rfl (by unfold W6; rfl) ?_; intro R hR;simp -implicitDefEqProofs (disch:=first | assumption | (apply Ar.mk; omega)) only [ZN,ai,qA,↓reduceIte,qB,qC,reduceCtorEq,aa,aD,ZM];subst hR;rfl
end
theorem Wd (t:List UInt8) (s:PS):ah Tryz.prog Γ ext 60 [sv t] s=some (.ok (bv (tl t=true)) s):=by
 refine am (fn:=Vz) [2] rfl rfl rfl rfl (by unfold Vz; rfl) ?_; intro R hR;simp -implicitDefEqProofs (disch:=first | assumption | (apply Ar.mk; first | omega | (simp only [Zj]; omega))) only [ZN,↓dt,ai,qA,↓reduceIte,reduceCtorEq,aa,ae,frz,frz2,aP];subst hR
 (repeat' (apply DI_c<;>intro))<;>first | rfl | (apply eU; simp [tl,OT, *]<;>omega) | (apply dT; simp [tl,OT, *]<;>omega) | (apply cZ; simp [tl,OT, *]<;>omega)
theorem Ap {l:List UInt8}{i:Nat} (h:i < l.length) (q:UInt8→Bool):(l.drop i).all q=(q l[i] && (l.drop (i + 1)).all q):=by rw [dp h,List.all_cons]
theorem Az {l:List UInt8} (hl:l.length < 4611686018427387904) (s0:PS):∀(k i:Nat) (f:aE) (s:PS),i + k=l.length→s0.n≤s.w→f 0=sv l→f 3=iv i→rl Tryz.prog Γ ext (ZT [2] s0) 0 ve xy f s []=some (.ok (bv ((l.drop i).all (fun x=>ay x.toNat)=true)) s0):=by
 intro k
 induction k with
 | zero=>
  intro i f s hk hw h0 h3;refine ar (by unfold ve; rfl) (by unfold xy; rfl) ?_; intro hr R hR;simp -implicitDefEqProofs (disch:=first | assumption | (apply Ar.mk; omega)) only [ZN,↓df,qA,↓reduceIte,reduceCtorEq,aa,ae,frz,frz2,aP,h0,h3,hr];rw [hR,List.drop_eq_nil_of_le (by omega)]; rfl
 | succ k ih=>
  intro i f s hk hw h0 h3;have hi:i < l.length:=by omega
  rw [Ap hi];have hg:=cf hi;by_cases c:ay (bt l i)=true
  ·have k1:Ar (ay (bt l i)=true):=⟨c⟩
   have k2:Ar (¬ ¬ ay (bt l i)=true):=⟨fun h=>h c⟩
   refine ar (by unfold ve; rfl) (by unfold xy; rfl) ?_; intro hr R hR;simp -implicitDefEqProofs (disch:=first | assumption | (apply Ar.mk; omega)) only [ZN,↓dt,↓df,qA,↓reduceIte,reduceCtorEq,aa,h0,h3,pm];subst hR;rw [← hg,c,Bool.true_and];refine ih (i + 1) _ _ ?_ ?_ ?_ ?_
   all_goals first | omega | assumption | rfl
  ·have k1:Ar (¬ ay (bt l i)=true):=⟨c⟩
   refine ar (by unfold ve; rfl) (by unfold xy; rfl) ?_; intro hr R hR;simp -implicitDefEqProofs (disch:=first | assumption | (apply Ar.mk; omega)) only [ZN,↓dt,qA,↓reduceIte,reduceCtorEq,aa,ae,frz,frz2,aP,h0,h3,pm];rw [hR];apply dT;rw [← hg];simp [c]
theorem Iu {l:List UInt8} (hl:l.length < 4611686018427387904) (s:PS):ah Tryz.prog Γ ext 64 [sv l] s=some (.ok (bv (r7 l=true)) s):=by
 refine am (fn:=Wi) [2] rfl rfl rfl rfl (by unfold Wi; rfl) ?_; intro R hR;simp -implicitDefEqProofs (disch:=first | assumption | (apply Ar.mk; omega)) only [ZN,ai];subst hR;exact Az hl s l.length 0 _ _ (by omega) (Nat.le_refl _) rfl rfl
def Xj (l:List UInt8) (x:Tk):PV:=.agg [iv x.k,iv x.p,iv x.e,sv (x.t l)]
def xN (l:List UInt8):Except (Nat × Nat) Tk→PV
 | .ok x=>.tup [Xj l x,iv 0]
 | .error x=>.tup [.agg [iv 0,iv x.1,iv 0,sv []],iv x.2]
def xd (l:List UInt8) (a:Nat):Nat→Nat
 | 0=>0
 | k + 1=>if a + (k + 1)≤l.length∧tl (sub l a (a + (k + 1)))=true then k + 1 else xd l a k
theorem LU (l:List UInt8) (a:Nat):xd l a 3=sx l a:=by
 unfold sx; simp only [xd]
theorem J3 {l:List UInt8}{a:Nat} (ha:a≤l.length):xd l a (min 3 (l.length - a))=sx l a:=by
 rw [← LU];by_cases h:l.length - a < 3
 ·have h3:¬ a + (2 + 1)≤l.length:=by omega
  rw [show min 3 (l.length - a)=l.length - a by omega];rw [show xd l a 3=xd l a 2 from if_neg (fun h=>h3 h.1)];by_cases g:l.length - a < 2
  ·have h2:¬ a + (1 + 1)≤l.length:=by omega
   rw [show xd l a 2=xd l a 1 from if_neg (fun h=>h2 h.1)];by_cases k:l.length - a < 1
   ·have h1:¬ a + (0 + 1)≤l.length:=by omega
    rw [show xd l a 1=xd l a 0 from if_neg (fun h=>h1 h.1)];rw [show l.length - a=0 by omega]
   ·rw [show l.length - a=1 by omega]
  ·rw [show l.length - a=2 by omega]
 ·rw [show min 3 (l.length - a)=3 by omega]
abbrev R2:List PV:=[iv 0,iv 0,iv 0,sv []]
section
variable {l:List UInt8} (hb:l.length < 4611686018427387904) {a:Nat} (ha:a≤l.length) {s0 S:PS}{p:Nat} (hp:s0.n≤p) (hS:s0.n≤S.w) (hk:S.h p=⟨R2,0,55⟩)
include hb ha hp hS hk
theorem sW {i:Nat} (h1:a≤i) (h2:i≤l.length) (h3:¬ (i < l.length∧bu (bt l i)=false)) (f:aE) (f0:f 0=sv l) (f1:f 1=iv a) (f4:f 4=.ptr p 0 4) (f7:f 7=iv i):rl Tryz.prog Γ ext (ZG [.cell 4 true 4,.tmp 5] s0) 2 l9 lL f S []=some (.ok (xN l (zq l a (i,0))) s0):=by
 have hd:∀s,ah Tryz.prog Γ ext 64 [sv (sb l a i)] s=some (.ok (bv (r7 (sb l a i)=true)) s):=fun s=>Iu (ext:=ext) (l:=sb l a i) (by show (sub l a i).length < _; rw [de h2]; omega) s;have ht:=fun k s=>wY (ext:=ext) hb k h1 h2 s;unfold zq;rw [if_neg (show ¬ (0:Nat)≠0 from fun h=>h rfl)];by_cases c:i < l.length
 ·have c2:bu (bt l i)=true:=by
   cases h:bu (bt l i) with
   | true=>rfl
   | false=>exact absurd ⟨c,h⟩ h3
  have k1:Ar (bu (bt l i)=true):=⟨c2⟩
  have k2:Ar (¬ ¬ bu (bt l i)=true):=⟨fun h=>h c2⟩
  by_cases c3:bt l i=60∨bt l i=62
  ·by_cases c4:r7 (sub l a i)=true
   ·rw [if_pos ⟨c4,c,c3⟩];have k3:Ar (r7 (sb l a i)=true):=⟨c4⟩
    refine ar (by unfold l9; rfl) (by unfold lL; rfl) ?_; intro hr R hR;simp -implicitDefEqProofs (disch:=first | assumption | (apply Ar.mk; omega)) only [ZN,↓dt,↓df,ai,qA,↓reduceIte,qB,reduceCtorEq,aa,ae,frz,frz2,aX,ad,ZM,bk,↓bR,f0,f1,f4,f7,hr,gM,hd,ht,hk];rw [hR]; rfl
   ·rw [if_neg fun h=>c4 h.1];have k3:Ar (¬ r7 (sb l a i)=true):=⟨c4⟩
    refine ar (by unfold l9; rfl) (by unfold lL; rfl) ?_; intro hr R hR;simp -implicitDefEqProofs (disch:=first | assumption | (apply Ar.mk; omega)) only [ZN,↓df,ai,qA,↓reduceIte,qB,reduceCtorEq,aa,ae,frz,frz2,aX,ad,ZM,bk,↓bR,f0,f1,f4,f7,hr,gM,hd,ht,hk];rw [hR]; rfl
  ·rw [if_neg fun h=>c3 h.2.2];have k3:Ar (¬ bt l i=60):=⟨fun h=>c3 (.inl h)⟩
   have k4:Ar (¬ bt l i=62):=⟨fun h=>c3 (.inr h)⟩
   refine ar (by unfold l9; rfl) (by unfold lL; rfl) ?_; intro hr R hR;simp -implicitDefEqProofs (disch:=first | assumption | (apply Ar.mk; omega)) only [ZN,↓df,ai,qA,↓reduceIte,qB,reduceCtorEq,aa,ae,frz,frz2,aX,ad,ZM,bk,bI,↓bR,↓ed,f0,f1,f4,f7,hr,gM,ht,hk];rw [hR]; rfl
 ·rw [if_neg fun h=>c h.2.1];refine ar (by unfold l9; rfl) (by unfold lL; rfl) ?_; intro hr R hR;simp -implicitDefEqProofs (disch:=first | assumption | (apply Ar.mk; omega)) only [ZN,ai,qA,↓reduceIte,qB,reduceCtorEq,aa,ae,frz,frz2,aX,ad,ZM,bI,↓ed,f0,f1,f4,f7,hr,ht,hk];rw [hR]; rfl
theorem yd:∀(n i:Nat) (f:aE),a≤i→i≤l.length→l.length≤i + n→f 0=sv l→f 1=iv a→f 4=.ptr p 0 4→f 7=iv i→rl Tryz.prog Γ ext (ZG [.cell 4 true 4,.tmp 5] s0) 2 l9 lL f S []=some (.ok (xN l (zq l a (ft l n i))) s0):=by
 intro n
 induction n with
 | zero=>intro i f h1 h2 h3 f0 f1 f4 f7; exact sW hb ha hp hS hk h1 h2 (by omega) f f0 f1 f4 f7
 | succ n ih=>
  intro i f h1 h2 h3 f0 f1 f4 f7;rw [ft];by_cases c:i < l.length∧bu (bt l i)=false
  ·rw [if_pos c];obtain⟨c1,c2⟩:=c;have k1:Ar (¬ bu (bt l i)=true):=⟨by rw [c2]; decide⟩
   have hg:=fun s=>md (ext:=ext) hb c1 s;have hx:=jq (l:=l) (t:=.pass i 0) c1;simp only [aV.at] at hx;by_cases c3:oZ l i=true
   ·have k3:Ar (oZ l i=true):=⟨c3⟩
    have k4:Ar (¬ ¬ oZ l i=true):=⟨fun h=>h c3⟩
    have hc:=yl (ext:=ext) hb (ly l) (.pass i 0) c1 (by simp only [aV.size,ly]; omega) (by omega) c3 (.inl rfl);simp only [show Co 0=.agg [.sc (.bool false),.sc (.bool false)] from rfl] at hc;have hc:∀s,ah Tryz.prog Γ ext 63 [sv l,iv i,.agg [.sc (.bool false),.sc (.bool false)]] s=some (.ok (.tup [iv (lx l (.pass i 0)).1,iv (lx l (.pass i 0)).2]) s):=hc;generalize lx l (.pass i 0)=r at *;obtain⟨j,e⟩:=r;simp only at hc hx ⊢;by_cases c5:e=0
    ·subst c5;have hc:∀s,ah Tryz.prog Γ ext 63 [sv l,iv i,.agg [.sc (.bool false),.sc (.bool false)]] s=some (.ok (.tup [iv j,.sc (.int .i64 ((0:Nat):Int))]) s):=hc;rw [if_pos rfl];refine ar (by unfold l9; rfl) (by unfold lL; rfl) ?_; intro hr R hR;simp -implicitDefEqProofs (disch:=first | assumption | (apply Ar.mk; omega)) only [ZN,↓dt,↓df,qA,↓reduceIte,reduceCtorEq,aa,aD,bk,↓bR,f0,f7,gM,hg,hc];subst hR;refine ih j _ ?_ ?_ ?_ ?_ ?_ ?_ ?_
     all_goals first | assumption | rfl | (have:=hx.2 rfl; omega)
    ·rw [if_neg c5];have k5:Ar (e≠0):=⟨c5⟩
     refine ar (by unfold l9; rfl) (by unfold lL; rfl) ?_; intro hr R hR;simp -implicitDefEqProofs (disch:=first | assumption | (apply Ar.mk; omega)) only [ZN,↓dt,↓df,ai,qA,↓reduceIte,qB,qC,reduceCtorEq,aa,aD,ae,frz,frz2,aX,ad,ZM,bk,↓bR,f0,f4,f7,gM,hg,hc,hk];rw [hR];unfold zq;rw [if_pos c5];rfl
   ·have k3:Ar (¬ oZ l i=true):=⟨c3⟩
    have h1':lx l (.pass i 0)=(i + 1,0):=wR (by unfold ly; omega) (.inl (by simpa using c3));rw [h1'];rw [if_pos rfl];refine ar (by unfold l9; rfl) (by unfold lL; rfl) ?_; intro hr R hR;simp -implicitDefEqProofs (disch:=first | assumption | (apply Ar.mk; omega)) only [ZN,↓dt,qA,↓reduceIte,reduceCtorEq,aa,bk,↓bR,f0,f7,gM,hg];subst hR;refine ih (i + 1) _ ?_ ?_ ?_ ?_ ?_ ?_ ?_
    all_goals first | assumption | rfl | omega
  ·rw [if_neg c];exact sW hb ha hp hS hk h1 h2 c f f0 f1 f4 f7
theorem Eb:∀(k:Nat) (f:aE),k≤3→a + k≤l.length→f 0=sv l→f 1=iv a→f 4=.ptr p 0 4→f 6=iv k→rl Tryz.prog Γ ext (ZG [.cell 4 true 4,.tmp 5] s0) 0 qK xh f S []=some (.ok (xN l (if xd l a k≠0 then .ok ⟨2,a,a + xd l a k⟩ else zq l a (ft l l.length a))) s0):=by
 intro k
 induction k with
 | zero=>
  intro f h1 h2 f0 f1 f4 f6;rw [if_neg (by rw [xd]; simp)];have hw:=yd (ext:=ext) hb ha hp hS hk l.length a;refine ar (by unfold qK; rfl) (by unfold xh; rfl) ?_; intro hr R hR;simp -implicitDefEqProofs (disch:=first | assumption | (apply Ar.mk; omega)) only [ZN,qA,↓reduceIte,qD,aa,f1,f6,hr];subst hR;refine hw _ (Nat.le_refl _) ha (by omega) ?_ ?_ ?_ ?_
  all_goals first | assumption | rfl
 | succ k ih=>
  intro f h1 h2 f0 f1 f4 f6;have ho:∀s,ah Tryz.prog Γ ext 60 [sv (sb l a (a + (k + 1)))] s=some (.ok (bv (tl (sb l a (a + (k + 1)))=true)) s):=fun s=>Wd (ext:=ext) (sb l a (a + (k + 1))) s;have ht:=fun s=>wY (ext:=ext) hb 2 (p:=a) (e:=a + (k + 1)) (by omega) h2 s;by_cases c:tl (sub l a (a + (k + 1)))=true
  ·have e:xd l a (k + 1)=k + 1:=if_pos ⟨h2,c⟩;rw [e,if_pos (by omega)];have k1:Ar (tl (sb l a (a + (k + 1)))=true):=⟨c⟩
   refine ar (by unfold qK; rfl) (by unfold xh; rfl) ?_; intro hr R hR;simp -implicitDefEqProofs (disch:=first | assumption | (apply Ar.mk; omega)) only [ZN,↓dt,ai,qA,↓reduceIte,qB,reduceCtorEq,aa,ae,frz,frz2,aX,ad,ZM,f0,f1,f4,f6,ho,ht,hk];rw [hR]; rfl
  ·have e:xd l a (k + 1)=xd l a k:=if_neg fun h=>c h.2;rw [e];have k1:Ar (¬ tl (sb l a (a + (k + 1)))=true):=⟨c⟩
   refine ar (by unfold qK; rfl) (by unfold xh; rfl) ?_; intro hr R hR;simp -implicitDefEqProofs (disch:=first | assumption | (apply Ar.mk; omega)) only [ZN,↓dt,↓df,qA,↓reduceIte,reduceCtorEq,aa,f0,f1,f6,ho];subst hR;refine ih _ ?_ ?_ ?_ ?_ ?_ ?_
   all_goals first | omega | assumption | rfl
end
theorem Kz {l:List UInt8} (hb:l.length≤16384) {i:Nat} (hi:i≤l.length) (s:PS):ah Tryz.prog Γ ext 27 [sv l,iv i] s=some (.ok (xN l (iO l i)) s):=by
 have hs:=fun s=>N5 (ext:=ext) (l:=l) (by omega) hi s;have ha:=(nW (l:=l) l.length i hi).2;unfold iO;generalize dh l l.length i=a at *;unfold FI;by_cases c1:a=l.length
 ·rw [if_pos c1];subst c1;refine bL (fn:=Oc) [.cell 4 true 4,.tmp 5] rfl rfl rfl rfl (by unfold Oc; rfl) ?_; intro R hR;simp -implicitDefEqProofs (disch:=first | assumption | (apply Ar.mk; omega)) only [ZN,↓df,ai,qA,↓reduceIte,qB,qC,reduceCtorEq,aa,aD,ae,frz,frz2,aX,ad,ZM,hs];rw [hR];show _=some (ZR.ok (.tup [.agg [iv 5,iv l.length,iv l.length,sv (sub l l.length l.length)],iv 0]) s);rw [show sub l l.length l.length=[] by unfold sub; simp]
 rw [if_neg c1];have k1:Ar (¬ a=l.length):=⟨c1⟩
 by_cases c2:bt l a=10
 ·rw [if_pos c2];have ht:=fun s=>wY (ext:=ext) (l:=l) (by omega) 3 (p:=a) (e:=a + 1) (by omega) (by omega) s;refine bL (fn:=Oc) [.cell 4 true 4,.tmp 5] rfl rfl rfl rfl (by unfold Oc; rfl) ?_; intro R hR;simp -implicitDefEqProofs (disch:=first | assumption | (apply Ar.mk; omega)) only [ZN,↓dt,↓df,ai,qA,↓reduceIte,qB,reduceCtorEq,aa,ae,frz,frz2,aX,ad,ZM,hs,ht];rw [hR]; rfl
 rw [if_neg c2];have k2:Ar (¬ bt l a=10):=⟨c2⟩
 rw [← J3 ha];refine bL (fn:=Oc) [.cell 4 true 4,.tmp 5] rfl rfl rfl rfl (by unfold Oc; rfl) ?_; intro R hR;simp -implicitDefEqProofs (disch:=first | assumption | (apply Ar.mk; omega)) only [ZN,↓df,ai,qA,↓reduceIte,qB,reduceCtorEq,aa,hs,Gn];subst hR;refine Eb (p:=s.n) (by omega) ha (Nat.le_refl _) ?_ ?_ _ _ ?_ ?_ ?_ ?_ ?_ ?_
 all_goals first | rfl | omega | exact Nat.le_refl _ | exact if_pos rfl
end Go.Proofs.YtioblbopbilmaaaGreatDoor
namespace Go.PE
open Go Go.EvL
theorem fF.app1 {α:Type}{e es bytes b:Nat}{c:α→List PV}{l:List α}{v:PV}{s:PS} (hc:∀x,(c x).length=es) (h:fF e es c b l v s) (x:α) (hes:es≠0) (hb:(l.length + 1) * bytes≤140737488355328) (hn:l.length + 1≤1073741824) (ho:(c x).all eQ=true) (hbn:b≤s.n) :
  ∃v' s',fo s e es bytes v (c x) 1=some (v',s')∧fF e es c b (l ++ [x]) v' s'∧(∀j,j < s.n→(∀m f,v≠.own j 0 m f)→s'.h j=s.h j∧∀m f,v'≠.own j 0 m f)∧s.n≤s'.n∧(∀n0,n0≤b→n0≤s.w→n0≤s'.w):=by
 have hcx:=hc x;rcases h with ⟨rfl,rfl⟩ | ⟨hl,k,k1,k2,rfl,k3⟩
 ·refine⟨.own s.n 0 1 (c x).length,s.new ⟨c x,0,e⟩,?_,.inr ⟨by simp,s.n,hbn,by rw [aj]; omega,?_,?_⟩,fun j hj _=>⟨?_,fun m f h=>?_⟩,by rw [aj]; omega,fun n0 _ hw=>by rw [cO]; exact hw⟩
  ·unfold fo;rw [if_neg (by decide)];simp only;rw [if_pos ⟨hes,by omega,by simpa using hb,by decide,ho⟩]
  ·rw [hcx]; simp
  ·rw [qT,if_pos rfl]; simp
  ·rw [qT,if_neg (by omega)]
  ·injection h with h; omega
 ·have hfl':=bB hc l;refine⟨.own k 0 (l.length + 1) (l.length * es + (c x).length),s.put k ⟨l.flatMap c ++ c x,0,e⟩,?_,.inr ⟨by simp,k,k1,by rw [ak]; exact k2,?_,?_⟩,fun j hj hne=>⟨?_,fun m f h=>?_⟩,by rw [ak]; exact Nat.le_refl _,fun n0 h1 h2=>by rw [db]; omega⟩
  ·unfold fo;rw [if_neg (by decide)];simp only [k3];rw [if_pos ⟨⟨hes,by omega,hb,hn,ho⟩,by omega,hfl'.symm,Nat.zero_le _,trivial,trivial⟩]
  ·rw [List.length_append,hcx,List.length_cons,List.length_nil,Nat.add_mul]; simp
  ·rw [v9,if_pos rfl,List.flatMap_append]; simp
  ·rw [v9,if_neg (fun e=>hne _ _ (by rw [e]))]
  ·injection h with h; exact hne _ _ (by rw [h])
theorem fF.ne {α:Type}{e es b:Nat}{c:α→List PV}{l:List α}{v:PV}{s:PS} (h:fF e es c b l v s) {j:Nat} (hj:s.n≤j∨j < b):∀m f,v≠.own j 0 m f:=by
 intro m f he;rcases h with ⟨_,rfl⟩ | ⟨hl,k,k1,k2,rfl,k3⟩
 ·cases he
 ·injection he with he; omega
theorem fF.frz2 {α:Type}{e es b n0:Nat}{c:α→List PV}{l:List α}{v:PV}{s:PS} (hc:∀x,(c x).length=es) (h:fF e es c b l v s) (hn:n0≤b) (hcl:∀x∈l,(c x).all dQ=true):PE.frz2 n0 s v=some (wO e c (jF l)):=by
 have h1:=h.frz hc hn hcl;rcases h with ⟨rfl,rfl⟩ | ⟨hl,k,k1,k2,rfl,k3⟩
 ·exact h1
 ·exact h1
theorem fF.ce {α:Type}{e es b:Nat}{c:α→List PV}{l:List α}{v:PV}{s:PS} (h:fF e es c b l v s):cI v=[v]∧eQ v=true:=by
 rcases h with ⟨_,rfl⟩ | ⟨_,k,_,_,rfl,_⟩<;>exact⟨rfl,rfl⟩
theorem fF.fr {α:Type}{e es b:Nat}{c:α→List PV}{l:List α}{v:PV}{s s':PS} (h:fF e es c b l v s) (hn:s.n≤s'.n) (hh:∀j,b≤j→j < s.n→(∃m f,v=.own j 0 m f)→s'.h j=s.h j):fF e es c b l v s':=by
 rcases h with h | ⟨hl,k,k1,k2,rfl,k3⟩
 ·exact .inl h
 ·exact .inr ⟨hl,k,k1,by omega,rfl,by rw [hh k k1 k2 ⟨_,_,rfl⟩]; exact k3⟩
theorem xI {α:Type} (l:List α) (x:α):jF (l ++ [x])=some (l ++ [x]):=by
 cases l<;>rfl
end Go.PE
namespace Go.Proofs.YtioblbopbilmaaaGreatDoor
open Go Go.EvL Go.PE Go.Mir
variable {ext:aw}
set_option maxHeartbeats 4000000
def jz (l:List UInt8) (x:Tk):List PV:=[iv x.k,iv x.p,iv x.e,sv (x.t l)]
theorem eP (l:List UInt8) (x:Tk):(jz l x).length=4:=rfl
theorem uE (l:List UInt8) (x:Tk):(jz l x).all dQ=true:=rfl
def E2 (l:List UInt8) (acc:List Tk):Except (Nat × Nat) (List Tk)→PV
 | .ok r=>.tup [wO 55 (jz l) (jF (acc ++ r)),iv 0,iv 0]
 | .error x=>.tup [nv,iv x.1,iv x.2]
theorem GF {l:List UInt8}{b:Nat}{acc:List Tk}{v:PV}{S:PS} (hA:fF 55 4 (jz l) b acc v S) (hb:b≤S.n) (hn:acc.length < 100000) (x:Tk) :
  ∃v' S',fo (((S.new ⟨R2,0,55⟩).put S.n ⟨[iv x.k,iv x.p,iv x.e,sv (x.t l)],4,55⟩).new ⟨[iv x.k,iv x.p,iv x.e,sv (x.t l)],0,55⟩) 55 4 40 v [iv x.k,iv x.p,iv x.e,sv (x.t l)] 1=some (v',S')∧fF 55 4 (jz l) b (acc ++ [x]) v' S'∧S'.h S.n=⟨[iv x.k,iv x.p,iv x.e,sv (x.t l)],4,55⟩∧(∀j,j < b→S'.h j=S.h j)∧S.n≤S'.n∧(∀n0,n0≤b→n0≤S.w→n0≤S'.w):=by
 have hA1:fF 55 4 (jz l) b acc v (((S.new ⟨R2,0,55⟩).put S.n ⟨[iv x.k,iv x.p,iv x.e,sv (x.t l)],4,55⟩).new ⟨[iv x.k,iv x.p,iv x.e,sv (x.t l)],0,55⟩):=by
  refine hA.frame (by (simp only [aj,ak]; omega)) fun j hj=>?_;simp -implicitDefEqProofs (disch:=(apply Ar.mk; (try simp only [aj,ak]); omega)) only [ap,ao,aj,ak,au]
 have hne:=hA.ne (j:=S.n) (.inl (Nat.le_refl _));obtain⟨v',S',e1,e2,e3,e4,e5⟩:=fF.app1 (bytes:=40) (eP l) hA1 x (by decide) (by omega) (by omega) rfl (by (simp only [aj,ak]; omega));have e4':S.n + 2≤S'.n:=e4;refine⟨v',S',e1,e2,?_,fun j hj=>?_,by omega,fun n0 h1 h2=>e5 n0 h1 ?_⟩
 ·rw [(e3 S.n (by (simp only [aj,ak]; omega)) hne).1];simp -implicitDefEqProofs (disch:=(apply Ar.mk; (try simp only [aj,ak]); omega)) only [ap,ao,aj,ak,au,aI]
 ·rw [(e3 j (by (simp only [aj,ak]; omega)) (hA.ne (.inr hj))).1];simp -implicitDefEqProofs (disch:=(apply Ar.mk; (try simp only [aj,ak]); omega)) only [ap,ao,aj,ak,au]
 ·(simp only [cO,db]; omega)
section
variable {l:List UInt8} (hb:l.length≤16384) {s0:PS}{b:Nat} (hb0:s0.n≤b)
include hb hb0
theorem Bc:∀(n i:Nat) (acc:List Tk) (v:PV) (f:aE) (S:PS),i≤l.length→l.length < i + n→acc.length≤i→fF 55 4 (jz l) b acc v S→b≤S.n→s0.n≤S.w→f 0=sv l→f 5=v→f 6=iv i→zr Tryz.prog Γ ext (ZT [2,3,4] s0) (.loop nY) f S [.b 0]=some (.ok (E2 l acc (fE l n i)) s0):=by
 intro n
 induction n with
 | zero=>intro i acc v f S h1 h2; omega
 | succ n ih=>
  intro i acc v f S h1 h2 h3 hA hbn hw f0 f5 f6;have hN:=fun s=>Kz (ext:=ext) hb h1 s;have hk:=jS (l:=l) h1;rw [fE];cases hn:iO l i with
  | error x=>
   rw [hn] at hN hk;simp only at hk;have hN:∀s,ah Tryz.prog Γ ext 27 [sv l,iv i] s=some (.ok (.tup [.agg [iv 0,iv x.1,iv 0,sv []],iv x.2]) s):=hN;have k1:Ar (x.2≠0):=⟨hk⟩
   rw [gR (b:=nY) (by unfold nY; rfl)];simp -implicitDefEqProofs (disch:=first | assumption | (apply Ar.mk; first | omega | (simp only [Zj]; omega)) | (apply Ak.mk; first | rfl | exact .inl rfl | exact .inr rfl | exact aq _ _ | exact av _ _ | (unfold aG az; simp<;>omega) | with_unfolding_all rfl | exact .inr (by with_unfolding_all rfl))) only [ZN,↓dt,ai,qA,↓reduceIte,qB,qC,reduceCtorEq,aa,ae,frz,frz2,aX,ad,ZM,ZV,aW,aZ,aS,f0,f6,hN];rfl
  | ok x=>
   rw [hn] at hN hk;simp only at hk;have hN:∀s,ah Tryz.prog Γ ext 27 [sv l,iv i] s=some (.ok (.tup [.agg [iv x.k,iv x.p,iv x.e,sv (x.t l)],.sc (.int .i64 ((0:Nat):Int))]) s):=hN;obtain⟨v',S',e1,e2,e3,e4,e5,e6⟩:=GF hA hbn (by omega) x;have hw':=e6 s0.n hb0 hw;have hz:=e2.frz2 (eP l) hb0 fun x _=>uE l x;by_cases c:x.k=5
   ·simp only [if_pos c];have k1:Ar (x.k=5):=⟨c⟩
    rw [gR (b:=nY) (by unfold nY; rfl)];simp -implicitDefEqProofs (disch:=first | assumption | (apply Ar.mk; first | omega | (simp only [Zj]; omega))) only [ZN,↓dt,ai,qA,↓reduceIte,qB,qC,reduceCtorEq,aa,aD,ae,frz,frz2,aX,ad,ZM,qF,f0,f5,f6,hN,e1,e3,↓hz];rfl
   ·simp only [if_neg c];have k1:Ar (¬ x.k=5):=⟨c⟩
    have hlt:=hk.lt c;have hle:=hk.le;have key:∀f':aE,f' 0=sv l→f' 5=v'→f' 6=iv x.e→zr Tryz.prog Γ ext (ZT [2,3,4] s0) (.loop nY) f' S' [.b 0]=some (.ok (E2 l acc (match fE l n x.e with | .error y=>.error y | .ok r=>.ok (x :: r))) s0):=by
     intro f' g0 g5 g6;rw [ih x.e (acc ++ [x]) v' f' S' hk.el (by omega) (by rw [List.length_append,List.length_cons,List.length_nil]; omega) e2 (by omega) hw' g0 g5 g6];cases fE l n x.e with
     | error y=>rfl
     | ok r=>
      show some (ZR.ok (.tup [wO 55 (jz l) (jF ((acc ++ [x]) ++ r)),iv 0,iv 0]) s0)=some (ZR.ok (.tup [wO 55 (jz l) (jF (acc ++ x :: r)),iv 0,iv 0]) s0);rw [List.append_assoc]; rfl
    rw [gR (b:=nY) (by unfold nY; rfl)];simp -implicitDefEqProofs (disch:=first | assumption | (apply Ar.mk; first | omega | (simp only [Zj]; omega))) only [ZN,↓df,ai,qA,↓reduceIte,qB,qC,reduceCtorEq,aa,aD,ad,ZM,qF,f0,f5,f6,hN,e1,e3];apply key
    all_goals first | assumption | rfl
end
theorem Qv {l:List UInt8} (hb:l.length≤16384) (s:PS):ah Tryz.prog Γ ext 13 [sv l] s=some (.ok (E2 l [] (fE l (l.length + 1) 0)) s):=by
 refine am (fn:=VJ) [2,3,4] rfl rfl rfl rfl (by unfold VJ; rfl) ?_; intro R hR;simp -implicitDefEqProofs (disch:=first | assumption | (apply Ar.mk; omega)) only [ZN,ai];subst hR;exact Bc hb (b:=s.n) (Nat.le_refl _) (l.length + 1) 0 [] nv _ _ (Nat.zero_le _) (by omega) (Nat.le_refl _) (.inl ⟨rfl,rfl⟩) (Nat.le_refl _) (Nat.le_refl _) rfl rfl rfl
set_option maxHeartbeats 4000000
theorem Dz {i n:Nat} (h:i≤n) (s:PS):ah Tryz.prog Γ ext 173 [iv i,iv n] s=some (.ok (iv i) s):=by
 have e1:min i n=i:=by omega
 have e2:max 0 i=i:=by omega
 refine am (fn:=Of) [4] rfl rfl rfl rfl (by unfold Of; rfl) ?_; intro R hR;simp -implicitDefEqProofs (disch:=first | assumption | (apply Ar.mk; omega)) only [ZN,ai,qA,↓reduceIte,qB,reduceCtorEq,aa,ae,frz,frz2,aP,Gn,e1,e2];exact hR.symm
section
variable {l:List UInt8} (hb:l.length < 4611686018427387904)
include hb
theorem y9 (s0:PS):∀(n i:Nat) (f:aE) (s:PS),i≤l.length→l.length≤i + n→s0.n≤s.w→f 0=sv l→f 1=iv i→rl Tryz.prog Γ ext (ZT [4] s0) 0 kD mm f s []=some (.ok (iv (dh l n i)) s0):=by
 intro n
 induction n with
 | zero=>
  intro i f s hi hn hw h0 h1;refine ar (by unfold kD; rfl) (by unfold mm; rfl) ?_; intro hr R hR;simp -implicitDefEqProofs (disch:=first | assumption | (apply Ar.mk; omega)) only [ZN,↓df,qA,↓reduceIte,reduceCtorEq,aa,ae,frz,frz2,aP,h0,h1,hr];exact hR.symm
 | succ n ih=>
  intro i f s hi hn hw h0 h1;rw [dh];by_cases c0:i < l.length
  ·have hj:=fun s=>zu (ext:=ext) hb (i:=i) hi s;have hc:=fun s=>uN (ext:=ext) hb (i:=i) hi s;rw [if_pos c0];by_cases c1:bt l i=35
   ·rw [if_pos c1];refine ar (by unfold kD; rfl) (by unfold mm; rfl) ?_; intro hr R hR;simp -implicitDefEqProofs (disch:=first | assumption | (apply Ar.mk; omega)) only [ZN,↓dt,qA,↓reduceIte,reduceCtorEq,aa,ae,frz,frz2,aP,h0,h1,hc];exact hR.symm
   rw [if_neg c1];have k0:Ar (¬ bt l i=35):=⟨c1⟩
   by_cases c2:bx l i=true
   ·have hlt:=dx c2;have k2:Ar (bx l i=true):=⟨c2⟩
    rw [if_pos c2];refine ar (by unfold kD; rfl) (by unfold mm; rfl) ?_; intro hr R hR;simp -implicitDefEqProofs (disch:=first | assumption | (apply Ar.mk; omega)) only [ZN,↓dt,↓df,qA,↓reduceIte,reduceCtorEq,aa,h0,h1,hj];subst hR;refine ih (i + 2) _ _ ?_ ?_ ?_ ?_ ?_
    all_goals first | omega | assumption | rfl
   rw [if_neg c2];have k2:Ar (¬ bx l i=true):=⟨c2⟩
   by_cases c3:bA (bt l i)=true
   ·have k1:Ar (bA (bt l i)=true):=⟨c3⟩
    rw [if_pos c3];refine ar (by unfold kD; rfl) (by unfold mm; rfl) ?_; intro hr R hR;simp -implicitDefEqProofs (disch:=first | assumption | (apply Ar.mk; omega)) only [ZN,↓dt,↓df,qA,↓reduceIte,reduceCtorEq,aa,h0,h1,iw,hj];subst hR;refine ih (i + 1) _ _ ?_ ?_ ?_ ?_ ?_
    all_goals first | omega | assumption | rfl
   rw [if_neg c3];have k1:Ar (¬ bA (bt l i)=true):=⟨c3⟩
   refine ar (by unfold kD; rfl) (by unfold mm; rfl) ?_; intro hr R hR;simp -implicitDefEqProofs (disch:=first | assumption | (apply Ar.mk; omega)) only [ZN,↓dt,↓df,qA,↓reduceIte,reduceCtorEq,aa,ae,frz,frz2,aP,h0,h1,iw,hj];exact hR.symm
  ·rw [if_neg c0];refine ar (by unfold kD; rfl) (by unfold mm; rfl) ?_; intro hr R hR;simp -implicitDefEqProofs (disch:=first | assumption | (apply Ar.mk; omega)) only [ZN,↓df,qA,↓reduceIte,reduceCtorEq,aa,ae,frz,frz2,aP,h0,h1,hr];exact hR.symm
theorem MH {i:Nat} (hi:i≤l.length) (s:PS):ah Tryz.prog Γ ext 145 [sv l,iv i] s=some (.ok (iv (dh l l.length i)) s):=by
 have hl:=fun s=>Dz (ext:=ext) hi s;refine am (fn:=NC) [4] rfl rfl rfl rfl (by unfold NC; rfl) ?_; intro R hR;simp -implicitDefEqProofs (disch:=first | assumption | (apply Ar.mk; omega)) only [ZN,ai,qA,↓reduceIte,qB,reduceCtorEq,aa,hl];subst hR;exact y9 hb s l.length i _ _ hi (by omega) (Nat.le_refl _) rfl rfl
theorem N3 {c:Nat} (h:bu c=false):bA c=false∧c≠10∧cn c=false:=by
 unfold bu at h;simp only [Bool.or_eq_false_iff,beq_eq_false_iff_ne] at h;exact⟨h.1.1,h.1.2,h.2⟩
theorem zg (s0:PS):∀(n i:Nat) (f:aE) (s:PS),i≤l.length→l.length≤i + n→s0.n≤s.w→f 0=sv l→f 1=iv i→rl Tryz.prog Γ ext (ZT [4,5] s0) 0 jK kC f s []=some (.ok (.tup [iv (ft l n i).1,iv (ft l n i).2]) s0):=by
 intro n
 induction n with
 | zero=>
  intro i f s hi hn hw h0 h1;refine ar (by unfold jK; rfl) (by unfold kC; rfl) ?_; intro hr R hR;simp -implicitDefEqProofs (disch:=first | assumption | (apply Ar.mk; omega)) only [ZN,ai,qA,↓reduceIte,reduceCtorEq,aa,ae,frz,frz2,aP,aX,bI,↓ed,h0,h1,hr];exact hR.symm
 | succ n ih=>
  intro i f s hi hn hw h0 h1;rw [ft];by_cases c:i < l.length∧bu (bt l i)=false
  ·rw [if_pos c];obtain⟨c1,c2⟩:=c;obtain⟨b1,b2,b3⟩:=N3 (l:=l) hb c2;have k1:Ar (¬ bA (bt l i)=true):=⟨by rw [b1]; decide⟩
   have k2:Ar (¬ bt l i=10):=⟨b2⟩
   have k3:Ar (¬ cn (bt l i)=true):=⟨by rw [b3]; decide⟩
   have k4:Ar (i < l.length∧¬ bA (bt l i)=true):=⟨c1,k1.h⟩
   have k5:Ar ((i < l.length∧¬ bA (bt l i)=true)∧¬ bt l i=10):=⟨k4.h,b2⟩
   have k6:Ar (((i < l.length∧¬ bA (bt l i)=true)∧¬ bt l i=10)∧¬ cn (bt l i)=true):=⟨k5.h,k3.h⟩
   have hx:=jq (l:=l) (t:=.pass i 0) c1;simp only [aV.at] at hx;have hp:∀s,ah Tryz.prog Γ ext 179 [sv l,iv i,iv 0] s=some (.ok (.tup [iv (lx l (.pass i 0)).1,iv (lx l (.pass i 0)).2]) s):=oO (ext:=ext) hb (ly l) (.pass i 0) c1 (by simp only [aV.size,ly]; omega);generalize lx l (.pass i 0)=r at *;obtain⟨j,e⟩:=r;simp only at hp hx ⊢;by_cases c5:e=0
   ·subst c5;have hp:∀s,ah Tryz.prog Γ ext 179 [sv l,iv i,.sc (.int .i64 ((0:Nat):Int))] s=some (.ok (.tup [iv j,.sc (.int .i64 ((0:Nat):Int))]) s):=hp;rw [if_pos rfl];refine ar (by unfold jK; rfl) (by unfold kC; rfl) ?_; intro hr R hR;simp -implicitDefEqProofs (disch:=first | assumption | (apply Ar.mk; omega)) only [ZN,↓dt,qA,↓reduceIte,reduceCtorEq,aa,bk,↓bR,h0,h1,iw,ka,hp];subst hR;refine ih j _ _ ?_ ?_ ?_ ?_ ?_
    all_goals first | assumption | rfl | (have:=hx.2 rfl; omega)
   ·rw [if_neg c5];have k7:Ar (e≠0):=⟨c5⟩
    have hp:∀s,ah Tryz.prog Γ ext 179 [sv l,iv i,.sc (.int .i64 ((0:Nat):Int))] s=some (.ok (.tup [iv j,iv e]) s):=hp;refine ar (by unfold jK; rfl) (by unfold kC; rfl) ?_; intro hr R hR;simp -implicitDefEqProofs (disch:=first | assumption | (apply Ar.mk; omega)) only [ZN,↓dt,qA,↓reduceIte,reduceCtorEq,aa,ae,frz,frz2,aP,aX,bk,↓bR,h0,h1,iw,ka,hp];exact hR.symm
  ·rw [if_neg c];by_cases c1:i < l.length
   ·have c2:bu (bt l i)=true:=by
     cases h:bu (bt l i) with
     | true=>rfl
     | false=>exact absurd ⟨c1,h⟩ c
    by_cases b1:bA (bt l i)=true
    ·have k1:Ar (¬ ((¬ bA (bt l i)=true∧¬ bt l i=10)∧¬ cn (bt l i)=true)):=⟨fun h=>h.1.1 b1⟩
     refine ar (by unfold jK; rfl) (by unfold kC; rfl) ?_; intro hr R hR;simp -implicitDefEqProofs (disch:=first | assumption | (apply Ar.mk; omega)) only [ZN,↓df,qA,↓reduceIte,reduceCtorEq,aa,ae,frz,frz2,aP,aX,bk,↓bR,h0,h1,hr,iw,ka];exact hR.symm
    have k1:Ar (¬ bA (bt l i)=true):=⟨b1⟩
    by_cases b2:bt l i=10
    ·refine ar (by unfold jK; rfl) (by unfold kC; rfl) ?_; intro hr R hR;simp -implicitDefEqProofs (disch:=first | assumption | (apply Ar.mk; omega)) only [ZN,ai,qA,↓reduceIte,reduceCtorEq,aa,ae,frz,frz2,aP,aX,bk,bI,↓bR,↓ed,h0,h1,hr,iw];exact hR.symm
    have k2:Ar (¬ bt l i=10):=⟨b2⟩
    have b3:cn (bt l i)=true:=by
     cases h:cn (bt l i) with
     | true=>rfl
     | false=>
      exfalso;unfold bu at c2;rw [h,(by simpa using b1:bA (bt l i)=false)] at c2;simp [b2] at c2
    have k3:Ar (¬ ¬ cn (bt l i)=true):=⟨fun h=>h b3⟩
    refine ar (by unfold jK; rfl) (by unfold kC; rfl) ?_; intro hr R hR;simp -implicitDefEqProofs (disch:=first | assumption | (apply Ar.mk; omega)) only [ZN,↓df,qA,↓reduceIte,reduceCtorEq,aa,ae,frz,frz2,aP,aX,bk,↓bR,h0,h1,hr,iw,ka];exact hR.symm
   ·refine ar (by unfold jK; rfl) (by unfold kC; rfl) ?_; intro hr R hR;simp -implicitDefEqProofs (disch:=first | assumption | (apply Ar.mk; omega)) only [ZN,ai,qA,↓reduceIte,reduceCtorEq,aa,ae,frz,frz2,aP,aX,bI,↓ed,h0,h1,hr];exact hR.symm
theorem NE {i:Nat} (hi:i≤l.length) (s:PS):ah Tryz.prog Γ ext 147 [sv l,iv i] s=some (.ok (.tup [iv (ft l l.length i).1,iv (ft l l.length i).2]) s):=by
 refine am (fn:=Pb) [4,5] rfl rfl rfl rfl (by unfold Pb; rfl) ?_; intro R hR;simp -implicitDefEqProofs (disch:=first | assumption | (apply Ar.mk; omega)) only [ZN,ai,qB];subst hR;exact zg hb s l.length i _ _ hi (by omega) (Nat.le_refl _) rfl rfl
end
theorem VI (t:List UInt8) (s:PS):ah Tryz.prog Γ ext 177 [sv t] s=some (.ok (bv (tl t=true)) s):=by
 refine am (fn:=OI) [2] rfl rfl rfl rfl (by unfold OI; rfl) ?_; intro R hR;simp -implicitDefEqProofs (disch:=first | assumption | (apply Ar.mk; first | omega | (simp only [Zj]; omega))) only [ZN,↓dt,ai,qA,↓reduceIte,reduceCtorEq,aa,ae,frz,frz2,aP];subst hR
 (repeat' (apply DI_c<;>intro))<;>first | rfl | (apply eU; simp [tl,OT, *]<;>omega) | (apply dT; simp [tl,OT, *]<;>omega) | (apply cZ; simp [tl,OT, *]<;>omega)
theorem EH {l:List UInt8} (hb:l.length < 4611686018427387904) {a:Nat} (ha:a≤l.length) (s0:PS):∀(k:Nat) (f:aE) (s:PS),k≤3→s0.n≤s.w→f 0=sv l→f 1=iv a→f 5=iv k→rl Tryz.prog Γ ext (ZT [4] s0) 0 nl pT f s []=some (.ok (iv (xd l a k)) s0):=by
 intro k
 induction k with
 | zero=>
  intro f s h1 hw f0 f1 f5;refine ar (by unfold nl; rfl) (by unfold pT; rfl) ?_; intro hr R hR;simp -implicitDefEqProofs (disch:=first | assumption | (apply Ar.mk; omega)) only [ZN,↓reduceIte,qD,aa,ae,frz,frz2,aP,f5,hr];exact hR.symm
 | succ k ih=>
  intro f s h1 hw f0 f1 f5;have ho:∀s,ah Tryz.prog Γ ext 177 [sv (sb l a (a + (k + 1)))] s=some (.ok (bv (tl (sb l a (a + (k + 1)))=true)) s):=fun s=>VI (ext:=ext) (sb l a (a + (k + 1))) s;rw [xd];by_cases c0:a + (k + 1)≤l.length
  ·by_cases c:tl (sub l a (a + (k + 1)))=true
   ·rw [if_pos ⟨c0,c⟩];have k1:Ar (tl (sb l a (a + (k + 1)))=true):=⟨c⟩
    refine ar (by unfold nl; rfl) (by unfold pT; rfl) ?_; intro hr R hR;simp -implicitDefEqProofs (disch:=first | assumption | (apply Ar.mk; omega)) only [ZN,↓dt,qA,↓reduceIte,reduceCtorEq,aa,ae,frz,frz2,aP,bk,↓bR,f0,f1,f5,ho];exact hR.symm
   ·rw [if_neg fun h=>c h.2];have k1:Ar (¬ tl (sb l a (a + (k + 1)))=true):=⟨c⟩
    refine ar (by unfold nl; rfl) (by unfold pT; rfl) ?_; intro hr R hR;simp -implicitDefEqProofs (disch:=first | assumption | (apply Ar.mk; omega)) only [ZN,↓dt,↓df,qA,↓reduceIte,reduceCtorEq,aa,bk,↓bR,f0,f1,f5,ho];subst hR;refine ih _ _ ?_ ?_ ?_ ?_ ?_
    all_goals first | omega | assumption | rfl
  ·rw [if_neg fun h=>c0 h.1];refine ar (by unfold nl; rfl) (by unfold pT; rfl) ?_; intro hr R hR;simp -implicitDefEqProofs (disch:=first | assumption | (apply Ar.mk; omega)) only [ZN,↓dt,ai,qA,↓reduceIte,reduceCtorEq,aa,bI,↓ed,f0,f1,f5];subst hR;refine ih _ _ ?_ ?_ ?_ ?_ ?_
   all_goals first | omega | assumption | rfl
theorem Ub {l:List UInt8} (hb:l.length < 4611686018427387904) {a:Nat} (ha:a≤l.length) (s:PS):ah Tryz.prog Γ ext 146 [sv l,iv a] s=some (.ok (iv (sx l a)) s):=by
 rw [← LU];refine am (fn:=Ou) [4] rfl rfl rfl rfl (by unfold Ou; rfl) ?_; intro R hR;simp -implicitDefEqProofs (disch:=first | assumption | (apply Ar.mk; omega)) only [ZN,ai,qB];subst hR;exact EH hb ha s 3 _ _ (Nat.le_refl _) (Nat.le_refl _) rfl rfl rfl
theorem zX {l:List UInt8} (hne:l≠[]) (hl:l.length < 4611686018427387904) (s0:PS):∀(k i:Nat) (f:aE) (s:PS),i + k=l.length→s0.n≤s.w→f 0=sv l→f 3=iv i→rl Tryz.prog Γ ext (ZT [2] s0) 0 pI sA f s []=some (.ok (bv ((l.drop i).all (fun x=>ay x.toNat)=true)) s0):=by
 have hpos : 0 < l.length:=List.length_pos_iff.2 hne;intro k
 induction k with
 | zero=>
  intro i f s hk hw h0 h3;refine ar (by unfold pI; rfl) (by unfold sA; rfl) ?_; intro hr R hR;simp -implicitDefEqProofs (disch:=first | assumption | (apply Ar.mk; omega)) only [ZN,↓df,qA,↓reduceIte,reduceCtorEq,aa,ae,frz,frz2,aP,h0,h3,hr];rw [hR,List.drop_eq_nil_of_le (by omega)];rw [decide_eq_true (show ¬ l.length=0 by omega)]; rfl
 | succ k ih=>
  intro i f s hk hw h0 h3;have hi:i < l.length:=by omega
  rw [Ap hi];have hg:=cf hi;by_cases c:ay (bt l i)=true
  ·have k1:Ar (ay (bt l i)=true):=⟨c⟩
   have k2:Ar (¬ ¬ ay (bt l i)=true):=⟨fun h=>h c⟩
   refine ar (by unfold pI; rfl) (by unfold sA; rfl) ?_; intro hr R hR;simp -implicitDefEqProofs (disch:=first | assumption | (apply Ar.mk; omega)) only [ZN,↓dt,↓df,qA,↓reduceIte,reduceCtorEq,aa,h0,h3,gV];subst hR;rw [← hg,c,Bool.true_and];refine ih (i + 1) _ _ ?_ ?_ ?_ ?_
   all_goals first | omega | assumption | rfl
  ·have k1:Ar (¬ ay (bt l i)=true):=⟨c⟩
   refine ar (by unfold pI; rfl) (by unfold sA; rfl) ?_; intro hr R hR;simp -implicitDefEqProofs (disch:=first | assumption | (apply Ar.mk; omega)) only [ZN,↓dt,qA,↓reduceIte,reduceCtorEq,aa,ae,frz,frz2,aP,h0,h3,gV];rw [hR];apply dT;rw [← hg];simp [c]
theorem I1 {l:List UInt8} (hne:l≠[]) (hl:l.length < 4611686018427387904) (s:PS):ah Tryz.prog Γ ext 148 [sv l] s=some (.ok (bv (r7 l=true)) s):=by
 refine am (fn:=Pk) [2] rfl rfl rfl rfl (by unfold Pk; rfl) ?_; intro R hR;simp -implicitDefEqProofs (disch:=first | assumption | (apply Ar.mk; omega)) only [ZN,ai];subst hR;exact zX hne hl s l.length 0 _ _ (by omega) (Nat.le_refl _) rfl rfl
theorem Ot {l:List UInt8} (hb:l.length≤16384) {i:Nat} (hi:i≤l.length) (s:PS):ah Tryz.prog Γ ext 115 [sv l,iv i] s=some (.ok (xN l (iO l i)) s):=by
 have hs:=fun s=>MH (ext:=ext) (l:=l) (by omega) hi s;have ha:=(nW (l:=l) l.length i hi).2;have hg:=CV hi;unfold iO;generalize dh l l.length i=a at *;unfold FI;by_cases c1:a=l.length
 ·rw [if_pos c1];subst c1;refine bL (fn:=mj) [.cell 4 true 4,.tmp 5] rfl rfl rfl rfl (by unfold mj; rfl) ?_; intro R hR;simp -implicitDefEqProofs (disch:=first | assumption | (apply Ar.mk; omega)) only [ZN,↓df,ai,qA,↓reduceIte,qB,qC,reduceCtorEq,aa,aD,ae,frz,frz2,aX,ad,ZM,hs];rw [hR];show _=some (ZR.ok (.tup [.agg [iv 5,iv l.length,iv l.length,sv (sub l l.length l.length)],iv 0]) s);rw [show sub l l.length l.length=[] by unfold sub; simp]
 rw [if_neg c1];have k1:Ar (¬ a=l.length):=⟨c1⟩
 by_cases c2:bt l a=10
 ·rw [if_pos c2];refine bL (fn:=mj) [.cell 4 true 4,.tmp 5] rfl rfl rfl rfl (by unfold mj; rfl) ?_; intro R hR;simp -implicitDefEqProofs (disch:=first | assumption | (apply Ar.mk; omega)) only [ZN,↓dt,↓df,ai,qA,↓reduceIte,qB,qC,reduceCtorEq,aa,aD,ae,frz,frz2,aX,ad,ZM,hs];rw [hR];show _=some (ZR.ok (.tup [.agg [iv 3,iv a,iv (a + 1),sv (sub l a (a + 1))],iv 0]) s);rw [yB (by omega)];rw [show l[a]'(by omega)=10 from UInt8.toNat_inj.1 (by rw [← cf (by omega)]; exact c2)]
 rw [if_neg c2];have k2:Ar (¬ bt l a=10):=⟨c2⟩
 have ho:=fun s=>Ub (ext:=ext) (l:=l) (by omega) ha s;have hol:=Fe ha;by_cases c3:sx l a≠0
 ·rw [if_pos c3];generalize sx l a=n at *;have k3:Ar (n > 0):=⟨by omega⟩
  refine bL (fn:=mj) [.cell 4 true 4,.tmp 5] rfl rfl rfl rfl (by unfold mj; rfl) ?_; intro R hR;simp -implicitDefEqProofs (disch:=first | assumption | (apply Ar.mk; omega)) only [ZN,↓dt,↓df,ai,qA,↓reduceIte,qB,qC,reduceCtorEq,aa,aD,ae,frz,frz2,aX,ad,ZM,hs,ho];rw [hR]; rfl
 rw [if_neg c3];have c3:sx l a=0:=by omega
 obtain⟨g1,g2,g3⟩:=hg c1 c2 c3;rw [c3] at ho;have ho:∀s,ah Tryz.prog Γ ext 146 [sv l,iv a] s=some (.ok (.sc (.int .i64 ((0:Nat):Int))) s):=ho;have hw:=fun s=>NE (ext:=ext) (l:=l) (by omega) ha s;have hwo:=tU (l:=l) l.length a ha;generalize ft l l.length a=w at *;obtain⟨j,e⟩:=w;simp only at hw hwo g3;unfold zq;by_cases c4:e≠0
 ·rw [if_pos c4];have k4:Ar (e≠0):=⟨c4⟩
  refine bL (fn:=mj) [.cell 4 true 4,.tmp 5] rfl rfl rfl rfl (by unfold mj; rfl) ?_; intro R hR;simp -implicitDefEqProofs (disch:=first | assumption | (apply Ar.mk; omega)) only [ZN,↓dt,↓df,ai,qA,↓reduceIte,qB,qC,qD,reduceCtorEq,aa,aD,ae,frz,frz2,aX,ad,ZM,hs,ho,hw];rw [hR]; rfl
 rw [if_neg c4];have c4:e=0:=by omega
 subst c4;have hj:=g3 rfl;have hw:∀s,ah Tryz.prog Γ ext 147 [sv l,iv a] s=some (.ok (.tup [iv j,.sc (.int .i64 ((0:Nat):Int))]) s):=hw;have hd:∀s,ah Tryz.prog Γ ext 148 [sv (sb l a j)] s=some (.ok (bv (r7 (sb l a j)=true)) s):=fun s=>I1 (ext:=ext) (l:=sub l a j) (by intro h; have:=congrArg List.length h; rw [de hwo.1] at this; simp at this; omega) (by rw [de hwo.1]; omega) s;simp only;have hjl:=hwo.1;by_cases c5:r7 (sub l a j)=true
 ·have k5:Ar (r7 (sb l a j)=true):=⟨c5⟩
  by_cases c6:j < l.length
  ·by_cases c7:bt l j=60∨bt l j=62
   ·rw [if_pos ⟨c5,c6,c7⟩];refine bL (fn:=mj) [.cell 4 true 4,.tmp 5] rfl rfl rfl rfl (by unfold mj; rfl) ?_; intro R hR;simp -implicitDefEqProofs (disch:=first | assumption | (apply Ar.mk; omega)) only [ZN,↓dt,↓df,ai,qA,↓reduceIte,qB,qC,qD,reduceCtorEq,aa,aD,ae,frz,frz2,aX,ad,ZM,bk,↓bR,hs,ho,hw,hd];rw [hR]; rfl
   ·rw [if_neg fun h=>c7 h.2.2];refine bL (fn:=mj) [.cell 4 true 4,.tmp 5] rfl rfl rfl rfl (by unfold mj; rfl) ?_; intro R hR;simp -implicitDefEqProofs (disch:=first | assumption | (apply Ar.mk; omega)) only [ZN,↓df,ai,qA,↓reduceIte,qB,qC,qD,reduceCtorEq,aa,aD,ae,frz,frz2,aX,ad,ZM,bk,bI,↓bR,hs,ho,hw,hd];rw [hR]; rfl
  ·rw [if_neg fun h=>c6 h.2.1];refine bL (fn:=mj) [.cell 4 true 4,.tmp 5] rfl rfl rfl rfl (by unfold mj; rfl) ?_; intro R hR;simp -implicitDefEqProofs (disch:=first | assumption | (apply Ar.mk; omega)) only [ZN,↓df,ai,qA,↓reduceIte,qB,qC,qD,reduceCtorEq,aa,aD,ae,frz,frz2,aX,ad,ZM,bk,bI,↓bR,↓ed,hs,ho,hw,hd];rw [hR]; rfl
 ·rw [if_neg fun h=>c5 h.1];have k5:Ar (¬ r7 (sb l a j)=true):=⟨c5⟩
  refine bL (fn:=mj) [.cell 4 true 4,.tmp 5] rfl rfl rfl rfl (by unfold mj; rfl) ?_; intro R hR;simp -implicitDefEqProofs (disch:=first | assumption | (apply Ar.mk; omega)) only [ZN,↓df,ai,qA,↓reduceIte,qB,qC,qD,reduceCtorEq,aa,aD,ae,frz,frz2,aX,ad,ZM,bI,↓ed,hs,ho,hw,hd];rw [hR]; rfl
section
variable {l:List UInt8} (hb:l.length≤16384) {s0:PS}{b:Nat} (hb0:s0.n≤b)
include hb hb0
theorem Am:∀(n i j:Nat) (acc:List Tk) (v:PV) (f:aE) (S:PS),i≤l.length→l.length < i + n→acc.length≤i→j≤i→fF 55 4 (jz l) b acc v S→b≤S.n→s0.n≤S.w→f 0=sv l→f 5=v→f 6=iv i→f 7=iv j→rl Tryz.prog Γ ext (ZT [2,3,4] s0) 0 tg uS f S []=some (.ok (E2 l acc (fE l n i)) s0):=by
 intro n
 induction n with
 | zero=>intro i j acc v f S h1 h2; omega
 | succ n ih=>
  intro i j acc v f S h1 h2 h3 hji hA hbn hw f0 f5 f6 f7;have hN:=fun s=>Ot (ext:=ext) hb h1 s;have hk:=jS (l:=l) h1;rw [fE];cases hn:iO l i with
  | error x=>
   rw [hn] at hN hk;simp only at hk;have hN:∀s,ah Tryz.prog Γ ext 115 [sv l,iv i] s=some (.ok (.tup [.agg [iv 0,iv x.1,iv 0,sv []],iv x.2]) s):=hN;have k1:Ar (x.2≠0):=⟨hk⟩
   refine ar (by unfold tg; rfl) (by unfold uS; rfl) ?_; intro hr R hR;simp -implicitDefEqProofs (disch:=first | assumption | (apply Ar.mk; first | omega | (simp only [Zj]; omega)) | (apply Ak.mk; first | rfl | exact .inl rfl | exact .inr rfl | exact aq _ _ | exact av _ _ | (unfold aG az; simp<;>omega) | with_unfolding_all rfl | exact .inr (by with_unfolding_all rfl))) only [ZN,↓dt,ai,qA,↓reduceIte,qB,qC,reduceCtorEq,aa,ae,frz,frz2,aX,ad,ZM,ZV,aW,aZ,aS,f0,f6,f7,hN];exact hR.symm
  | ok x=>
   rw [hn] at hN hk;simp only at hk;have hN:∀s,ah Tryz.prog Γ ext 115 [sv l,iv i] s=some (.ok (.tup [.agg [iv x.k,iv x.p,iv x.e,sv (x.t l)],.sc (.int .i64 ((0:Nat):Int))]) s):=hN;obtain⟨v',S',e1,e2,e3,e4,e5,e6⟩:=GF hA hbn (by omega) x;have hw':=e6 s0.n hb0 hw;have hz:=e2.frz2 (eP l) hb0 fun x _=>uE l x;by_cases c:x.k=5
   ·simp only [if_pos c];have k1:Ar (x.k=5):=⟨c⟩
    refine ar (by unfold tg; rfl) (by unfold uS; rfl) ?_; intro hr R hR;simp -implicitDefEqProofs (disch:=first | assumption | (apply Ar.mk; first | omega | (simp only [Zj]; omega))) only [ZN,↓dt,ai,qA,↓reduceIte,qB,qC,reduceCtorEq,aa,aD,ae,frz,frz2,aX,ad,ZM,qF,f0,f5,f6,f7,hN,e1,e3,↓hz];exact hR.symm
   ·simp only [if_neg c];have k1:Ar (¬ x.k=5):=⟨c⟩
    have hlt:=hk.lt c;have hle:=hk.le;have key:∀f':aE,f' 0=sv l→f' 5=v'→f' 6=iv x.e→f' 7=iv (j + 1)→rl Tryz.prog Γ ext (ZT [2,3,4] s0) 0 tg uS f' S' []=some (.ok (E2 l acc (match fE l n x.e with | .error y=>.error y | .ok r=>.ok (x :: r))) s0):=by
     intro f' g0 g5 g6 g7;rw [ih x.e (j + 1) (acc ++ [x]) v' f' S' hk.el (by omega) (by rw [List.length_append,List.length_cons,List.length_nil]; omega) (by omega) e2 (by omega) hw' g0 g5 g6 g7];cases fE l n x.e with
     | error y=>rfl
     | ok r=>
      show some (ZR.ok (.tup [wO 55 (jz l) (jF ((acc ++ [x]) ++ r)),iv 0,iv 0]) s0)=some (ZR.ok (.tup [wO 55 (jz l) (jF (acc ++ x :: r)),iv 0,iv 0]) s0);rw [List.append_assoc]; rfl
    refine ar (by unfold tg; rfl) (by unfold uS; rfl) ?_; intro hr R hR;simp -implicitDefEqProofs (disch:=first | assumption | (apply Ar.mk; first | omega | (simp only [Zj]; omega))) only [ZN,↓dt,↓df,ai,qA,↓reduceIte,qB,qC,reduceCtorEq,aa,aD,ad,ZM,qF,f0,f5,f6,f7,hN,e1,e3];subst hR;apply key
    all_goals first | assumption | rfl
end
theorem RJ {l:List UInt8} (hb:l.length≤16384) (s:PS):ah Tryz.prog Γ ext 71 [sv l] s=some (.ok (E2 l [] (fE l (l.length + 1) 0)) s):=by
 refine am (fn:=W5) [2,3,4] rfl rfl rfl rfl (by unfold W5; rfl) ?_; intro R hR;simp -implicitDefEqProofs (disch:=first | assumption | (apply Ar.mk; omega)) only [ZN,ai];subst hR;exact Am hb (b:=s.n) (Nat.le_refl _) (l.length + 1) 0 0 [] nv _ _ (Nat.zero_le _) (by omega) (Nat.le_refl _) (Nat.le_refl _) (.inl ⟨rfl,rfl⟩) (Nat.le_refl _) (Nat.le_refl _) rfl rfl rfl rfl
end Go.Proofs.YtioblbopbilmaaaGreatDoor
namespace Go.Mir
theorem CM {q:Nat→Bool}{l:List UInt8}{i k:Nat} (h:k < run q l i - i):q (bt l (i + k))=true:=by
 unfold run at h;rw [Nat.add_sub_cancel_left] at h;have hm:((l.drop i).takeWhile fun c=>q c.toNat)[k]∈(l.drop i).takeWhile fun c=>q c.toNat:=List.getElem_mem h;have h2:=(List.all_eq_true.1 (List.all_takeWhile (l:=l.drop i) (p:=fun c=>q c.toNat))) _ hm;have h3:k < (l.drop i).length:=Nat.lt_of_lt_of_le h ((List.takeWhile_sublist _).length_le);have h4:((l.drop i).takeWhile fun c=>q c.toNat)[k]=(l.drop i)[k]:=by
  have:=List.takeWhile_prefix (l:=l.drop i) (fun c=>q c.toNat);exact this.getElem h
 rw [h4,List.getElem_drop] at h2;rw [List.length_drop] at h3;rw [cf (by omega)];exact h2
theorem JY {t:List UInt8}{m i:Nat} (h:dG (t.take m)=true) (hm:m≤t.length) (hi:i < m):aF (bt t i)=true:=by
 unfold dG at h;simp only [Bool.and_eq_true,List.all_eq_true] at h;have hl:i < (t.take m).length:=by rw [List.length_take]; omega
 have:=h.2 _ (List.getElem_mem hl);rw [List.getElem_take] at this;rw [cf (by omega)]; exact this
theorem NJ (t:List UInt8):(decide (aQ t 61 0 < t.length) && dG (t.take (aQ t 61 0)))=decide (0 < kr t):=by
 have hw61:aF 61=false:=by decide
 have a1:∀i,i < aQ t 61 0→bt t i≠61:=fun i hi=>by
  have:=CM (q:=fun x=>x != 61) (l:=t) (i:=0) (k:=i) hi;rw [Nat.zero_add] at this;simpa using this
 have a2:aQ t 61 0 < t.length→bt t (aQ t 61 0)=61:=fun h=>by
  have:=wV (q:=fun x=>x != 61) (l:=t) t.length 0 (Nat.zero_add _) h;exact (by simpa using this:bt t (run (fun x=>x != 61) t 0)=61)
 have b1:∀i,i < bm t 0→aF (bt t i)=true:=fun i hi=>by
  have:=CM (q:=aF) (l:=t) (i:=0) (k:=i) hi;rwa [Nat.zero_add] at this
 have b2:bm t 0 < t.length→aF (bt t (bm t 0))=false:=fun h=>wV t.length 0 (Nat.zero_add _) h;have hle:aQ t 61 0≤t.length:=fc (Nat.zero_le _);have hln:bm t 0≤t.length:=gn (Nat.zero_le _);generalize aQ t 61 0=e at *;unfold kr;generalize bm t 0=m at *;rw [Bool.eq_iff_iff];simp only [Bool.and_eq_true,decide_eq_true_eq];constructor
 ·rintro⟨h1,h2⟩;have hm:m=e:=by
   rcases Nat.lt_trichotomy m e with h | h | h
   ·have:=JY h2 hle h;rw [b2 (by omega)] at this; cases this
   ·exact h
   ·have:=b1 e h;rw [a2 h1,hw61] at this; cases this
  subst hm;rw [if_pos (by simp [a2 h1,h2,h1])];exact Nat.succ_pos _
 ·intro h;split at h
  ·rename_i hh;simp only [beq_iff_eq] at hh;obtain⟨⟨h1,h2⟩,h3⟩:=hh;have hm:m=e:=by
    rcases Nat.lt_trichotomy m e with h | h | h
    ·exact absurd h2 (a1 m h)
    ·exact h
    ·have:=b1 e h;rw [a2 (by omega),hw61] at this; cases this
   subst hm;exact⟨h1,h3⟩
  ·exact absurd h (Nat.lt_irrefl _)
end Go.Mir
namespace Go.Proofs.YtioblbopbilmaaaGreatDoor
open Go Go.EvL Go.PE Go.Mir
variable {ext:aw}
set_option maxHeartbeats 4000000
theorem Rf {t:List UInt8} (s:PS):ah Tryz.prog Γ ext 65 [sv t,sv [61]] s=some (.ok (.sc (.int .i64 (idxI t 61))) s):=by
 have h:=fun s=>sk (ext:=ext) t (c:=61) (by decide) s;have h:∀s,ah Tryz.prog Γ ext 105 [sv t,cv (bt [61] 0)] s=some (.ok (.sc (.int .i64 (idxI t 61))) s):=h;refine am (fn:=Su) [4] rfl rfl rfl rfl (by unfold Su; rfl) ?_; intro R hR;simp -implicitDefEqProofs (disch:=first | assumption | (apply Ar.mk; first | omega | (simp only [Zj]; omega))) only [ZN,ai,qA,↓reduceIte,qB,reduceCtorEq,aa,ae,frz,frz2,aP,h];rw [hR];refine DI_c (fun h=>?_) fun h=>rfl;subst h; rfl
theorem TK {t:List UInt8} (s:PS):ah Tryz.prog Γ ext 65 [sv t,sv [35]] s=some (.ok (.sc (.int .i64 (idxI t 35))) s):=by
 have h:=fun s=>sk (ext:=ext) t (c:=35) (by decide) s;have h:∀s,ah Tryz.prog Γ ext 105 [sv t,cv (bt [35] 0)] s=some (.ok (.sc (.int .i64 (idxI t 35))) s):=h;refine am (fn:=Su) [4] rfl rfl rfl rfl (by unfold Su; rfl) ?_; intro R hR;simp -implicitDefEqProofs (disch:=first | assumption | (apply Ar.mk; first | omega | (simp only [Zj]; omega))) only [ZN,ai,qA,↓reduceIte,qB,reduceCtorEq,aa,ae,frz,frz2,aP,h];rw [hR];refine DI_c (fun h=>?_) fun h=>rfl;subst h; rfl
theorem KL {t:List UInt8} (s:PS):ah Tryz.prog Γ ext 28 [sv t,sv [35]] s=some (.ok (.sc (.int .i64 (idxI t 35))) s):=by
 have h:=fun s=>TK (ext:=ext) (t:=t) s;refine am (fn:=UN) [4] rfl rfl rfl rfl (by unfold UN; rfl) ?_; intro R hR;simp -implicitDefEqProofs (disch:=first | assumption | (apply Ar.mk; first | omega | (simp only [Zj]; omega))) only [ZN,ai,qA,↓reduceIte,qB,reduceCtorEq,aa,ae,frz,frz2,aP,h];exact hR.symm
theorem Cz (c:Nat):∀t:List UInt8,decide (idxI t c ≥ ((0:Nat):Int))=t.any fun x=>x.toNat == c
 | []=>rfl
 | x :: t=>by
  have ih:=Cz c t;unfold idxI at ih ⊢;rw [List.takeWhile_cons,List.any_cons];by_cases h:x.toNat=c
  ·have e1:(x.toNat != c)=false:=by simp [h]
   have e2:(x.toNat == c)=true:=by simp [h]
   rw [e1,e2]; simp
  ·have e1:(x.toNat != c)=true:=by simp [h]
   have e2:(x.toNat == c)=false:=by simp [h]
   rw [e1,e2,Bool.false_or,← ih];simp only [if_true,List.length_cons];rw [decide_eq_decide];constructor
   ·intro g;split
    ·omega
    ·rw [if_neg (by omega)] at g; omega
   ·intro g;split
    ·omega
    ·rw [if_neg (by omega)] at g; omega
theorem tO {t:List UInt8} (s:PS):ah Tryz.prog Γ ext 14 [sv t,sv [35]] s=some (.ok (bv (t.any (fun x=>x.toNat == 35)=true)) s):=by
 have h:=fun s=>KL (ext:=ext) (t:=t) s;refine am (fn:=UP) [4] rfl rfl rfl rfl (by unfold UP; rfl) ?_; intro R hR;simp -implicitDefEqProofs (disch:=first | assumption | (apply Ar.mk; first | omega | (simp only [Zj]; omega))) only [ZN,ai,qA,↓reduceIte,qB,reduceCtorEq,aa,ae,frz,frz2,aP,h];rw [hR,← Cz];simp
theorem Ru {t:List UInt8} (ht:t.length < 4611686018427387904) (s:PS):ah Tryz.prog Γ ext 32 [sv t,sv [61]] s=some (.ok (if aQ t 61 0 < t.length then .tup [sv (t.take (aQ t 61 0)),sv (t.drop (aQ t 61 0 + 1)),.sc (.bool true)] else .tup [sv t,sv [],.sc (.bool false)]) s):=by
 have h:=fun s=>Rf (ext:=ext) (t:=t) s;have hi:idxI t 61=ix (aQ t 61 0 < t.length) (aQ t 61 0):=by
  have:=BI (l:=t) (i:=0) (c:=61) (Nat.zero_le _);rw [List.drop_zero,Nat.sub_zero] at this;exact this
 rw [hi] at h;have hle:aQ t 61 0≤t.length:=fc (Nat.zero_le _);generalize aQ t 61 0=e at *;have h2:∀s,ah Tryz.prog Γ ext 69 [sv t,sv [61]] s=some (.ok (if e < t.length then .tup [sv (t.take e),sv (t.drop (e + 1)),.sc (.bool true)] else .tup [sv t,sv [],.sc (.bool false)]) s):=by
  intro s;by_cases hc:e < t.length
  ·rw [if_pos hc];refine am (fn:=Tp) [4,5,6] rfl rfl rfl rfl (by unfold Tp; rfl) ?_; intro R hR;simp -implicitDefEqProofs (disch:=first | assumption | (apply Ar.mk; first | omega | (simp only [Zj]; omega)) | (apply Ak.mk; first | rfl | exact .inl rfl | exact .inr rfl | exact aq _ _ | exact av _ _ | (unfold aG az; simp<;>omega) | with_unfolding_all rfl | exact .inr (by with_unfolding_all rfl))) only [ZN,ai,qA,↓reduceIte,qB,reduceCtorEq,aa,ae,frz,frz2,aP,aX,ZV,aW,aS,h];exact hR.symm
  ·rw [if_neg hc];refine am (fn:=Tp) [4,5,6] rfl rfl rfl rfl (by unfold Tp; rfl) ?_; intro R hR;simp -implicitDefEqProofs (disch:=first | assumption | (apply Ar.mk; first | omega | (simp only [Zj]; omega)) | (apply Ak.mk; first | rfl | exact .inl rfl | exact .inr rfl | exact aq _ _ | exact av _ _ | (unfold aG az; simp<;>omega) | with_unfolding_all rfl | exact .inr (by with_unfolding_all rfl))) only [ZN,↓df,ai,qA,↓reduceIte,qB,reduceCtorEq,aa,ae,frz,frz2,aP,aX,h];exact hR.symm
 by_cases hc:e < t.length
 ·rw [if_pos hc];simp only [if_pos hc] at h2;refine am (fn:=U3) [4,5,6] rfl rfl rfl rfl (by unfold U3; rfl) ?_; intro R hR;simp -implicitDefEqProofs (disch:=first | assumption | (apply Ar.mk; first | omega | (simp only [Zj]; omega)) | (apply Ak.mk; first | rfl | exact .inl rfl | exact .inr rfl | exact aq _ _ | exact av _ _ | (unfold aG az; simp<;>omega) | with_unfolding_all rfl | exact .inr (by with_unfolding_all rfl))) only [ZN,ai,qA,↓reduceIte,qB,reduceCtorEq,aa,ae,frz,frz2,aP,aX,h2];exact hR.symm
 ·rw [if_neg hc];simp only [if_neg hc] at h2;refine am (fn:=U3) [4,5,6] rfl rfl rfl rfl (by unfold U3; rfl) ?_; intro R hR;simp -implicitDefEqProofs (disch:=first | assumption | (apply Ar.mk; first | omega | (simp only [Zj]; omega)) | (apply Ak.mk; first | rfl | exact .inl rfl | exact .inr rfl | exact aq _ _ | exact av _ _ | (unfold aG az; simp<;>omega) | with_unfolding_all rfl | exact .inr (by with_unfolding_all rfl))) only [ZN,ai,qA,↓reduceIte,qB,reduceCtorEq,aa,ae,frz,frz2,aP,aX,h2];exact hR.symm
end Go.Proofs.YtioblbopbilmaaaGreatDoor
