/- What functions of the program and of the reference compute, on values. No statement is proved here. -/
import Derived.Test.YtgkggocjoolciaaGreatDoorTxE
set_option linter.all false
namespace Go.Proofs.YtgkggocjoolciaaGreatDoor
open Go Go.EvL Go.PE Go.Mir
variable {ext:aq}{b:ByteArray}
theorem Kn (hb:b.data.toList.length < 1000000000) {a p lv:Nat} (hp:p≤6) (hl:a < b.data.toList.length) (h:bt b.data.toList a=92) (ps:List aJ) (j:Nat) (hC:∀s,Pc ext 295 [.sc (.string b),iN a,iN p] (.agg [cS ps,iN j,.sc (.int .i64 0)]) s) (s:PS):Pc ext 278 [.sc (.string b),iN a,iN p,iN lv] (bL (.ok (ps,j))) s:=by
 have g0:(bt b.data.toList a == 92)=true:=by rw [h]; rfl
 have g1:(bt b.data.toList a == 96)=false:=by rw [h]; rfl
 have g2:(bt b.data.toList a == 36)=false:=by rw [h]; rfl
 have g3:(bt b.data.toList a == 39)=false:=by rw [h]; rfl
 have g4:(bt b.data.toList a == 34)=false:=by rw [h]; rfl
 refine qC (s.n) j5 8 3 ?_;unfold j5;have n0:a < b.data.toList.length:=om;exact KI @aS @aE @aC g0 g1 g2 n0 hC
theorem I6 (hb:b.data.toList.length < 1000000000) {a p lv:Nat} (hp:p≤6) (hl:a < b.data.toList.length) (h:bt b.data.toList a=92) (x e:Nat) (hC:∀s,Pc ext 295 [.sc (.string b),iN a,iN p] (.agg [.sc (.slice none 0 0),iN x,iN e]) s) (s:PS):Pc ext 278 [.sc (.string b),iN a,iN p,iN lv] (bL (.error (x,e))) s:=by
 have g0:(bt b.data.toList a == 92)=true:=by rw [h]; rfl
 have g1:(bt b.data.toList a == 96)=false:=by rw [h]; rfl
 have g2:(bt b.data.toList a == 36)=false:=by rw [h]; rfl
 have g3:(bt b.data.toList a == 39)=false:=by rw [h]; rfl
 have g4:(bt b.data.toList a == 34)=false:=by rw [h]; rfl
 refine qC (s.n) j5 8 3 ?_;unfold j5;have n0:a < b.data.toList.length:=om;exact KI @aS @aE @aP g0 g1 g2 n0 hC
theorem IX (hb:b.data.toList.length < 1000000000) {a p lv:Nat} (hp:p≤6) (hl:a < b.data.toList.length) (h:bt b.data.toList a=96) (ps:List aJ) (j:Nat) (hC:∀s,Pc ext 296 [.sc (.string b),iN a] (.agg [cS ps,iN j,.sc (.int .i64 0)]) s) (s:PS):Pc ext 278 [.sc (.string b),iN a,iN p,iN lv] (bL (.ok (ps,j))) s:=by
 have g0:(bt b.data.toList a == 92)=false:=by rw [h]; rfl
 have g1:(bt b.data.toList a == 96)=true:=by rw [h]; rfl
 have g2:(bt b.data.toList a == 36)=false:=by rw [h]; rfl
 have g3:(bt b.data.toList a == 39)=false:=by rw [h]; rfl
 have g4:(bt b.data.toList a == 34)=false:=by rw [h]; rfl
 refine qC (s.n) j5 8 3 ?_;unfold j5;have n0:a < b.data.toList.length:=om;exact KI @aS @aE @aC g0 g1 g2 n0 hC
theorem Jf (hb:b.data.toList.length < 1000000000) {a p lv:Nat} (hp:p≤6) (hl:a < b.data.toList.length) (h:bt b.data.toList a=96) (x e:Nat) (hC:∀s,Pc ext 296 [.sc (.string b),iN a] (.agg [.sc (.slice none 0 0),iN x,iN e]) s) (s:PS):Pc ext 278 [.sc (.string b),iN a,iN p,iN lv] (bL (.error (x,e))) s:=by
 have g0:(bt b.data.toList a == 92)=false:=by rw [h]; rfl
 have g1:(bt b.data.toList a == 96)=true:=by rw [h]; rfl
 have g2:(bt b.data.toList a == 36)=false:=by rw [h]; rfl
 have g3:(bt b.data.toList a == 39)=false:=by rw [h]; rfl
 have g4:(bt b.data.toList a == 34)=false:=by rw [h]; rfl
 refine qC (s.n) j5 8 3 ?_;unfold j5;have n0:a < b.data.toList.length:=om;exact KI @aS @aE @aP g0 g1 g2 n0 hC
theorem Hw (hb:b.data.toList.length < 1000000000) {a p lv:Nat} (hp:p≤6) (hl:a < b.data.toList.length) (h:bt b.data.toList a=36) (ps:List aJ) (j:Nat) (hC:∀s,Pc ext 297 [.sc (.string b),iN a,iN p,iN lv] (.agg [cS ps,iN j,.sc (.int .i64 0)]) s) (s:PS):Pc ext 278 [.sc (.string b),iN a,iN p,iN lv] (bL (.ok (ps,j))) s:=by
 have g0:(bt b.data.toList a == 92)=false:=by rw [h]; rfl
 have g1:(bt b.data.toList a == 96)=false:=by rw [h]; rfl
 have g2:(bt b.data.toList a == 36)=true:=by rw [h]; rfl
 have g3:(bt b.data.toList a == 39)=false:=by rw [h]; rfl
 have g4:(bt b.data.toList a == 34)=false:=by rw [h]; rfl
 refine qC (s.n) j5 8 3 ?_;unfold j5;have n0:a < b.data.toList.length:=om;exact KI @aS @aE @aC g0 g1 g2 n0 hC
theorem Js (hb:b.data.toList.length < 1000000000) {a p lv:Nat} (hp:p≤6) (hl:a < b.data.toList.length) (h:bt b.data.toList a=36) (x e:Nat) (hC:∀s,Pc ext 297 [.sc (.string b),iN a,iN p,iN lv] (.agg [.sc (.slice none 0 0),iN x,iN e]) s) (s:PS):Pc ext 278 [.sc (.string b),iN a,iN p,iN lv] (bL (.error (x,e))) s:=by
 have g0:(bt b.data.toList a == 92)=false:=by rw [h]; rfl
 have g1:(bt b.data.toList a == 96)=false:=by rw [h]; rfl
 have g2:(bt b.data.toList a == 36)=true:=by rw [h]; rfl
 have g3:(bt b.data.toList a == 39)=false:=by rw [h]; rfl
 have g4:(bt b.data.toList a == 34)=false:=by rw [h]; rfl
 refine qC (s.n) j5 8 3 ?_;unfold j5;have n0:a < b.data.toList.length:=om;exact KI @aS @aE @aP g0 g1 g2 n0 hC
theorem H8 (hb:b.data.toList.length < 1000000000) {a p lv:Nat} (hp:p≤6) (hl:a < b.data.toList.length) (h:bt b.data.toList a=39) (h2:cN p=true) (ps:List aJ) (j:Nat) (hC:∀s,Pc ext 298 [.sc (.string b),iN a,iN lv] (.agg [cS ps,iN j,.sc (.int .i64 0)]) s) (s:PS):Pc ext 278 [.sc (.string b),iN a,iN p,iN lv] (bL (.ok (ps,j))) s:=by
 have g0:(bt b.data.toList a == 92)=false:=by rw [h]; rfl
 have g1:(bt b.data.toList a == 96)=false:=by rw [h]; rfl
 have g2:(bt b.data.toList a == 36)=false:=by rw [h]; rfl
 have g3:(bt b.data.toList a == 39)=true:=by rw [h]; rfl
 have g4:(bt b.data.toList a == 34)=false:=by rw [h]; rfl
 have g5:(cN p)=true:=h2;refine qC (s.n) j5 8 3 ?_;unfold j5;have n0:a < b.data.toList.length:=om;have f0:=fun s=>bF (ext:=ext) hp s;exact rN @aS @aE @aC g0 g1 g2 g3 g5 n0 f0 hC tv
theorem FO (hb:b.data.toList.length < 1000000000) {a p lv:Nat} (hp:p≤6) (hl:a < b.data.toList.length) (h:bt b.data.toList a=39) (h2:cN p=true) (x e:Nat) (hC:∀s,Pc ext 298 [.sc (.string b),iN a,iN lv] (.agg [.sc (.slice none 0 0),iN x,iN e]) s) (s:PS):Pc ext 278 [.sc (.string b),iN a,iN p,iN lv] (bL (.error (x,e))) s:=by
 have g0:(bt b.data.toList a == 92)=false:=by rw [h]; rfl
 have g1:(bt b.data.toList a == 96)=false:=by rw [h]; rfl
 have g2:(bt b.data.toList a == 36)=false:=by rw [h]; rfl
 have g3:(bt b.data.toList a == 39)=true:=by rw [h]; rfl
 have g4:(bt b.data.toList a == 34)=false:=by rw [h]; rfl
 have g5:(cN p)=true:=h2;refine qC (s.n) j5 8 3 ?_;unfold j5;have n0:a < b.data.toList.length:=om;have f0:=fun s=>bF (ext:=ext) hp s;exact rN @aS @aE @aP g0 g1 g2 g3 g5 n0 f0 hC tv
theorem GA (hb:b.data.toList.length < 1000000000) {a p lv:Nat} (hp:p≤6) (hl:a < b.data.toList.length) (h:bt b.data.toList a=34) (h2:cN p=true) (ps:List aJ) (j:Nat) (hC:∀s,Pc ext 298 [.sc (.string b),iN a,iN lv] (.agg [cS ps,iN j,.sc (.int .i64 0)]) s) (s:PS):Pc ext 278 [.sc (.string b),iN a,iN p,iN lv] (bL (.ok (ps,j))) s:=by
 have g0:(bt b.data.toList a == 92)=false:=by rw [h]; rfl
 have g1:(bt b.data.toList a == 96)=false:=by rw [h]; rfl
 have g2:(bt b.data.toList a == 36)=false:=by rw [h]; rfl
 have g3:(bt b.data.toList a == 39)=false:=by rw [h]; rfl
 have g4:(bt b.data.toList a == 34)=true:=by rw [h]; rfl
 have g5:(cN p)=true:=h2;refine qC (s.n) j5 8 3 ?_;unfold j5;have n0:a < b.data.toList.length:=om;have f0:=fun s=>bF (ext:=ext) hp s;exact rN @aS @aE @aC g0 g1 g2 g3 g4 g5 n0 f0 hC
theorem GK (hb:b.data.toList.length < 1000000000) {a p lv:Nat} (hp:p≤6) (hl:a < b.data.toList.length) (h:bt b.data.toList a=34) (h2:cN p=true) (x e:Nat) (hC:∀s,Pc ext 298 [.sc (.string b),iN a,iN lv] (.agg [.sc (.slice none 0 0),iN x,iN e]) s) (s:PS):Pc ext 278 [.sc (.string b),iN a,iN p,iN lv] (bL (.error (x,e))) s:=by
 have g0:(bt b.data.toList a == 92)=false:=by rw [h]; rfl
 have g1:(bt b.data.toList a == 96)=false:=by rw [h]; rfl
 have g2:(bt b.data.toList a == 36)=false:=by rw [h]; rfl
 have g3:(bt b.data.toList a == 39)=false:=by rw [h]; rfl
 have g4:(bt b.data.toList a == 34)=true:=by rw [h]; rfl
 have g5:(cN p)=true:=h2;refine qC (s.n) j5 8 3 ?_;unfold j5;have n0:a < b.data.toList.length:=om;have f0:=fun s=>bF (ext:=ext) hp s;exact rN @aS @aE @aP g0 g1 g2 g3 g4 g5 n0 f0 hC
theorem Sw (hb:b.data.toList.length < 1000000000) {a lv:Nat} (hl:a < b.data.toList.length) (h:ce (bt b.data.toList a)=true) (s:PS):Pc ext 278 [.sc (.string b),iN a,iN (0:Nat),iN lv] (bL (.error (a,6))) s:=by
 have hp : 0≤6:=om;have g0:(bt b.data.toList a == 92)=false:=beq_eq_false_iff_ne.2 fun hh=>by rw [hh] at h; cases h
 have g1:(bt b.data.toList a == 96)=false:=beq_eq_false_iff_ne.2 fun hh=>by rw [hh] at h; cases h
 have g2:(bt b.data.toList a == 36)=false:=beq_eq_false_iff_ne.2 fun hh=>by rw [hh] at h; cases h
 have g3:(bt b.data.toList a == 39)=false:=beq_eq_false_iff_ne.2 fun hh=>by rw [hh] at h; cases h
 have g4:(bt b.data.toList a == 34)=false:=beq_eq_false_iff_ne.2 fun hh=>by rw [hh] at h; cases h
 have g5:(cN 0)=true:=rfl;have hbr:ce (bt b.data.toList a)=(eX (bt b.data.toList a) || bt b.data.toList a == 10 || di (bt b.data.toList a)):=rfl;rw [hbr] at h;refine qC (s.n) j5 8 3 ?_;unfold j5;cases c1:eX (bt b.data.toList a) with
 | false=>
  cases c2:bt b.data.toList a == 10 with
  | false=>
   have c2p:=aj c2;cases c3:di (bt b.data.toList a) with
   | false=>
    have n0:a < b.data.toList.length:=om;have n1:a≤a + 1:=om;have n2:a + 1≤b.data.toList.length:=om;have f0:=fun s=>bF (ext:=ext) hp s;simp -implicitDefEqProofs (disch:=omega) only [ZS,seval,ZX,aS,aE,aP,aC,ay,cG,g0,g1,g2,g3,g4,g5,c1,c2,c3,n0,n1,n2,f0,dq,eL]
    all_goals first | exact⟨_,_,_,rfl,rfl,Nat.le_refl _,rfl⟩ | exact⟨_,_,_,rfl,rfl,Nat.le_refl _,bm (aO _ _ _)⟩ | (simp_all; done)
   | true=>
    have n0:a < b.data.toList.length:=om;have f0:=fun s=>bF (ext:=ext) hp s;simp -implicitDefEqProofs (disch:=omega) only [ZA,Nat.reduceAdd,Nat.reduceEqDiff,↓reduceIte,reduceCtorEq,Nat.reduceBEq,aY,bM,bY,dH,aS,List.all_cons,List.all_nil,Bool.and_self,aE,aP,List.drop_nil,ay,g0,g1,g2,g3,g4,g5,c1,c2,c3,n0,f0,dq,eL]
    all_goals first | exact⟨_,_,_,rfl,rfl,Nat.le_refl _,rfl⟩ | exact⟨_,_,_,rfl,rfl,Nat.le_refl _,bm (aO _ _ _)⟩ | (simp_all; done)
  | true=>
   have c2p:=eq_of_beq c2;have n0:a < b.data.toList.length:=om;have f0:=fun s=>bF (ext:=ext) hp s;simp -implicitDefEqProofs (disch:=omega) only [ZA,Nat.reduceAdd,Nat.reduceEqDiff,↓reduceIte,reduceCtorEq,Nat.reduceBEq,aY,bM,bY,dH,aS,List.all_cons,List.all_nil,Bool.and_self,aE,aP,List.drop_nil,ay,g0,g1,g2,g3,g4,g5,c1,c2,n0,f0,dq]
   all_goals first | exact⟨_,_,_,rfl,rfl,Nat.le_refl _,rfl⟩ | exact⟨_,_,_,rfl,rfl,Nat.le_refl _,bm (aO _ _ _)⟩ | (simp_all; done)
 | true=>
  have n0:a < b.data.toList.length:=om;have f0:=fun s=>bF (ext:=ext) hp s;simp -implicitDefEqProofs (disch:=omega) only [ZA,Nat.reduceAdd,Nat.reduceEqDiff,↓reduceIte,reduceCtorEq,Nat.reduceBEq,aY,bM,bY,dH,aS,List.all_cons,List.all_nil,Bool.and_self,aE,aP,List.drop_nil,ay,g0,g1,g2,g3,g4,g5,c1,n0,f0,dq]
  all_goals first | exact⟨_,_,_,rfl,rfl,Nat.le_refl _,rfl⟩ | exact⟨_,_,_,rfl,rfl,Nat.le_refl _,bm (aO _ _ _)⟩ | (simp_all; done)
theorem Rj (hb:b.data.toList.length < 1000000000) {a lv:Nat} (hl:a < b.data.toList.length) (h:bt b.data.toList a=34) (s:PS):Pc ext 278 [.sc (.string b),iN a,iN (3:Nat),iN lv] (bL (.error (a,6))) s:=by
 have hp : 3≤6:=om;have g0:(bt b.data.toList a == 92)=false:=by rw [h]; rfl
 have g1:(bt b.data.toList a == 96)=false:=by rw [h]; rfl
 have g2:(bt b.data.toList a == 36)=false:=by rw [h]; rfl
 have g3:(bt b.data.toList a == 39)=false:=by rw [h]; rfl
 have g4:(bt b.data.toList a == 34)=true:=by rw [h]; rfl
 have g5:(cN 3)=false:=rfl;refine qC (s.n) j5 8 3 ?_;unfold j5;have n0:a < b.data.toList.length:=om;have f0:=fun s=>bF (ext:=ext) hp s;simp -implicitDefEqProofs (disch:=omega) only [ZA,Nat.reduceAdd,Nat.reduceEqDiff,↓reduceIte,reduceCtorEq,Nat.reduceBEq,aY,bM,bY,dH,aS,List.all_cons,List.all_nil,Bool.and_self,aE,aP,List.drop_nil,ay,g0,g1,g2,g4,g5,n0,f0]
 all_goals first | exact⟨_,_,_,rfl,rfl,Nat.le_refl _,rfl⟩ | exact⟨_,_,_,rfl,rfl,Nat.le_refl _,bm (aO _ _ _)⟩
theorem Mh (hb:b.data.toList.length < 1000000000) {a lv:Nat} (hl:a < b.data.toList.length) (h1:bt b.data.toList a≠92) (h2:bt b.data.toList a≠96) (h3:bt b.data.toList a≠36) (h4:bt b.data.toList a≠39) (h5:bt b.data.toList a≠34) (h6:eX (bt b.data.toList a)=false) (h7:(bt b.data.toList a == 10)=false) (h8:di (bt b.data.toList a)=false) (s:PS):Pc ext 278 [.sc (.string b),iN a,iN (0:Nat),iN lv] (bL (.ok ([fK (sub b.data.toList a (a + 1))],a + 1))) s:=by
 have hp : 0≤6:=om;have g0:(bt b.data.toList a == 92)=false:=beq_eq_false_iff_ne.2 (h1);have g1:(bt b.data.toList a == 96)=false:=beq_eq_false_iff_ne.2 (h2);have g2:(bt b.data.toList a == 36)=false:=beq_eq_false_iff_ne.2 (h3);have g3:(bt b.data.toList a == 39)=false:=beq_eq_false_iff_ne.2 (h4);have g4:(bt b.data.toList a == 34)=false:=beq_eq_false_iff_ne.2 (h5);have g5:(cN 0)=true:=rfl;have g6:(eX (bt b.data.toList a))=false:=h6;have g7:(bt b.data.toList a == 10)=false:=h7;have g8:(di (bt b.data.toList a))=false:=h8;refine qC (s.n) j5 8 3 ?_;unfold j5;have n0:a < b.data.toList.length:=om;have n1:a≤a + 1:=om;have n2:a + 1≤b.data.toList.length:=om;have f0:=fun s=>bF (ext:=ext) hp s;simp -implicitDefEqProofs (disch:=omega) only [ZA,Nat.reduceAdd,Nat.reduceEqDiff,↓reduceIte,Nat.reduceLeDiff,reduceCtorEq,Nat.reduceBEq,aY,bM,bY,dH,iJ,aS,List.all_cons,List.all_nil,Bool.and_self,aE,aP,List.drop_nil,aC,lF,km,ay,cG,g0,g1,g2,g3,g4,g5,g6,g7,g8,n0,n1,n2,f0,dq,eL]
 all_goals first | exact⟨_,_,_,rfl,rfl,Nat.le_refl _,rfl⟩ | exact⟨_,_,_,rfl,rfl,Nat.le_refl _,bm (aO _ _ _)⟩
theorem Rt (hb:b.data.toList.length < 1000000000) {a p lv:Nat} (hp:p≤6) (hl:a < b.data.toList.length) (h1:bt b.data.toList a≠92) (h2:bt b.data.toList a≠96) (h3:bt b.data.toList a≠36) (h4:cN p=true→bt b.data.toList a≠39∧bt b.data.toList a≠34) (h5:p≠0) (h6:p=3→bt b.data.toList a≠34) (s:PS):Pc ext 278 [.sc (.string b),iN a,iN p,iN lv] (bL (.ok ([fK (sub b.data.toList a (a + 1))],a + 1))) s:=by
 have g0:(bt b.data.toList a == 92)=false:=beq_eq_false_iff_ne.2 (h1);have g1:(bt b.data.toList a == 96)=false:=beq_eq_false_iff_ne.2 (h2);have g2:(bt b.data.toList a == 36)=false:=beq_eq_false_iff_ne.2 (h3);have g3:(p == 0)=false:=beq_eq_false_iff_ne.2 h5;refine qC (s.n) j5 8 3 ?_;unfold j5;cases c1:cN p with
 | false=>
  cases c2:p == 3 with
  | false=>
   have c2p:=aj c2;have n0:a < b.data.toList.length:=om;have n1:a≤a + 1:=om;have n2:a + 1≤b.data.toList.length:=om;have f0:=fun s=>bF (ext:=ext) hp s;simp -implicitDefEqProofs (disch:=omega) only [ZS,seval,ZX,aS,aE,aP,aC,ay,cG,g0,g1,g2,g3,c1,c2,n0,n1,n2,f0]
   all_goals first | exact⟨_,_,_,rfl,rfl,Nat.le_refl _,rfl⟩ | exact⟨_,_,_,rfl,rfl,Nat.le_refl _,bm (aO _ _ _)⟩ | (exact absurd (by assumption) (h6 (by assumption)))
  | true=>
   have c2p:=eq_of_beq c2;cases c3:bt b.data.toList a == 34 with
   | false=>
    have c3p:=aj c3;have n0:a < b.data.toList.length:=om;have n1:a≤a + 1:=om;have n2:a + 1≤b.data.toList.length:=om;have f0:=fun s=>bF (ext:=ext) hp s;simp -implicitDefEqProofs (disch:=omega) only [ZS,seval,ZX,aS,aE,aP,aC,ay,cG,g0,g1,g2,g3,c1,c2,c3,n0,n1,n2,f0]
    all_goals first | exact⟨_,_,_,rfl,rfl,Nat.le_refl _,rfl⟩ | exact⟨_,_,_,rfl,rfl,Nat.le_refl _,bm (aO _ _ _)⟩ | (exact absurd (by assumption) (h6 (by assumption)))
   | true=>
    have c3p:=eq_of_beq c3;have n0:a < b.data.toList.length:=om;have f0:=fun s=>bF (ext:=ext) hp s;simp -implicitDefEqProofs (disch:=omega) only [ZS,seval,ZX,aS,aE,aP,ay,g0,g1,g2,g3,c1,c2,c3,n0,f0]
    all_goals first | exact⟨_,_,_,rfl,rfl,Nat.le_refl _,rfl⟩ | exact⟨_,_,_,rfl,rfl,Nat.le_refl _,bm (aO _ _ _)⟩ | (exact absurd (by assumption) (h6 (by assumption)))
 | true=>
  cases c4:bt b.data.toList a == 39 with
  | false=>
   have c4p:=aj c4;cases c5:bt b.data.toList a == 34 with
   | false=>
    have c5p:=aj c5;cases c6:p == 3 with
    | false=>
     have c6p:=aj c6;have n0:a < b.data.toList.length:=om;have n1:a≤a + 1:=om;have n2:a + 1≤b.data.toList.length:=om;have f0:=fun s=>bF (ext:=ext) hp s;simp -implicitDefEqProofs (disch:=omega) only [ZS,seval,ZX,aS,aE,aP,aC,ay,cG,g0,g1,g2,g3,c1,c4,c5,c6,n0,n1,n2,f0]
     all_goals first | exact⟨_,_,_,rfl,rfl,Nat.le_refl _,rfl⟩ | exact⟨_,_,_,rfl,rfl,Nat.le_refl _,bm (aO _ _ _)⟩ | (exact absurd (by assumption) (h6 (by assumption)))
    | true=>
     have c6p:=eq_of_beq c6;have n0:a < b.data.toList.length:=om;have n1:a≤a + 1:=om;have n2:a + 1≤b.data.toList.length:=om;have f0:=fun s=>bF (ext:=ext) hp s;simp -implicitDefEqProofs (disch:=omega) only [ZS,seval,ZX,aS,aE,aP,aC,ay,cG,g0,g1,g2,g3,c1,c4,c5,c6,n0,n1,n2,f0]
     all_goals first | exact⟨_,_,_,rfl,rfl,Nat.le_refl _,rfl⟩ | exact⟨_,_,_,rfl,rfl,Nat.le_refl _,bm (aO _ _ _)⟩ | (exact absurd (by assumption) (h6 (by assumption)))
   | true=>
    have c5p:=eq_of_beq c5
    first | exact absurd (by assumption) (h4 (by assumption)).1 | exact absurd (by assumption) (h4 (by assumption)).2 | exact absurd (by assumption) (h6 (by assumption))
  | true=>
   have c4p:=eq_of_beq c4
   first | exact absurd (by assumption) (h4 (by assumption)).1 | exact absurd (by assumption) (h4 (by assumption)).2 | exact absurd (by assumption) (h6 (by assumption))
theorem SU (hb:b.data.toList.length < 1000000000) {a lv r:Nat} (hl:a < b.data.toList.length) (h:bt b.data.toList a=39) (h2:a + 2≤r) (h3:r≤b.data.toList.length) (hP:∀s,Pc ext 311 [.sc (.string b),iN a,.sc (.int .i64 0)] (.tup [iN r,.sc (.int .i64 0)]) s) (s:PS):Pc ext 298 [.sc (.string b),iN a,iN lv] (bL (.ok ([uf (sub b.data.toList (a + 1) (r - 1))],r))) s:=by
 have g0:(bt b.data.toList a == 39)=true:=by rw [h]; rfl
 refine qC (s.n) vT 6 3 ?_;unfold vT;have n0:a < b.data.toList.length:=om;have n1 : 1≤r:=om;have n2:a + 1≤r - 1:=om;have n3:r - 1≤b.data.toList.length:=om;exact rN @aS @aE @aP @aC @ay @cG g0 n0 n2 n3 hP tv
theorem Re (hb:b.data.toList.length < 1000000000) {a lv r e:Nat} (hl:a < b.data.toList.length) (h:bt b.data.toList a=39) (he:e≠0) (hP:∀s,Pc ext 311 [.sc (.string b),iN a,.sc (.int .i64 0)] (.tup [iN r,iN e]) s) (s:PS):Pc ext 298 [.sc (.string b),iN a,iN lv] (bL (.error (r,e))) s:=by
 have g0:(bt b.data.toList a == 39)=true:=by rw [h]; rfl
 have g1:(e == 0)=false:=beq_eq_false_iff_ne.2 he;refine qC (s.n) vT 6 3 ?_;unfold vT;have n0:a < b.data.toList.length:=om;exact KI @aS @aE @aP @ul g0 g1 n0 hP
theorem Nx (hb:b.data.toList.length < 1000000000) {a lv:Nat} (hl:a < b.data.toList.length) (h:bt b.data.toList a=34) (h2 : 32≤lv) (s:PS):Pc ext 298 [.sc (.string b),iN a,iN lv] (bL (.error (a,5))) s:=by
 have g0:(bt b.data.toList a == 39)=false:=by rw [h]; rfl
 have g1:(decide (32≤lv))=true:=decide_eq_true h2;refine qC (s.n) vT 6 3 ?_;unfold vT;have n0:a < b.data.toList.length:=om;exact Wy @aS @aE @aP @ay g0 g1 n0
theorem Tz (hb:b.data.toList.length < 1000000000) {a lv:Nat} (hl:a < b.data.toList.length) (h:bt b.data.toList a=34) (h2:lv < 32) (ps:List aJ) (j:Nat) (hj:j≤b.data.toList.length) (hC:∀s,Pc ext 262 [.sc (.string b),iN (a + 1:Nat),.sc (.int .i64 2),iN (lv + 1:Nat),iN a] (.agg [cS ps,iN j,.sc (.int .i64 0)]) s) (s:PS):Pc ext 298 [.sc (.string b),iN a,iN lv] (bL (.ok ([.mk 3 [] 0 false ps],j + 1))) s:=by
 have g0:(bt b.data.toList a == 39)=false:=by rw [h]; rfl
 have g1:(decide (32≤lv))=false:=df;refine qC (s.n) vT 6 3 ?_;unfold vT;have n0:a < b.data.toList.length:=om;exact rN @aS @aE @aP @aC @yI @ay @zU g0 g1 n0 hC tv
theorem PT (hb:b.data.toList.length < 1000000000) {a lv:Nat} (hl:a < b.data.toList.length) (h:bt b.data.toList a=34) (h2:lv < 32) (x e:Nat) (he:e≠0) (hC:∀s,Pc ext 262 [.sc (.string b),iN (a + 1:Nat),.sc (.int .i64 2),iN (lv + 1:Nat),iN a] (.agg [.sc (.slice none 0 0),iN x,iN e]) s) (s:PS):Pc ext 298 [.sc (.string b),iN a,iN lv] (bL (.error (x,e))) s:=by
 have g0:(bt b.data.toList a == 39)=false:=by rw [h]; rfl
 have g1:(decide (32≤lv))=false:=df;have g2:(e == 0)=false:=beq_eq_false_iff_ne.2 he;refine qC (s.n) vT 6 3 ?_;unfold vT;have n0:a < b.data.toList.length:=om;exact Ux @aS @aE @aP @ay g0 g1 g2 n0 hC
theorem FK (hb:b.data.toList.length < 1000000000) {a p lv:Nat} (hp:p≤6) (hl:a < b.data.toList.length) (h:cj b.data.toList a=true) (ps:List aJ) (j:Nat) (hC:∀s,Pc ext 314 [.sc (.string b),iN a,iN p,iN lv] (.agg [cS ps,iN j,.sc (.int .i64 0)]) s) (s:PS):Pc ext 297 [.sc (.string b),iN a,iN p,iN lv] (bL (.ok (ps,j))) s:=by
 have hB:=hb
 replace hb:b.data.toList.length < 4611686018427387904:=om
 have g0:(cj b.data.toList (a))=true:=h;refine qC (s.n) vq 8 3 ?_;unfold vq;have n0:a≤b.data.toList.length:=om;have f0:=fun s=>da (ext:=ext) hb (i:=a) om s;exact We @aS @aE @aC g0 f0 hC
theorem FZ (hb:b.data.toList.length < 1000000000) {a p lv:Nat} (hp:p≤6) (hl:a < b.data.toList.length) (h:cj b.data.toList a=true) (x e:Nat) (hC:∀s,Pc ext 314 [.sc (.string b),iN a,iN p,iN lv] (.agg [.sc (.slice none 0 0),iN x,iN e]) s) (s:PS):Pc ext 297 [.sc (.string b),iN a,iN p,iN lv] (bL (.error (x,e))) s:=by
 have hB:=hb
 replace hb:b.data.toList.length < 4611686018427387904:=om
 have g0:(cj b.data.toList (a))=true:=h;refine qC (s.n) vq 8 3 ?_;unfold vq;have n0:a≤b.data.toList.length:=om;have f0:=fun s=>da (ext:=ext) hb (i:=a) om s;exact We @aS @aE @aP g0 f0 hC
theorem O9 (hb:b.data.toList.length < 1000000000) {a p lv:Nat} (hp:p≤6) (hl:a < b.data.toList.length) (h2:cj b.data.toList a=false) (h3:cN p=true) (h4:a + 1 < b.data.toList.length) (h5:bt b.data.toList (a + 1)=96) (s:PS):Pc ext 297 [.sc (.string b),iN a,iN p,iN lv] (bL (.error (a,6))) s:=by
 have hB:=hb
 replace hb:b.data.toList.length < 4611686018427387904:=om
 have g0:(cj b.data.toList (a))=false:=h2;have g1:(cN p)=true:=h3;have g2:(decide (a + 1 < b.data.toList.length))=true:=decide_eq_true h4;have g3:(bt b.data.toList (a + 1) == 96)=true:=by rw [h5]; rfl
 refine qC (s.n) vq 8 3 ?_;unfold vq;have n0:a≤b.data.toList.length:=om;have n1:a + 1 < b.data.toList.length:=om;have f0:=fun s=>da (ext:=ext) hb (i:=a) om s;have f1:=fun s=>bF (ext:=ext) hp s;exact SD @aS @aE @aP @ay g0 g1 g3 n1 f0 f1
theorem Of (hb:b.data.toList.length < 1000000000) {a p lv:Nat} (hp:p≤6) (hl:a < b.data.toList.length) (h2:cj b.data.toList a=false) (h3:cN p=true) (h5:cH b.data.toList (a + 1)=true) (s:PS):Pc ext 297 [.sc (.string b),iN a,iN p,iN lv] (bL (.error (a,6))) s:=by
 have hB:=hb
 replace hb:b.data.toList.length < 4611686018427387904:=om
 have hj1:=gm h5;have g0:(cj b.data.toList (a))=false:=h2;have g1:(cN p)=true:=h3;have g2:(decide (a + 1 < b.data.toList.length))=true:=decide_eq_true (by have:=gm h5; omega);have g3:(bt b.data.toList (a + 1) == 96)=false:=by rw [(AL h5).1]; rfl
 have g4:(cH b.data.toList (a + 1))=true:=h5;refine qC (s.n) vq 8 3 ?_;unfold vq;have n0:a≤b.data.toList.length:=om;have n1:a + 1 < b.data.toList.length:=om;have n2:a + 1≤b.data.toList.length:=om;have f0:=fun s=>da (ext:=ext) hb (i:=a) om s;have f1:=fun s=>bF (ext:=ext) hp s;have f2:=fun s=>gh (ext:=ext) hb (i:=a + 1) om s;exact rN @aS @aE @aP @ay g0 g1 g3 g4 n1 f0 f1 f2
theorem Pe (hb:b.data.toList.length < 1000000000) {a p lv:Nat} (hp:p≤6) (hl:a < b.data.toList.length) (h2:cj b.data.toList a=false) (h3:cN p=true→¬ (a + 1 < b.data.toList.length∧bt b.data.toList (a + 1)=96)∧cH b.data.toList (a + 1)=false) (s:PS):Pc ext 297 [.sc (.string b),iN a,iN p,iN lv] (bL (.ok ([fK [36]],a + 1))) s:=by
 have hB:=hb
 replace hb:b.data.toList.length < 4611686018427387904:=om
 have g0:(cj b.data.toList (a))=false:=h2;refine qC (s.n) vq 8 3 ?_;unfold vq;cases c1:cN p with
 | false=>
  have n0:a≤b.data.toList.length:=om;have f0:=fun s=>da (ext:=ext) hb (i:=a) om s;have f1:=fun s=>bF (ext:=ext) hp s;simp -implicitDefEqProofs (disch:=omega) only [ZS,seval,ZX,aS,aE,aP,aC,ay,cG,g0,c1,f0,f1]
  all_goals first | exact⟨_,_,_,rfl,rfl,Nat.le_refl _,rfl⟩ | exact⟨_,_,_,rfl,rfl,Nat.le_refl _,bm (aO _ _ _)⟩ | (exact absurd ⟨by assumption,by assumption⟩ (h3 (by assumption)).1) | (exact absurd ((h3 (by assumption)).2.symm.trans (by assumption)) (by decide))
 | true=>
  cases c2:decide (a + 1 < b.data.toList.length) with
  | false=>
   have c2p:=of_decide_eq_false c2;cases c3:cH b.data.toList (a + 1) with
   | false=>
    have n0:a≤b.data.toList.length:=om;have n1:a + 1≤b.data.toList.length:=om;have f0:=fun s=>da (ext:=ext) hb (i:=a) om s;have f1:=fun s=>bF (ext:=ext) hp s;have f2:=fun s=>gh (ext:=ext) hb (i:=a + 1) om s;simp -implicitDefEqProofs (disch:=omega) only [ZS,seval,ZX,aS,aE,aP,aC,ay,cG,g0,c1,c2,c3,f0,f1,f2]
    all_goals first | exact⟨_,_,_,rfl,rfl,Nat.le_refl _,rfl⟩ | exact⟨_,_,_,rfl,rfl,Nat.le_refl _,bm (aO _ _ _)⟩ | (exact absurd ⟨by assumption,by assumption⟩ (h3 (by assumption)).1) | (exact absurd ((h3 (by assumption)).2.symm.trans (by assumption)) (by decide))
   | true=>
    have n0:a≤b.data.toList.length:=om;have n1:a + 1≤b.data.toList.length:=om;have f0:=fun s=>da (ext:=ext) hb (i:=a) om s;have f1:=fun s=>bF (ext:=ext) hp s;have f2:=fun s=>gh (ext:=ext) hb (i:=a + 1) om s;simp -implicitDefEqProofs (disch:=omega) only [ZS,seval,ZX,aS,aE,aP,ay,g0,c1,c2,c3,f0,f1,f2]
    all_goals first | exact⟨_,_,_,rfl,rfl,Nat.le_refl _,rfl⟩ | exact⟨_,_,_,rfl,rfl,Nat.le_refl _,bm (aO _ _ _)⟩ | (exact absurd ⟨by assumption,by assumption⟩ (h3 (by assumption)).1) | (exact absurd ((h3 (by assumption)).2.symm.trans (by assumption)) (by decide))
  | true=>
   have c2p:=of_decide_eq_true c2;cases c4:bt b.data.toList (a + 1) == 96 with
   | false=>
    have c4p:=aj c4;cases c5:cH b.data.toList (a + 1) with
    | false=>
     have n0:a≤b.data.toList.length:=om;have n1:a + 1 < b.data.toList.length:=om;have n2:a + 1≤b.data.toList.length:=om;have f0:=fun s=>da (ext:=ext) hb (i:=a) om s;have f1:=fun s=>bF (ext:=ext) hp s;have f2:=fun s=>gh (ext:=ext) hb (i:=a + 1) om s;simp -implicitDefEqProofs (disch:=omega) only [ZS,seval,ZX,aS,aE,aP,aC,ay,cG,g0,c1,c4,c5,n1,f0,f1,f2]
     all_goals first | exact⟨_,_,_,rfl,rfl,Nat.le_refl _,rfl⟩ | exact⟨_,_,_,rfl,rfl,Nat.le_refl _,bm (aO _ _ _)⟩ | (exact absurd ⟨by assumption,by assumption⟩ (h3 (by assumption)).1) | (exact absurd ((h3 (by assumption)).2.symm.trans (by assumption)) (by decide))
    | true=>
     have n0:a≤b.data.toList.length:=om;have n1:a + 1 < b.data.toList.length:=om;have n2:a + 1≤b.data.toList.length:=om;have f0:=fun s=>da (ext:=ext) hb (i:=a) om s;have f1:=fun s=>bF (ext:=ext) hp s;have f2:=fun s=>gh (ext:=ext) hb (i:=a + 1) om s;simp -implicitDefEqProofs (disch:=omega) only [ZS,seval,ZX,aS,aE,aP,ay,g0,c1,c4,c5,n1,f0,f1,f2]
     all_goals first | exact⟨_,_,_,rfl,rfl,Nat.le_refl _,rfl⟩ | exact⟨_,_,_,rfl,rfl,Nat.le_refl _,bm (aO _ _ _)⟩ | (exact absurd ⟨by assumption,by assumption⟩ (h3 (by assumption)).1) | (exact absurd ((h3 (by assumption)).2.symm.trans (by assumption)) (by decide))
   | true=>
    have c4p:=eq_of_beq c4;have n0:a≤b.data.toList.length:=om;have n1:a + 1 < b.data.toList.length:=om;have f0:=fun s=>da (ext:=ext) hb (i:=a) om s;have f1:=fun s=>bF (ext:=ext) hp s;simp -implicitDefEqProofs (disch:=omega) only [ZS,seval,ZX,aS,aE,aP,ay,g0,c1,c4,n1,f0,f1]
    all_goals first | exact⟨_,_,_,rfl,rfl,Nat.le_refl _,rfl⟩ | exact⟨_,_,_,rfl,rfl,Nat.le_refl _,bm (aO _ _ _)⟩ | (exact absurd ⟨by assumption,by assumption⟩ (h3 (by assumption)).1) | (exact absurd ((h3 (by assumption)).2.symm.trans (by assumption)) (by decide))
theorem Gr (hb:b.data.toList.length < 1000000000) {a p lv:Nat} (hp:p≤6) (hx:cj b.data.toList a=true) (h:bt b.data.toList (a + 1)=123) (ps:List aJ) (j:Nat) (hC:∀s,Pc ext 324 [.sc (.string b),iN a,iN p,iN lv] (.agg [cS ps,iN j,.sc (.int .i64 0)]) s) (s:PS):Pc ext 314 [.sc (.string b),iN a,iN p,iN lv] (bL (.ok (ps,j))) s:=by
 have hl1:=bS hx;have hB:=hb
 replace hb:b.data.toList.length < 4611686018427387904:=om
 have g0:(bt b.data.toList (a + 1) == 123)=true:=by rw [h]; rfl
 have g1:(bt b.data.toList (a + 1) == 40)=false:=by rw [h]; rfl
 refine qC (s.n) lg 8 3 ?_;unfold lg;have n0:a + 1 < b.data.toList.length:=om;exact Ux @aS @aE @aP @aC @ay g0 g1 n0 hC
theorem Hm (hb:b.data.toList.length < 1000000000) {a p lv:Nat} (hp:p≤6) (hx:cj b.data.toList a=true) (h:bt b.data.toList (a + 1)=123) (x e:Nat) (hC:∀s,Pc ext 324 [.sc (.string b),iN a,iN p,iN lv] (.agg [.sc (.slice none 0 0),iN x,iN e]) s) (s:PS):Pc ext 314 [.sc (.string b),iN a,iN p,iN lv] (bL (.error (x,e))) s:=by
 have hl1:=bS hx;have hB:=hb
 replace hb:b.data.toList.length < 4611686018427387904:=om
 have g0:(bt b.data.toList (a + 1) == 123)=true:=by rw [h]; rfl
 have g1:(bt b.data.toList (a + 1) == 40)=false:=by rw [h]; rfl
 refine qC (s.n) lg 8 3 ?_;unfold lg;have n0:a + 1 < b.data.toList.length:=om;exact KI @aS @aE @aP @ay g0 g1 n0 hC
theorem MF (hb:b.data.toList.length < 1000000000) {a p lv:Nat} (hp:p≤6) (hx:cj b.data.toList a=true) (h:bt b.data.toList (a + 1)=40) (h2:a + 2 < b.data.toList.length) (h3:bt b.data.toList (a + 2)=40) (h4 : 32≤lv) (s:PS):Pc ext 314 [.sc (.string b),iN a,iN p,iN lv] (bL (.error (a,5))) s:=by
 have hl1:=bS hx;have hB:=hb
 replace hb:b.data.toList.length < 4611686018427387904:=om
 have g0:(bt b.data.toList (a + 1) == 123)=false:=by rw [h]; rfl
 have g1:(bt b.data.toList (a + 1) == 40)=true:=by rw [h]; rfl
 have g2:(decide (a + 2 < b.data.toList.length))=true:=decide_eq_true h2;have g3:(bt b.data.toList (a + 2) == 40)=true:=by rw [h3]; rfl
 have g4:(decide (32≤lv))=true:=decide_eq_true h4;refine qC (s.n) lg 8 3 ?_;unfold lg;have n0:a + 1 < b.data.toList.length:=om;have n1:a + 2 < b.data.toList.length:=om;exact SD @aS @aE @aP @ay g0 g1 g3 g4 n0 n1
theorem RE (hb:b.data.toList.length < 1000000000) {a p lv:Nat} (hp:p≤6) (hx:cj b.data.toList a=true) (h:bt b.data.toList (a + 1)=40) (h2:a + 2 < b.data.toList.length) (h3:bt b.data.toList (a + 2)=40) (h4:lv < 32) (ps:List aJ) (j:Nat) (hj:j≤b.data.toList.length) (hC:∀s,Pc ext 262 [.sc (.string b),iN (a + 3:Nat),.sc (.int .i64 4),iN (lv + 1:Nat),iN a] (.agg [cS ps,iN j,.sc (.int .i64 0)]) s) (s:PS):Pc ext 314 [.sc (.string b),iN a,iN p,iN lv] (bL (.ok ([.mk 6 [] 0 false ps],j + 2))) s:=by
 have hl1:=bS hx;have hB:=hb
 replace hb:b.data.toList.length < 4611686018427387904:=om
 have g0:(bt b.data.toList (a + 1) == 123)=false:=by rw [h]; rfl
 have g1:(bt b.data.toList (a + 1) == 40)=true:=by rw [h]; rfl
 have g2:(decide (a + 2 < b.data.toList.length))=true:=decide_eq_true h2;have g3:(bt b.data.toList (a + 2) == 40)=true:=by rw [h3]; rfl
 have g4:(decide (32≤lv))=false:=df;refine qC (s.n) lg 8 3 ?_;unfold lg;have n0:a + 1 < b.data.toList.length:=om;have n1:a + 2 < b.data.toList.length:=om;exact NH @aS @aE @aP @aC @yI @ay @zU g0 g1 g3 g4 n0 n1 hC
theorem Nw (hb:b.data.toList.length < 1000000000) {a p lv:Nat} (hp:p≤6) (hx:cj b.data.toList a=true) (h:bt b.data.toList (a + 1)=40) (h2:a + 2 < b.data.toList.length) (h3:bt b.data.toList (a + 2)=40) (h4:lv < 32) (x e:Nat) (he:e≠0) (hC:∀s,Pc ext 262 [.sc (.string b),iN (a + 3:Nat),.sc (.int .i64 4),iN (lv + 1:Nat),iN a] (.agg [.sc (.slice none 0 0),iN x,iN e]) s) (s:PS):Pc ext 314 [.sc (.string b),iN a,iN p,iN lv] (bL (.error (x,e))) s:=by
 have hl1:=bS hx;have hB:=hb
 replace hb:b.data.toList.length < 4611686018427387904:=om
 have g0:(bt b.data.toList (a + 1) == 123)=false:=by rw [h]; rfl
 have g1:(bt b.data.toList (a + 1) == 40)=true:=by rw [h]; rfl
 have g2:(decide (a + 2 < b.data.toList.length))=true:=decide_eq_true h2;have g3:(bt b.data.toList (a + 2) == 40)=true:=by rw [h3]; rfl
 have g4:(decide (32≤lv))=false:=df;have g5:(e == 0)=false:=beq_eq_false_iff_ne.2 he;refine qC (s.n) lg 8 3 ?_;unfold lg;have n0:a + 1 < b.data.toList.length:=om;have n1:a + 2 < b.data.toList.length:=om;exact rN @aS @aE @aP @ay g0 g1 g3 g4 g5 n0 n1 hC
theorem Qf (hb:b.data.toList.length < 1000000000) {a p lv:Nat} (hp:p≤6) (hx:cj b.data.toList a=true) (h:bt b.data.toList (a + 1)=40) (h2:a + 2 < b.data.toList.length→bt b.data.toList (a + 2)≠40) (r:Nat) (h3:a + 3≤r) (h4:r≤b.data.toList.length) (hP:∀s,Pc ext 311 [.sc (.string b),iN a,iN (rQ p)] (.tup [iN r,.sc (.int .i64 0)]) s) (s:PS):Pc ext 314 [.sc (.string b),iN a,iN p,iN lv] (bL (.ok ([H6 (sub b.data.toList (a + 2) (r - 1))],r))) s:=by
 have hl1:=bS hx;have hB:=hb
 replace hb:b.data.toList.length < 4611686018427387904:=om
 have g0:(bt b.data.toList (a + 1) == 123)=false:=by rw [h]; rfl
 have g1:(bt b.data.toList (a + 1) == 40)=true:=by rw [h]; rfl
 refine qC (s.n) lg 8 3 ?_;unfold lg;cases c1:decide (a + 2 < b.data.toList.length) with
 | false=>
  have c1p:=of_decide_eq_false c1;have n0:a + 1 < b.data.toList.length:=om;have n1 : 1≤r:=om;have n2:a + 2≤r - 1:=om;have n3:r - 1≤b.data.toList.length:=om;have f0:=fun s=>rj (ext:=ext) hp s;simp -implicitDefEqProofs (disch:=omega) only [ZA,Nat.reduceAdd,Nat.reduceEqDiff,↓reduceIte,Nat.reduceLeDiff,reduceCtorEq,aY,bM,bY,dH,iJ,aS,List.all_cons,List.all_nil,Bool.and_self,aE,aP,List.drop_nil,aC,lF,km,ay,cG,g0,g1,c1,n0,n2,n3,f0,hP]
  all_goals first | exact⟨_,_,_,rfl,rfl,Nat.le_refl _,rfl⟩ | exact⟨_,_,_,rfl,rfl,Nat.le_refl _,bm (aO _ _ _)⟩ | (exact absurd (by assumption) (h2 (by assumption)))
 | true=>
  have c1p:=of_decide_eq_true c1;cases c2:bt b.data.toList (a + 2) == 40 with
  | false=>
   have c2p:=aj c2;have n0:a + 1 < b.data.toList.length:=om;have n1:a + 2 < b.data.toList.length:=om;have n2 : 1≤r:=om;have n3:a + 2≤r - 1:=om;have n4:r - 1≤b.data.toList.length:=om;have f0:=fun s=>rj (ext:=ext) hp s;simp -implicitDefEqProofs (disch:=omega) only [ZS,seval,ZX,aS,aE,aP,aC,ay,cG,g0,g1,c2,n0,n1,n3,n4,f0,hP]
   all_goals first | exact⟨_,_,_,rfl,rfl,Nat.le_refl _,rfl⟩ | exact⟨_,_,_,rfl,rfl,Nat.le_refl _,bm (aO _ _ _)⟩ | (exact absurd (by assumption) (h2 (by assumption)))
  | true=>
   have c2p:=eq_of_beq c2;cases c3:decide (32≤lv) with
   | false=>
    have c3p:=of_decide_eq_false c3;exact absurd (by assumption) (h2 (by assumption))
   | true=>
    have c3p:=of_decide_eq_true c3;have n0:a + 1 < b.data.toList.length:=om;have n1:a + 2 < b.data.toList.length:=om;simp -implicitDefEqProofs (disch:=omega) only [ZS,seval,ZX,aS,aE,aP,ay,g0,g1,c2,c3,n0,n1]
    all_goals first | exact⟨_,_,_,rfl,rfl,Nat.le_refl _,rfl⟩ | exact⟨_,_,_,rfl,rfl,Nat.le_refl _,bm (aO _ _ _)⟩ | (exact absurd (by assumption) (h2 (by assumption)))
theorem O0 (hb:b.data.toList.length < 1000000000) {a p lv:Nat} (hp:p≤6) (hx:cj b.data.toList a=true) (h:bt b.data.toList (a + 1)=40) (h2:a + 2 < b.data.toList.length→bt b.data.toList (a + 2)≠40) (r e:Nat) (he:e≠0) (hP:∀s,Pc ext 311 [.sc (.string b),iN a,iN (rQ p)] (.tup [iN r,iN e]) s) (s:PS):Pc ext 314 [.sc (.string b),iN a,iN p,iN lv] (bL (.error (r,e))) s:=by
 have hl1:=bS hx;have hB:=hb
 replace hb:b.data.toList.length < 4611686018427387904:=om
 have g0:(bt b.data.toList (a + 1) == 123)=false:=by rw [h]; rfl
 have g1:(bt b.data.toList (a + 1) == 40)=true:=by rw [h]; rfl
 have g2:(e == 0)=false:=beq_eq_false_iff_ne.2 he;refine qC (s.n) lg 8 3 ?_;unfold lg;cases c1:decide (a + 2 < b.data.toList.length) with
 | false=>
  have c1p:=of_decide_eq_false c1;have n0:a + 1 < b.data.toList.length:=om;have f0:=fun s=>rj (ext:=ext) hp s;simp -implicitDefEqProofs (disch:=omega) only [ZS,seval,ZX,aS,aE,aP,ay,ul,g0,g1,g2,c1,n0,f0,hP]
  all_goals first | exact⟨_,_,_,rfl,rfl,Nat.le_refl _,rfl⟩ | exact⟨_,_,_,rfl,rfl,Nat.le_refl _,bm (aO _ _ _)⟩ | (exact absurd (by assumption) (h2 (by assumption)))
 | true=>
  have c1p:=of_decide_eq_true c1;cases c2:bt b.data.toList (a + 2) == 40 with
  | false=>
   have c2p:=aj c2;have n0:a + 1 < b.data.toList.length:=om;have n1:a + 2 < b.data.toList.length:=om;have f0:=fun s=>rj (ext:=ext) hp s;simp -implicitDefEqProofs (disch:=omega) only [ZS,seval,ZX,aS,aE,aP,ay,ul,g0,g1,g2,c2,n0,n1,f0,hP]
   all_goals first | exact⟨_,_,_,rfl,rfl,Nat.le_refl _,rfl⟩ | exact⟨_,_,_,rfl,rfl,Nat.le_refl _,bm (aO _ _ _)⟩ | (exact absurd (by assumption) (h2 (by assumption)))
  | true=>
   have c2p:=eq_of_beq c2;cases c3:decide (32≤lv) with
   | false=>
    have c3p:=of_decide_eq_false c3;exact absurd (by assumption) (h2 (by assumption))
   | true=>
    have c3p:=of_decide_eq_true c3;have n0:a + 1 < b.data.toList.length:=om;have n1:a + 2 < b.data.toList.length:=om;simp -implicitDefEqProofs (disch:=omega) only [ZS,seval,ZX,aS,aE,aP,ay,g0,g1,c2,c3,n0,n1]
    all_goals first | exact⟨_,_,_,rfl,rfl,Nat.le_refl _,rfl⟩ | exact⟨_,_,_,rfl,rfl,Nat.le_refl _,bm (aO _ _ _)⟩ | (exact absurd (by assumption) (h2 (by assumption)))
theorem TX (hb:b.data.toList.length < 1000000000) {a p lv:Nat} (hp:p≤6) (hx:cj b.data.toList a=true) (h:cm (bt b.data.toList (a + 1))=true) (s:PS):Pc ext 314 [.sc (.string b),iN a,iN p,iN lv] (bL (.ok ([se (sub b.data.toList (a + 1) (a + 2))],a + 2))) s:=by
 have hl1:=bS hx;have hB:=hb
 replace hb:b.data.toList.length < 4611686018427387904:=om
 have g0:(bt b.data.toList (a + 1) == 123)=false:=beq_eq_false_iff_ne.2 fun hh=>by rw [hh] at h; cases h
 have g1:(bt b.data.toList (a + 1) == 40)=false:=beq_eq_false_iff_ne.2 fun hh=>by rw [hh] at h; cases h
 have g2:(cm (bt b.data.toList (a + 1)))=true:=h;refine qC (s.n) lg 8 3 ?_;unfold lg;have n0:a + 1 < b.data.toList.length:=om;have n1:a + 1≤a + 2:=om;have n2:a + 2≤b.data.toList.length:=om;simp -implicitDefEqProofs (disch:=omega) only [ZA,Nat.reduceAdd,Nat.reduceEqDiff,↓reduceIte,Nat.reduceLeDiff,reduceCtorEq,aY,bM,bY,dH,iJ,aS,List.all_cons,List.all_nil,Bool.and_self,aE,aP,List.drop_nil,aC,lF,km,ay,cG,g0,g1,g2,n0,n1,n2,gk]
 all_goals first | exact⟨_,_,_,rfl,rfl,Nat.le_refl _,rfl⟩ | exact⟨_,_,_,rfl,rfl,Nat.le_refl _,bm (aO _ _ _)⟩
theorem N6 (hb:b.data.toList.length < 1000000000) {a p lv:Nat} (hp:p≤6) (hx:cj b.data.toList a=true) (h2:cm (bt b.data.toList (a + 1))=false) (h3:bt b.data.toList (a + 1)≠123) (h4:bt b.data.toList (a + 1)≠40) (h5 : 32 < dY b.data.toList (a + 1) - a - 1) (s:PS):Pc ext 314 [.sc (.string b),iN a,iN p,iN lv] (bL (.error (a,3))) s:=by
 have hl1:=bS hx;have hB:=hb
 replace hb:b.data.toList.length < 4611686018427387904:=om
 have hgt:=re hx h3 h4 h2;have hle:dY b.data.toList (a + 1)≤b.data.toList.length:=jH om;have g0:(bt b.data.toList (a + 1) == 123)=false:=beq_eq_false_iff_ne.2 (h3);have g1:(bt b.data.toList (a + 1) == 40)=false:=beq_eq_false_iff_ne.2 (h4);have g2:(cm (bt b.data.toList (a + 1)))=false:=h2;have g3:(decide (32 < dY b.data.toList (a + 1) - a - 1))=true:=decide_eq_true h5;refine qC (s.n) lg 8 3 ?_;unfold lg;have n0:a + 1 < b.data.toList.length:=om;have n1:a + 1≤b.data.toList.length:=om;have n2:a≤dY b.data.toList (a + 1):=om;have n3 : 1≤dY b.data.toList (a + 1) - a:=om;have f1:=fun s=>uD (ext:=ext) hb (i:=a + 1) om s;exact rN @aS @aE @aP @ay g0 g1 g2 g3 n0 @gk f1 tv
theorem Ty (hb:b.data.toList.length < 1000000000) {a p lv:Nat} (hp:p≤6) (hx:cj b.data.toList a=true) (h2:cm (bt b.data.toList (a + 1))=false) (h3:bt b.data.toList (a + 1)≠123) (h4:bt b.data.toList (a + 1)≠40) (h5:dY b.data.toList (a + 1) - a - 1≤32) (s:PS):Pc ext 314 [.sc (.string b),iN a,iN p,iN lv] (bL (.ok ([se (sub b.data.toList (a + 1) (dY b.data.toList (a + 1)))],dY b.data.toList (a + 1)))) s:=by
 have hl1:=bS hx;have hB:=hb
 replace hb:b.data.toList.length < 4611686018427387904:=om
 have hgt:=re hx h3 h4 h2;have hle:dY b.data.toList (a + 1)≤b.data.toList.length:=jH om;have g0:(bt b.data.toList (a + 1) == 123)=false:=beq_eq_false_iff_ne.2 (h3);have g1:(bt b.data.toList (a + 1) == 40)=false:=beq_eq_false_iff_ne.2 (h4);have g2:(cm (bt b.data.toList (a + 1)))=false:=h2;have g3:(decide (32 < dY b.data.toList (a + 1) - a - 1))=false:=df;refine qC (s.n) lg 8 3 ?_;unfold lg;have n0:a + 1 < b.data.toList.length:=om;have n1:a + 1≤b.data.toList.length:=om;have n2:a≤dY b.data.toList (a + 1):=om;have n3 : 1≤dY b.data.toList (a + 1) - a:=om;have n4:a + 1≤dY b.data.toList (a + 1):=om;have n5:dY b.data.toList (a + 1)≤b.data.toList.length:=om;have f1:=fun s=>uD (ext:=ext) hb (i:=a + 1) om s;exact FB @aS @aE @aP @aC @ay @cG g0 g1 g2 g3 n0 n4 n5 @gk f1 tv
theorem ub (t:List UInt8):((⟨⟨t⟩⟩ : ByteArray).toList == (⟨#[]⟩ : ByteArray).toList)=t.isEmpty:=by
 rw [ByteArray.toList_eq,ByteArray.toList_eq];cases t<;>rfl
theorem pV {P:Program} (x y:Operand) {u t w:List UInt8} (h:u.length + t.length < 4611686018427387904) (hw:u ++ t=w):fw P .add 9 x y (.sc (.string ⟨⟨u⟩⟩)) (.sc (.string ⟨⟨t⟩⟩))=some (.sc (.string ⟨⟨w⟩⟩)):=by
 rw [nR 9 x y (by show u.length + t.length < _; omega),xq,hw]
theorem nO {t:List UInt8} (ht:t.length < 1000000000) {g:Bool} (h:Closed t g) (s:PS):Pc ext 312 [.sc (.string ⟨⟨t⟩⟩)] (.sc (.bool g)) s:=by
 cases h with
 | @mk r e k=>
  have hlen:(wrap t).length=t.length + 3:=by unfold wrap; simp
  have hp:∀s,_:=qj (ext:=ext) (b:=⟨⟨wrap t⟩⟩) (by show (wrap t).length < _; omega) k (by show 0 < (wrap t).length; omega);rw [show ((0:Nat):Int)=0 from rfl] at hp;refine q1 QV 2 ?_;have ha:=fun x y=>pV (P:=Tryz.prog) x y (u:=[36,40]) (t:=t) (w:=36 :: 40 :: t) (by simp only [List.length_cons,List.length_nil]; omega) rfl;have hc:=fun x y=>pV (P:=Tryz.prog) x y (u:=36 :: 40 :: t) (t:=[41]) (w:=wrap t) (by simp only [List.length_cons,List.length_nil]; omega) rfl;have hn:=ub t;unfold QV;cases c1:e == 0 with
  | false=>exact nI ha hc hp c1
  | true=>
   cases c2:r == t.length + 3 with
   | false=>exact jK ha hc hp c1 c2 hlen
   | true=>
    cases t with
    | nil=>
     rw [show ([]:List UInt8).isEmpty=true from rfl] at hn;simp only [List.length_nil,Nat.zero_add] at c2 hlen ht;exact jK ha hc hp c1 c2 hlen
    | cons c t=>
     rw [show (c :: t).isEmpty=false from rfl] at hn;have h0 : 0 < (c :: t).length:=by simp
     have hb0:bt (c :: t) 0=c.toNat:=rfl;have hh:((c :: t).isEmpty || (c :: t).head? != some 40)=!(bt (c :: t) 0 == 40):=by
      rw [hb0];show (some c != some 40)=_;cases c3:c.toNat == 40 with
      | true=>
       have:c=40:=UInt8.toNat_inj.1 (eq_of_beq c3);rw [this]; rfl
      | false=>
       have:c≠40:=fun hh=>by rw [hh] at c3; cases c3
       simp [this]
     rw [hh];simp only [List.length_cons] at c2 h0 hlen ht;exact vY ha hc hp c1 c2 hlen hn h0
theorem A9 {l:List UInt8}{i e:Nat} (h:i < e) (he:e≤l.length):∃c:UInt8,c.toNat=bt l i∧sub l i e=c :: sub l (i + 1) e∧sub l i (i + 1)=[c]:=by
 have hl:i < l.length:=om;refine⟨l[i],(nU hl).symm,?_,?_⟩
 ·unfold sub;rw [pj hl,show e - i=(e - (i + 1)) + 1 by omega,List.take_succ_cons]
 ·unfold sub;rw [pj hl,show i + 1 - i=0 + 1 by omega,List.take_succ_cons,List.take_zero]
theorem Ey (c:UInt8) (l:List UInt8) (h:c.toNat≠92∨∀d l',l=d :: l'→d.toNat≠96∧d.toNat≠92∧d.toNat≠36):pL (c :: l)=c :: pL l:=by
 cases l with
 | nil=>rw [pL,pL]
 | cons d l=>
  rw [pL,if_neg];rintro⟨h1,h2⟩;rcases h with h | h
  ·rw [h1] at h; exact h rfl
  ·have h3:=h d l rfl;rcases h2 with h2 | h2 | h2<;>(rw [h2] at h3; simp at h3)
theorem NB (c d:UInt8) (l:List UInt8) (h:c.toNat=92) (h2:d.toNat=96∨d.toNat=92∨d.toNat=36):pL (c :: d :: l)=d :: pL l:=by
 have hc:c=92:=UInt8.toNat_inj.1 h;have hd:d=96∨d=92∨d=36:=by
  rcases h2 with h2 | h2 | h2
  ·exact .inl (UInt8.toNat_inj.1 h2)
  ·exact .inr (.inl (UInt8.toNat_inj.1 h2))
  ·exact .inr (.inr (UInt8.toNat_inj.1 h2))
 rw [pL,if_pos ⟨hc,hd⟩]
structure S2 (b:ByteArray) (a r:Nat) (k4:PV) (f:aR):Prop where
 f0:f 0=.sc (.string b)
 f1:f 1=iN a
 f4:f 4=k4
 f5:f 5=iN r
theorem MB (hb:b.data.toList.length < 1000000000) {a r:Nat}{k4:PV}{V:aR→PS→Prop} (s:PS) (U:List UInt8) (hr:r≤b.data.toList.length) (hr1 : 1≤r) (hal:a < b.data.toList.length)
  (hV:∀f,S2 b a r k4 f→f 7=.sc (.string ⟨⟨U⟩⟩)→Er V (aN Tryz.prog Γ ext i8 f s)) :
  ∀(m i:Nat) (t:List UInt8) (f:aR),r - i < m→i < r→Lx b.data.toList (.bq i a) r 0→S2 b a r k4 f→f 7=.sc (.string ⟨⟨t⟩⟩)→f 8=iN i→t.length≤i→U=t ++ pL (sub b.data.toList i (r - 1))→Er V (LP Tryz.prog Γ ext 0 mm i8 f s):=by
 intro m
 induction m with
 | zero=>intro i t f h; omega
 | succ m ih=>
  intro i t f hm hir hk hI h7 h8 htl hU;have hI':=hI;obtain⟨h0,h1,h4,h5⟩:=hI;by_cases hlt:i < r - 1
  ·have hl:i < b.data.toList.length:=om;have e1:decide (i < r - 1)=true:=decide_eq_true hlt;obtain⟨c,c1,c2,c3⟩:=A9 (l:=b.data.toList) hlt om;have c3':(b.data.toList.drop i).take (i + 1 - i)=[c]:=c3;have n1:i≤i + 1:=om;have n2:i + 1≤b.data.toList.length:=om;cases hk with
   | b_q hl h=>omega
   | b_esc h h2 k=>
    have hb2:=k.bound ⟨om,om⟩;have hb3:=hb2.2 rfl;simp only [fX.at] at hb3;have q92:(bt b.data.toList i == 92)=true:=by rw [h]; rfl
    obtain⟨d,d1,d2,d3⟩:=A9 (l:=b.data.toList) (i:=i + 1) (e:=r - 1) om om;have d3':(b.data.toList.drop (i + 1)).take (i + 1 + 1 - (i + 1))=[d]:=d3;have n3:i + 1≤i + 1 + 1:=om;have n4:i + 1 + 1≤b.data.toList.length:=om;have hg1:=fun x y=>pV (P:=Tryz.prog) x y (u:=t) (t:=[d]) (w:=t ++ [d]) (by simp only [List.length_cons,List.length_nil]; omega) rfl;have hg2:=fun x y=>pV (P:=Tryz.prog) x y (u:=t) (t:=[c]) (w:=t ++ [c]) (by simp only [List.length_cons,List.length_nil]; omega) rfl;have yes:(bt b.data.toList (i + 1)=96∨bt b.data.toList (i + 1)=92∨bt b.data.toList (i + 1)=36)→U=(t ++ [d]) ++ pL (sub b.data.toList (i + 1 + 1) (r - 1)):=fun hd=>by
     rw [hU,c2,d2,NB c d _ (by rw [c1,h]) (by rw [d1]; exact hd),List.append_assoc]; rfl
    refine ad fun L hL=>?_;cases q96:bt b.data.toList (i + 1) == 96 with
    | true=>
     simp -implicitDefEqProofs (disch:=omega) only [ZA,Nat.reduceEqDiff,↓reduceIte,reduceCtorEq,aY,bM,bY,mm,h0,h5,h7,h8,e1,hl,h2,q92,q96,lF,km,d3',n3,n4,hg1];subst hL;exact ih (i + 1 + 1) (t ++ [d]) _ om om k ⟨by simp -implicitDefEqProofs (disch:=omega) only [ZA,↓reduceIte,reduceCtorEq,h0],by simp -implicitDefEqProofs (disch:=omega) only [ZA,Nat.reduceEqDiff,↓reduceIte,h1],by simp -implicitDefEqProofs (disch:=omega) only [ZA,Nat.reduceEqDiff,↓reduceIte,h4],by simp -implicitDefEqProofs (disch:=omega) only [ZA,Nat.reduceEqDiff,↓reduceIte,h5]⟩ (by simp -implicitDefEqProofs (disch:=omega) only [ZA,Nat.reduceEqDiff,↓reduceIte]) (by simp -implicitDefEqProofs (disch:=omega) only [ZA,↓reduceIte]) (by simp only [List.length_append,List.length_cons,List.length_nil]; omega) (yes (.inl (eq_of_beq q96)))
    | false=>
     cases q92b:bt b.data.toList (i + 1) == 92 with
     | true=>
      simp -implicitDefEqProofs (disch:=omega) only [ZA,Nat.reduceEqDiff,↓reduceIte,reduceCtorEq,aY,bM,bY,mm,h0,h5,h7,h8,e1,hl,h2,q92,q96,q92b,lF,km,d3',n3,n4,hg1];subst hL;exact ih (i + 1 + 1) (t ++ [d]) _ om om k ⟨by simp -implicitDefEqProofs (disch:=omega) only [ZA,↓reduceIte,reduceCtorEq,h0],by simp -implicitDefEqProofs (disch:=omega) only [ZA,Nat.reduceEqDiff,↓reduceIte,h1],by simp -implicitDefEqProofs (disch:=omega) only [ZA,Nat.reduceEqDiff,↓reduceIte,h4],by simp -implicitDefEqProofs (disch:=omega) only [ZA,Nat.reduceEqDiff,↓reduceIte,h5]⟩ (by simp -implicitDefEqProofs (disch:=omega) only [ZA,Nat.reduceEqDiff,↓reduceIte]) (by simp -implicitDefEqProofs (disch:=omega) only [ZA,↓reduceIte]) (by simp only [List.length_append,List.length_cons,List.length_nil]; omega) (yes (.inr (.inl (eq_of_beq q92b))))
     | false=>
      cases q36:bt b.data.toList (i + 1) == 36 with
      | true=>
       simp -implicitDefEqProofs (disch:=omega) only [ZA,Nat.reduceEqDiff,↓reduceIte,reduceCtorEq,aY,bM,bY,mm,h0,h5,h7,h8,e1,hl,h2,q92,q96,q92b,q36,lF,km,d3',n3,n4,hg1];subst hL;exact ih (i + 1 + 1) (t ++ [d]) _ om om k ⟨by simp -implicitDefEqProofs (disch:=omega) only [ZA,↓reduceIte,reduceCtorEq,h0],by simp -implicitDefEqProofs (disch:=omega) only [ZA,Nat.reduceEqDiff,↓reduceIte,h1],by simp -implicitDefEqProofs (disch:=omega) only [ZA,Nat.reduceEqDiff,↓reduceIte,h4],by simp -implicitDefEqProofs (disch:=omega) only [ZA,Nat.reduceEqDiff,↓reduceIte,h5]⟩ (by simp -implicitDefEqProofs (disch:=omega) only [ZA,Nat.reduceEqDiff,↓reduceIte]) (by simp -implicitDefEqProofs (disch:=omega) only [ZA,↓reduceIte]) (by simp only [List.length_append,List.length_cons,List.length_nil]; omega) (yes (.inr (.inr (eq_of_beq q36))))
      | false=>
       have hu:U=(t ++ [c]) ++ pL (sub b.data.toList (i + 1) (r - 1)):=by
        rw [hU,c2,Ey c _ (.inr fun d' l' hdl=>by
         rw [d2] at hdl;injection hdl with hd hd2;rw [← hd,d1];exact⟨aj q96,aj q92b,aj q36⟩),List.append_assoc]; rfl
       refine ya @mm.eq_1 h0 h5 h7 h8 e1 hl h2 q92 q96 q92b q36 c3' n1 n2 hg2 ?_;subst hL;exact ih (i + 1) (t ++ [c]) _ om om (.b_one om (aj q96) (aj q92b) k) ⟨aX h0,aX h1,aX h4,aX h5⟩ aQ aQ (by simp only [List.length_append,List.length_cons,List.length_nil]; omega) hu
   | b_one hl2 h h2 k=>
    have q92:(bt b.data.toList i == 92)=false:=beq_eq_false_iff_ne.2 h2;have hg2:=fun x y=>pV (P:=Tryz.prog) x y (u:=t) (t:=[c]) (w:=t ++ [c]) (by simp only [List.length_cons,List.length_nil]; omega) rfl;have hu:U=(t ++ [c]) ++ pL (sub b.data.toList (i + 1) (r - 1)):=by
     rw [hU,c2,Ey c _ (.inl (by rw [c1]; exact h2)),List.append_assoc]; rfl
    refine ad fun L hL=>?_;refine mT @mm.eq_1 h0 h5 h7 h8 e1 hl q92 c3' n1 n2 hg2 ?_;subst hL;exact ih (i + 1) (t ++ [c]) _ om om k ⟨aX h0,aX h1,aX h4,aX h5⟩ aQ aQ (by simp only [List.length_append,List.length_cons,List.length_nil]; omega) hu
  ·have e1:decide (i < r - 1)=false:=decide_eq_false hlt;have hs:sub b.data.toList i (r - 1)=[]:=List.eq_nil_of_length_eq_zero (by rw [rO om]; omega);rw [hs,show pL []=[] from by rw [pL],List.append_nil] at hU;refine ad fun L hL=>?_;refine xz @mm.eq_1 h5 h8 e1 ?_;subst hU;exact hV _ ⟨aX h0,aX h1,aX h4,aX h5⟩ (aX h7)
theorem D7 {a r:Nat}{U T:List UInt8} (hT:T=fm U) (hU:U.length + 2 < 1000000000) (c1:Closed T true) {s:PS}{q:List PV} (hq:bL (.ok ([H6 T],r))=.agg q) (f:aR) (hI:S2 b a r (.ptr s.n 0 3) f) (h7:f 7=.sc (.string ⟨⟨U⟩⟩)) :
  Er (fun f' s'=>s.n≤s'.w∧f' 4=.ptr s.n 0 3∧∃cs low e,s'.h s.n=⟨cs,low,e⟩∧cs.length=3∧low≤3∧iT s.n s' cs=some q) (aN Tryz.prog Γ ext i8 f ((⟨s.h,s.n,s.n⟩ : PS).new ⟨[.sc (.slice none 0 0),.sc (.int .i64 0),.sc (.int .i64 0)],0,270⟩)):=by
 obtain⟨h0,h1,h4,h5⟩:=hI;rw [bL] at hq;injection hq with hq;subst hq;have hTl:T.length≤U.length + 1:=by rw [hT]; unfold fm; split<;>simp
 have k1:=fun s=>nO (ext:=ext) om c1 s;have hn:=ub U;cases U with
 | nil=>
  rw [show ([]:List UInt8).isEmpty=true from rfl] at hn;have hT0:T=[]:=hT;subst hT0;exact rN @i8.eq_1 h1 h4 h5 h7 k1 @aS @aE @aP @aC @ay @cG
 | cons c U=>
  rw [show (c :: U).isEmpty=false from rfl] at hn;have hz : 0 < (c :: U).length:=by simp
  cases c0:bt (c :: U) 0 == 40 with
  | true=>
   have hc:c=40:=UInt8.toNat_inj.1 (eq_of_beq c0);have hT1:T=32 :: c :: U:=by rw [hT]; unfold fm; rw [if_pos (by rw [hc]; rfl)]
   have hs:=fun x y=>pV (P:=Tryz.prog) x y (u:=[32]) (t:=c :: U) (w:=T) (by simp only [List.length_cons,List.length_nil] at *; omega) hT1.symm;simp only [List.length_cons] at hz;exact FB @i8.eq_1 h1 h4 h5 h7 hn hz c0 hs k1 @aS @aE @aP @aC @ay @cG
  | false=>
   have hc:c≠40:=fun hh=>by rw [hh] at c0; cases c0
   have hT1:T=c :: U:=by rw [hT]; unfold fm; rw [if_neg (by simp [hc])]
   rw [← hT1] at h7 hn c0 hz;exact FB @i8.eq_1 h1 h4 h5 h7 hn hz c0 k1 @aS @aE @aP @aC @ay @cG tv
theorem CO {a r:Nat}{U T:List UInt8} (hT:T=fm U) (hU:U.length + 2 < 1000000000) (c1:Closed T false) (c2:Closed (T ++ [10]) true) {s:PS}{q:List PV} (hq:bL (.ok ([H6 (T ++ [10])],r))=.agg q) (f:aR) (hI:S2 b a r (.ptr s.n 0 3) f) (h7:f 7=.sc (.string ⟨⟨U⟩⟩)) :
  Er (fun f' s'=>s.n≤s'.w∧f' 4=.ptr s.n 0 3∧∃cs low e,s'.h s.n=⟨cs,low,e⟩∧cs.length=3∧low≤3∧iT s.n s' cs=some q) (aN Tryz.prog Γ ext i8 f ((⟨s.h,s.n,s.n⟩ : PS).new ⟨[.sc (.slice none 0 0),.sc (.int .i64 0),.sc (.int .i64 0)],0,270⟩)):=by
 obtain⟨h0,h1,h4,h5⟩:=hI;rw [bL] at hq;injection hq with hq;subst hq;have hTl:T.length≤U.length + 1:=by rw [hT]; unfold fm; split<;>simp
 have k1:=fun s=>nO (ext:=ext) om c1 s;have k2:=fun s=>nO (ext:=ext) (by rw [List.length_append,List.length_cons,List.length_nil]; omega) c2 s;have ha:=fun x y=>pV (P:=Tryz.prog) x y (u:=T) (t:=[10]) (w:=T ++ [10]) (by simp only [List.length_cons,List.length_nil]; omega) rfl;have hn:=ub U;cases U with
 | nil=>
  rw [show ([]:List UInt8).isEmpty=true from rfl] at hn;have hT0:T=[]:=hT;subst hT0;simp only [List.nil_append] at ha k2 ⊢;exact NH @i8.eq_1 h1 h4 h5 h7 k1 k2 ha @aS @aE @aP @aC @ay @cG
 | cons c U=>
  rw [show (c :: U).isEmpty=false from rfl] at hn;have hz : 0 < (c :: U).length:=by simp
  cases c0:bt (c :: U) 0 == 40 with
  | true=>
   have hc:c=40:=UInt8.toNat_inj.1 (eq_of_beq c0);have hT1:T=32 :: c :: U:=by rw [hT]; unfold fm; rw [if_pos (by rw [hc]; rfl)]
   have hs:=fun x y=>pV (P:=Tryz.prog) x y (u:=[32]) (t:=c :: U) (w:=T) (by simp only [List.length_cons,List.length_nil] at *; omega) hT1.symm;simp only [List.length_cons] at hz;exact TY @i8.eq_1 h1 h4 h5 h7 hn hz c0 hs k1 k2 ha @aS @aE @aP @aC @ay @cG tv
  | false=>
   have hc:c≠40:=fun hh=>by rw [hh] at c0; cases c0
   have hT1:T=c :: U:=by rw [hT]; unfold fm; rw [if_neg (by simp [hc])]
   rw [← hT1] at h7 hn c0 hz;exact TY @i8.eq_1 h1 h4 h5 h7 hn hz c0 k1 k2 ha @aS @aE @aP @aC @ay @cG tv tv
theorem DW {a r:Nat}{U T:List UInt8} (hT:T=fm U) (hU:U.length + 2 < 1000000000) (c1:Closed T false) (c2:Closed (T ++ [10]) false) {s:PS}{q:List PV} (hq:bL (.error (a,6))=.agg q) (f:aR) (hI:S2 b a r (.ptr s.n 0 3) f) (h7:f 7=.sc (.string ⟨⟨U⟩⟩)) :
  Er (fun f' s'=>s.n≤s'.w∧f' 4=.ptr s.n 0 3∧∃cs low e,s'.h s.n=⟨cs,low,e⟩∧cs.length=3∧low≤3∧iT s.n s' cs=some q) (aN Tryz.prog Γ ext i8 f ((⟨s.h,s.n,s.n⟩ : PS).new ⟨[.sc (.slice none 0 0),.sc (.int .i64 0),.sc (.int .i64 0)],0,270⟩)):=by
 obtain⟨h0,h1,h4,h5⟩:=hI;rw [bL] at hq;injection hq with hq;subst hq;have hTl:T.length≤U.length + 1:=by rw [hT]; unfold fm; split<;>simp
 have k1:=fun s=>nO (ext:=ext) om c1 s;have k2:=fun s=>nO (ext:=ext) (by rw [List.length_append,List.length_cons,List.length_nil]; omega) c2 s;have ha:=fun x y=>pV (P:=Tryz.prog) x y (u:=T) (t:=[10]) (w:=T ++ [10]) (by simp only [List.length_cons,List.length_nil]; omega) rfl;have hn:=ub U;cases U with
 | nil=>
  rw [show ([]:List UInt8).isEmpty=true from rfl] at hn;have hT0:T=[]:=hT;subst hT0;simp only [List.nil_append] at ha k2 ⊢;exact rN @i8.eq_1 h1 h4 h7 k1 k2 ha @aS @aE @aP @ay tv
 | cons c U=>
  rw [show (c :: U).isEmpty=false from rfl] at hn;have hz : 0 < (c :: U).length:=by simp
  cases c0:bt (c :: U) 0 == 40 with
  | true=>
   have hc:c=40:=UInt8.toNat_inj.1 (eq_of_beq c0);have hT1:T=32 :: c :: U:=by rw [hT]; unfold fm; rw [if_pos (by rw [hc]; rfl)]
   have hs:=fun x y=>pV (P:=Tryz.prog) x y (u:=[32]) (t:=c :: U) (w:=T) (by simp only [List.length_cons,List.length_nil] at *; omega) hT1.symm;simp only [List.length_cons] at hz;exact FB @i8.eq_1 h1 h4 h7 hn hz c0 hs k1 k2 ha @aS @aE @aP @ay tv
  | false=>
   have hc:c≠40:=fun hh=>by rw [hh] at c0; cases c0
   have hT1:T=c :: U:=by rw [hT]; unfold fm; rw [if_neg (by simp [hc])]
   rw [← hT1] at h7 hn c0 hz;exact NH @i8.eq_1 h1 h4 h7 hn hz c0 k1 k2 ha @aS @aE @aP @ay
theorem L9:∀(n:Nat) (l:List UInt8),l.length≤n→(pL l).length≤l.length:=by
 intro n
 induction n with
 | zero=>intro l h; cases l with | nil=>rw [pL]; exact Nat.le_refl _ | cons c l=>simp at h
 | succ n ih=>
  intro l h
  match l with
  | []=>rw [pL]; exact Nat.le_refl _
  | [c]=>rw [pL]; exact Nat.le_refl _
  | c :: d :: l=>
   rw [pL];simp only [List.length_cons] at h;split
   ·have:=ih l om; simp only [List.length_cons]; omega
   ·have:=ih (d :: l) (by simp only [List.length_cons]; omega); simp only [List.length_cons] at *; omega
theorem Q4 (hb:b.data.toList.length < 1000000000) {a r e:Nat} (hl:a < b.data.toList.length) (h:bt b.data.toList a=96) (k:Lx b.data.toList (.bq (a + 1) a) r e) (he:e≠0) (s:PS):Pc ext 296 [.sc (.string b),iN a] (bL (.error (r,e))) s:=by
 have hP:∀s,_:=qj (ext:=ext) (b:=b) om (.p_bq (p:=0) hl h k) hl;rw [show ((0:Nat):Int)=0 from rfl] at hP;have q:(e == 0)=false:=beq_eq_false_iff_ne.2 he;refine fU s.n (fn:=Dj) (r:=4) (m:=3) (by rfl) (by simp [Dj]) (by rfl) (by rfl) ?_;unfold Dj;refine u0 hP q @aS @aE @aP @ul ?_;exact⟨_,_,_,rfl,rfl,Nat.le_refl _,rfl⟩
theorem KE (hb:b.data.toList.length < 1000000000) {a r:Nat} (hl:a < b.data.toList.length) (h:bt b.data.toList a=96) (k:Lx b.data.toList (.bq (a + 1) a) r 0) (res:R) (hres:∀(s:PS) (q:List PV) (f:aR),bL res=.agg q→S2 b a r (.ptr s.n 0 3) f→f 7=.sc (.string ⟨⟨pL (sub b.data.toList (a + 1) (r - 1))⟩⟩)→
  Er (fun f' s'=>s.n≤s'.w∧f' 4=.ptr s.n 0 3∧∃cs low e,s'.h s.n=⟨cs,low,e⟩∧cs.length=3∧low≤3∧iT s.n s' cs=some q) (aN Tryz.prog Γ ext i8 f ((⟨s.h,s.n,s.n⟩ : PS).new ⟨[.sc (.slice none 0 0),.sc (.int .i64 0),.sc (.int .i64 0)],0,270⟩))) (s:PS):Pc ext 296 [.sc (.string b),iN a] (bL res) s:=by
 have hP:∀s,_:=qj (ext:=ext) (b:=b) om (.p_bq (p:=0) hl h k) hl;rw [show ((0:Nat):Int)=0 from rfl] at hP;have hb1:=k.bound ⟨om,hl⟩;have hb2:=hb1.2 rfl;simp only [fX.at] at hb2;obtain⟨q,hq⟩ : ∃q,bL res=.agg q:=by
  cases res with
  | ok x=>obtain⟨l,j⟩:=x; exact⟨_,rfl⟩
  | error x=>obtain⟨i,e⟩:=x; exact⟨_,rfl⟩
 rw [hq];refine fU s.n (fn:=Dj) (r:=4) (m:=3) (by rfl) (by simp [Dj]) (by rfl) (by rfl) ?_;unfold Dj;refine wP hP @aS @aE @aP @ay ?_;exact MB hb _ (pL (sub b.data.toList (a + 1) (r - 1))) hb1.1 om hl (fun f hI h7=>hres s q f hq hI h7) (r + 1) (a + 1) [] _ om om k ⟨aQ,aQ,aQ,aQ⟩ aQ aQ (Nat.zero_le _) rfl
theorem Cl (hb:b.data.toList.length < 1000000000) {a r:Nat} (hl:a < b.data.toList.length) (h:bt b.data.toList a=96) (k:Lx b.data.toList (.bq (a + 1) a) r 0):(pL (sub b.data.toList (a + 1) (r - 1))).length + 2 < 1000000000:=by
 have hb1:=k.bound ⟨om,hl⟩;have hb2:=hb1.2 rfl;simp only [fX.at] at hb2;have h1:=L9 _ (sub b.data.toList (a + 1) (r - 1)) (Nat.le_refl _);rw [rO om] at h1;omega
def rn:aW:=(sr [mt 78 0,mt 79 9,ob 80 (cl 331 [(tp 78),(tp 79)]),mt 11 80]
 (.seq (t7 [mt 81 11,mt 82 9,ob 83 (bn .sub 3 81 82),ob 84 (bi .gtr 83 32)] 84
 (sr [mt 85 9,ob 86 (cl 276 [(tp 85),(ki 3)]),o0 (.store 270 3 (tp 8) (tp 86))]
 .ret)
 .skip)
 (.seq (t7 [mt 87 9,mt 88 0,ob 89 (.len true (tp 88)),ob 90 (bn .eql 3 87 89),mt 91 90,gt 91 false 92 11,gt 91 false 93 0,og 91 false 94 (.len true (tp 93)),og 91 false 95 (bn .eql 3 92 94),ob 96 (po 91 95)] 96
 (sr [mt 97 1,ob 98 (cl 276 [(tp 97),(ki 7)]),o0 (.store 270 3 (tp 8) (tp 98))]
 .ret)
 .skip)
 (.seq (t7 [mt 99 11,mt 100 9,ob 101 (bn .eql 3 99 100)] 101
 (sr [mt 102 9,ob 103 (cl 276 [(tp 102),(ki 6)]),o0 (.store 270 3 (tp 8) (tp 103))]
 .ret)
 .skip)
 (sr [mt 104 0,mt 105 9,mt 106 11,ob 107 (.sslc (tp 104) (some (tp 105)) (some (tp 106))),ob 108 (.build [(.int .i64 0),(.string ⟨#[]⟩),(.int .i64 0),(.bool false),(.slice none 0 0)] [(0,1,(ki 4)),(1,1,(tp 107))]),ob 12 (.alloc 150 (.agg #[(.int .i64 0),(.string ⟨#[]⟩),(.int .i64 0),(.bool false),(.slice none 0 0)])),o0 (.store 150 5 (tp 12) (tp 108))]
 (.seq (t7 [mt 109 0,mt 110 11,ob 111 (.sidx (tp 109) (tp 110)),ob 112 (bc .eql 111 125)] 112
 (sr [ob 113 (.load 150 true 5 (tp 12)),mt 114 11,ob 115 (bi .add 114 1),ob 116 (cl 301 [(tp 113),(tp 115)]),o0 (.store 270 3 (tp 8) (tp 116))]
 .ret)
 .skip)
 (sr [mt 118 0,mt 119 11,ob 120 (cl 332 [(tp 118),(tp 119)]),mt 117 120,ob 121 (.ext (tp 117) 0),ob 122 (.ext (tp 117) 1),ob 123 (.ext (tp 117) 2),mt 13 121,mt 14 122,mt 15 123]
 (.seq (t7 [mt 124 13,ob 125 (bi .eql 124 0)] 125
 (.seq (t7 [mt 126 0,mt 127 11,ob 128 (.sidx (tp 126) (tp 127)),ob 129 (bc .eql 128 58),mt 130 129,gt 130 true 131 11,og 130 true 132 (bi .add 131 1),gt 130 true 133 0,og 130 true 134 (.len true (tp 133)),og 130 true 135 (bn .eql 3 132 134),ob 136 (pk 130 135)] 136
 (sr [mt 137 1,ob 138 (cl 276 [(tp 137),(ki 7)]),o0 (.store 270 3 (tp 8) (tp 138))]
 .ret)
 .skip)
 (.seq (t7 [mt 139 0,mt 140 11,ob 141 (.sidx (tp 139) (tp 140)),ob 142 (bc .eql 141 58)] 142
 (sr [mt 143 11,ob 144 (bi .add 143 1),ob 145 (cl 276 [(tp 144),(ki 6)]),o0 (.store 270 3 (tp 8) (tp 145))]
 .ret)
 .skip)
 (.seq (t7 [mt 146 0,mt 147 9,ob 148 (.sidx (tp 146) (tp 147)),ob 149 (bc .eql 148 35)] 149
 (sr [mt 150 0,mt 151 9,ob 152 (bi .add 151 1),ob 153 (cl 331 [(tp 150),(tp 152)]),ob 154 (cl 276 [(tp 153),(ki 6)]),o0 (.store 270 3 (tp 8) (tp 154))]
 .ret)
 .skip)
 (sr [mt 155 11,ob 156 (cl 276 [(tp 155),(ki 6)]),o0 (.store 270 3 (tp 8) (tp 156))]
 .ret))))
 .skip)
 (.seq (t7 [mt 157 3,ob 158 (bi .geq 157 32)] 158
 (sr [mt 159 11,ob 160 (cl 276 [(tp 159),(ki 5)]),o0 (.store 270 3 (tp 8) (tp 160))]
 .ret)
 .skip)
 (.seq (t7 [mt 161 0,mt 162 11,mt 163 15,ob 164 (bn .add 3 162 163),ob 165 (cl 294 [(tp 161),(tp 164)])] 165
 (sr [mt 166 11,mt 167 15,ob 168 (bn .add 3 166 167),ob 169 (cl 276 [(tp 168),(ki 6)]),o0 (.store 270 3 (tp 8) (tp 169))]
 .ret)
 .skip)
 (sr [mt 170 0,mt 171 11,mt 172 15,ob 173 (bn .add 3 171 172),mt 174 2,ob 175 (cl 282 [(tp 174)]),mt 176 3,ob 177 (bi .add 176 1),mt 178 1,ob 179 (cl 262 [(tp 170),(tp 173),(tp 175),(tp 177),(tp 178)]),ob 16 (.alloc 270 (.agg #[(.slice none 0 0),(.int .i64 0),(.int .i64 0)])),o0 (.store 270 3 (tp 16) (tp 179))]
 (.seq (t7 [ob 180 (.faddr 2 (tp 16)),ob 181 (.load 3 false 1 (tp 180)),ob 182 (bi .neq 181 0)] 182
 (sr [ob 183 (.load 270 true 3 (tp 16)),o0 (.store 270 3 (tp 8) (tp 183))]
 .ret)
 .skip)
 (.seq (.draw [(mt 184 13,[13],[]),(mt 185 14,[14],[0]),(ob 186 (.faddr 0 (tp 16)),[16],[1,0]),(ob 187 (.load 95 false 1 (tp 186)),[186],[1,0]),(ob 188 (.faddr 2 (tp 12)),[12],[3,2,1]),(o0 (.store 3 1 (tp 188) (tp 184)),[188,184],[3,2,1]),(ob 189 (.faddr 3 (tp 12)),[12],[3,2]),(o0 (.store 4 1 (tp 189) (tp 185)),[189,185],[3,2]),(ob 190 (.faddr 4 (tp 12)),[12],[]),(o0 (.store 95 1 (tp 190) (tp 187)),[190,187],[])])
 (sr [ob 191 (.load 150 true 5 (tp 12)),ob 192 (.faddr 1 (tp 16)),ob 193 (.load 3 false 1 (tp 192)),ob 194 (bi .add 193 1),ob 195 (cl 301 [(tp 191),(tp 194)]),o0 (.store 270 3 (tp 8) (tp 195))]
 .ret))))))))))))))
def VC (q:List PV) (r:Nat) (s:PS) (f':aR) (s':PS):Prop:=s.n≤s'.w∧f' r=.ptr s.n 0 3∧∃cs low e,s'.h s.n=⟨cs,low,e⟩∧cs.length=3∧low≤3∧iT s.n s' cs=some q
def lM (s:PS):PS:=(⟨s.h,s.n,s.n⟩ : PS).new ⟨[.sc (.slice none 0 0),.sc (.int .i64 0),.sc (.int .i64 0)],0,270⟩
def B2 (ext:aq) (b:ByteArray) (a p lv:Nat) (r:R):Prop:=∀(s:PS) (f:aR) (q:List PV),bL r=.agg q→f 0=.sc (.string b)→f 1=iN a→f 2=iN p→f 3=iN lv→f 8=.ptr s.n 0 3→f 9=iN (a + 2:Nat)→Er (VC q 8 s) (aN Tryz.prog Γ ext rn f (lM s))
theorem MD (hb:b.data.toList.length < 1000000000) {a p lv:Nat}{j:Nat} (hj:j≤b.data.toList.length) (hJ:∀s,Pc ext 331 [.sc (.string b),iN (a + 2:Nat)] (iN j) s) (h1:a + 2≤j) (h : 32 < j - (a + 2)):B2 ext b a p lv (.error (a + 2,3)):=by
 intro s f q hq f0 f1 f2 f3 f8 f9;rw [bL] at hq;injection hq with hq;subst hq;have g0:(decide (32 < j - (a + 2)))=true:=decide_eq_true h;unfold rn lM VC;have n0:a + 2≤j:=om;exact Ux f0 f8 f9 @aS @aE @aP @ay g0 hJ
theorem RU (hb:b.data.toList.length < 1000000000) {a p lv:Nat}{j:Nat} (hj:j≤b.data.toList.length) (hJ:∀s,Pc ext 331 [.sc (.string b),iN (a + 2:Nat)] (iN j) s) (h1:a + 2≤j) (h:j - (a + 2)≤32) (h2:j=b.data.toList.length):B2 ext b a p lv (.error (a,7)):=by
 intro s f q hq f0 f1 f2 f3 f8 f9;rw [bL] at hq;injection hq with hq;subst hq;have g0:(decide (32 < j - (a + 2)))=false:=df;have g1:(j == b.data.toList.length)=true:=by rw [h2]; exact beq_self_eq_true _
 unfold rn lM VC;cases c1:a + 2 == b.data.toList.length with
 | false=>
  have c1p:=aj c1;have n0:a + 2≤j:=om;exact rN f0 f1 f8 f9 @aS @aE @aP @ay g0 g1 c1 hJ
 | true=>
  have c1p:=eq_of_beq c1;have n0:a + 2≤j:=om;exact rN f0 f1 f8 f9 @aS @aE @aP @ay g0 c1 hJ tv
theorem Oc (hb:b.data.toList.length < 1000000000) {a p lv:Nat}{j:Nat} (hj:j≤b.data.toList.length) (hJ:∀s,Pc ext 331 [.sc (.string b),iN (a + 2:Nat)] (iN j) s) (h1:j=a + 2) (h2:a + 2 < b.data.toList.length):B2 ext b a p lv (.error (a + 2,6)):=by
 intro s f q hq f0 f1 f2 f3 f8 f9;rw [bL] at hq;injection hq with hq;subst hq;have g0:(decide (32 < j - (a + 2)))=false:=df;have g1:(a + 2 == b.data.toList.length)=false:=bf;have g2:(j == b.data.toList.length)=false:=bf;have g3:(j == a + 2)=true:=by rw [h1]; exact beq_self_eq_true _
 unfold rn lM VC;have n0:a + 2≤j:=om;exact NH f0 f1 f8 f9 @aS @aE @aP @ay g0 g1 g2 g3 hJ tv
theorem IN (hb:b.data.toList.length < 1000000000) {a p lv:Nat}{j:Nat} (hj:j≤b.data.toList.length) (hJ:∀s,Pc ext 331 [.sc (.string b),iN (a + 2:Nat)] (iN j) s) (h:j - (a + 2)≤32) (h2:j < b.data.toList.length) (h3:a + 2 < j) (h4:bt b.data.toList j=125):B2 ext b a p lv (.ok ([se (sub b.data.toList (a + 2) j)],j + 1)):=by
 intro s f q hq f0 f1 f2 f3 f8 f9;rw [bL] at hq;injection hq with hq;subst hq;have g0:(decide (32 < j - (a + 2)))=false:=df;have g1:(a + 2 == b.data.toList.length)=false:=bf;have g2:(j == b.data.toList.length)=false:=bf;have g3:(j == a + 2)=false:=bf;have g4:(bt b.data.toList j == 125)=true:=by rw [h4]; rfl
 unfold rn lM VC;have n0:a + 2≤j:=om;have n1:j≤b.data.toList.length:=om;have n2:j < b.data.toList.length:=om;exact Vr f0 f1 f8 f9 @aS @aE @iW @iY @aP @aC @ay @cG g0 g1 g2 g3 g4 n0 n1 n2 hJ tv
theorem Fx (hb:b.data.toList.length < 1000000000) {a p lv:Nat}{j:Nat} (hj:j≤b.data.toList.length) (hJ:∀s,Pc ext 331 [.sc (.string b),iN (a + 2:Nat)] (iN j) s) (h:j - (a + 2)≤32) (h2:j < b.data.toList.length) (h3:a + 2 < j) {o:Int}{cb:Bool}{k:Nat} (hO:∀s,Pc ext 332 [.sc (.string b),iN j] (.tup [.sc (.int .i64 o),.sc (.bool cb),iN k]) s) (h4:bt b.data.toList j≠125) (h5:o=0) (h6:bt b.data.toList j=58) (h7:j + 1=b.data.toList.length):B2 ext b a p lv (.error (a,7)):=by
 intro s f q hq f0 f1 f2 f3 f8 f9;rw [bL] at hq;injection hq with hq;subst hq;have g0:(decide (32 < j - (a + 2)))=false:=df;have g1:(a + 2 == b.data.toList.length)=false:=bf;have g2:(j == b.data.toList.length)=false:=bf;have g3:(j == a + 2)=false:=bf;have g4:(bt b.data.toList j == 125)=false:=beq_eq_false_iff_ne.2 (h4);have g5:(o == 0)=true:=by rw [h5]; rfl
 have g6:(bt b.data.toList j == 58)=true:=by rw [h6]; rfl
 have g7:(j + 1 == b.data.toList.length)=true:=by rw [h7]; exact beq_self_eq_true _
 unfold rn lM VC;have n0:a + 2≤j:=om;have n1:j≤b.data.toList.length:=om;have n2:j < b.data.toList.length:=om;exact Nq f0 f1 f8 f9 @aS @aE @iW @iY @aP @aC @ay @cG g0 g1 g2 g3 g4 g5 g6 g7 n0 n1 n2 hJ hO tv
theorem J0 (hb:b.data.toList.length < 1000000000) {a p lv:Nat}{j:Nat} (hj:j≤b.data.toList.length) (hJ:∀s,Pc ext 331 [.sc (.string b),iN (a + 2:Nat)] (iN j) s) (h:j - (a + 2)≤32) (h2:j < b.data.toList.length) (h3:a + 2 < j) {o:Int}{cb:Bool}{k:Nat} (hO:∀s,Pc ext 332 [.sc (.string b),iN j] (.tup [.sc (.int .i64 o),.sc (.bool cb),iN k]) s) (h4:bt b.data.toList j≠125) (h5:o=0) (h6:bt b.data.toList j=58) (h7:j + 1 < b.data.toList.length):B2 ext b a p lv (.error (j + 1,6)):=by
 intro s f q hq f0 f1 f2 f3 f8 f9;rw [bL] at hq;injection hq with hq;subst hq;have g0:(decide (32 < j - (a + 2)))=false:=df;have g1:(a + 2 == b.data.toList.length)=false:=bf;have g2:(j == b.data.toList.length)=false:=bf;have g3:(j == a + 2)=false:=bf;have g4:(bt b.data.toList j == 125)=false:=beq_eq_false_iff_ne.2 (h4);have g5:(o == 0)=true:=by rw [h5]; rfl
 have g6:(bt b.data.toList j == 58)=true:=by rw [h6]; rfl
 have g7:(j + 1 == b.data.toList.length)=false:=bf;unfold rn lM VC;have n0:a + 2≤j:=om;have n1:j≤b.data.toList.length:=om;have n2:j < b.data.toList.length:=om;exact Nq f0 f1 f8 f9 @aS @aE @iW @iY @aP @aC @ay @cG g0 g1 g2 g3 g4 g5 g6 g7 n0 n1 n2 hJ hO tv
theorem Jj (hb:b.data.toList.length < 1000000000) {a p lv:Nat}{j:Nat} (hj:j≤b.data.toList.length) (hJ:∀s,Pc ext 331 [.sc (.string b),iN (a + 2:Nat)] (iN j) s) (h:j - (a + 2)≤32) (h2:j < b.data.toList.length) (h3:a + 2 < j) {o:Int}{cb:Bool}{k:Nat} (hO:∀s,Pc ext 332 [.sc (.string b),iN j] (.tup [.sc (.int .i64 o),.sc (.bool cb),iN k]) s) (h4:bt b.data.toList j≠125) (h5:o=0) (h6:bt b.data.toList j≠58) (h7:bt b.data.toList (a + 2)=35) {i:Nat} (hI:∀s,Pc ext 331 [.sc (.string b),iN (a + 2 + 1:Nat)] (iN i) s):B2 ext b a p lv (.error (i,6)):=by
 intro s f q hq f0 f1 f2 f3 f8 f9;rw [bL] at hq;injection hq with hq;subst hq;have g0:(decide (32 < j - (a + 2)))=false:=df;have g1:(a + 2 == b.data.toList.length)=false:=bf;have g2:(j == b.data.toList.length)=false:=bf;have g3:(j == a + 2)=false:=bf;have g4:(bt b.data.toList j == 125)=false:=beq_eq_false_iff_ne.2 (h4);have g5:(o == 0)=true:=by rw [h5]; rfl
 have g6:(bt b.data.toList j == 58)=false:=beq_eq_false_iff_ne.2 (h6);have g7:(bt b.data.toList (a + 2) == 35)=true:=by rw [h7]; rfl
 unfold rn lM VC;have n0:a + 2≤j:=om;have n1:j≤b.data.toList.length:=om;have n2:j < b.data.toList.length:=om;have n3:a + 2 < b.data.toList.length:=om;exact TN f0 f1 f8 f9 @aS @aE @iW @iY @aP @aC @ay @cG g0 g1 g2 g3 g4 g5 g6 g7 n0 n1 n2 n3 hJ hO hI tv tv tv tv tv
theorem Pw (hb:b.data.toList.length < 1000000000) {a p lv:Nat}{j:Nat} (hj:j≤b.data.toList.length) (hJ:∀s,Pc ext 331 [.sc (.string b),iN (a + 2:Nat)] (iN j) s) (h:j - (a + 2)≤32) (h2:j < b.data.toList.length) (h3:a + 2 < j) {o:Int}{cb:Bool}{k:Nat} (hO:∀s,Pc ext 332 [.sc (.string b),iN j] (.tup [.sc (.int .i64 o),.sc (.bool cb),iN k]) s) (h4:bt b.data.toList j≠125) (h5:o=0) (h6:bt b.data.toList j≠58) (h7:bt b.data.toList (a + 2)≠35):B2 ext b a p lv (.error (j,6)):=by
 intro s f q hq f0 f1 f2 f3 f8 f9;rw [bL] at hq;injection hq with hq;subst hq;have g0:(decide (32 < j - (a + 2)))=false:=df;have g1:(a + 2 == b.data.toList.length)=false:=bf;have g2:(j == b.data.toList.length)=false:=bf;have g3:(j == a + 2)=false:=bf;have g4:(bt b.data.toList j == 125)=false:=beq_eq_false_iff_ne.2 (h4);have g5:(o == 0)=true:=by rw [h5]; rfl
 have g6:(bt b.data.toList j == 58)=false:=beq_eq_false_iff_ne.2 (h6);have g7:(bt b.data.toList (a + 2) == 35)=false:=beq_eq_false_iff_ne.2 (h7);unfold rn lM VC;have n0:a + 2≤j:=om;have n1:j≤b.data.toList.length:=om;have n2:j < b.data.toList.length:=om;have n3:a + 2 < b.data.toList.length:=om;exact Nq f0 f1 f8 f9 @aS @aE @iW @iY @aP @aC @ay @cG g0 g1 g2 g3 g4 g5 g6 g7 n0 n1 n2 n3 hJ hO
theorem MH (hb:b.data.toList.length < 1000000000) {a p lv:Nat}{j:Nat} (hj:j≤b.data.toList.length) (hJ:∀s,Pc ext 331 [.sc (.string b),iN (a + 2:Nat)] (iN j) s) (h:j - (a + 2)≤32) (h2:j < b.data.toList.length) (h3:a + 2 < j) {o:Int}{cb:Bool}{k:Nat} (hO:∀s,Pc ext 332 [.sc (.string b),iN j] (.tup [.sc (.int .i64 o),.sc (.bool cb),iN k]) s) (h4:bt b.data.toList j≠125) (h5:o≠0) (h6 : 32≤lv):B2 ext b a p lv (.error (j,5)):=by
 intro s f q hq f0 f1 f2 f3 f8 f9;rw [bL] at hq;injection hq with hq;subst hq;have g0:(decide (32 < j - (a + 2)))=false:=df;have g1:(a + 2 == b.data.toList.length)=false:=bf;have g2:(j == b.data.toList.length)=false:=bf;have g3:(j == a + 2)=false:=bf;have g4:(bt b.data.toList j == 125)=false:=beq_eq_false_iff_ne.2 (h4);have g5:(o == 0)=false:=beq_eq_false_iff_ne.2 h5;have g6:(decide (32≤lv))=true:=decide_eq_true h6;unfold rn lM VC;have n0:a + 2≤j:=om;have n1:j≤b.data.toList.length:=om;have n2:j < b.data.toList.length:=om;exact Nq f0 f1 f3 f8 f9 @aS @aE @iW @iY @aP @aC @ay @cG g0 g1 g2 g3 g4 g5 g6 n0 n1 n2 hJ hO tv
theorem N1 (hb:b.data.toList.length < 1000000000) {a p lv:Nat}{j:Nat} (hj:j≤b.data.toList.length) (hJ:∀s,Pc ext 331 [.sc (.string b),iN (a + 2:Nat)] (iN j) s) (h:j - (a + 2)≤32) (h2:j < b.data.toList.length) (h3:a + 2 < j) {o:Int}{cb:Bool}{k:Nat} (hO:∀s,Pc ext 332 [.sc (.string b),iN j] (.tup [.sc (.int .i64 o),.sc (.bool cb),iN k]) s) (h4:bt b.data.toList j≠125) (h5:o≠0) (h6:lv < 32) (hk:j + k≤b.data.toList.length) (h7:cH b.data.toList (j + k)=true):B2 ext b a p lv (.error (j + k,6)):=by
 intro s f q hq f0 f1 f2 f3 f8 f9;rw [bL] at hq;injection hq with hq;subst hq;have hB:=hb
 replace hb:b.data.toList.length < 4611686018427387904:=om
 have g0:(decide (32 < j - (a + 2)))=false:=df;have g1:(a + 2 == b.data.toList.length)=false:=bf;have g2:(j == b.data.toList.length)=false:=bf;have g3:(j == a + 2)=false:=bf;have g4:(bt b.data.toList j == 125)=false:=beq_eq_false_iff_ne.2 (h4);have g5:(o == 0)=false:=beq_eq_false_iff_ne.2 h5;have g6:(decide (32≤lv))=false:=df;have g7:(cH b.data.toList (j + k))=true:=h7;unfold rn lM VC;have n0:a + 2≤j:=om;have n1:j≤b.data.toList.length:=om;have n2:j < b.data.toList.length:=om;have n3:j + k≤b.data.toList.length:=om;have u2:=fun s=>gh (ext:=ext) hb (i:=j + k) om s;exact TN f0 f1 f3 f8 f9 @aS @aE @iW @iY @aP @aC @ay @cG g0 g1 g2 g3 g4 g5 g6 g7 n0 n1 n2 hJ hO u2 tv tv tv tv tv
theorem PN (hb:b.data.toList.length < 1000000000) {a p lv:Nat}{j:Nat} (hj:j≤b.data.toList.length) (hJ:∀s,Pc ext 331 [.sc (.string b),iN (a + 2:Nat)] (iN j) s) (h:j - (a + 2)≤32) (h2:j < b.data.toList.length) (h3:a + 2 < j) {o:Int}{cb:Bool}{k:Nat} (hO:∀s,Pc ext 332 [.sc (.string b),iN j] (.tup [.sc (.int .i64 o),.sc (.bool cb),iN k]) s) (h4:bt b.data.toList j≠125) (h5:o≠0) (h6:lv < 32) (hp:p≤6) (hk:j + k≤b.data.toList.length) (h7:cH b.data.toList (j + k)=false) {x e:Nat} (he:e≠0) (hC:∀s,Pc ext 262 [.sc (.string b),iN (j + k:Nat),iN (dV p),iN (lv + 1:Nat),iN a] (.agg [.sc (.slice none 0 0),iN x,iN e]) s):B2 ext b a p lv (.error (x,e)):=by
 intro s f q hq f0 f1 f2 f3 f8 f9;rw [bL] at hq;injection hq with hq;subst hq;have hB:=hb
 replace hb:b.data.toList.length < 4611686018427387904:=om
 have nq0:(s.n=s.n + 1 + 1)=False:=eq_false om;have nq1:(s.n + 1 + 1=s.n)=False:=eq_false om;have nq2:(s.n + 1=s.n + 1 + 1)=False:=eq_false om;have nq3:(s.n + 1 + 1=s.n + 1)=False:=eq_false om;have nq4:(s.n + 1=s.n)=False:=eq_false om;have nq5:(s.n=s.n + 1)=False:=eq_false om;have g0:(decide (32 < j - (a + 2)))=false:=df;have g1:(a + 2 == b.data.toList.length)=false:=bf;have g2:(j == b.data.toList.length)=false:=bf;have g3:(j == a + 2)=false:=bf;have g4:(bt b.data.toList j == 125)=false:=beq_eq_false_iff_ne.2 (h4);have g5:(o == 0)=false:=beq_eq_false_iff_ne.2 h5;have g6:(decide (32≤lv))=false:=df;have g7:(cH b.data.toList (j + k))=false:=h7;have g8:(e == 0)=false:=beq_eq_false_iff_ne.2 he;unfold rn lM VC;have n0:a + 2≤j:=om;have n1:j≤b.data.toList.length:=om;have n2:j < b.data.toList.length:=om;have n3:j + k≤b.data.toList.length:=om;have u2:=fun s=>gh (ext:=ext) hb (i:=j + k) om s;have u3:=fun s=>rf (ext:=ext) hp s;exact UT f0 f1 f2 f3 f8 f9 @aS @aE @iW @iY @aP @aC @ay @cG nq0 nq5 g0 g1 g2 g3 g4 g5 g6 g7 g8 n0 n1 n2 hJ hO u2 u3 hC tv tv tv tv tv tv tv
theorem TZ (hb:b.data.toList.length < 1000000000) {a p lv:Nat}{j:Nat} (hj:j≤b.data.toList.length) (hJ:∀s,Pc ext 331 [.sc (.string b),iN (a + 2:Nat)] (iN j) s) (h:j - (a + 2)≤32) (h2:j < b.data.toList.length) (h3:a + 2 < j) {o:Int}{cb:Bool}{k:Nat} (hO:∀s,Pc ext 332 [.sc (.string b),iN j] (.tup [.sc (.int .i64 o),.sc (.bool cb),iN k]) s) (h4:bt b.data.toList j≠125) (h5:o≠0) (h6:lv < 32) (hp:p≤6) (hk:j + k≤b.data.toList.length) (h7:cH b.data.toList (j + k)=false) {ps:List aJ}{i:Nat} (hi:i < b.data.toList.length) (hC:∀s,Pc ext 262 [.sc (.string b),iN (j + k:Nat),iN (dV p),iN (lv + 1:Nat),iN a] (.agg [cS ps,iN i,.sc (.int .i64 0)]) s):B2 ext b a p lv (.ok ([.mk 4 (sub b.data.toList (a + 2) j) o cb ps],i + 1)):=by
 intro s f q hq f0 f1 f2 f3 f8 f9;rw [bL] at hq;injection hq with hq;subst hq;have hB:=hb
 replace hb:b.data.toList.length < 4611686018427387904:=om
 have nq0:(s.n=s.n + 1 + 1)=False:=eq_false om;have nq1:(s.n + 1 + 1=s.n)=False:=eq_false om;have nq2:(s.n + 1=s.n + 1 + 1)=False:=eq_false om;have nq3:(s.n + 1 + 1=s.n + 1)=False:=eq_false om;have nq4:(s.n + 1=s.n)=False:=eq_false om;have nq5:(s.n=s.n + 1)=False:=eq_false om;have g0:(decide (32 < j - (a + 2)))=false:=df;have g1:(a + 2 == b.data.toList.length)=false:=bf;have g2:(j == b.data.toList.length)=false:=bf;have g3:(j == a + 2)=false:=bf;have g4:(bt b.data.toList j == 125)=false:=beq_eq_false_iff_ne.2 (h4);have g5:(o == 0)=false:=beq_eq_false_iff_ne.2 h5;have g6:(decide (32≤lv))=false:=df;have g7:(cH b.data.toList (j + k))=false:=h7;unfold rn lM VC;have n0:a + 2≤j:=om;have n1:j≤b.data.toList.length:=om;have n2:j < b.data.toList.length:=om;have n3:j + k≤b.data.toList.length:=om;have u2:=fun s=>gh (ext:=ext) hb (i:=j + k) om s;have u3:=fun s=>rf (ext:=ext) hp s;simp -implicitDefEqProofs (disch:=first | omega | (unfold cO bZ; simp<;>omega)) only [ZS,seval,ZT,ZX,f0,f1,f2,f3,f8,f9,aS,aE,iW,iY,aP,aC,yI,ay,cG,zU,nq0,nq2,nq3,nq5,g0,g1,g2,g3,g4,g5,g6,g7,n0,n1,n2,hJ,hO,u2,u3,hC]
 all_goals first | exact⟨_,_,_,rfl,rfl,Nat.le_refl _,rfl⟩ | exact⟨_,_,_,rfl,rfl,Nat.le_refl _,bm (aO _ _ _)⟩
end Go.Proofs.YtgkggocjoolciaaGreatDoor
