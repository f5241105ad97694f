/- What functions of the program and of the reference compute, on values. No statement is proved here. -/
import Derived.Test.YtokdflgpbfjpcaaGreatDoorTxE
set_option linter.all false
namespace Go.Proofs.YtokdflgpbfjpcaaGreatDoor
open Go Go.EvL Go.PE Go.Mir
variable {ext:ar}{b:ByteArray}
theorem aG (k:IntKind) (z:Int):db (.sc (.int k z))=true:=(rfl)
theorem aF (b:ByteArray):db (.sc (.string b))=true:=(rfl)
theorem aE (b:Bool):db (.sc (.bool b))=true:=(rfl)
theorem aI:db (.sc (.slice none 0 0))=true:=(rfl)
theorem JX:dl []=.sc (.slice none 0 0):=by rw [dl]
theorem aq (l:List aS):db (dl l)=true:=by cases l<;>(rw [dl]; rfl)
theorem ax (l:List aS):aC (dl l)=[dl l]:=by cases l<;>(rw [dl]; rfl)
theorem bu (n:Nat) (s:PS) (l:List aS):cM n s (dl l)=some (dl l):=by cases l<;>(rw [dl]; rfl)
theorem az (a e:Nat) (s:PS):Pc ext 278 [iN a,iN e] (.agg [.sc (.slice none 0 0),iN a,iN e]) s:=IP a e s
theorem aA (a e:Nat) (s:PS):Pc ext 278 [iN a,.sc (.int .i64 (no_index (@OfNat.ofNat Int e instOfNat)))] (.agg [.sc (.slice none 0 0),iN a,.sc (.int .i64 (@OfNat.ofNat Int e instOfNat))]) s:=IP a e s
theorem aM (k:Int) (t:List UInt8) (o:Int) (c:Bool) (ps:List aS) (j:Nat) (s:PS):Pc ext 303 [.agg [.sc (.int .i64 k),.sc (.string ⟨⟨t⟩⟩),.sc (.int .i64 o),.sc (.bool c),dl ps],iN j] (.agg [dl [.mk k t o c ps],iN j,.sc (.int .i64 0)]) s:=by
 have:=Vi (ext:=ext) (.mk k t o c ps) j s;rw [dV] at this;exact this
theorem aP (k:Int) (t:List UInt8) (o:Int) (c:Bool) (j:Nat) (s:PS):Pc ext 303 [.agg [.sc (.int .i64 k),.sc (.string ⟨⟨t⟩⟩),.sc (.int .i64 o),.sc (.bool c),.sc (.slice none 0 0)],iN j] (.agg [dl [.mk k t o c []],iN j,.sc (.int .i64 0)]) s:=by
 have:=aM (ext:=ext) k t o c [] j s;rw [dl] at this;exact this
theorem O1 (hb:b.data.toList.length < 1000000000) {a:Nat} (h2:a + 1=b.data.toList.length) (s:PS):Pc ext 297 [.sc (.string b),iN a,iN (5:Nat)] (bS (.ok ([gn [92]],a + 1))) s:=by
 have g0:(a + 1 == b.data.toList.length)=true:=by rw [h2]; exact beq_self_eq_true _
 refine qC (s.n) mP 6 3 ?_;unfold mP;exact Wa @aY @aG @aF @aE @aI @aq @ax @aA @az @aP @aM g0
theorem T0 (hb:b.data.toList.length < 1000000000) {a p:Nat} (h2:a + 1=b.data.toList.length) (h3:p≠5) (s:PS):Pc ext 297 [.sc (.string b),iN a,iN p] (bS (.error (a,7))) s:=by
 have g0:(a + 1 == b.data.toList.length)=true:=by rw [h2]; exact beq_self_eq_true _
 have g1:(p == 5)=false:=beq_eq_false_iff_ne.2 h3;refine qC (s.n) mP 6 3 ?_;unfold mP;exact V6 @aY @aG @aF @aE @aI @aq @ax @aA @az @aP @aM g0 g1 tv
theorem Ue (hb:b.data.toList.length < 1000000000) {a p:Nat} (h2:a + 1 < b.data.toList.length) (h3:bt b.data.toList (a + 1)=10) (s:PS):Pc ext 297 [.sc (.string b),iN a,iN p] (bS (.ok ([],a + 2))) s:=by
 have g0:(a + 1 == b.data.toList.length)=false:=bf;have g1:(bt b.data.toList (a + 1) == 10)=true:=by rw [h3]; rfl
 refine qC (s.n) mP 6 3 ?_;unfold mP;have n0:a + 1 < b.data.toList.length:=om;simp -implicitDefEqProofs (disch:=omega) only [ZA,Nat.reduceAdd,Nat.reduceEqDiff,↓reduceIte,Nat.reduceLeDiff,reduceCtorEq,Nat.reduceBEq,Nat.reduceLT,bE,cg,cI,aW,cP,b9,cV,bz,frz,cT,cM,er,fV,aY,List.all_cons,List.all_nil,Bool.and_self,aG,aF,aE,aI,List.drop_nil,List.take_nil,aq,ax,js,i6,aA,az,aP,aM,JX,g0,g1,n0]
 all_goals first | exact⟨_,_,_,rfl,rfl,Nat.le_refl _,rfl⟩ | exact⟨_,_,_,rfl,rfl,Nat.le_refl _,bP (bu _ _ _)⟩
theorem Rl (hb:b.data.toList.length < 1000000000) {a p:Nat} (hp:p≤6) (h2:a + 1 < b.data.toList.length) (h3:bt b.data.toList (a + 1)≠10) (h4:dh p=true) (s:PS):Pc ext 297 [.sc (.string b),iN a,iN p] (bS (.ok ([ux (sub b.data.toList (a + 1) (a + 2))],a + 2))) s:=by
 have g0:(a + 1 == b.data.toList.length)=false:=bf;have g1:(bt b.data.toList (a + 1) == 10)=false:=beq_eq_false_iff_ne.2 (h3);have g2:(dh p)=true:=h4;refine qC (s.n) mP 6 3 ?_;unfold mP;have n0:a + 1 < b.data.toList.length:=om;have n1:a + 1≤a + 2:=om;have n2:a + 2≤b.data.toList.length:=om;have f0:=fun s=>br (ext:=ext) hp s;simp -implicitDefEqProofs (disch:=omega) only [ZA,Nat.reduceAdd,Nat.reduceEqDiff,↓reduceIte,Nat.reduceLeDiff,reduceCtorEq,Nat.reduceBEq,Nat.reduceLT,bE,cg,cI,aW,cP,b9,cV,bz,frz,cT,cM,er,fV,aY,List.all_cons,List.all_nil,Bool.and_self,aG,aF,aE,aI,List.drop_nil,List.take_nil,aq,ax,js,i6,aA,az,aP,aM,g0,g1,g2,n0,n1,n2,f0]
 all_goals first | exact⟨_,_,_,rfl,rfl,Nat.le_refl _,rfl⟩ | exact⟨_,_,_,rfl,rfl,Nat.le_refl _,bP (bu _ _ _)⟩
theorem Sf (hb:b.data.toList.length < 1000000000) {a p:Nat} (hp:p≤6) (h2:a + 1 < b.data.toList.length) (h3:bt b.data.toList (a + 1)≠10) (h4:dh p=false) (h5:ck (bt b.data.toList (a + 1)) p=true) (s:PS):Pc ext 297 [.sc (.string b),iN a,iN p] (bS (.ok ([gn (sub b.data.toList (a + 1) (a + 2))],a + 2))) s:=by
 have g0:(a + 1 == b.data.toList.length)=false:=bf;have g1:(bt b.data.toList (a + 1) == 10)=false:=beq_eq_false_iff_ne.2 (h3);have g2:(dh p)=false:=h4;have g3:(ck (bt b.data.toList (a + 1)) p)=true:=h5;refine qC (s.n) mP 6 3 ?_;unfold mP;have n0:a + 1 < b.data.toList.length:=om;have n1:a + 1≤a + 2:=om;have n2:a + 2≤b.data.toList.length:=om;have f0:=fun s=>br (ext:=ext) hp s;have f1:=fun c s=>jE (ext:=ext) (c:=c) hp s;simp -implicitDefEqProofs (disch:=omega) only [ZA,Nat.reduceAdd,Nat.reduceEqDiff,↓reduceIte,Nat.reduceLeDiff,reduceCtorEq,Nat.reduceBEq,Nat.reduceLT,bE,cg,cI,aW,cP,b9,cV,bz,frz,cT,cM,er,fV,aY,List.all_cons,List.all_nil,Bool.and_self,aG,aF,aE,aI,List.drop_nil,List.take_nil,aq,ax,js,i6,aA,az,aP,aM,g0,g1,g2,g3,n0,n1,n2,f0,f1]
 all_goals first | exact⟨_,_,_,rfl,rfl,Nat.le_refl _,rfl⟩ | exact⟨_,_,_,rfl,rfl,Nat.le_refl _,bP (bu _ _ _)⟩
theorem KT (hb:b.data.toList.length < 1000000000) {a:Nat} (h2:a + 1 < b.data.toList.length) (h3:bt b.data.toList (a + 1)=40) (s:PS):Pc ext 297 [.sc (.string b),iN a,iN (4:Nat)] (bS (.error (a,6))) s:=by
 have hp : 4≤6:=om;have g0:(a + 1 == b.data.toList.length)=false:=bf;have g1:(bt b.data.toList (a + 1) == 10)=false:=by rw [h3]; rfl
 have g2:(dh 4)=false:=rfl;have g3:(ck (bt b.data.toList (a + 1)) 4)=false:=by rw [h3]; rfl
 have g4:(bt b.data.toList (a + 1) == 40)=true:=by rw [h3]; rfl
 have g5:(bt b.data.toList (a + 1) == 41)=false:=by rw [h3]; rfl
 refine qC (s.n) mP 6 3 ?_;unfold mP;have n0:a + 1 < b.data.toList.length:=om;have f0:=fun s=>br (ext:=ext) hp s;have f1:=fun c s=>jE (ext:=ext) (c:=c) hp s;simp -implicitDefEqProofs (disch:=omega) only [ZA,Nat.reduceAdd,Nat.reduceEqDiff,↓reduceIte,Nat.reduceLeDiff,reduceCtorEq,Nat.reduceBEq,Nat.reduceLT,bE,cg,cI,aW,cP,b9,cV,bz,frz,cT,cM,er,fV,aY,List.all_cons,List.all_nil,Bool.and_self,aG,aF,aE,aI,List.drop_nil,List.take_nil,aq,ax,js,i6,aA,az,aP,aM,g0,g1,g2,g3,g4,g5,n0,f0,f1]
 all_goals first | exact⟨_,_,_,rfl,rfl,Nat.le_refl _,rfl⟩ | exact⟨_,_,_,rfl,rfl,Nat.le_refl _,bP (bu _ _ _)⟩
theorem Lt (hb:b.data.toList.length < 1000000000) {a:Nat} (h2:a + 1 < b.data.toList.length) (h3:bt b.data.toList (a + 1)=41) (s:PS):Pc ext 297 [.sc (.string b),iN a,iN (4:Nat)] (bS (.error (a,6))) s:=by
 have hp : 4≤6:=om;have g0:(a + 1 == b.data.toList.length)=false:=bf;have g1:(bt b.data.toList (a + 1) == 10)=false:=by rw [h3]; rfl
 have g2:(dh 4)=false:=rfl;have g3:(ck (bt b.data.toList (a + 1)) 4)=false:=by rw [h3]; rfl
 have g4:(bt b.data.toList (a + 1) == 40)=false:=by rw [h3]; rfl
 have g5:(bt b.data.toList (a + 1) == 41)=true:=by rw [h3]; rfl
 refine qC (s.n) mP 6 3 ?_;unfold mP;have n0:a + 1 < b.data.toList.length:=om;have f0:=fun s=>br (ext:=ext) hp s;have f1:=fun c s=>jE (ext:=ext) (c:=c) hp s;simp -implicitDefEqProofs (disch:=omega) only [ZA,Nat.reduceAdd,Nat.reduceEqDiff,↓reduceIte,Nat.reduceLeDiff,reduceCtorEq,Nat.reduceBEq,Nat.reduceLT,bE,cg,cI,aW,cP,b9,cV,bz,frz,cT,cM,er,fV,aY,List.all_cons,List.all_nil,Bool.and_self,aG,aF,aE,aI,List.drop_nil,List.take_nil,aq,ax,js,i6,aA,az,aP,aM,g0,g1,g2,g3,g4,g5,n0,f0,f1]
 all_goals first | exact⟨_,_,_,rfl,rfl,Nat.le_refl _,rfl⟩ | exact⟨_,_,_,rfl,rfl,Nat.le_refl _,bP (bu _ _ _)⟩
theorem QJ (hb:b.data.toList.length < 1000000000) {a p:Nat} (hp:p≤6) (h2:a + 1 < b.data.toList.length) (h3:bt b.data.toList (a + 1)≠10) (h4:dh p=false) (h5:ck (bt b.data.toList (a + 1)) p=false) (h6:p≠4) (s:PS):Pc ext 297 [.sc (.string b),iN a,iN p] (bS (.ok ([gn (sub b.data.toList a (a + 2))],a + 2))) s:=by
 have g0:(a + 1 == b.data.toList.length)=false:=bf;have g1:(bt b.data.toList (a + 1) == 10)=false:=beq_eq_false_iff_ne.2 (h3);have g2:(dh p)=false:=h4;have g3:(ck (bt b.data.toList (a + 1)) p)=false:=h5;have g4:(p == 4)=false:=beq_eq_false_iff_ne.2 h6;refine qC (s.n) mP 6 3 ?_;unfold mP;have n0:a + 1 < b.data.toList.length:=om;have n1:a≤a + 2:=om;have n2:a + 2≤b.data.toList.length:=om;have f0:=fun s=>br (ext:=ext) hp s;have f1:=fun c s=>jE (ext:=ext) (c:=c) hp s;exact qx @aY @aG @aF @aE @aI @aq @ax @aA @az @aP @aM g0 g1 g2 g3 g4 n0 n1 n2 f0 f1 tv
theorem P6 (hb:b.data.toList.length < 1000000000) {a:Nat} (h2:a + 1 < b.data.toList.length) (h3:bt b.data.toList (a + 1)≠10) (h5:ck (bt b.data.toList (a + 1)) 4=false) (h6:bt b.data.toList (a + 1)≠40) (h7:bt b.data.toList (a + 1)≠41) (s:PS):Pc ext 297 [.sc (.string b),iN a,iN (4:Nat)] (bS (.ok ([gn (sub b.data.toList a (a + 2))],a + 2))) s:=by
 have hp : 4≤6:=om;have g0:(a + 1 == b.data.toList.length)=false:=bf;have g1:(bt b.data.toList (a + 1) == 10)=false:=beq_eq_false_iff_ne.2 (h3);have g2:(dh 4)=false:=rfl;have g3:(ck (bt b.data.toList (a + 1)) 4)=false:=h5;have g4:(bt b.data.toList (a + 1) == 40)=false:=beq_eq_false_iff_ne.2 (h6);have g5:(bt b.data.toList (a + 1) == 41)=false:=beq_eq_false_iff_ne.2 (h7);refine qC (s.n) mP 6 3 ?_;unfold mP;have n0:a + 1 < b.data.toList.length:=om;have n1:a≤a + 2:=om;have n2:a + 2≤b.data.toList.length:=om;have f0:=fun s=>br (ext:=ext) hp s;have f1:=fun c s=>jE (ext:=ext) (c:=c) hp s;simp -implicitDefEqProofs (disch:=omega) only [ZA,Nat.reduceAdd,Nat.reduceEqDiff,↓reduceIte,Nat.reduceLeDiff,reduceCtorEq,Nat.reduceBEq,Nat.reduceLT,bE,cg,cI,aW,cP,b9,cV,bz,frz,cT,cM,er,fV,aY,List.all_cons,List.all_nil,Bool.and_self,aG,aF,aE,aI,List.drop_nil,List.take_nil,aq,ax,js,i6,aA,az,aP,aM,g0,g1,g2,g3,g4,g5,n0,n1,n2,f0,f1]
 all_goals first | exact⟨_,_,_,rfl,rfl,Nat.le_refl _,rfl⟩ | exact⟨_,_,_,rfl,rfl,Nat.le_refl _,bP (bu _ _ _)⟩
theorem Kr (hb:b.data.toList.length < 1000000000) {a p lv:Nat} (hp:p≤6) (hl:a < b.data.toList.length) (h:bt b.data.toList a=92) (ps:List aS) (j:Nat) (hC:∀s,Pc ext 297 [.sc (.string b),iN a,iN p] (.agg [dl ps,iN j,.sc (.int .i64 0)]) s) (s:PS):Pc ext 280 [.sc (.string b),iN a,iN p,iN lv] (bS (.ok (ps,j))) s:=by
 have g0:(bt b.data.toList a == 92)=true:=by rw [h]; rfl
 have g1:(bt b.data.toList a == 96)=false:=by rw [h]; rfl
 have g2:(bt b.data.toList a == 36)=false:=by rw [h]; rfl
 have g3:(bt b.data.toList a == 39)=false:=by rw [h]; rfl
 have g4:(bt b.data.toList a == 34)=false:=by rw [h]; rfl
 refine qC (s.n) jo 8 3 ?_;unfold jo;have n0:a < b.data.toList.length:=om;exact ug @aY @aG @aF @aE @aI @aq @ax @aA @az @aP @aM g0 g1 g2 g3 g4 n0 hC tv
theorem JK (hb:b.data.toList.length < 1000000000) {a p lv:Nat} (hp:p≤6) (hl:a < b.data.toList.length) (h:bt b.data.toList a=92) (x e:Nat) (hC:∀s,Pc ext 297 [.sc (.string b),iN a,iN p] (.agg [.sc (.slice none 0 0),iN x,iN e]) s) (s:PS):Pc ext 280 [.sc (.string b),iN a,iN p,iN lv] (bS (.error (x,e))) s:=by
 have g0:(bt b.data.toList a == 92)=true:=by rw [h]; rfl
 have g1:(bt b.data.toList a == 96)=false:=by rw [h]; rfl
 have g2:(bt b.data.toList a == 36)=false:=by rw [h]; rfl
 have g3:(bt b.data.toList a == 39)=false:=by rw [h]; rfl
 have g4:(bt b.data.toList a == 34)=false:=by rw [h]; rfl
 refine qC (s.n) jo 8 3 ?_;unfold jo;have n0:a < b.data.toList.length:=om;exact ug @aY @aG @aF @aE @aI @aq @ax @aA @az @aP @aM g0 g1 g2 g3 g4 n0 hC tv
theorem L0 (hb:b.data.toList.length < 1000000000) {a p lv:Nat} (hp:p≤6) (hl:a < b.data.toList.length) (h:bt b.data.toList a=96) (ps:List aS) (j:Nat) (hC:∀s,Pc ext 298 [.sc (.string b),iN a] (.agg [dl ps,iN j,.sc (.int .i64 0)]) s) (s:PS):Pc ext 280 [.sc (.string b),iN a,iN p,iN lv] (bS (.ok (ps,j))) s:=by
 have g0:(bt b.data.toList a == 92)=false:=by rw [h]; rfl
 have g1:(bt b.data.toList a == 96)=true:=by rw [h]; rfl
 have g2:(bt b.data.toList a == 36)=false:=by rw [h]; rfl
 have g3:(bt b.data.toList a == 39)=false:=by rw [h]; rfl
 have g4:(bt b.data.toList a == 34)=false:=by rw [h]; rfl
 refine qC (s.n) jo 8 3 ?_;unfold jo;have n0:a < b.data.toList.length:=om;exact ug @aY @aG @aF @aE @aI @aq @ax @aA @az @aP @aM g0 g1 g2 g3 g4 n0 hC tv
theorem LF (hb:b.data.toList.length < 1000000000) {a p lv:Nat} (hp:p≤6) (hl:a < b.data.toList.length) (h:bt b.data.toList a=96) (x e:Nat) (hC:∀s,Pc ext 298 [.sc (.string b),iN a] (.agg [.sc (.slice none 0 0),iN x,iN e]) s) (s:PS):Pc ext 280 [.sc (.string b),iN a,iN p,iN lv] (bS (.error (x,e))) s:=by
 have g0:(bt b.data.toList a == 92)=false:=by rw [h]; rfl
 have g1:(bt b.data.toList a == 96)=true:=by rw [h]; rfl
 have g2:(bt b.data.toList a == 36)=false:=by rw [h]; rfl
 have g3:(bt b.data.toList a == 39)=false:=by rw [h]; rfl
 have g4:(bt b.data.toList a == 34)=false:=by rw [h]; rfl
 refine qC (s.n) jo 8 3 ?_;unfold jo;have n0:a < b.data.toList.length:=om;exact ug @aY @aG @aF @aE @aI @aq @ax @aA @az @aP @aM g0 g1 g2 g3 g4 n0 hC tv
theorem Lf (hb:b.data.toList.length < 1000000000) {a p lv:Nat} (hp:p≤6) (hl:a < b.data.toList.length) (h:bt b.data.toList a=36) (ps:List aS) (j:Nat) (hC:∀s,Pc ext 299 [.sc (.string b),iN a,iN p,iN lv] (.agg [dl ps,iN j,.sc (.int .i64 0)]) s) (s:PS):Pc ext 280 [.sc (.string b),iN a,iN p,iN lv] (bS (.ok (ps,j))) s:=by
 have g0:(bt b.data.toList a == 92)=false:=by rw [h]; rfl
 have g1:(bt b.data.toList a == 96)=false:=by rw [h]; rfl
 have g2:(bt b.data.toList a == 36)=true:=by rw [h]; rfl
 have g3:(bt b.data.toList a == 39)=false:=by rw [h]; rfl
 have g4:(bt b.data.toList a == 34)=false:=by rw [h]; rfl
 refine qC (s.n) jo 8 3 ?_;unfold jo;have n0:a < b.data.toList.length:=om;exact ug @aY @aG @aF @aE @aI @aq @ax @aA @az @aP @aM g0 g1 g2 g3 g4 n0 hC tv
theorem Ix (hb:b.data.toList.length < 1000000000) {a p lv:Nat} (hp:p≤6) (hl:a < b.data.toList.length) (h:bt b.data.toList a=36) (x e:Nat) (hC:∀s,Pc ext 299 [.sc (.string b),iN a,iN p,iN lv] (.agg [.sc (.slice none 0 0),iN x,iN e]) s) (s:PS):Pc ext 280 [.sc (.string b),iN a,iN p,iN lv] (bS (.error (x,e))) s:=by
 have g0:(bt b.data.toList a == 92)=false:=by rw [h]; rfl
 have g1:(bt b.data.toList a == 96)=false:=by rw [h]; rfl
 have g2:(bt b.data.toList a == 36)=true:=by rw [h]; rfl
 have g3:(bt b.data.toList a == 39)=false:=by rw [h]; rfl
 have g4:(bt b.data.toList a == 34)=false:=by rw [h]; rfl
 refine qC (s.n) jo 8 3 ?_;unfold jo;have n0:a < b.data.toList.length:=om;exact ug @aY @aG @aF @aE @aI @aq @ax @aA @az @aP @aM g0 g1 g2 g3 g4 n0 hC tv
theorem H9 (hb:b.data.toList.length < 1000000000) {a p lv:Nat} (hp:p≤6) (hl:a < b.data.toList.length) (h:bt b.data.toList a=39) (h2:dh p=true) (ps:List aS) (j:Nat) (hC:∀s,Pc ext 300 [.sc (.string b),iN a,iN lv] (.agg [dl ps,iN j,.sc (.int .i64 0)]) s) (s:PS):Pc ext 280 [.sc (.string b),iN a,iN p,iN lv] (bS (.ok (ps,j))) s:=by
 have g0:(bt b.data.toList a == 92)=false:=by rw [h]; rfl
 have g1:(bt b.data.toList a == 96)=false:=by rw [h]; rfl
 have g2:(bt b.data.toList a == 36)=false:=by rw [h]; rfl
 have g3:(bt b.data.toList a == 39)=true:=by rw [h]; rfl
 have g4:(bt b.data.toList a == 34)=false:=by rw [h]; rfl
 have g5:(dh p)=true:=h2;refine qC (s.n) jo 8 3 ?_;unfold jo;have n0:a < b.data.toList.length:=om;have f0:=fun s=>br (ext:=ext) hp s;exact qx @aY @aG @aF @aE @aI @aq @ax @aA @az @aP @aM g0 g1 g2 g3 g4 g5 n0 f0 hC tv tv
theorem Gl (hb:b.data.toList.length < 1000000000) {a p lv:Nat} (hp:p≤6) (hl:a < b.data.toList.length) (h:bt b.data.toList a=39) (h2:dh p=true) (x e:Nat) (hC:∀s,Pc ext 300 [.sc (.string b),iN a,iN lv] (.agg [.sc (.slice none 0 0),iN x,iN e]) s) (s:PS):Pc ext 280 [.sc (.string b),iN a,iN p,iN lv] (bS (.error (x,e))) s:=by
 have g0:(bt b.data.toList a == 92)=false:=by rw [h]; rfl
 have g1:(bt b.data.toList a == 96)=false:=by rw [h]; rfl
 have g2:(bt b.data.toList a == 36)=false:=by rw [h]; rfl
 have g3:(bt b.data.toList a == 39)=true:=by rw [h]; rfl
 have g4:(bt b.data.toList a == 34)=false:=by rw [h]; rfl
 have g5:(dh p)=true:=h2;refine qC (s.n) jo 8 3 ?_;unfold jo;have n0:a < b.data.toList.length:=om;have f0:=fun s=>br (ext:=ext) hp s;exact qx @aY @aG @aF @aE @aI @aq @ax @aA @az @aP @aM g0 g1 g2 g3 g4 g5 n0 f0 hC tv tv
theorem I5 (hb:b.data.toList.length < 1000000000) {a p lv:Nat} (hp:p≤6) (hl:a < b.data.toList.length) (h:bt b.data.toList a=34) (h2:dh p=true) (ps:List aS) (j:Nat) (hC:∀s,Pc ext 300 [.sc (.string b),iN a,iN lv] (.agg [dl ps,iN j,.sc (.int .i64 0)]) s) (s:PS):Pc ext 280 [.sc (.string b),iN a,iN p,iN lv] (bS (.ok (ps,j))) s:=by
 have g0:(bt b.data.toList a == 92)=false:=by rw [h]; rfl
 have g1:(bt b.data.toList a == 96)=false:=by rw [h]; rfl
 have g2:(bt b.data.toList a == 36)=false:=by rw [h]; rfl
 have g3:(bt b.data.toList a == 39)=false:=by rw [h]; rfl
 have g4:(bt b.data.toList a == 34)=true:=by rw [h]; rfl
 have g5:(dh p)=true:=h2;refine qC (s.n) jo 8 3 ?_;unfold jo;have n0:a < b.data.toList.length:=om;have f0:=fun s=>br (ext:=ext) hp s;exact qx @aY @aG @aF @aE @aI @aq @ax @aA @az @aP @aM g0 g1 g2 g3 g4 g5 n0 f0 hC tv tv
theorem GH (hb:b.data.toList.length < 1000000000) {a p lv:Nat} (hp:p≤6) (hl:a < b.data.toList.length) (h:bt b.data.toList a=34) (h2:dh p=true) (x e:Nat) (hC:∀s,Pc ext 300 [.sc (.string b),iN a,iN lv] (.agg [.sc (.slice none 0 0),iN x,iN e]) s) (s:PS):Pc ext 280 [.sc (.string b),iN a,iN p,iN lv] (bS (.error (x,e))) s:=by
 have g0:(bt b.data.toList a == 92)=false:=by rw [h]; rfl
 have g1:(bt b.data.toList a == 96)=false:=by rw [h]; rfl
 have g2:(bt b.data.toList a == 36)=false:=by rw [h]; rfl
 have g3:(bt b.data.toList a == 39)=false:=by rw [h]; rfl
 have g4:(bt b.data.toList a == 34)=true:=by rw [h]; rfl
 have g5:(dh p)=true:=h2;refine qC (s.n) jo 8 3 ?_;unfold jo;have n0:a < b.data.toList.length:=om;have f0:=fun s=>br (ext:=ext) hp s;exact qx @aY @aG @aF @aE @aI @aq @ax @aA @az @aP @aM g0 g1 g2 g3 g4 g5 n0 f0 hC tv tv
theorem Uj (hb:b.data.toList.length < 1000000000) {a lv:Nat} (hl:a < b.data.toList.length) (h:cu (bt b.data.toList a)=true) (s:PS):Pc ext 280 [.sc (.string b),iN a,iN (0:Nat),iN lv] (bS (.error (a,6))) s:=by
 have hp : 0≤6:=om;have g0:(bt b.data.toList a == 92)=false:=beq_eq_false_iff_ne.2 fun hh=>by rw [hh] at h; cases h
 have g1:(bt b.data.toList a == 96)=false:=beq_eq_false_iff_ne.2 fun hh=>by rw [hh] at h; cases h
 have g2:(bt b.data.toList a == 36)=false:=beq_eq_false_iff_ne.2 fun hh=>by rw [hh] at h; cases h
 have g3:(bt b.data.toList a == 39)=false:=beq_eq_false_iff_ne.2 fun hh=>by rw [hh] at h; cases h
 have g4:(bt b.data.toList a == 34)=false:=beq_eq_false_iff_ne.2 fun hh=>by rw [hh] at h; cases h
 have g5:(dh 0)=true:=rfl;have hbr:cu (bt b.data.toList a)=(fA (bt b.data.toList a) || bt b.data.toList a == 10 || dE (bt b.data.toList a)):=rfl;rw [hbr] at h;refine qC (s.n) jo 8 3 ?_;unfold jo;cases c1:fA (bt b.data.toList a) with
 | false=>
  cases c2:bt b.data.toList a == 10 with
  | false=>
   have c2p:=aj c2;cases c3:dE (bt b.data.toList a) with
   | false=>
    have n0:a < b.data.toList.length:=om;have n1:a≤a + 1:=om;have n2:a + 1≤b.data.toList.length:=om;have f0:=fun s=>br (ext:=ext) hp s;simp -implicitDefEqProofs (disch:=omega) only [ZA,Nat.reduceAdd,Nat.reduceEqDiff,↓reduceIte,Nat.reduceLeDiff,reduceCtorEq,Nat.reduceBEq,Nat.reduceLT,bE,cg,cI,aW,cP,b9,cV,bz,frz,cT,cM,er,fV,aY,List.all_cons,List.all_nil,Bool.and_self,aG,aF,aE,aI,List.drop_nil,List.take_nil,aq,ax,js,i6,aA,az,aP,aM,g0,g1,g2,g3,g4,g5,c1,c2,c3,n0,n1,n2,f0,dK,dy]
    all_goals first | exact⟨_,_,_,rfl,rfl,Nat.le_refl _,rfl⟩ | exact⟨_,_,_,rfl,rfl,Nat.le_refl _,bP (bu _ _ _)⟩ | (simp_all; done)
   | true=>
    have n0:a < b.data.toList.length:=om;have f0:=fun s=>br (ext:=ext) hp s;simp -implicitDefEqProofs (disch:=omega) only [ZA,Nat.reduceAdd,Nat.reduceEqDiff,↓reduceIte,Nat.reduceLeDiff,reduceCtorEq,Nat.reduceBEq,Nat.reduceLT,bE,cg,cI,aW,cP,b9,cV,bz,frz,cT,cM,er,fV,aY,List.all_cons,List.all_nil,Bool.and_self,aG,aF,aE,aI,List.drop_nil,List.take_nil,aq,ax,js,i6,aA,az,aP,aM,g0,g1,g2,g3,g4,g5,c1,c2,c3,n0,f0,dK,dy]
    all_goals first | exact⟨_,_,_,rfl,rfl,Nat.le_refl _,rfl⟩ | exact⟨_,_,_,rfl,rfl,Nat.le_refl _,bP (bu _ _ _)⟩ | (simp_all; done)
  | true=>
   have c2p:=eq_of_beq c2;have n0:a < b.data.toList.length:=om;have f0:=fun s=>br (ext:=ext) hp s;simp -implicitDefEqProofs (disch:=omega) only [ZA,Nat.reduceAdd,Nat.reduceEqDiff,↓reduceIte,Nat.reduceLeDiff,reduceCtorEq,Nat.reduceBEq,Nat.reduceLT,bE,cg,cI,aW,cP,b9,cV,bz,frz,cT,cM,er,fV,aY,List.all_cons,List.all_nil,Bool.and_self,aG,aF,aE,aI,List.drop_nil,List.take_nil,aq,ax,js,i6,aA,az,aP,aM,g0,g1,g2,g3,g4,g5,c1,c2,n0,f0,dK]
   all_goals first | exact⟨_,_,_,rfl,rfl,Nat.le_refl _,rfl⟩ | exact⟨_,_,_,rfl,rfl,Nat.le_refl _,bP (bu _ _ _)⟩ | (simp_all; done)
 | true=>
  have n0:a < b.data.toList.length:=om;have f0:=fun s=>br (ext:=ext) hp s;simp -implicitDefEqProofs (disch:=omega) only [ZA,Nat.reduceAdd,Nat.reduceEqDiff,↓reduceIte,Nat.reduceLeDiff,reduceCtorEq,Nat.reduceBEq,Nat.reduceLT,bE,cg,cI,aW,cP,b9,cV,bz,frz,cT,cM,er,fV,aY,List.all_cons,List.all_nil,Bool.and_self,aG,aF,aE,aI,List.drop_nil,List.take_nil,aq,ax,js,i6,aA,az,aP,aM,g0,g1,g2,g3,g4,g5,c1,n0,f0,dK]
  all_goals first | exact⟨_,_,_,rfl,rfl,Nat.le_refl _,rfl⟩ | exact⟨_,_,_,rfl,rfl,Nat.le_refl _,bP (bu _ _ _)⟩ | (simp_all; done)
theorem QZ (hb:b.data.toList.length < 1000000000) {a lv:Nat} (hl:a < b.data.toList.length) (h:bt b.data.toList a=34) (s:PS):Pc ext 280 [.sc (.string b),iN a,iN (3:Nat),iN lv] (bS (.error (a,6))) s:=by
 have hp : 3≤6:=om;have g0:(bt b.data.toList a == 92)=false:=by rw [h]; rfl
 have g1:(bt b.data.toList a == 96)=false:=by rw [h]; rfl
 have g2:(bt b.data.toList a == 36)=false:=by rw [h]; rfl
 have g3:(bt b.data.toList a == 39)=false:=by rw [h]; rfl
 have g4:(bt b.data.toList a == 34)=true:=by rw [h]; rfl
 have g5:(dh 3)=false:=rfl;refine qC (s.n) jo 8 3 ?_;unfold jo;have n0:a < b.data.toList.length:=om;have f0:=fun s=>br (ext:=ext) hp s;simp -implicitDefEqProofs (disch:=omega) only [ZA,Nat.reduceAdd,Nat.reduceEqDiff,↓reduceIte,Nat.reduceLeDiff,reduceCtorEq,Nat.reduceBEq,Nat.reduceLT,bE,cg,cI,aW,cP,b9,cV,bz,frz,cT,cM,er,fV,aY,List.all_cons,List.all_nil,Bool.and_self,aG,aF,aE,aI,List.drop_nil,List.take_nil,aq,ax,js,i6,aA,az,aP,aM,g0,g1,g2,g3,g4,g5,n0,f0]
 all_goals first | exact⟨_,_,_,rfl,rfl,Nat.le_refl _,rfl⟩ | exact⟨_,_,_,rfl,rfl,Nat.le_refl _,bP (bu _ _ _)⟩
theorem N5 (hb:b.data.toList.length < 1000000000) {a lv:Nat} (hl:a < b.data.toList.length) (h1:bt b.data.toList a≠92) (h2:bt b.data.toList a≠96) (h3:bt b.data.toList a≠36) (h4:bt b.data.toList a≠39) (h5:bt b.data.toList a≠34) (h6:fA (bt b.data.toList a)=false) (h7:(bt b.data.toList a == 10)=false) (h8:dE (bt b.data.toList a)=false) (s:PS):Pc ext 280 [.sc (.string b),iN a,iN (0:Nat),iN lv] (bS (.ok ([gn (sub b.data.toList a (a + 1))],a + 1))) s:=by
 have hp : 0≤6:=om;have g0:(bt b.data.toList a == 92)=false:=beq_eq_false_iff_ne.2 (h1);have g1:(bt b.data.toList a == 96)=false:=beq_eq_false_iff_ne.2 (h2);have g2:(bt b.data.toList a == 36)=false:=beq_eq_false_iff_ne.2 (h3);have g3:(bt b.data.toList a == 39)=false:=beq_eq_false_iff_ne.2 (h4);have g4:(bt b.data.toList a == 34)=false:=beq_eq_false_iff_ne.2 (h5);have g5:(dh 0)=true:=rfl;have g6:(fA (bt b.data.toList a))=false:=h6;have g7:(bt b.data.toList a == 10)=false:=h7;have g8:(dE (bt b.data.toList a))=false:=h8;refine qC (s.n) jo 8 3 ?_;unfold jo;have n0:a < b.data.toList.length:=om;have n1:a≤a + 1:=om;have n2:a + 1≤b.data.toList.length:=om;have f0:=fun s=>br (ext:=ext) hp s;simp -implicitDefEqProofs (disch:=omega) only [ZA,Nat.reduceAdd,Nat.reduceEqDiff,↓reduceIte,Nat.reduceLeDiff,reduceCtorEq,Nat.reduceBEq,Nat.reduceLT,bE,cg,cI,aW,cP,b9,cV,bz,frz,cT,cM,er,fV,aY,List.all_cons,List.all_nil,Bool.and_self,aG,aF,aE,aI,List.drop_nil,List.take_nil,aq,ax,js,i6,aA,az,aP,aM,g0,g1,g2,g3,g4,g5,g6,g7,g8,n0,n1,n2,f0,dK,dy]
 all_goals first | exact⟨_,_,_,rfl,rfl,Nat.le_refl _,rfl⟩ | exact⟨_,_,_,rfl,rfl,Nat.le_refl _,bP (bu _ _ _)⟩
theorem SS (hb:b.data.toList.length < 1000000000) {a p lv:Nat} (hp:p≤6) (hl:a < b.data.toList.length) (h1:bt b.data.toList a≠92) (h2:bt b.data.toList a≠96) (h3:bt b.data.toList a≠36) (h4:dh p=true→bt b.data.toList a≠39∧bt b.data.toList a≠34) (h5:p≠0) (h6:p=3→bt b.data.toList a≠34) (s:PS):Pc ext 280 [.sc (.string b),iN a,iN p,iN lv] (bS (.ok ([gn (sub b.data.toList a (a + 1))],a + 1))) s:=by
 have g0:(bt b.data.toList a == 92)=false:=beq_eq_false_iff_ne.2 (h1);have g1:(bt b.data.toList a == 96)=false:=beq_eq_false_iff_ne.2 (h2);have g2:(bt b.data.toList a == 36)=false:=beq_eq_false_iff_ne.2 (h3);have g3:(p == 0)=false:=beq_eq_false_iff_ne.2 h5;refine qC (s.n) jo 8 3 ?_;unfold jo;cases c1:dh p with
 | false=>
  cases c2:p == 3 with
  | false=>
   have c2p:=aj c2;have n0:a < b.data.toList.length:=om;have n1:a≤a + 1:=om;have n2:a + 1≤b.data.toList.length:=om;have f0:=fun s=>br (ext:=ext) hp s;simp -implicitDefEqProofs (disch:=omega) only [ZS,seval,ZX,aY,aG,aF,aE,aI,aq,ax,aA,az,aP,aM,g0,g1,g2,g3,c1,c2,n0,n1,n2,f0]
   all_goals first | exact⟨_,_,_,rfl,rfl,Nat.le_refl _,rfl⟩ | exact⟨_,_,_,rfl,rfl,Nat.le_refl _,bP (bu _ _ _)⟩ | (exact absurd (by assumption) (h6 (by assumption)))
  | true=>
   have c2p:=eq_of_beq c2;cases c3:bt b.data.toList a == 34 with
   | false=>
    have c3p:=aj c3;have n0:a < b.data.toList.length:=om;have n1:a≤a + 1:=om;have n2:a + 1≤b.data.toList.length:=om;have f0:=fun s=>br (ext:=ext) hp s;simp -implicitDefEqProofs (disch:=omega) only [ZS,seval,ZX,aY,aG,aF,aE,aI,aq,ax,aA,az,aP,aM,g0,g1,g2,g3,c1,c2,c3,n0,n1,n2,f0]
    all_goals first | exact⟨_,_,_,rfl,rfl,Nat.le_refl _,rfl⟩ | exact⟨_,_,_,rfl,rfl,Nat.le_refl _,bP (bu _ _ _)⟩ | (exact absurd (by assumption) (h6 (by assumption)))
   | true=>
    have c3p:=eq_of_beq c3;have n0:a < b.data.toList.length:=om;have f0:=fun s=>br (ext:=ext) hp s;simp -implicitDefEqProofs (disch:=omega) only [ZS,seval,ZX,aY,aG,aF,aE,aI,aq,ax,aA,az,aP,aM,g0,g1,g2,g3,c1,c2,c3,n0,f0]
    all_goals first | exact⟨_,_,_,rfl,rfl,Nat.le_refl _,rfl⟩ | exact⟨_,_,_,rfl,rfl,Nat.le_refl _,bP (bu _ _ _)⟩ | (exact absurd (by assumption) (h6 (by assumption)))
 | true=>
  cases c4:bt b.data.toList a == 39 with
  | false=>
   have c4p:=aj c4;cases c5:bt b.data.toList a == 34 with
   | false=>
    have c5p:=aj c5;cases c6:p == 3 with
    | false=>
     have c6p:=aj c6;have n0:a < b.data.toList.length:=om;have n1:a≤a + 1:=om;have n2:a + 1≤b.data.toList.length:=om;have f0:=fun s=>br (ext:=ext) hp s;simp -implicitDefEqProofs (disch:=omega) only [ZS,seval,ZX,aY,aG,aF,aE,aI,aq,ax,aA,az,aP,aM,g0,g1,g2,g3,c1,c4,c5,c6,n0,n1,n2,f0]
     all_goals first | exact⟨_,_,_,rfl,rfl,Nat.le_refl _,rfl⟩ | exact⟨_,_,_,rfl,rfl,Nat.le_refl _,bP (bu _ _ _)⟩ | (exact absurd (by assumption) (h6 (by assumption)))
    | true=>
     have c6p:=eq_of_beq c6;have n0:a < b.data.toList.length:=om;have n1:a≤a + 1:=om;have n2:a + 1≤b.data.toList.length:=om;have f0:=fun s=>br (ext:=ext) hp s;simp -implicitDefEqProofs (disch:=omega) only [ZS,seval,ZX,aY,aG,aF,aE,aI,aq,ax,aA,az,aP,aM,g0,g1,g2,g3,c1,c4,c5,c6,n0,n1,n2,f0]
     all_goals first | exact⟨_,_,_,rfl,rfl,Nat.le_refl _,rfl⟩ | exact⟨_,_,_,rfl,rfl,Nat.le_refl _,bP (bu _ _ _)⟩ | (exact absurd (by assumption) (h6 (by assumption)))
   | true=>
    have c5p:=eq_of_beq c5
    first | exact absurd (by assumption) (h4 (by assumption)).1 | exact absurd (by assumption) (h4 (by assumption)).2 | exact absurd (by assumption) (h6 (by assumption))
  | true=>
   have c4p:=eq_of_beq c4
   first | exact absurd (by assumption) (h4 (by assumption)).1 | exact absurd (by assumption) (h4 (by assumption)).2 | exact absurd (by assumption) (h6 (by assumption))
theorem V9 (hb:b.data.toList.length < 1000000000) {a lv r:Nat} (hl:a < b.data.toList.length) (h:bt b.data.toList a=39) (h2:a + 2≤r) (h3:r≤b.data.toList.length) (hP:∀s,Pc ext 313 [.sc (.string b),iN a,.sc (.int .i64 0)] (.tup [iN r,.sc (.int .i64 0)]) s) (s:PS):Pc ext 300 [.sc (.string b),iN a,iN lv] (bS (.ok ([ux (sub b.data.toList (a + 1) (r - 1))],r))) s:=by
 have g0:(bt b.data.toList a == 39)=true:=by rw [h]; rfl
 refine qC (s.n) uY 6 3 ?_;unfold uY;have n0:a < b.data.toList.length:=om;have n1 : 1≤r:=om;have n2:a + 1≤r - 1:=om;have n3:r - 1≤b.data.toList.length:=om;exact ug @aY @aG @aF @aE @aI @aq @ax @aA @az @aP @aM g0 n0 n1 n2 n3 hP tv tv
theorem Rc (hb:b.data.toList.length < 1000000000) {a lv r e:Nat} (hl:a < b.data.toList.length) (h:bt b.data.toList a=39) (he:e≠0) (hP:∀s,Pc ext 313 [.sc (.string b),iN a,.sc (.int .i64 0)] (.tup [iN r,iN e]) s) (s:PS):Pc ext 300 [.sc (.string b),iN a,iN lv] (bS (.error (r,e))) s:=by
 have g0:(bt b.data.toList a == 39)=true:=by rw [h]; rfl
 have g1:(e == 0)=false:=beq_eq_false_iff_ne.2 he;refine qC (s.n) uY 6 3 ?_;unfold uY;have n0:a < b.data.toList.length:=om;exact Dt @aY @aG @aF @aE @aI @aq @ax @aA @az @aP @aM g0 g1 n0 hP tv
theorem OO (hb:b.data.toList.length < 1000000000) {a lv:Nat} (hl:a < b.data.toList.length) (h:bt b.data.toList a=34) (h2 : 32≤lv) (s:PS):Pc ext 300 [.sc (.string b),iN a,iN lv] (bS (.error (a,5))) s:=by
 have g0:(bt b.data.toList a == 39)=false:=by rw [h]; rfl
 have g1:(decide (32≤lv))=true:=decide_eq_true h2;refine qC (s.n) uY 6 3 ?_;unfold uY;have n0:a < b.data.toList.length:=om;exact V6 @aY @aG @aF @aE @aI @aq @ax @aA @az @aP @aM g0 g1 n0
theorem Va (hb:b.data.toList.length < 1000000000) {a lv:Nat} (hl:a < b.data.toList.length) (h:bt b.data.toList a=34) (h2:lv < 32) (ps:List aS) (j:Nat) (hj:j≤b.data.toList.length) (hC:∀s,Pc ext 264 [.sc (.string b),iN (a + 1:Nat),.sc (.int .i64 2),iN (lv + 1:Nat),iN a] (.agg [dl ps,iN j,.sc (.int .i64 0)]) s) (s:PS):Pc ext 300 [.sc (.string b),iN a,iN lv] (bS (.ok ([.mk 3 [] 0 false ps],j + 1))) s:=by
 have g0:(bt b.data.toList a == 39)=false:=by rw [h]; rfl
 have g1:(decide (32≤lv))=false:=df;refine qC (s.n) uY 6 3 ?_;unfold uY;have n0:a < b.data.toList.length:=om;exact Dt @aY @aG @aF @aE @aI @aq @ax @aA @az @aP @aM g0 g1 n0 hC tv
theorem Qa (hb:b.data.toList.length < 1000000000) {a lv:Nat} (hl:a < b.data.toList.length) (h:bt b.data.toList a=34) (h2:lv < 32) (x e:Nat) (he:e≠0) (hC:∀s,Pc ext 264 [.sc (.string b),iN (a + 1:Nat),.sc (.int .i64 2),iN (lv + 1:Nat),iN a] (.agg [.sc (.slice none 0 0),iN x,iN e]) s) (s:PS):Pc ext 300 [.sc (.string b),iN a,iN lv] (bS (.error (x,e))) s:=by
 have g0:(bt b.data.toList a == 39)=false:=by rw [h]; rfl
 have g1:(decide (32≤lv))=false:=df;have g2:(e == 0)=false:=beq_eq_false_iff_ne.2 he;refine qC (s.n) uY 6 3 ?_;unfold uY;have n0:a < b.data.toList.length:=om;exact Dt @aY @aG @aF @aE @aI @aq @ax @aA @az @aP @aM g0 g1 g2 n0 hC
theorem GR (hb:b.data.toList.length < 1000000000) {a p lv:Nat} (hp:p≤6) (hl:a < b.data.toList.length) (h:cG b.data.toList a=true) (ps:List aS) (j:Nat) (hC:∀s,Pc ext 316 [.sc (.string b),iN a,iN p,iN lv] (.agg [dl ps,iN j,.sc (.int .i64 0)]) s) (s:PS):Pc ext 299 [.sc (.string b),iN a,iN p,iN lv] (bS (.ok (ps,j))) s:=by
 have hB:=hb
 replace hb:b.data.toList.length < 4611686018427387904:=om
 have g0:(cG b.data.toList (a))=true:=h;refine qC (s.n) vJ 8 3 ?_;unfold vJ;have n0:a≤b.data.toList.length:=om;have f0:=fun s=>dw (ext:=ext) hb (i:=a) om s;exact Dt @aY @aG @aF @aE @aI @aq @ax @aA @az @aP @aM g0 n0 f0 hC tv
theorem Ge (hb:b.data.toList.length < 1000000000) {a p lv:Nat} (hp:p≤6) (hl:a < b.data.toList.length) (h:cG b.data.toList a=true) (x e:Nat) (hC:∀s,Pc ext 316 [.sc (.string b),iN a,iN p,iN lv] (.agg [.sc (.slice none 0 0),iN x,iN e]) s) (s:PS):Pc ext 299 [.sc (.string b),iN a,iN p,iN lv] (bS (.error (x,e))) s:=by
 have hB:=hb
 replace hb:b.data.toList.length < 4611686018427387904:=om
 have g0:(cG b.data.toList (a))=true:=h;refine qC (s.n) vJ 8 3 ?_;unfold vJ;have n0:a≤b.data.toList.length:=om;have f0:=fun s=>dw (ext:=ext) hb (i:=a) om s;exact Dt @aY @aG @aF @aE @aI @aq @ax @aA @az @aP @aM g0 n0 f0 hC tv
theorem Mo (hb:b.data.toList.length < 1000000000) {a p lv:Nat} (hp:p≤6) (hl:a < b.data.toList.length) (h2:cG b.data.toList a=false) (h3:dh p=true) (h4:a + 1 < b.data.toList.length) (h5:bt b.data.toList (a + 1)=96) (s:PS):Pc ext 299 [.sc (.string b),iN a,iN p,iN lv] (bS (.error (a,6))) s:=by
 have hB:=hb
 replace hb:b.data.toList.length < 4611686018427387904:=om
 have g0:(cG b.data.toList (a))=false:=h2;have g1:(dh p)=true:=h3;have g2:(decide (a + 1 < b.data.toList.length))=true:=decide_eq_true h4;have g3:(bt b.data.toList (a + 1) == 96)=true:=by rw [h5]; rfl
 refine qC (s.n) vJ 8 3 ?_;unfold vJ;have n0:a≤b.data.toList.length:=om;have n1:a + 1 < b.data.toList.length:=om;have f0:=fun s=>dw (ext:=ext) hb (i:=a) om s;have f1:=fun s=>br (ext:=ext) hp s;exact ug @aY @aG @aF @aE @aI @aq @ax @aA @az @aP @aM g0 g1 g2 g3 n0 n1 f0 f1
theorem Ob (hb:b.data.toList.length < 1000000000) {a p lv:Nat} (hp:p≤6) (hl:a < b.data.toList.length) (h2:cG b.data.toList a=false) (h3:dh p=true) (h5:cX b.data.toList (a + 1)=true) (s:PS):Pc ext 299 [.sc (.string b),iN a,iN p,iN lv] (bS (.error (a,6))) s:=by
 have hB:=hb
 replace hb:b.data.toList.length < 4611686018427387904:=om
 have hj1:=ij h5;have g0:(cG b.data.toList (a))=false:=h2;have g1:(dh p)=true:=h3;have g2:(decide (a + 1 < b.data.toList.length))=true:=decide_eq_true (by have:=ij h5; omega);have g3:(bt b.data.toList (a + 1) == 96)=false:=by rw [(AM h5).1]; rfl
 have g4:(cX b.data.toList (a + 1))=true:=h5;refine qC (s.n) vJ 8 3 ?_;unfold vJ;have n0:a≤b.data.toList.length:=om;have n1:a + 1 < b.data.toList.length:=om;have n2:a + 1≤b.data.toList.length:=om;have f0:=fun s=>dw (ext:=ext) hb (i:=a) om s;have f1:=fun s=>br (ext:=ext) hp s;have f2:=fun s=>gR (ext:=ext) hb (i:=a + 1) om s;exact qx @aY @aG @aF @aE @aI @aq @ax @aA @az @aP @aM g0 g1 g2 g3 g4 n0 n1 n2 f0 f1 f2
theorem QX (hb:b.data.toList.length < 1000000000) {a p lv:Nat} (hp:p≤6) (hl:a < b.data.toList.length) (h2:cG b.data.toList a=false) (h3:dh p=true→¬ (a + 1 < b.data.toList.length∧bt b.data.toList (a + 1)=96)∧cX b.data.toList (a + 1)=false) (s:PS):Pc ext 299 [.sc (.string b),iN a,iN p,iN lv] (bS (.ok ([gn [36]],a + 1))) s:=by
 have hB:=hb
 replace hb:b.data.toList.length < 4611686018427387904:=om
 have g0:(cG b.data.toList (a))=false:=h2;refine qC (s.n) vJ 8 3 ?_;unfold vJ;cases c1:dh p with
 | false=>
  have n0:a≤b.data.toList.length:=om;have f0:=fun s=>dw (ext:=ext) hb (i:=a) om s;have f1:=fun s=>br (ext:=ext) hp s;simp -implicitDefEqProofs (disch:=omega) only [ZS,seval,ZX,aY,aG,aF,aE,aI,aq,ax,aA,az,aP,aM,g0,c1,n0,f0,f1]
  all_goals first | exact⟨_,_,_,rfl,rfl,Nat.le_refl _,rfl⟩ | exact⟨_,_,_,rfl,rfl,Nat.le_refl _,bP (bu _ _ _)⟩ | (exact absurd ⟨by assumption,by assumption⟩ (h3 (by assumption)).1) | (exact absurd ((h3 (by assumption)).2.symm.trans (by assumption)) (by decide))
 | true=>
  cases c2:decide (a + 1 < b.data.toList.length) with
  | false=>
   have c2p:=of_decide_eq_false c2;cases c3:cX b.data.toList (a + 1) with
   | false=>
    have n0:a≤b.data.toList.length:=om;have n1:a + 1≤b.data.toList.length:=om;have f0:=fun s=>dw (ext:=ext) hb (i:=a) om s;have f1:=fun s=>br (ext:=ext) hp s;have f2:=fun s=>gR (ext:=ext) hb (i:=a + 1) om s;simp -implicitDefEqProofs (disch:=omega) only [ZS,seval,ZX,aY,aG,aF,aE,aI,aq,ax,aA,az,aP,aM,g0,c1,c2,c3,n0,n1,f0,f1,f2]
    all_goals first | exact⟨_,_,_,rfl,rfl,Nat.le_refl _,rfl⟩ | exact⟨_,_,_,rfl,rfl,Nat.le_refl _,bP (bu _ _ _)⟩ | (exact absurd ⟨by assumption,by assumption⟩ (h3 (by assumption)).1) | (exact absurd ((h3 (by assumption)).2.symm.trans (by assumption)) (by decide))
   | true=>
    have n0:a≤b.data.toList.length:=om;have n1:a + 1≤b.data.toList.length:=om;have f0:=fun s=>dw (ext:=ext) hb (i:=a) om s;have f1:=fun s=>br (ext:=ext) hp s;have f2:=fun s=>gR (ext:=ext) hb (i:=a + 1) om s;simp -implicitDefEqProofs (disch:=omega) only [ZS,seval,ZX,aY,aG,aF,aE,aI,aq,ax,aA,az,aP,aM,g0,c1,c2,c3,n0,n1,f0,f1,f2]
    all_goals first | exact⟨_,_,_,rfl,rfl,Nat.le_refl _,rfl⟩ | exact⟨_,_,_,rfl,rfl,Nat.le_refl _,bP (bu _ _ _)⟩ | (exact absurd ⟨by assumption,by assumption⟩ (h3 (by assumption)).1) | (exact absurd ((h3 (by assumption)).2.symm.trans (by assumption)) (by decide))
  | true=>
   have c2p:=of_decide_eq_true c2;cases c4:bt b.data.toList (a + 1) == 96 with
   | false=>
    have c4p:=aj c4;cases c5:cX b.data.toList (a + 1) with
    | false=>
     have n0:a≤b.data.toList.length:=om;have n1:a + 1 < b.data.toList.length:=om;have n2:a + 1≤b.data.toList.length:=om;have f0:=fun s=>dw (ext:=ext) hb (i:=a) om s;have f1:=fun s=>br (ext:=ext) hp s;have f2:=fun s=>gR (ext:=ext) hb (i:=a + 1) om s;simp -implicitDefEqProofs (disch:=omega) only [ZS,seval,ZX,aY,aG,aF,aE,aI,aq,ax,aA,az,aP,aM,g0,c1,c2,c4,c5,n0,n1,n2,f0,f1,f2]
     all_goals first | exact⟨_,_,_,rfl,rfl,Nat.le_refl _,rfl⟩ | exact⟨_,_,_,rfl,rfl,Nat.le_refl _,bP (bu _ _ _)⟩ | (exact absurd ⟨by assumption,by assumption⟩ (h3 (by assumption)).1) | (exact absurd ((h3 (by assumption)).2.symm.trans (by assumption)) (by decide))
    | true=>
     have n0:a≤b.data.toList.length:=om;have n1:a + 1 < b.data.toList.length:=om;have n2:a + 1≤b.data.toList.length:=om;have f0:=fun s=>dw (ext:=ext) hb (i:=a) om s;have f1:=fun s=>br (ext:=ext) hp s;have f2:=fun s=>gR (ext:=ext) hb (i:=a + 1) om s;simp -implicitDefEqProofs (disch:=omega) only [ZS,seval,ZX,aY,aG,aF,aE,aI,aq,ax,aA,az,aP,aM,g0,c1,c2,c4,c5,n0,n1,n2,f0,f1,f2]
     all_goals first | exact⟨_,_,_,rfl,rfl,Nat.le_refl _,rfl⟩ | exact⟨_,_,_,rfl,rfl,Nat.le_refl _,bP (bu _ _ _)⟩ | (exact absurd ⟨by assumption,by assumption⟩ (h3 (by assumption)).1) | (exact absurd ((h3 (by assumption)).2.symm.trans (by assumption)) (by decide))
   | true=>
    have c4p:=eq_of_beq c4;have n0:a≤b.data.toList.length:=om;have n1:a + 1 < b.data.toList.length:=om;have f0:=fun s=>dw (ext:=ext) hb (i:=a) om s;have f1:=fun s=>br (ext:=ext) hp s;simp -implicitDefEqProofs (disch:=omega) only [ZS,seval,ZX,aY,aG,aF,aE,aI,aq,ax,aA,az,aP,aM,g0,c1,c2,c4,n0,n1,f0,f1]
    all_goals first | exact⟨_,_,_,rfl,rfl,Nat.le_refl _,rfl⟩ | exact⟨_,_,_,rfl,rfl,Nat.le_refl _,bP (bu _ _ _)⟩ | (exact absurd ⟨by assumption,by assumption⟩ (h3 (by assumption)).1) | (exact absurd ((h3 (by assumption)).2.symm.trans (by assumption)) (by decide))
theorem G9 (hb:b.data.toList.length < 1000000000) {a p lv:Nat} (hp:p≤6) (hx:cG b.data.toList a=true) (h:bt b.data.toList (a + 1)=123) (ps:List aS) (j:Nat) (hC:∀s,Pc ext 326 [.sc (.string b),iN a,iN p,iN lv] (.agg [dl ps,iN j,.sc (.int .i64 0)]) s) (s:PS):Pc ext 316 [.sc (.string b),iN a,iN p,iN lv] (bS (.ok (ps,j))) s:=by
 have hl1:=ce hx;have hB:=hb
 replace hb:b.data.toList.length < 4611686018427387904:=om
 have g0:(bt b.data.toList (a + 1) == 123)=true:=by rw [h]; rfl
 have g1:(bt b.data.toList (a + 1) == 40)=false:=by rw [h]; rfl
 refine qC (s.n) lU 8 3 ?_;unfold lU;have n0:a + 1 < b.data.toList.length:=om;exact Dt @aY @aG @aF @aE @aI @aq @ax @aA @az @aP @aM g0 g1 n0 hC tv
theorem H4 (hb:b.data.toList.length < 1000000000) {a p lv:Nat} (hp:p≤6) (hx:cG b.data.toList a=true) (h:bt b.data.toList (a + 1)=123) (x e:Nat) (hC:∀s,Pc ext 326 [.sc (.string b),iN a,iN p,iN lv] (.agg [.sc (.slice none 0 0),iN x,iN e]) s) (s:PS):Pc ext 316 [.sc (.string b),iN a,iN p,iN lv] (bS (.error (x,e))) s:=by
 have hl1:=ce hx;have hB:=hb
 replace hb:b.data.toList.length < 4611686018427387904:=om
 have g0:(bt b.data.toList (a + 1) == 123)=true:=by rw [h]; rfl
 have g1:(bt b.data.toList (a + 1) == 40)=false:=by rw [h]; rfl
 refine qC (s.n) lU 8 3 ?_;unfold lU;have n0:a + 1 < b.data.toList.length:=om;exact Dt @aY @aG @aF @aE @aI @aq @ax @aA @az @aP @aM g0 g1 n0 hC tv
theorem Nf (hb:b.data.toList.length < 1000000000) {a p lv:Nat} (hp:p≤6) (hx:cG b.data.toList a=true) (h:bt b.data.toList (a + 1)=40) (h2:a + 2 < b.data.toList.length) (h3:bt b.data.toList (a + 2)=40) (h4 : 32≤lv) (s:PS):Pc ext 316 [.sc (.string b),iN a,iN p,iN lv] (bS (.error (a,5))) s:=by
 have hl1:=ce hx;have hB:=hb
 replace hb:b.data.toList.length < 4611686018427387904:=om
 have g0:(bt b.data.toList (a + 1) == 123)=false:=by rw [h]; rfl
 have g1:(bt b.data.toList (a + 1) == 40)=true:=by rw [h]; rfl
 have g2:(decide (a + 2 < b.data.toList.length))=true:=decide_eq_true h2;have g3:(bt b.data.toList (a + 2) == 40)=true:=by rw [h3]; rfl
 have g4:(decide (32≤lv))=true:=decide_eq_true h4;refine qC (s.n) lU 8 3 ?_;unfold lU;have n0:a + 1 < b.data.toList.length:=om;have n1:a + 2 < b.data.toList.length:=om;exact ug @aY @aG @aF @aE @aI @aq @ax @aA @az @aP @aM g0 g1 g2 g3 g4 n0 n1 tv
theorem Su (hb:b.data.toList.length < 1000000000) {a p lv:Nat} (hp:p≤6) (hx:cG b.data.toList a=true) (h:bt b.data.toList (a + 1)=40) (h2:a + 2 < b.data.toList.length) (h3:bt b.data.toList (a + 2)=40) (h4:lv < 32) (ps:List aS) (j:Nat) (hj:j≤b.data.toList.length) (hC:∀s,Pc ext 264 [.sc (.string b),iN (a + 3:Nat),.sc (.int .i64 4),iN (lv + 1:Nat),iN a] (.agg [dl ps,iN j,.sc (.int .i64 0)]) s) (s:PS):Pc ext 316 [.sc (.string b),iN a,iN p,iN lv] (bS (.ok ([.mk 6 [] 0 false ps],j + 2))) s:=by
 have hl1:=ce hx;have hB:=hb
 replace hb:b.data.toList.length < 4611686018427387904:=om
 have g0:(bt b.data.toList (a + 1) == 123)=false:=by rw [h]; rfl
 have g1:(bt b.data.toList (a + 1) == 40)=true:=by rw [h]; rfl
 have g2:(decide (a + 2 < b.data.toList.length))=true:=decide_eq_true h2;have g3:(bt b.data.toList (a + 2) == 40)=true:=by rw [h3]; rfl
 have g4:(decide (32≤lv))=false:=df;refine qC (s.n) lU 8 3 ?_;unfold lU;have n0:a + 1 < b.data.toList.length:=om;have n1:a + 2 < b.data.toList.length:=om;exact ug @aY @aG @aF @aE @aI @aq @ax @aA @az @aP @aM g0 g1 g2 g3 g4 n0 n1 hC
theorem NE (hb:b.data.toList.length < 1000000000) {a p lv:Nat} (hp:p≤6) (hx:cG b.data.toList a=true) (h:bt b.data.toList (a + 1)=40) (h2:a + 2 < b.data.toList.length) (h3:bt b.data.toList (a + 2)=40) (h4:lv < 32) (x e:Nat) (he:e≠0) (hC:∀s,Pc ext 264 [.sc (.string b),iN (a + 3:Nat),.sc (.int .i64 4),iN (lv + 1:Nat),iN a] (.agg [.sc (.slice none 0 0),iN x,iN e]) s) (s:PS):Pc ext 316 [.sc (.string b),iN a,iN p,iN lv] (bS (.error (x,e))) s:=by
 have hl1:=ce hx;have hB:=hb
 replace hb:b.data.toList.length < 4611686018427387904:=om
 have g0:(bt b.data.toList (a + 1) == 123)=false:=by rw [h]; rfl
 have g1:(bt b.data.toList (a + 1) == 40)=true:=by rw [h]; rfl
 have g2:(decide (a + 2 < b.data.toList.length))=true:=decide_eq_true h2;have g3:(bt b.data.toList (a + 2) == 40)=true:=by rw [h3]; rfl
 have g4:(decide (32≤lv))=false:=df;have g5:(e == 0)=false:=beq_eq_false_iff_ne.2 he;refine qC (s.n) lU 8 3 ?_;unfold lU;have n0:a + 1 < b.data.toList.length:=om;have n1:a + 2 < b.data.toList.length:=om;exact qx @aY @aG @aF @aE @aI @aq @ax @aA @az @aP @aM g0 g1 g2 g3 g4 g5 n0 n1 hC tv tv
theorem Sy (hb:b.data.toList.length < 1000000000) {a p lv:Nat} (hp:p≤6) (hx:cG b.data.toList a=true) (h:bt b.data.toList (a + 1)=40) (h2:a + 2 < b.data.toList.length→bt b.data.toList (a + 2)≠40) (r:Nat) (h3:a + 3≤r) (h4:r≤b.data.toList.length) (hP:∀s,Pc ext 313 [.sc (.string b),iN a,iN (rT p)] (.tup [iN r,.sc (.int .i64 0)]) s) (s:PS):Pc ext 316 [.sc (.string b),iN a,iN p,iN lv] (bS (.ok ([Hq (sub b.data.toList (a + 2) (r - 1))],r))) s:=by
 have hl1:=ce hx;have hB:=hb
 replace hb:b.data.toList.length < 4611686018427387904:=om
 have g0:(bt b.data.toList (a + 1) == 123)=false:=by rw [h]; rfl
 have g1:(bt b.data.toList (a + 1) == 40)=true:=by rw [h]; rfl
 refine qC (s.n) lU 8 3 ?_;unfold lU;cases c1:decide (a + 2 < b.data.toList.length) with
 | false=>
  have c1p:=of_decide_eq_false c1;have n0:a + 1 < b.data.toList.length:=om;have n1 : 1≤r:=om;have n2:a + 2≤r - 1:=om;have n3:r - 1≤b.data.toList.length:=om;have f0:=fun s=>rV (ext:=ext) hp s;simp -implicitDefEqProofs (disch:=omega) only [ZA,Nat.reduceAdd,Nat.reduceEqDiff,↓reduceIte,Nat.reduceLeDiff,reduceCtorEq,Nat.reduceBEq,Nat.reduceLT,bE,cg,cI,aW,cP,b9,cV,bz,frz,cT,cM,er,fV,aY,List.all_cons,List.all_nil,Bool.and_self,aG,aF,aE,aI,List.drop_nil,List.take_nil,aq,ax,js,i6,aA,az,aP,aM,g0,g1,c1,n0,n1,n2,n3,f0,hP]
  all_goals first | exact⟨_,_,_,rfl,rfl,Nat.le_refl _,rfl⟩ | exact⟨_,_,_,rfl,rfl,Nat.le_refl _,bP (bu _ _ _)⟩ | (exact absurd (by assumption) (h2 (by assumption)))
 | true=>
  have c1p:=of_decide_eq_true c1;cases c2:bt b.data.toList (a + 2) == 40 with
  | false=>
   have c2p:=aj c2;have n0:a + 1 < b.data.toList.length:=om;have n1:a + 2 < b.data.toList.length:=om;have n2 : 1≤r:=om;have n3:a + 2≤r - 1:=om;have n4:r - 1≤b.data.toList.length:=om;have f0:=fun s=>rV (ext:=ext) hp s;simp -implicitDefEqProofs (disch:=omega) only [ZS,seval,ZX,aY,aG,aF,aE,aI,aq,ax,aA,az,aP,aM,g0,g1,c1,c2,n0,n1,n2,n3,n4,f0,hP]
   all_goals first | exact⟨_,_,_,rfl,rfl,Nat.le_refl _,rfl⟩ | exact⟨_,_,_,rfl,rfl,Nat.le_refl _,bP (bu _ _ _)⟩ | (exact absurd (by assumption) (h2 (by assumption)))
  | true=>
   have c2p:=eq_of_beq c2;cases c3:decide (32≤lv) with
   | false=>
    have c3p:=of_decide_eq_false c3;exact absurd (by assumption) (h2 (by assumption))
   | true=>
    have c3p:=of_decide_eq_true c3;have n0:a + 1 < b.data.toList.length:=om;have n1:a + 2 < b.data.toList.length:=om;simp -implicitDefEqProofs (disch:=omega) only [ZS,seval,ZX,aY,aG,aF,aE,aI,aq,ax,aA,az,aP,aM,g0,g1,c1,c2,c3,n0,n1]
    all_goals first | exact⟨_,_,_,rfl,rfl,Nat.le_refl _,rfl⟩ | exact⟨_,_,_,rfl,rfl,Nat.le_refl _,bP (bu _ _ _)⟩ | (exact absurd (by assumption) (h2 (by assumption)))
theorem NB (hb:b.data.toList.length < 1000000000) {a p lv:Nat} (hp:p≤6) (hx:cG b.data.toList a=true) (h:bt b.data.toList (a + 1)=40) (h2:a + 2 < b.data.toList.length→bt b.data.toList (a + 2)≠40) (r e:Nat) (he:e≠0) (hP:∀s,Pc ext 313 [.sc (.string b),iN a,iN (rT p)] (.tup [iN r,iN e]) s) (s:PS):Pc ext 316 [.sc (.string b),iN a,iN p,iN lv] (bS (.error (r,e))) s:=by
 have hl1:=ce hx;have hB:=hb
 replace hb:b.data.toList.length < 4611686018427387904:=om
 have g0:(bt b.data.toList (a + 1) == 123)=false:=by rw [h]; rfl
 have g1:(bt b.data.toList (a + 1) == 40)=true:=by rw [h]; rfl
 have g2:(e == 0)=false:=beq_eq_false_iff_ne.2 he;refine qC (s.n) lU 8 3 ?_;unfold lU;cases c1:decide (a + 2 < b.data.toList.length) with
 | false=>
  have c1p:=of_decide_eq_false c1;have n0:a + 1 < b.data.toList.length:=om;have f0:=fun s=>rV (ext:=ext) hp s;simp -implicitDefEqProofs (disch:=omega) only [ZS,seval,ZX,aY,aG,aF,aE,aI,aq,ax,aA,az,aP,aM,g0,g1,g2,c1,n0,f0,hP]
  all_goals first | exact⟨_,_,_,rfl,rfl,Nat.le_refl _,rfl⟩ | exact⟨_,_,_,rfl,rfl,Nat.le_refl _,bP (bu _ _ _)⟩ | (exact absurd (by assumption) (h2 (by assumption)))
 | true=>
  have c1p:=of_decide_eq_true c1;cases c2:bt b.data.toList (a + 2) == 40 with
  | false=>
   have c2p:=aj c2;have n0:a + 1 < b.data.toList.length:=om;have n1:a + 2 < b.data.toList.length:=om;have f0:=fun s=>rV (ext:=ext) hp s;simp -implicitDefEqProofs (disch:=omega) only [ZS,seval,ZX,aY,aG,aF,aE,aI,aq,ax,aA,az,aP,aM,g0,g1,g2,c1,c2,n0,n1,f0,hP]
   all_goals first | exact⟨_,_,_,rfl,rfl,Nat.le_refl _,rfl⟩ | exact⟨_,_,_,rfl,rfl,Nat.le_refl _,bP (bu _ _ _)⟩ | (exact absurd (by assumption) (h2 (by assumption)))
  | true=>
   have c2p:=eq_of_beq c2;cases c3:decide (32≤lv) with
   | false=>
    have c3p:=of_decide_eq_false c3;exact absurd (by assumption) (h2 (by assumption))
   | true=>
    have c3p:=of_decide_eq_true c3;have n0:a + 1 < b.data.toList.length:=om;have n1:a + 2 < b.data.toList.length:=om;simp -implicitDefEqProofs (disch:=omega) only [ZS,seval,ZX,aY,aG,aF,aE,aI,aq,ax,aA,az,aP,aM,g0,g1,g2,c1,c2,c3,n0,n1]
    all_goals first | exact⟨_,_,_,rfl,rfl,Nat.le_refl _,rfl⟩ | exact⟨_,_,_,rfl,rfl,Nat.le_refl _,bP (bu _ _ _)⟩ | (exact absurd (by assumption) (h2 (by assumption)))
theorem TV (hb:b.data.toList.length < 1000000000) {a p lv:Nat} (hp:p≤6) (hx:cG b.data.toList a=true) (h:cJ (bt b.data.toList (a + 1))=true) (s:PS):Pc ext 316 [.sc (.string b),iN a,iN p,iN lv] (bS (.ok ([sR (sub b.data.toList (a + 1) (a + 2))],a + 2))) s:=by
 have hl1:=ce hx;have hB:=hb
 replace hb:b.data.toList.length < 4611686018427387904:=om
 have g0:(bt b.data.toList (a + 1) == 123)=false:=beq_eq_false_iff_ne.2 fun hh=>by rw [hh] at h; cases h
 have g1:(bt b.data.toList (a + 1) == 40)=false:=beq_eq_false_iff_ne.2 fun hh=>by rw [hh] at h; cases h
 have g2:(cJ (bt b.data.toList (a + 1)))=true:=h;refine qC (s.n) lU 8 3 ?_;unfold lU;have n0:a + 1 < b.data.toList.length:=om;have n1:a + 1≤a + 2:=om;have n2:a + 2≤b.data.toList.length:=om;simp -implicitDefEqProofs (disch:=omega) only [ZA,Nat.reduceAdd,Nat.reduceEqDiff,↓reduceIte,Nat.reduceLeDiff,reduceCtorEq,Nat.reduceBEq,Nat.reduceLT,bE,cg,cI,aW,cP,b9,cV,bz,frz,cT,cM,er,fV,aY,List.all_cons,List.all_nil,Bool.and_self,aG,aF,aE,aI,List.drop_nil,List.take_nil,aq,ax,js,i6,aA,az,aP,aM,g0,g1,g2,n0,n1,n2,gO]
 all_goals first | exact⟨_,_,_,rfl,rfl,Nat.le_refl _,rfl⟩ | exact⟨_,_,_,rfl,rfl,Nat.le_refl _,bP (bu _ _ _)⟩
theorem MG (hb:b.data.toList.length < 1000000000) {a p lv:Nat} (hp:p≤6) (hx:cG b.data.toList a=true) (h2:cJ (bt b.data.toList (a + 1))=false) (h3:bt b.data.toList (a + 1)≠123) (h4:bt b.data.toList (a + 1)≠40) (h5 : 32 < eC b.data.toList (a + 1) - a - 1) (s:PS):Pc ext 316 [.sc (.string b),iN a,iN p,iN lv] (bS (.error (a,3))) s:=by
 have hl1:=ce hx;have hB:=hb
 replace hb:b.data.toList.length < 4611686018427387904:=om
 have hgt:=sF hx h3 h4 h2;have hle:eC b.data.toList (a + 1)≤b.data.toList.length:=kR om;have g0:(bt b.data.toList (a + 1) == 123)=false:=beq_eq_false_iff_ne.2 (h3);have g1:(bt b.data.toList (a + 1) == 40)=false:=beq_eq_false_iff_ne.2 (h4);have g2:(cJ (bt b.data.toList (a + 1)))=false:=h2;have g3:(decide (32 < eC b.data.toList (a + 1) - a - 1))=true:=decide_eq_true h5;refine qC (s.n) lU 8 3 ?_;unfold lU;have n0:a + 1 < b.data.toList.length:=om;have n1:a + 1≤b.data.toList.length:=om;have n2:a≤eC b.data.toList (a + 1):=om;have n3 : 1≤eC b.data.toList (a + 1) - a:=om;have f1:=fun s=>wh (ext:=ext) hb (i:=a + 1) om s;exact qx @aY @aG @aF @aE @aI @aq @ax @aA @az @aP @aM g0 g1 g2 g3 n0 n1 n2 n3 @gO f1 tv
theorem U6 (hb:b.data.toList.length < 1000000000) {a p lv:Nat} (hp:p≤6) (hx:cG b.data.toList a=true) (h2:cJ (bt b.data.toList (a + 1))=false) (h3:bt b.data.toList (a + 1)≠123) (h4:bt b.data.toList (a + 1)≠40) (h5:eC b.data.toList (a + 1) - a - 1≤32) (s:PS):Pc ext 316 [.sc (.string b),iN a,iN p,iN lv] (bS (.ok ([sR (sub b.data.toList (a + 1) (eC b.data.toList (a + 1)))],eC b.data.toList (a + 1)))) s:=by
 have hl1:=ce hx;have hB:=hb
 replace hb:b.data.toList.length < 4611686018427387904:=om
 have hgt:=sF hx h3 h4 h2;have hle:eC b.data.toList (a + 1)≤b.data.toList.length:=kR om;have g0:(bt b.data.toList (a + 1) == 123)=false:=beq_eq_false_iff_ne.2 (h3);have g1:(bt b.data.toList (a + 1) == 40)=false:=beq_eq_false_iff_ne.2 (h4);have g2:(cJ (bt b.data.toList (a + 1)))=false:=h2;have g3:(decide (32 < eC b.data.toList (a + 1) - a - 1))=false:=df;refine qC (s.n) lU 8 3 ?_;unfold lU;have n0:a + 1 < b.data.toList.length:=om;have n1:a + 1≤b.data.toList.length:=om;have n2:a≤eC b.data.toList (a + 1):=om;have n3 : 1≤eC b.data.toList (a + 1) - a:=om;have n4:a + 1≤eC b.data.toList (a + 1):=om;have n5:eC b.data.toList (a + 1)≤b.data.toList.length:=om;have f1:=fun s=>wh (ext:=ext) hb (i:=a + 1) om s;exact AK @aY @aG @aF @aE @aI @aq @ax @aA @az @aP @aM g0 g1 g2 g3 n0 n1 n2 n3 n4 n5 @gO f1 tv tv tv
theorem uL (t:List UInt8):((⟨⟨t⟩⟩ : ByteArray).toList == (⟨#[]⟩ : ByteArray).toList)=t.isEmpty:=by
 rw [ByteArray.toList_eq,ByteArray.toList_eq];cases t<;>rfl
theorem qF {P:Program} (x y:Operand) {u t w:List UInt8} (h:u.length + t.length < 4611686018427387904) (hw:u ++ t=w):fJ P .add 9 x y (.sc (.string ⟨⟨u⟩⟩)) (.sc (.string ⟨⟨t⟩⟩))=some (.sc (.string ⟨⟨w⟩⟩)):=by
 rw [m8 9 x y (by show u.length + t.length < _; omega),yb,hw]
theorem oG {t:List UInt8} (ht:t.length < 1000000000) {g:Bool} (h:Closed t g) (s:PS):Pc ext 314 [.sc (.string ⟨⟨t⟩⟩)] (.sc (.bool g)) s:=by
 cases h with
 | @mk r e k=>
  have hlen:(wrap t).length=t.length + 3:=by unfold wrap; simp
  have hp:∀s,_:=qW (ext:=ext) (b:=⟨⟨wrap t⟩⟩) (by show (wrap t).length < _; omega) k (by show 0 < (wrap t).length; omega);rw [show ((0:Nat):Int)=0 from rfl] at hp;refine q1 QK 2 ?_;have ha:=fun x y=>qF (P:=Tryz.prog) x y (u:=[36,40]) (t:=t) (w:=36 :: 40 :: t) (by simp only [List.length_cons,List.length_nil]; omega) rfl;have hc:=fun x y=>qF (P:=Tryz.prog) x y (u:=36 :: 40 :: t) (t:=[41]) (w:=wrap t) (by simp only [List.length_cons,List.length_nil]; omega) rfl;have hn:=uL t;unfold QK;cases c1:e == 0 with
  | false=>exact ub ha hc hp c1 hlen
  | true=>
   cases c2:r == t.length + 3 with
   | false=>exact lW ha hc hp c1 c2 hlen
   | true=>
    cases t with
    | nil=>
     rw [show ([]:List UInt8).isEmpty=true from rfl] at hn;simp only [List.length_nil,Nat.zero_add] at c2 hlen ht;exact uP ha hc hp c1 c2 hlen hn
    | cons c t=>
     rw [show (c :: t).isEmpty=false from rfl] at hn;have h0 : 0 < (c :: t).length:=by simp
     have hb0:bt (c :: t) 0=c.toNat:=rfl;have hh:((c :: t).isEmpty || (c :: t).head? != some 40)=!(bt (c :: t) 0 == 40):=by
      rw [hb0];show (some c != some 40)=_;cases c3:c.toNat == 40 with
      | true=>
       have:c=40:=UInt8.toNat_inj.1 (eq_of_beq c3);rw [this]; rfl
      | false=>
       have:c≠40:=fun hh=>by rw [hh] at c3; cases c3
       simp [this]
     rw [hh];simp only [List.length_cons] at c2 h0 hlen ht;exact Az ha hc hp c1 c2 hlen hn h0
theorem Cj {l:List UInt8}{i e:Nat} (h:i < e) (he:e≤l.length):∃c:UInt8,c.toNat=bt l i∧sub l i e=c :: sub l (i + 1) e∧sub l i (i + 1)=[c]:=by
 have hl:i < l.length:=om;refine⟨l[i],(oY hl).symm,?_,?_⟩
 ·unfold sub;rw [pA hl,show e - i=(e - (i + 1)) + 1 by omega,List.take_succ_cons]
 ·unfold sub;rw [pA hl,show i + 1 - i=0 + 1 by omega,List.take_succ_cons,List.take_zero]
theorem G8 (c:UInt8) (l:List UInt8) (h:c.toNat≠92∨∀d l',l=d :: l'→d.toNat≠96∧d.toNat≠92∧d.toNat≠36):qy (c :: l)=c :: qy l:=by
 cases l with
 | nil=>rw [qy,qy]
 | cons d l=>
  rw [qy,if_neg];rintro⟨h1,h2⟩;rcases h with h | h
  ·rw [h1] at h; exact h rfl
  ·have h3:=h d l rfl;rcases h2 with h2 | h2 | h2<;>(rw [h2] at h3; simp at h3)
theorem OW (c d:UInt8) (l:List UInt8) (h:c.toNat=92) (h2:d.toNat=96∨d.toNat=92∨d.toNat=36):qy (c :: d :: l)=d :: qy l:=by
 have hc:c=92:=UInt8.toNat_inj.1 h;have hd:d=96∨d=92∨d=36:=by
  rcases h2 with h2 | h2 | h2
  ·exact .inl (UInt8.toNat_inj.1 h2)
  ·exact .inr (.inl (UInt8.toNat_inj.1 h2))
  ·exact .inr (.inr (UInt8.toNat_inj.1 h2))
 rw [qy,if_pos ⟨hc,hd⟩]
structure Td (b:ByteArray) (a r:Nat) (k4:PV) (f:aX):Prop where
 f0:f 0=.sc (.string b)
 f1:f 1=iN a
 f4:f 4=k4
 f5:f 5=iN r
theorem Ph (hb:b.data.toList.length < 1000000000) {a r:Nat}{k4:PV}{V:aX→PS→Prop} (s:PS) (U:List UInt8) (hr:r≤b.data.toList.length) (hr1 : 1≤r) (hal:a < b.data.toList.length)
  (hV:∀f,Td b a r k4 f→f 7=.sc (.string ⟨⟨U⟩⟩)→Er V (aT Tryz.prog Γ ext iz f s)) :
  ∀(m i:Nat) (t:List UInt8) (f:aX),r - i < m→i < r→Lx b.data.toList (.bq i a) r 0→Td b a r k4 f→f 7=.sc (.string ⟨⟨t⟩⟩)→f 8=iN i→t.length≤i→U=t ++ qy (sub b.data.toList i (r - 1))→Er V (LP Tryz.prog Γ ext 0 mJ iz f s):=by
 intro m
 induction m with
 | zero=>intro i t f h; omega
 | succ m ih=>
  intro i t f hm hir hk hI h7 h8 htl hU;have hI':=hI;obtain⟨h0,h1,h4,h5⟩:=hI;by_cases hlt:i < r - 1
  ·have hl:i < b.data.toList.length:=om;have e1:decide (i < r - 1)=true:=decide_eq_true hlt;obtain⟨c,c1,c2,c3⟩:=Cj (l:=b.data.toList) hlt om;have c3':(b.data.toList.drop i).take (i + 1 - i)=[c]:=c3;have n1:i≤i + 1:=om;have n2:i + 1≤b.data.toList.length:=om;cases hk with
   | b_q hl h=>omega
   | b_esc h h2 k=>
    have hb2:=k.bound ⟨om,om⟩;have hb3:=hb2.2 rfl;simp only [gH.at] at hb3;have q92:(bt b.data.toList i == 92)=true:=by rw [h]; rfl
    obtain⟨d,d1,d2,d3⟩:=Cj (l:=b.data.toList) (i:=i + 1) (e:=r - 1) om om;have d3':(b.data.toList.drop (i + 1)).take (i + 1 + 1 - (i + 1))=[d]:=d3;have n3:i + 1≤i + 1 + 1:=om;have n4:i + 1 + 1≤b.data.toList.length:=om;have hg1:=fun x y=>qF (P:=Tryz.prog) x y (u:=t) (t:=[d]) (w:=t ++ [d]) (by simp only [List.length_cons,List.length_nil]; omega) rfl;have hg2:=fun x y=>qF (P:=Tryz.prog) x y (u:=t) (t:=[c]) (w:=t ++ [c]) (by simp only [List.length_cons,List.length_nil]; omega) rfl;have yes:(bt b.data.toList (i + 1)=96∨bt b.data.toList (i + 1)=92∨bt b.data.toList (i + 1)=36)→U=(t ++ [d]) ++ qy (sub b.data.toList (i + 1 + 1) (r - 1)):=fun hd=>by
     rw [hU,c2,d2,OW c d _ (by rw [c1,h]) (by rw [d1]; exact hd),List.append_assoc]; rfl
    refine ad fun L hL=>?_;cases q96:bt b.data.toList (i + 1) == 96 with
    | true=>
     refine FY @mJ.eq_1 h0 h1 h4 h5 h7 h8 e1 hl h2 q92 q96 @Eh @Aa d3' n3 n4 hg1 tv ?_;subst hL;exact ih (i + 1 + 1) (t ++ [d]) _ om om k ⟨fP h0,fP h1,fP h4,fP h5⟩ fp fp (by simp only [List.length_append,List.length_cons,List.length_nil]; omega) (yes (.inl (eq_of_beq q96)))
    | false=>
     cases q92b:bt b.data.toList (i + 1) == 92 with
     | true=>
      refine FY @mJ.eq_1 h0 h1 h4 h5 h7 h8 e1 hl h2 q92 q96 q92b @Eh @Aa d3' n3 n4 hg1 ?_;subst hL;exact ih (i + 1 + 1) (t ++ [d]) _ om om k ⟨fP h0,fP h1,fP h4,fP h5⟩ fp fp (by simp only [List.length_append,List.length_cons,List.length_nil]; omega) (yes (.inr (.inl (eq_of_beq q92b))))
     | false=>
      cases q36:bt b.data.toList (i + 1) == 36 with
      | true=>
       refine Pw @mJ.eq_1 h0 h1 h4 h5 h7 h8 e1 hl h2 q92 q96 q92b q36 @Eh @Aa d3' n3 n4 hg1 tv tv ?_;subst hL;exact ih (i + 1 + 1) (t ++ [d]) _ om om k ⟨fP h0,fP h1,fP h4,fP h5⟩ fp fp (by simp only [List.length_append,List.length_cons,List.length_nil]; omega) (yes (.inr (.inr (eq_of_beq q36))))
      | false=>
       have hu:U=(t ++ [c]) ++ qy (sub b.data.toList (i + 1) (r - 1)):=by
        rw [hU,c2,G8 c _ (.inr fun d' l' hdl=>by
         rw [d2] at hdl;injection hdl with hd hd2;rw [← hd,d1];exact⟨aj q96,aj q92b,aj q36⟩),List.append_assoc]; rfl
       refine rO @mJ.eq_1 h0 h1 h4 h5 h7 h8 e1 hl h2 q92 q96 q92b q36 c3' n1 n2 hg2 tv ?_;subst hL;exact ih (i + 1) (t ++ [c]) _ om om (.b_one om (aj q96) (aj q92b) k) ⟨bm h0,bm h1,bm h4,bm h5⟩ bw bw (by simp only [List.length_append,List.length_cons,List.length_nil]; omega) hu
   | b_one hl2 h h2 k=>
    have q92:(bt b.data.toList i == 92)=false:=beq_eq_false_iff_ne.2 h2;have hg2:=fun x y=>qF (P:=Tryz.prog) x y (u:=t) (t:=[c]) (w:=t ++ [c]) (by simp only [List.length_cons,List.length_nil]; omega) rfl;have hu:U=(t ++ [c]) ++ qy (sub b.data.toList (i + 1) (r - 1)):=by
     rw [hU,c2,G8 c _ (.inl (by rw [c1]; exact h2)),List.append_assoc]; rfl
    refine ad fun L hL=>?_;refine sa @mJ.eq_1 h0 h1 h4 h5 h7 h8 e1 hl q92 c3' n1 n2 hg2 ?_;subst hL;exact ih (i + 1) (t ++ [c]) _ om om k ⟨bm h0,bm h1,bm h4,bm h5⟩ bw bw (by simp only [List.length_append,List.length_cons,List.length_nil]; omega) hu
  ·have e1:decide (i < r - 1)=false:=decide_eq_false hlt;have hs:sub b.data.toList i (r - 1)=[]:=List.eq_nil_of_length_eq_zero (by rw [rP om]; omega);rw [hs,show qy []=[] from by rw [qy],List.append_nil] at hU;refine ad fun L hL=>?_;refine Cc @mJ.eq_1 h0 h1 h4 h5 h7 h8 e1 ?_;subst hU;exact hV _ ⟨bm h0,bm h1,bm h4,bm h5⟩ (bm h7)
theorem DR {a r:Nat}{U T:List UInt8} (hT:T=fR U) (hU:U.length + 2 < 1000000000) (c1:Closed T true) {s:PS}{q:List PV} (hq:bS (.ok ([Hq T],r))=.agg q) (f:aX) (hI:Td b a r (.ptr s.n 0 3) f) (h7:f 7=.sc (.string ⟨⟨U⟩⟩)) :
  Er (fun f' s'=>s.n≤s'.w∧f' 4=.ptr s.n 0 3∧∃cs low e,s'.h s.n=⟨cs,low,e⟩∧cs.length=3∧low≤3∧iI s.n s' cs=some q) (aT Tryz.prog Γ ext iz f ((⟨s.h,s.n,s.n⟩ : PS).new ⟨[.sc (.slice none 0 0),.sc (.int .i64 0),.sc (.int .i64 0)],0,275⟩)):=by
 obtain⟨h0,h1,h4,h5⟩:=hI;rw [bS] at hq;injection hq with hq;subst hq;have hTl:T.length≤U.length + 1:=by rw [hT]; unfold fR; split<;>simp
 have k1:=fun s=>oG (ext:=ext) om c1 s;have hn:=uL U;cases U with
 | nil=>
  rw [show ([]:List UInt8).isEmpty=true from rfl] at hn;have hT0:T=[]:=hT;subst hT0;exact ug @iz.eq_1 h0 h1 h4 h5 h7 hn k1 @aY @aG @aF @aE @aI @aq @ax @aA @az @aP @aM
 | cons c U=>
  rw [show (c :: U).isEmpty=false from rfl] at hn;have hz : 0 < (c :: U).length:=by simp
  cases c0:bt (c :: U) 0 == 40 with
  | true=>
   have hc:c=40:=UInt8.toNat_inj.1 (eq_of_beq c0);have hT1:T=32 :: c :: U:=by rw [hT]; unfold fR; rw [if_pos (by rw [hc]; rfl)]
   have hs:=fun x y=>qF (P:=Tryz.prog) x y (u:=[32]) (t:=c :: U) (w:=T) (by simp only [List.length_cons,List.length_nil] at *; omega) hT1.symm;simp only [List.length_cons] at hz;exact qx @iz.eq_1 h0 h1 h4 h5 h7 hn hz c0 hs k1 @aY @aG @aF @aE @aI @aq @ax @aA @az @aP @aM
  | false=>
   have hc:c≠40:=fun hh=>by rw [hh] at c0; cases c0
   have hT1:T=c :: U:=by rw [hT]; unfold fR; rw [if_neg (by simp [hc])]
   rw [← hT1] at h7 hn c0 hz;exact qx @iz.eq_1 h0 h1 h4 h5 h7 hn hz c0 k1 @aY @aG @aF @aE @aI @aq @ax @aA @az @aP @aM tv
theorem Eb {a r:Nat}{U T:List UInt8} (hT:T=fR U) (hU:U.length + 2 < 1000000000) (c1:Closed T false) (c2:Closed (T ++ [10]) true) {s:PS}{q:List PV} (hq:bS (.ok ([Hq (T ++ [10])],r))=.agg q) (f:aX) (hI:Td b a r (.ptr s.n 0 3) f) (h7:f 7=.sc (.string ⟨⟨U⟩⟩)) :
  Er (fun f' s'=>s.n≤s'.w∧f' 4=.ptr s.n 0 3∧∃cs low e,s'.h s.n=⟨cs,low,e⟩∧cs.length=3∧low≤3∧iI s.n s' cs=some q) (aT Tryz.prog Γ ext iz f ((⟨s.h,s.n,s.n⟩ : PS).new ⟨[.sc (.slice none 0 0),.sc (.int .i64 0),.sc (.int .i64 0)],0,275⟩)):=by
 obtain⟨h0,h1,h4,h5⟩:=hI;rw [bS] at hq;injection hq with hq;subst hq;have hTl:T.length≤U.length + 1:=by rw [hT]; unfold fR; split<;>simp
 have k1:=fun s=>oG (ext:=ext) om c1 s;have k2:=fun s=>oG (ext:=ext) (by rw [List.length_append,List.length_cons,List.length_nil]; omega) c2 s;have ha:=fun x y=>qF (P:=Tryz.prog) x y (u:=T) (t:=[10]) (w:=T ++ [10]) (by simp only [List.length_cons,List.length_nil]; omega) rfl;have hn:=uL U;cases U with
 | nil=>
  rw [show ([]:List UInt8).isEmpty=true from rfl] at hn;have hT0:T=[]:=hT;subst hT0;simp only [List.nil_append] at ha k2 ⊢;exact qx @iz.eq_1 h0 h1 h4 h5 h7 hn k1 k2 ha @aY @aG @aF @aE @aI @aq @ax @aA @az @aP @aM tv
 | cons c U=>
  rw [show (c :: U).isEmpty=false from rfl] at hn;have hz : 0 < (c :: U).length:=by simp
  cases c0:bt (c :: U) 0 == 40 with
  | true=>
   have hc:c=40:=UInt8.toNat_inj.1 (eq_of_beq c0);have hT1:T=32 :: c :: U:=by rw [hT]; unfold fR; rw [if_pos (by rw [hc]; rfl)]
   have hs:=fun x y=>qF (P:=Tryz.prog) x y (u:=[32]) (t:=c :: U) (w:=T) (by simp only [List.length_cons,List.length_nil] at *; omega) hT1.symm;simp only [List.length_cons] at hz;exact AK @iz.eq_1 h0 h1 h4 h5 h7 hn hz c0 hs k1 k2 ha @aY @aG @aF @aE @aI @aq @ax @aA @az @aP @aM tv tv
  | false=>
   have hc:c≠40:=fun hh=>by rw [hh] at c0; cases c0
   have hT1:T=c :: U:=by rw [hT]; unfold fR; rw [if_neg (by simp [hc])]
   rw [← hT1] at h7 hn c0 hz;exact AK @iz.eq_1 h0 h1 h4 h5 h7 hn hz c0 k1 k2 ha @aY @aG @aF @aE @aI @aq @ax @aA @az @aP @aM tv tv tv
theorem CL {a r:Nat}{U T:List UInt8} (hT:T=fR U) (hU:U.length + 2 < 1000000000) (c1:Closed T false) (c2:Closed (T ++ [10]) false) {s:PS}{q:List PV} (hq:bS (.error (a,6))=.agg q) (f:aX) (hI:Td b a r (.ptr s.n 0 3) f) (h7:f 7=.sc (.string ⟨⟨U⟩⟩)) :
  Er (fun f' s'=>s.n≤s'.w∧f' 4=.ptr s.n 0 3∧∃cs low e,s'.h s.n=⟨cs,low,e⟩∧cs.length=3∧low≤3∧iI s.n s' cs=some q) (aT Tryz.prog Γ ext iz f ((⟨s.h,s.n,s.n⟩ : PS).new ⟨[.sc (.slice none 0 0),.sc (.int .i64 0),.sc (.int .i64 0)],0,275⟩)):=by
 obtain⟨h0,h1,h4,h5⟩:=hI;rw [bS] at hq;injection hq with hq;subst hq;have hTl:T.length≤U.length + 1:=by rw [hT]; unfold fR; split<;>simp
 have k1:=fun s=>oG (ext:=ext) om c1 s;have k2:=fun s=>oG (ext:=ext) (by rw [List.length_append,List.length_cons,List.length_nil]; omega) c2 s;have ha:=fun x y=>qF (P:=Tryz.prog) x y (u:=T) (t:=[10]) (w:=T ++ [10]) (by simp only [List.length_cons,List.length_nil]; omega) rfl;have hn:=uL U;cases U with
 | nil=>
  rw [show ([]:List UInt8).isEmpty=true from rfl] at hn;have hT0:T=[]:=hT;subst hT0;simp only [List.nil_append] at ha k2 ⊢;exact qx @iz.eq_1 h0 h1 h4 h5 h7 hn k1 k2 ha @aY @aG @aF @aE @aI @aq @ax @aA @az @aP @aM tv
 | cons c U=>
  rw [show (c :: U).isEmpty=false from rfl] at hn;have hz : 0 < (c :: U).length:=by simp
  cases c0:bt (c :: U) 0 == 40 with
  | true=>
   have hc:c=40:=UInt8.toNat_inj.1 (eq_of_beq c0);have hT1:T=32 :: c :: U:=by rw [hT]; unfold fR; rw [if_pos (by rw [hc]; rfl)]
   have hs:=fun x y=>qF (P:=Tryz.prog) x y (u:=[32]) (t:=c :: U) (w:=T) (by simp only [List.length_cons,List.length_nil] at *; omega) hT1.symm;simp only [List.length_cons] at hz;exact AK @iz.eq_1 h0 h1 h4 h5 h7 hn hz c0 hs k1 k2 ha @aY @aG @aF @aE @aI @aq @ax @aA @az @aP @aM tv tv
  | false=>
   have hc:c≠40:=fun hh=>by rw [hh] at c0; cases c0
   have hT1:T=c :: U:=by rw [hT]; unfold fR; rw [if_neg (by simp [hc])]
   rw [← hT1] at h7 hn c0 hz;exact AK @iz.eq_1 h0 h1 h4 h5 h7 hn hz c0 k1 k2 ha @aY @aG @aF @aE @aI @aq @ax @aA @az @aP @aM tv tv tv
theorem Mx:∀(n:Nat) (l:List UInt8),l.length≤n→(qy l).length≤l.length:=by
 intro n
 induction n with
 | zero=>intro l h; cases l with | nil=>rw [qy]; exact Nat.le_refl _ | cons c l=>simp at h
 | succ n ih=>
  intro l h
  match l with
  | []=>rw [qy]; exact Nat.le_refl _
  | [c]=>rw [qy]; exact Nat.le_refl _
  | c :: d :: l=>
   rw [qy];simp only [List.length_cons] at h;split
   ·have:=ih l om; simp only [List.length_cons]; omega
   ·have:=ih (d :: l) (by simp only [List.length_cons]; omega); simp only [List.length_cons] at *; omega
theorem QI (hb:b.data.toList.length < 1000000000) {a r e:Nat} (hl:a < b.data.toList.length) (h:bt b.data.toList a=96) (k:Lx b.data.toList (.bq (a + 1) a) r e) (he:e≠0) (s:PS):Pc ext 298 [.sc (.string b),iN a] (bS (.error (r,e))) s:=by
 have hP:∀s,_:=qW (ext:=ext) (b:=b) om (.p_bq (p:=0) hl h k) hl;rw [show ((0:Nat):Int)=0 from rfl] at hP;have q:(e == 0)=false:=beq_eq_false_iff_ne.2 he;refine gD s.n (fn:=D4) (r:=4) (m:=3) (by rfl) (by simp [D4]) (by rfl) (by rfl) ?_;unfold D4;refine sa hP q @aY @aG @aF @aE @aI @aq @ax @aA @az @aP @aM tv ?_;exact⟨_,_,_,rfl,rfl,Nat.le_refl _,rfl⟩
theorem J3 (hb:b.data.toList.length < 1000000000) {a r:Nat} (hl:a < b.data.toList.length) (h:bt b.data.toList a=96) (k:Lx b.data.toList (.bq (a + 1) a) r 0) (res:R) (hres:∀(s:PS) (q:List PV) (f:aX),bS res=.agg q→Td b a r (.ptr s.n 0 3) f→f 7=.sc (.string ⟨⟨qy (sub b.data.toList (a + 1) (r - 1))⟩⟩)→
  Er (fun f' s'=>s.n≤s'.w∧f' 4=.ptr s.n 0 3∧∃cs low e,s'.h s.n=⟨cs,low,e⟩∧cs.length=3∧low≤3∧iI s.n s' cs=some q) (aT Tryz.prog Γ ext iz f ((⟨s.h,s.n,s.n⟩ : PS).new ⟨[.sc (.slice none 0 0),.sc (.int .i64 0),.sc (.int .i64 0)],0,275⟩))) (s:PS):Pc ext 298 [.sc (.string b),iN a] (bS res) s:=by
 have hP:∀s,_:=qW (ext:=ext) (b:=b) om (.p_bq (p:=0) hl h k) hl;rw [show ((0:Nat):Int)=0 from rfl] at hP;have hb1:=k.bound ⟨om,hl⟩;have hb2:=hb1.2 rfl;simp only [gH.at] at hb2;obtain⟨q,hq⟩ : ∃q,bS res=.agg q:=by
  cases res with
  | ok x=>obtain⟨l,j⟩:=x; exact⟨_,rfl⟩
  | error x=>obtain⟨i,e⟩:=x; exact⟨_,rfl⟩
 rw [hq];refine gD s.n (fn:=D4) (r:=4) (m:=3) (by rfl) (by simp [D4]) (by rfl) (by rfl) ?_;unfold D4;refine jU hP @aY @aG @aF @aE @aI @aq @ax @aA @az @aP @aM ?_;exact Ph hb _ (qy (sub b.data.toList (a + 1) (r - 1))) hb1.1 om hl (fun f hI h7=>hres s q f hq hI h7) (r + 1) (a + 1) [] _ om om k ⟨bw,bw,bw,bw⟩ bw bw (Nat.zero_le _) rfl
theorem Ev (hb:b.data.toList.length < 1000000000) {a r:Nat} (hl:a < b.data.toList.length) (h:bt b.data.toList a=96) (k:Lx b.data.toList (.bq (a + 1) a) r 0):(qy (sub b.data.toList (a + 1) (r - 1))).length + 2 < 1000000000:=by
 have hb1:=k.bound ⟨om,hl⟩;have hb2:=hb1.2 rfl;simp only [gH.at] at hb2;have h1:=Mx _ (sub b.data.toList (a + 1) (r - 1)) (Nat.le_refl _);rw [rP om] at h1;omega
end Go.Proofs.YtokdflgpbfjpcaaGreatDoor
