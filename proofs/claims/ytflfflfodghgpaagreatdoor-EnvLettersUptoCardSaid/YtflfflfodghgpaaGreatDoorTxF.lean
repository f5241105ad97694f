/- What functions of the program and of the reference compute, on values. No statement is proved here. -/
import Derived.Test.YtflfflfodghgpaaGreatDoorTxE
import Derived.Test.YtflfflfodghgpaaGreatDoorTxA
import Derived.Test.YtflfflfodghgpaaGreatDoorEvC
import Derived.Test.YtflfflfodghgpaaGreatDoorTxC
import Derived.Laws.StructEq
set_option linter.unusedSimpArgs false
set_option linter.unusedVariables false
namespace Go.Proofs.YtflfflfodghgpaaGreatDoor
open Go Go.EvL Go.PE
variable {ext:ai}
theorem Bq {α β:Type}{g:α→β}{l:List α}{i:Nat}{x:α} (h:l[i]?=some x):(l.take (i + 1)).map g=(l.take i).map g ++ [g x]:=by
 rw [List.take_add_one,h,List.map_append];simp
def aF.val (y:aF):aw:=⟨y.vpos,y.parts⟩
def bo.tgt (y:bo):aw:=⟨y.tpos,y.parts⟩
theorem aw.one {y:aw} (h:cX y.parts=true):y.cells.all cX=true:=by simp only [aw.cells,List.all_cons,List.all_nil,h,Bool.and_true]; rfl
theorem aw.clean {y:aw} (h:cM y.parts=true):y.cells.all cM=true:=by simp only [aw.cells,List.all_cons,List.all_nil,h,Bool.and_true]; rfl
structure vB (x:ah) (b:Nat) (l:List aw) (f:aO) (s:PS):Prop where
 p:f 1=.ptr b 0 9
 h:s.h b=⟨x.cells,0,28⟩
 n:b + 1≤s.n
 w:b≤s.w
 acc:jv 82 2 aw.cells (b + 1) l (f 3) s
def ft (la:List aF) (lw:List aw) (lr:List bo) (li:List be) (pt:be→Option (List aw)):List aw:=la.map aF.val ++ lw ++ lr.map bo.tgt ++ li.flatMap fun it=>(pt it).getD []
theorem Gb (x:ah) (la:Option (List aF)) (lw:Option (List aw)) (lr:Option (List bo)) (li:Option (List be)) (pt:be→Option (List aw)) (ha:x.assigns=b9 84 aF.cells la) (hw:x.words=b9 82 aw.cells lw) (hr:x.redirs=b9 148 bo.cells lr) (hit:x.items=b9 150 be.cells li)
  (hpt:∀it∈li.getD [],it.pats=b9 82 aw.cells (pt it)) (hbig:(la.getD []).length + (lw.getD []).length + (lr.getD []).length + ((li.getD []).flatMap fun it=>(pt it).getD []).length≤16777216) (hlen:(li.getD []).length≤16777216)
  (ho:∀y∈ft (la.getD []) (lw.getD []) (lr.getD []) (li.getD []) pt,cX y.parts=true∧cM y.parts=true) (s:PS) :
  aU Tryz.prog Γ ext 57 [.agg x.cells] s=some (b9 82 aw.cells (eH (ft (la.getD []) (lw.getD []) (lr.getD []) (li.getD []) pt)),s):=by
 have LA:=cA (e:=84) (c:=aF.cells) la;have LR:=cA (e:=148) (c:=bo.cells) lr;have LI:=cA (e:=150) (c:=be.cells) li;have o1:∀y∈la.getD [],cX y.parts=true:=fun y hy=>(ho y.val (by simp only [ft,List.mem_append,List.mem_map]; exact .inl (.inl (.inl ⟨y,hy,rfl⟩)))).1;have o2:∀y∈lw.getD [],cX y.parts=true:=fun y hy=>(ho y (by simp only [ft,List.mem_append]; exact .inl (.inl (.inr hy)))).1;have o3:∀y∈lr.getD [],cX y.parts=true:=fun y hy=>(ho y.tgt (by simp only [ft,List.mem_append,List.mem_map]; exact .inl (.inr ⟨y,hy,rfl⟩))).1;have o4:∀it∈li.getD [],∀y∈(pt it).getD [],cX y.parts=true:=fun it hi y hy=>(ho y (by simp only [ft,List.mem_append,List.mem_flatMap]; exact .inr ⟨it,hi,hy⟩)).1;suffices h:∃q,aU Tryz.prog Γ ext 57 [.agg x.cells] s=some q∧q=(b9 82 aw.cells (eH (ft (la.getD []) (lw.getD []) (lr.getD []) (li.getD []) pt)),s) by
  obtain⟨q,e,rfl⟩:=h;exact e
 refine yL (fn:=Sf) (by rfl) (by simp [Sf]) ?_;generalize hQ:H8 Sf s _=Q;unfold Sf;refine fA (fun f s'=>f 1=.ptr s.n 0 9∧s'.h s.n=⟨x.cells,0,28⟩∧s'.n=s.n + 1∧s'.w=s.n) ?_ ?_
 ·simp -implicitDefEqProofs only [bg,ax,aq,aN,bm,cK,aI,aC,aM,bx,↓reduceIte,bH];exact⟨_,_,rfl,rfl,by simp -implicitDefEqProofs only [↓reduceIte,dw],rfl,rfl⟩
 rintro f s1 ⟨p1,p2,p3,p4⟩;refine fA (vB x s.n []) ?_ ?_
 ·simp -implicitDefEqProofs only [bg,ax,aq,aN,bm,aC,bH];exact⟨_,_,rfl,p1,p2,by omega,by omega,.nil _ _ _ _ _⟩
 rintro f s1 hI;refine kD ?_;refine fA (fun f s1=>vB x s.n ([] ++ ((la.getD []).take 0).map aF.val) f s1∧f 4=.sc (.int .i64 ((0:Nat):Int))) ?_ ?_
 ·obtain⟨p1,p2,p3,p4,p5⟩:=hI;simp -implicitDefEqProofs only [bg,ax,aq,aN,bm,aC,bH,List.take_zero,List.map_nil,List.append_nil];exact⟨_,_,rfl,⟨p1,p2,p3,p4,by first | exact p5 | (rw [List.append_nil]; exact p5)⟩,rfl⟩
 rintro f s1 hI;refine nc (la.getD []).length (fun i f s1=>vB x s.n ([] ++ ((la.getD []).take i).map aF.val) f s1∧f 4=.sc (.int .i64 (i:Int))) (fun f s1=>vB x s.n ([] ++ (la.getD []).map aF.val) f s1) hI ?_ ?_
 ·rintro i f s1 hi ⟨⟨p1,p2,p3,p4,p5⟩,h4⟩;by_cases hlt:i < (la.getD []).length
  ·have h5:(decide ((i:Int) < ((la.getD []).length:Int)))=true:=by simp; exact hlt
   have hx:(la.getD [])[i]?=some ((la.getD [])[i]):=List.getElem?_eq_getElem hlt;generalize (la.getD [])[i]=y at hx;have hmem:=List.mem_of_getElem? hx;have hfl:=Bq (g:=aF.val) hx;obtain⟨v',s',a1,a2,a3,a4,a5⟩:=(p5.new ⟨y.val.cells,0,82⟩).app (bytes:=32) aw.len [y.val] (by omega) (by simp only [List.length_append,List.length_map,List.length_take,List.length_cons,List.length_nil]; omega) (by simp only [List.length_append,List.length_map,List.length_take,List.length_cons,List.length_nil]; omega) (fun z hz=>by rw [List.mem_singleton] at hz; subst hz; exact aw.one (o1 y hmem)) (by rw [cR]; omega);have h6:s'.h s.n=⟨x.cells,0,28⟩:=by rw [a3 _ (by omega),dw,if_neg (by omega)]; exact p2
   have h8:s.n≤s'.w:=a5 _ (by omega) (by rw [gV]; exact p4);rw [cR] at a4;obtain⟨m,rfl⟩ : ∃k,la=some k:=by cases la with | none=>simp at hx | some k=>exact⟨k,rfl⟩
   simp only [b9,Option.getD_some] at ha hx hlt LA h5 hbig hfl;have h1:=aQ aF.len m;obtain⟨r1,h3⟩:=de aF.len hx;have h7:=fX (i:=i) (by omega);simp only [ah.cells,ha] at p2;simp only [List.flatMap_cons,List.flatMap_nil,List.append_nil,aw.cells,aF.val,List.length_cons,List.length_nil,Nat.zero_add] at a1;simp -implicitDefEqProofs only [aD,bB,aY,bV,aW,ce,bg,ax,aq,aN,bm,Nat.zero_add,Nat.reduceAdd,Option.map_some,Option.bind_some,aI,aC,aM,Nat.reduceEqDiff,bx,↓reduceIte,bH,cG,lF,fy,bz,aK,dw,dl,au,List.length_cons,List.length_nil,Nat.reduceLeDiff,Nat.zero_le,and_self,and_true,List.drop_succ_cons,List.drop_zero,List.take_succ_cons,List.take_zero,Nat.le_refl,gN,dI,List.map_cons,List.map_nil,List.nil_append,List.append_nil,List.cons_append,Bool.false_eq_true,eE,gp,oZ,p1,p2,h4,LA,h5,h7,hlt,h1,h3,ap,aF.cells,eB,eU,Nat.reduceMul,List.drop_nil,List.take_nil,a1];refine⟨hlt,p1,h6,by omega,h8,?_⟩;show jv 82 2 aw.cells (s.n + 1) ([] ++ (m.take (i + 1)).map aF.val) v' s';rw [hfl,← List.append_assoc];exact a2
  ·obtain rfl:i=(la.getD []).length:=by omega
   have h5:(decide (((la.getD []).length:Int) < ((la.getD []).length:Int)))=false:=by simp
   have p2':=p2;simp only [ah.cells,ha] at p2';simp -implicitDefEqProofs only [aD,bB,aY,bV,aW,bg,ax,aq,aN,bm,Nat.zero_add,Nat.reduceAdd,Option.map_some,Option.bind_some,aI,aM,Nat.reduceEqDiff,↓reduceIte,cG,iT,gq,bz,aK,dl,au,List.length_cons,List.length_nil,Nat.reduceLeDiff,Nat.zero_le,and_self,true_and,List.drop_succ_cons,List.drop_zero,List.take_succ_cons,List.take_zero,Nat.le_refl,dI,List.nil_append,Bool.false_eq_true,gp,pj,p1,p2',h4,LA,h5];refine⟨p1,p2,p3,p4,?_⟩;rw [List.take_length] at p5;exact p5
 rintro f s1 ⟨p1,p2,p3,p4,p5⟩;refine fA (vB x s.n ([] ++ (la.getD []).map aF.val ++ lw.getD [])) ?_ ?_
 ·obtain⟨v',s',a1,a2,a3,a4,a5⟩:=p5.app (bytes:=32) aw.len (lw.getD []) (by omega) (by simp only [List.length_append,List.length_map,List.length_nil]; omega) (by simp only [List.length_append,List.length_map,List.length_nil]; omega) (fun y hy=>aw.one (o2 y hy)) p3;have he:=rh (e:=82) aw.len lw s1;have h6:s'.h s.n=⟨x.cells,0,28⟩:=by rw [a3 _ (by omega)]; exact p2
  simp only [ah.cells] at p2;simp -implicitDefEqProofs only [bg,ax,aq,aN,bm,Nat.zero_add,Nat.reduceAdd,Option.map_some,Option.bind_some,aI,aM,Nat.reduceEqDiff,↓reduceIte,dl,au,List.length_cons,List.length_nil,Nat.reduceLeDiff,Nat.zero_le,and_self,List.drop_succ_cons,List.drop_zero,List.take_succ_cons,List.take_zero,Nat.le_refl,List.nil_append,Bool.false_eq_true,p1,p2,hw,he,a1];refine⟨_,_,rfl,p1,h6,by omega,a5 _ (by omega) p4,?_⟩;rw [List.nil_append] at a2;exact a2
 rintro f s1 hI;refine kD ?_;refine fA (fun f s1=>vB x s.n (([] ++ (la.getD []).map aF.val ++ lw.getD []) ++ ((lr.getD []).take 0).map bo.tgt) f s1∧f 5=.sc (.int .i64 ((0:Nat):Int))) ?_ ?_
 ·obtain⟨p1,p2,p3,p4,p5⟩:=hI;simp -implicitDefEqProofs only [bg,ax,aq,aN,bm,aC,bH,List.take_zero,List.map_nil,List.nil_append,List.append_nil];exact⟨_,_,rfl,⟨p1,p2,p3,p4,by first | exact p5 | (rw [List.append_nil]; exact p5)⟩,rfl⟩
 rintro f s1 hI;refine nc (lr.getD []).length (fun i f s1=>vB x s.n (([] ++ (la.getD []).map aF.val ++ lw.getD []) ++ ((lr.getD []).take i).map bo.tgt) f s1∧f 5=.sc (.int .i64 (i:Int))) (fun f s1=>vB x s.n (([] ++ (la.getD []).map aF.val ++ lw.getD []) ++ (lr.getD []).map bo.tgt) f s1) hI ?_ ?_
 ·rintro i f s1 hi ⟨⟨p1,p2,p3,p4,p5⟩,h4⟩;by_cases hlt:i < (lr.getD []).length
  ·have h5:(decide ((i:Int) < ((lr.getD []).length:Int)))=true:=by simp; exact hlt
   have hx:(lr.getD [])[i]?=some ((lr.getD [])[i]):=List.getElem?_eq_getElem hlt;generalize (lr.getD [])[i]=y at hx;have hmem:=List.mem_of_getElem? hx;have hfl:=Bq (g:=bo.tgt) hx;obtain⟨v',s',a1,a2,a3,a4,a5⟩:=(p5.new ⟨y.tgt.cells,0,82⟩).app (bytes:=32) aw.len [y.tgt] (by omega) (by simp only [List.length_append,List.length_map,List.length_take,List.length_cons,List.length_nil]; omega) (by simp only [List.length_append,List.length_map,List.length_take,List.length_cons,List.length_nil]; omega) (fun z hz=>by rw [List.mem_singleton] at hz; subst hz; exact aw.one (o3 y hmem)) (by rw [cR]; omega);have h6:s'.h s.n=⟨x.cells,0,28⟩:=by rw [a3 _ (by omega),dw,if_neg (by omega)]; exact p2
   have h8:s.n≤s'.w:=a5 _ (by omega) (by rw [gV]; exact p4);rw [cR] at a4;obtain⟨m,rfl⟩ : ∃k,lr=some k:=by cases lr with | none=>simp at hx | some k=>exact⟨k,rfl⟩
   simp only [b9,Option.getD_some] at hr hx hlt LR h5 hbig hfl;have h1:=aQ bo.len m;obtain⟨r1,h3⟩:=de bo.len hx;have h7:=fX (i:=i) (by omega);simp only [ah.cells,hr] at p2;simp only [List.flatMap_cons,List.flatMap_nil,List.append_nil,aw.cells,bo.tgt,List.length_cons,List.length_nil,Nat.zero_add] at a1;simp -implicitDefEqProofs only [aD,bB,aY,bV,aW,ce,bg,ax,aq,aN,bm,Nat.zero_add,Nat.reduceAdd,Option.map_some,Option.bind_some,aI,aC,aM,Nat.reduceEqDiff,bx,↓reduceIte,bH,cG,lF,fy,bz,aK,dw,dl,au,List.length_cons,List.length_nil,Nat.reduceLeDiff,Nat.zero_le,and_self,and_true,List.drop_succ_cons,List.drop_zero,List.take_succ_cons,List.take_zero,Nat.le_refl,gN,dI,List.map_cons,List.map_nil,List.nil_append,List.append_nil,List.cons_append,Bool.false_eq_true,eE,gp,oZ,p1,p2,h4,LR,h5,h7,hlt,h1,h3,ap,bo.cells,eB,eU,Nat.reduceMul,List.drop_nil,List.take_nil,a1];refine⟨hlt,p1,h6,by omega,h8,?_⟩;show jv 82 2 aw.cells (s.n + 1) (([] ++ (la.getD []).map aF.val ++ lw.getD []) ++ (m.take (i + 1)).map bo.tgt) v' s';rw [hfl,← List.append_assoc];exact a2
  ·obtain rfl:i=(lr.getD []).length:=by omega
   have h5:(decide (((lr.getD []).length:Int) < ((lr.getD []).length:Int)))=false:=by simp
   have p2':=p2;simp only [ah.cells,hr] at p2';simp -implicitDefEqProofs only [aD,bB,aY,bV,aW,bg,ax,aq,aN,bm,Nat.zero_add,Nat.reduceAdd,Option.map_some,Option.bind_some,aI,aM,Nat.reduceEqDiff,↓reduceIte,cG,iT,gq,bz,aK,dl,au,List.length_cons,List.length_nil,Nat.reduceLeDiff,Nat.zero_le,and_self,true_and,List.drop_succ_cons,List.drop_zero,List.take_succ_cons,List.take_zero,Nat.le_refl,dI,List.nil_append,Bool.false_eq_true,gp,pj,p1,p2',h4,LR,h5];refine⟨p1,p2,p3,p4,?_⟩;rw [List.take_length] at p5;exact p5
 rintro f s1 hI;refine kD ?_;refine fA (fun f s1=>vB x s.n ((([] ++ (la.getD []).map aF.val ++ lw.getD []) ++ (lr.getD []).map bo.tgt) ++ ((li.getD []).take 0).flatMap fun it=>(pt it).getD []) f s1∧f 6=.sc (.int .i64 ((0:Nat):Int))) ?_ ?_
 ·obtain⟨p1,p2,p3,p4,p5⟩:=hI;simp -implicitDefEqProofs only [bg,ax,aq,aN,bm,aC,bH,List.take_zero,List.nil_append];exact⟨_,_,rfl,⟨p1,p2,p3,p4,by rw [List.flatMap_nil,List.append_nil]; exact p5⟩,rfl⟩
 rintro f s1 hI;refine nc (li.getD []).length (fun i f s1=>vB x s.n ((([] ++ (la.getD []).map aF.val ++ lw.getD []) ++ (lr.getD []).map bo.tgt) ++ ((li.getD []).take i).flatMap fun it=>(pt it).getD []) f s1∧f 6=.sc (.int .i64 (i:Int))) (fun f s1=>vB x s.n (ft (la.getD []) (lw.getD []) (lr.getD []) (li.getD []) pt) f s1) hI ?_ ?_
 ·rintro i f s1 hi ⟨⟨p1,p2,p3,p4,p5⟩,h4⟩;by_cases hlt:i < (li.getD []).length
  ·have h5:(decide ((i:Int) < ((li.getD []).length:Int)))=true:=by simp; exact hlt
   have hx:(li.getD [])[i]?=some ((li.getD [])[i]):=List.getElem?_eq_getElem hlt;generalize (li.getD [])[i]=it at hx;have hmem:=List.mem_of_getElem? hx;have hb:=hpt it hmem;have hfl:=xz (g:=fun it=>(pt it).getD []) hx;have hle:=rn (g:=fun it=>(pt it).getD []) (li.getD []) (i + 1);rw [hfl,List.length_append] at hle;obtain⟨v',s',a1,a2,a3,a4,a5⟩:=p5.app (bytes:=32) aw.len ((pt it).getD []) (by omega) (by simp only [List.length_append,List.length_map,List.length_nil]; omega) (by simp only [List.length_append,List.length_map,List.length_nil]; omega) (fun y hy=>aw.one (o4 it hmem y hy)) p3;have he:=rh (e:=82) aw.len (pt it) s1;have h6:s'.h s.n=⟨x.cells,0,28⟩:=by rw [a3 _ (by omega)]; exact p2
   obtain⟨m,rfl⟩ : ∃k,li=some k:=by cases li with | none=>simp at hx | some k=>exact⟨k,rfl⟩
   simp only [b9,Option.getD_some] at hit hx hlt LI h5 hlen hfl;have h1:=aQ be.len m;obtain⟨r1,h3⟩:=de be.len hx;have h7:=fX (i:=i) (by omega);simp only [ah.cells,hit] at p2;simp -implicitDefEqProofs only [aD,bB,aY,bV,aW,ce,bg,ax,aq,aN,bm,Nat.zero_add,Nat.reduceAdd,Option.map_some,Option.bind_some,aI,aC,aM,Nat.reduceEqDiff,↓reduceIte,bH,cG,lF,fy,bz,aK,dl,au,List.length_cons,List.length_nil,Nat.reduceLeDiff,Nat.zero_le,and_self,and_true,List.drop_succ_cons,List.drop_zero,List.take_succ_cons,List.take_zero,Nat.le_refl,gN,dI,List.nil_append,List.cons_append,Bool.false_eq_true,eE,gp,oZ,p1,p2,h4,LI,h5,h7,hlt,h1,h3,ap,be.cells,hb,he,a1];refine⟨hlt,p1,h6,by omega,a5 _ (by omega) p4,?_⟩;show jv 82 2 aw.cells (s.n + 1) ((([] ++ (la.getD []).map aF.val ++ lw.getD []) ++ (lr.getD []).map bo.tgt) ++ (m.take (i + 1)).flatMap fun it=>(pt it).getD []) v' s';rw [hfl,← List.append_assoc];exact a2
  ·obtain rfl:i=(li.getD []).length:=by omega
   have h5:(decide (((li.getD []).length:Int) < ((li.getD []).length:Int)))=false:=by simp
   have p2':=p2;simp only [ah.cells,hit] at p2';simp -implicitDefEqProofs only [aD,bB,aY,bV,aW,bg,ax,aq,aN,bm,Nat.zero_add,Nat.reduceAdd,Option.map_some,Option.bind_some,aI,aM,Nat.reduceEqDiff,↓reduceIte,cG,iT,gq,bz,aK,dl,au,List.length_cons,List.length_nil,Nat.zero_le,and_self,true_and,List.drop_succ_cons,List.drop_zero,List.take_succ_cons,List.take_zero,Nat.le_refl,dI,List.nil_append,Bool.false_eq_true,gp,pj,p1,p2',h4,LI,h5];refine⟨p1,p2,p3,p4,?_⟩;rw [List.take_length] at p5;exact p5
 ·rintro f s1 ⟨p1,p2,p3,p4,p5⟩;refine yN ?_;simp -implicitDefEqProofs only [bg,ax,aq,aN,bm,aI,aM,↓reduceIte];refine⟨_,_,rfl,?_⟩;subst hQ;refine yU ?_ rfl;refine fJ (vs:=[f 3]) rfl rfl p4 ?_;exact Cq (p5.frz aw.len (by omega) fun y hy=>aw.clean (ho y hy).2)
end Go.Proofs.YtflfflfodghgpaaGreatDoor
namespace Go.Proofs.YtflfflfodghgpaaGreatDoor
open Go Go.EvL Go.PE
variable {ext:ai}
def jX (lk:List ah) (li:List be) (bd:be→Option (List ah)):List ah:=lk ++ li.flatMap fun it=>(bd it).getD []
structure IY (D d:Nat) (x:ah) (la:Option (List aF)) (lw:Option (List aw)) (lr:Option (List bo)) (lk:Option (List ah)) (li:Option (List be)) (pt:be→Option (List aw)) (bd:be→Option (List ah)):Prop where
 a:x.assigns=b9 84 aF.cells la
 w:x.words=b9 82 aw.cells lw
 r:x.redirs=b9 148 bo.cells lr
 k:x.kids=b9 28 ah.cells lk
 i:x.items=b9 150 be.cells li
 hpt:∀it∈li.getD [],it.pats=b9 82 aw.cells (pt it)
 hbd:∀it∈li.getD [],it.body=b9 28 ah.cells (bd it)
 words:∀y∈ft (la.getD []) (lw.getD []) (lr.getD []) (li.getD []) pt,bA D y.parts
 kids:∀y∈jX (lk.getD []) (li.getD []) bd,dn D d y
theorem dn.dec {D d:Nat}{x:ah} (h:dn D (d + 1) x):∃la lw lr lk li pt bd,IY D d x la lw lr lk li pt bd:=by
 obtain⟨⟨la,a1,_,a2⟩,⟨lw,w1,_,w2⟩,⟨lr,r1,_,r2⟩,⟨lk,k1,_,k2⟩,⟨li,i1,_,i2⟩⟩:=h;have hp:∀it:be,∃l:Option (List aw),it∈li.getD []→it.pats=b9 82 aw.cells l∧∀y∈l.getD [],bA D y.parts:=fun it=>by
  by_cases hi:it∈li.getD []
  ·obtain⟨l,e1,_,e2⟩:=(i2 it hi).1;exact⟨l,fun _=>⟨e1,e2⟩⟩
  ·exact⟨none,fun hh=>absurd hh hi⟩
 have hb:∀it:be,∃l:Option (List ah),it∈li.getD []→it.body=b9 28 ah.cells l∧∀y∈l.getD [],dn D d y:=fun it=>by
  by_cases hi:it∈li.getD []
  ·obtain⟨l,e1,_,e2⟩:=(i2 it hi).2;exact⟨l,fun _=>⟨e1,e2⟩⟩
  ·exact⟨none,fun hh=>absurd hh hi⟩
 obtain⟨pt,hpt⟩:=Classical.axiomOfChoice hp;obtain⟨bd,hbd⟩:=Classical.axiomOfChoice hb;refine⟨la,lw,lr,lk,li,pt,bd,a1,w1,r1,k1,i1,fun it hi=>(hpt it hi).1,fun it hi=>(hbd it hi).1,fun y hy=>?_,fun y hy=>?_⟩
 ·simp only [ft,List.mem_append,List.mem_map,List.mem_flatMap] at hy;rcases hy with ((⟨z,hz,rfl⟩ | hy) | ⟨z,hz,rfl⟩) | ⟨it,hi,hy⟩
  ·exact a2 z hz
  ·exact w2 y hy
  ·exact r2 z hz
  ·exact (hpt it hi).2 y hy
 ·simp only [jX,List.mem_append,List.mem_flatMap] at hy;rcases hy with hy | ⟨it,hi,hy⟩
  ·exact k2 y hy
  ·exact (hbd it hi).2 y hy
theorem bA.clean {d:Nat}{p:PV} (h:bA d p):cM p=true:=by
 cases d with
 | zero=>cases h
 | succ d=>obtain⟨l,rfl,_⟩:=h; exact vW _ _ _
section
variable {D d:Nat}{x:ah}{la:Option (List aF)}{lw:Option (List aw)}{lr:Option (List bo)}{lk:Option (List ah)}{li:Option (List be)}{pt:be→Option (List aw)}{bd:be→Option (List ah)}
theorem IY.sizes (h:IY D d x la lw lr lk li pt bd) {N:Nat} (hN:bj x.cells≤N):(la.getD []).length + (lw.getD []).length + (lr.getD []).length + ((li.getD []).flatMap fun it=>(pt it).getD []).length≤N∧(lk.getD []).length + ((li.getD []).flatMap fun it=>(bd it).getD []).length≤N∧(li.getD []).length≤N∧∀y∈jX (lk.getD []) (li.getD []) bd,bj y.cells≤N:=by
 simp only [ah.cells,db,dk,h.a,h.w,h.r,h.k,h.i] at hN;have hA:=gL (e:=84) (c:=aF.cells) (fun y=>by rw [aF.len]; omega) la;have hW:=gL (e:=82) (c:=aw.cells) (fun y=>by rw [aw.len]; omega) lw;have hR:=gL (e:=148) (c:=bo.cells) (fun y=>by rw [bo.len]; omega) lr;have hK:=gL (e:=28) (c:=ah.cells) (fun y=>by rw [ah.len]; omega) lk;have hI:=gL (e:=150) (c:=be.cells) (fun y=>by rw [be.len]; omega) li;have hK2:=eC 28 ah.cells lk;have hI2:=eC 150 be.cells li;have hic:∀it∈li.getD [],bj it.cells=(b9 82 aw.cells (pt it)).bulk + (b9 28 ah.cells (bd it)).bulk:=fun it hi=>by
  simp only [be.cells,db,dk,h.hpt it hi,h.hbd it hi,Nat.add_zero]
 have hP:=zG (c:=be.cells) (g:=fun it=>(pt it).getD []) (li.getD []) fun it hi=>by
  have:=gL (e:=82) (c:=aw.cells) (fun y=>by rw [aw.len]; omega) (pt it);rw [hic it hi]; omega
 have hB:=zG (c:=be.cells) (g:=fun it=>(bd it).getD []) (li.getD []) fun it hi=>by
  have:=gL (e:=28) (c:=ah.cells) (fun y=>by rw [ah.len]; omega) (bd it);rw [hic it hi]; omega
 refine⟨by omega,by omega,by omega,fun y hy=>?_⟩;simp only [jX,List.mem_append,List.mem_flatMap] at hy;rcases hy with hy | ⟨it,hi,hy⟩
 ·have:=gD (c:=ah.cells) hy; omega
 ·have h1:=gD (c:=ah.cells) hy;have h2:=eC 28 ah.cells (bd it);have h3:=gD (c:=be.cells) hi;rw [hic it hi] at h3;omega
theorem IY.words_ok (h:IY D d x la lw lr lk li pt bd) (hN:bj x.cells≤16777216) (s:PS):aU Tryz.prog Γ ext 57 [.agg x.cells] s=some (b9 82 aw.cells (eH (ft (la.getD []) (lw.getD []) (lr.getD []) (li.getD []) pt)),s):=by
 obtain⟨n1,n2,n3,_⟩:=h.sizes hN;exact Gb x la lw lr li pt h.a h.w h.r h.i h.hpt n1 n3 (fun y hy=>⟨(h.words y hy).one,(h.words y hy).clean⟩) s
theorem IY.kids_ok (h:IY D d x la lw lr lk li pt bd) (hN:bj x.cells≤16777216) (s:PS):aU Tryz.prog Γ ext 59 [.agg x.cells] s=some (b9 28 ah.cells (eH (jX (lk.getD []) (li.getD []) bd)),s):=by
 obtain⟨n1,n2,n3,_⟩:=h.sizes hN;refine Go.Proofs.YtflfflfodghgpaaGreatDoor.kids_ok x lk li bd h.k h.i h.hbd n2 n3 (fun y hy=>?_) s;have hy':y∈jX (lk.getD []) (li.getD []) bd:=by
  simp only [jX,List.mem_append,List.mem_flatMap];exact hy
 exact⟨(h.kids y hy').ones,(h.kids y hy').cleans⟩
end
structure y9 (x:ah) (b:Nat) (s0:PS) (slot:Nat) (i:Nat) (f:aO) (s:PS):Prop where
 s:s0=s
 p:f 1=.ptr b 0 9
 z:∃z:Int,f 3=.sc (.int .i64 z)
 i:f slot=.sc (.int .i64 (i:Int))
theorem G3 {D:Nat} : ∀(d:Nat) (x:ah),dn D d x→bj x.cells≤16777216→∀s,∃z:Int,aU Tryz.prog Γ ext 15 [.agg x.cells] s=some (.sc (.int .i64 z),s):=by
 intro d
 induction d with
 | zero=>intro x h; cases h
 | succ d ih=>
  intro x hx hN s;obtain⟨la,lw,lr,lk,li,pt,bd,hd⟩:=hx.dec;obtain⟨n1,n2,n3,n4⟩:=hd.sizes hN;have LA:=cA (e:=84) (c:=aF.cells) la;have LR:=cA (e:=148) (c:=bo.cells) lr;have LI:=cA (e:=150) (c:=be.cells) li;suffices h:∃q,aU Tryz.prog Γ ext 15 [.agg x.cells] s=some q∧∃z:Int,q=(.sc (.int .i64 z),s) by
   obtain⟨q,e,z,rfl⟩:=h;exact⟨z,e⟩
  refine yL (fn:=iw) (by rfl) (by simp [iw]) ?_;generalize hQ:H8 iw s _=Q;unfold iw;refine fA (fun f s'=>f 1=.ptr s.n 0 9∧s'.h s.n=⟨x.cells,0,28⟩∧s'.n=s.n + 1∧s'.w=s.n) ?_ ?_
  ·simp -implicitDefEqProofs only [bg,ax,aq,aN,bm,cK,aI,aC,aM,bx,↓reduceIte,bH];exact⟨_,_,rfl,rfl,by simp -implicitDefEqProofs only [↓reduceIte,dw],rfl,rfl⟩
  rintro f s1 ⟨p1,p2,p3,p4⟩;have q2:=p2;simp only [ah.cells,hd.a,hd.r,hd.i] at q2;refine fA (fun f s'=>s1=s'∧f 1=.ptr s.n 0 9∧∃z:Int,f 3=.sc (.int .i64 z)) ?_ ?_
  ·simp -implicitDefEqProofs only [bg,ax,aq,aN,bm,Nat.zero_add,Nat.reduceAdd,Option.map_some,Option.bind_some,aI,aC,aM,Nat.reduceEqDiff,↓reduceIte,bH,dl,au,List.length_cons,List.length_nil,Nat.reduceLeDiff,Nat.zero_le,and_self,List.drop_succ_cons,List.drop_zero,List.take_succ_cons,List.take_zero,Nat.le_refl,gN,Bool.false_eq_true,rl,p1,q2,LA,LR,LI];exact⟨_,_,rfl,rfl,p1,_,rfl⟩
  rintro f _ ⟨rfl,p1,hz⟩;refine kD ?_;refine fA (y9 x s.n s1 4 0) ?_ ?_
  ·simp -implicitDefEqProofs only [bg,ax,aq,aN,bm,aC,bH];exact⟨_,_,rfl,rfl,p1,hz,rfl⟩
  intro f s' hI;refine nc (la.getD []).length (y9 x s.n s1 4) (y9 x s.n s1 4 (la.getD []).length) hI ?_ ?_
  ·rintro i f _ hi ⟨rfl,p1,⟨z,hz⟩,h4⟩;by_cases hlt:i < (la.getD []).length
   ·have h5:(decide ((i:Int) < ((la.getD []).length:Int)))=true:=by simp; exact hlt
    have hx:(la.getD [])[i]?=some ((la.getD [])[i]):=List.getElem?_eq_getElem hlt;generalize (la.getD [])[i]=y at hx;obtain⟨m,rfl⟩ : ∃k,la=some k:=by cases la with | none=>simp at hx | some k=>exact⟨k,rfl⟩
    simp only [b9,Option.getD_some] at q2 hx hlt LA h5 n1;have h1:=aQ aF.len m;obtain⟨r1,h3⟩:=de aF.len hx;have h7:=fX (i:=i) (by omega);simp -implicitDefEqProofs only [aD,bB,aY,bV,aW,ce,bg,ax,aq,aN,bm,Nat.zero_add,Nat.reduceAdd,Option.map_some,Option.bind_some,aI,aC,aM,Nat.reduceEqDiff,↓reduceIte,bH,cG,lF,fy,bz,aK,dl,au,List.length_cons,List.length_nil,Nat.reduceLeDiff,Nat.zero_le,and_self,List.drop_succ_cons,List.drop_zero,List.take_succ_cons,List.take_zero,Nat.le_refl,gN,dI,List.nil_append,List.cons_append,Bool.false_eq_true,eE,gp,oZ,rl,p1,q2,h4,hz,LA,h5,h7,hlt,h1,h3,ap,aF.cells];exact⟨hlt,rfl,p1,⟨_,rfl⟩,rfl⟩
   ·obtain rfl:i=(la.getD []).length:=by omega
    have h5:(decide (((la.getD []).length:Int) < ((la.getD []).length:Int)))=false:=by simp
    simp -implicitDefEqProofs only [aD,bB,aY,bV,aW,bg,ax,aq,aN,bm,Nat.zero_add,Nat.reduceAdd,Option.map_some,Option.bind_some,aI,aM,Nat.reduceEqDiff,↓reduceIte,cG,iT,gq,bz,aK,dl,au,List.length_cons,List.length_nil,Nat.reduceLeDiff,Nat.zero_le,and_self,true_and,List.drop_succ_cons,List.drop_zero,List.take_succ_cons,List.take_zero,Nat.le_refl,dI,Bool.false_eq_true,gp,pj,p1,q2,h4,LA,h5];exact⟨rfl,p1,⟨z,hz⟩,h4⟩
  rintro f _ ⟨rfl,p1,hz,_⟩;have h38:=hd.words_ok (ext:=ext) hN s1;have hwds:=hd.words;have hwn:(ft (la.getD []) (lw.getD []) (lr.getD []) (li.getD []) pt).length≤16777216:=by simp only [ft,List.length_append,List.length_map]; omega
  generalize ft (la.getD []) (lw.getD []) (lr.getD []) (li.getD []) pt=wl at h38 hwds hwn;have hwl:(eH wl).getD []=wl:=fU wl;have LW:=cA (e:=82) (c:=aw.cells) (eH wl);rw [hwl] at LW;simp only [ah.cells] at h38;have q3:=p2;simp only [ah.cells] at q3;refine fA (fun f s'=>s1=s'∧f 1=.ptr s.n 0 9∧(∃z:Int,f 3=.sc (.int .i64 z))∧f 5=b9 82 aw.cells (eH wl)) ?_ ?_
  ·simp -implicitDefEqProofs only [bg,ax,aq,aN,bm,Nat.zero_add,Nat.reduceAdd,Option.map_some,Option.bind_some,aI,fB,aM,↓reduceIte,dl,au,List.length_cons,List.length_nil,Nat.zero_le,and_self,List.drop_zero,List.take_succ_cons,List.take_zero,Nat.le_refl,bS,List.map_cons,List.map_nil,List.nil_append,List.append_nil,p1,q3,h38];exact⟨_,_,rfl,rfl,p1,hz,rfl⟩
  rintro f _ ⟨rfl,p1,hz,hw⟩;refine kD ?_;refine fA (fun f s'=>y9 x s.n s1 6 0 f s'∧f 5=b9 82 aw.cells (eH wl)) ?_ ?_
  ·simp -implicitDefEqProofs only [bg,ax,aq,aN,bm,aC,bH];exact⟨_,_,rfl,⟨rfl,p1,hz,rfl⟩,hw⟩
  intro f s' hI;refine nc wl.length (fun i f s'=>y9 x s.n s1 6 i f s'∧f 5=b9 82 aw.cells (eH wl)) (y9 x s.n s1 6 wl.length) hI ?_ ?_
  ·rintro i f _ hi ⟨⟨rfl,p1,⟨z,hz⟩,h4⟩,hw⟩;by_cases hlt:i < wl.length
   ·have h5:(decide ((i:Int) < (wl.length:Int)))=true:=by simp; exact hlt
    have hx:wl[i]?=some (wl[i]):=List.getElem?_eq_getElem hlt;generalize wl[i]=y at hx;obtain⟨cz,cy,hc⟩:=Js (ext:=ext) D y.parts (hwds y (List.mem_of_getElem? hx)) s1;have hw':=hw;obtain hop:eH wl=some wl:=by cases wl with | nil=>simp at hx | cons a l=>rfl
    rw [hop] at hw' LW;simp only [b9] at hw' LW;have h1:=aQ aw.len wl;obtain⟨r1,h3⟩:=de aw.len hx;have h7:=fX (i:=i) (by omega);simp -implicitDefEqProofs only [aD,bB,aY,bV,aW,ce,bg,ax,aq,aN,bm,Option.map_some,Option.bind_some,aI,aC,fB,aM,Nat.reduceEqDiff,↓reduceIte,bH,cG,lF,fy,bz,aK,au,List.length_cons,Nat.reduceLeDiff,and_self,true_and,List.drop_succ_cons,List.drop_zero,List.take_succ_cons,List.take_zero,gN,dI,bS,List.map_cons,List.map_nil,List.nil_append,List.append_nil,List.cons_append,Bool.false_eq_true,eE,gp,oZ,List.getElem?_cons_zero,List.getElem?_cons_succ,hw',h4,hz,LW,h5,h7,hlt,h1,h3,ap,aw.cells,hc];exact⟨⟨rfl,p1,⟨_,rfl⟩,rfl⟩,hw'.symm.trans hw⟩
   ·obtain rfl:i=wl.length:=by omega
    have h5:(decide ((wl.length:Int) < (wl.length:Int)))=false:=by simp
    simp -implicitDefEqProofs only [aD,bB,aY,bV,aW,bg,ax,aq,aN,bm,Option.map_some,aI,aM,Nat.reduceEqDiff,↓reduceIte,cG,iT,gq,bz,aK,true_and,dI,gp,pj,hw,h4,LW,h5];exact⟨rfl,p1,⟨z,hz⟩,h4⟩
  rintro f _ ⟨rfl,p1,hz,_⟩;have h40:=hd.kids_ok (ext:=ext) hN s1;have hks:=hd.kids;have hkn:(jX (lk.getD []) (li.getD []) bd).length≤16777216:=by simp only [jX,List.length_append]; omega
  generalize jX (lk.getD []) (li.getD []) bd=kl at h40 hks n4 hkn;have LK:=cA (e:=28) (c:=ah.cells) (eH kl);rw [fU] at LK;simp only [ah.cells] at h40;refine fA (fun f s'=>s1=s'∧f 1=.ptr s.n 0 9∧(∃z:Int,f 3=.sc (.int .i64 z))∧f 9=b9 28 ah.cells (eH kl)) ?_ ?_
  ·simp -implicitDefEqProofs only [bg,ax,aq,aN,bm,Nat.zero_add,Nat.reduceAdd,Option.map_some,Option.bind_some,aI,fB,aM,↓reduceIte,dl,au,List.length_cons,List.length_nil,Nat.zero_le,and_self,List.drop_zero,List.take_succ_cons,List.take_zero,Nat.le_refl,bS,List.map_cons,List.map_nil,List.nil_append,List.append_nil,p1,q3,h40];exact⟨_,_,rfl,rfl,p1,hz,rfl⟩
  rintro f _ ⟨rfl,p1,hz,hw⟩;refine kD ?_;refine fA (fun f s'=>y9 x s.n s1 10 0 f s'∧f 9=b9 28 ah.cells (eH kl)) ?_ ?_
  ·simp -implicitDefEqProofs only [bg,ax,aq,aN,bm,aC,bH];exact⟨_,_,rfl,⟨rfl,p1,hz,rfl⟩,hw⟩
  intro f s' hI;refine nc kl.length (fun i f s'=>y9 x s.n s1 10 i f s'∧f 9=b9 28 ah.cells (eH kl)) (y9 x s.n s1 10 kl.length) hI ?_ ?_
  ·rintro i f _ hi ⟨⟨rfl,p1,⟨z,hz⟩,h4⟩,hw⟩;by_cases hlt:i < kl.length
   ·have h5:(decide ((i:Int) < (kl.length:Int)))=true:=by simp; exact hlt
    have hx:kl[i]?=some (kl[i]):=List.getElem?_eq_getElem hlt;generalize kl[i]=y at hx;obtain⟨cz,hc⟩:=ih y (hks y (List.mem_of_getElem? hx)) (n4 y (List.mem_of_getElem? hx)) s1;have hw':=hw;obtain hop:eH kl=some kl:=by cases kl with | nil=>simp at hx | cons a l=>rfl
    rw [hop] at hw' LK;simp only [b9] at hw' LK;have h1:=aQ ah.len kl;have h3:=mO ah.len hx;have h7:=fX (i:=i) (by omega);simp -implicitDefEqProofs only [aD,bB,aY,bV,aW,ce,bg,ax,aq,aN,bm,Option.map_some,Option.bind_some,aI,aC,fB,aM,Nat.reduceEqDiff,↓reduceIte,bH,cG,lF,fy,bz,aK,au,and_self,true_and,gN,dI,bS,List.map_cons,List.map_nil,List.nil_append,List.append_nil,eE,gp,oZ,hw',h4,hz,LK,h5,h7,hlt,h1,h3,hc];exact⟨⟨rfl,p1,⟨_,rfl⟩,rfl⟩,hw'.symm.trans hw⟩
   ·obtain rfl:i=kl.length:=by omega
    have h5:(decide ((kl.length:Int) < (kl.length:Int)))=false:=by simp
    simp -implicitDefEqProofs only [aD,bB,aY,bV,aW,bg,ax,aq,aN,bm,Option.map_some,aI,aM,Nat.reduceEqDiff,↓reduceIte,cG,iT,gq,bz,aK,true_and,dI,gp,pj,hw,h4,LK,h5];exact⟨rfl,p1,⟨z,hz⟩,h4⟩
  ·rintro f _ ⟨rfl,p1,⟨z,hz⟩,_⟩;refine yN ?_;simp -implicitDefEqProofs only [bg,ax,aq,aN,bm,aI,aM,↓reduceIte,hz];refine⟨_,_,rfl,?_⟩;subst hQ;refine yU ?_ ⟨z,rfl⟩;exact fJ (vs:=[.sc (.int .i64 z)]) rfl rfl (by omega) rfl
end Go.Proofs.YtflfflfodghgpaaGreatDoor
namespace Go.PE
open Go Go.EvL
noncomputable def mI {α:Type} (f:Nat→Option α):Nat→Tr α
 | 0=>.nil
 | n + 1=>match f n with
  | some a=>Tr.set a 40 (mI f n) n
  | none=>mI f n
theorem iL {α:Type} (f:Nat→Option α) (n b:Nat):(mI f n).get b=if b < n then f b else none:=by
 induction n with
 | zero=>simp [mI,Tr.get_nil]
 | succ n ih=>
  unfold mI;cases h:f n with
  | none=>
   simp only;rw [ih];by_cases hb:b=n
   ·subst hb; simp [h]
   ·by_cases hlt:b < n
    ·rw [if_pos hlt,if_pos (by omega)]
    ·rw [if_neg hlt,if_neg (by omega)]
  | some a=>
   simp only;rw [Tr.get_set _ _ _ _ trivial,ih];by_cases hb:b=n
   ·subst hb; rw [if_pos rfl,if_pos (by omega),h]
   ·rw [if_neg hb];by_cases hlt:b < n
    ·rw [if_pos hlt,if_pos (by omega)]
    ·rw [if_neg hlt,if_neg (by omega)]
structure jl where
 cells:List Value
 e:Nat
 blk:Nat
 sh:Nat
section
variable (P:Program) (w:World) (H:Nat)
def lY (b:Nat):Nat:=if b < P.globals.size then b else P.globals.size
theorem ol (b:Nat):lY P b≤P.globals.size:=by unfold lY; split<;>omega
def Db (V:List jl) (b:Nat):Option fM:=
 if b≤P.globals.size then some (.row [] 0 b 0 false) else (V[b - P.globals.size - 1]?).map fun v=>.row v.cells v.e (lY P v.blk) v.sh true
def Jh (V:List jl) (c j:Nat):Bool:=match V[j]? with
 | some v=>lY P v.blk == c
 | none=>false
def yA (V:List jl) (c:Nat):List Nat:=((List.range V.length).filter (Jh P V c)).map (· + (P.globals.size + 1))
noncomputable def IJ (V:List jl):AS:=
 ⟨mI (Db P V) (P.globals.size + 1 + V.length),P.globals.size + 1 + V.length,mI (fun c=>some (yA P V c)) (P.globals.size + 1),mI (fun _=>some H) (P.globals.size + 1),0,0⟩
def oK (V:List jl):dz:=fun b=>
 if b < P.globals.size then some ⟨b,0,qM w b,Fq P w b,b,0⟩ else if b=P.globals.size then none
 else (V[b - P.globals.size - 1]?).map fun v=>⟨v.blk,v.sh,qM w v.blk - v.sh,P.cellsOf v.e,lY P v.blk,v.sh⟩
structure Kh (V:List jl) (v:jl):Prop where
 row:∃C e fz,w.heap[v.blk]?=some (.cells C e fz)∧fz.2≤H∧v.sh + v.cells.length≤C.size∧bu (oK P w V) v.cells ((C.toList.drop v.sh).take v.cells.length)
variable {P w H}
theorem qK {V:List jl}{b:Nat}{o:fM} (h:(IJ P H V).heap.get b=some o) :
  (b≤P.globals.size∧o=.row [] 0 b 0 false)∨(P.globals.size < b∧∃v,V[b - P.globals.size - 1]?=some v∧o=.row v.cells v.e (lY P v.blk) v.sh true):=by
 have h':(mI (Db P V) (P.globals.size + 1 + V.length)).get b=some o:=h;rw [iL] at h';split at h'
 ·unfold Db at h';split at h'
  ·rename_i hb; injection h' with h'; exact .inl ⟨hb,h'.symm⟩
  ·rename_i hb;rw [Option.map_eq_some_iff] at h';obtain⟨v,h1,h2⟩:=h';exact .inr ⟨by omega,v,h1,h2.symm⟩
 ·cases h'
theorem qD {V:List jl}{j:Nat}{v:jl} (h:V[j]?=some v):(IJ P H V).heap.get (P.globals.size + 1 + j)=some (.row v.cells v.e (lY P v.blk) v.sh true):=by
 have hj:=(List.getElem?_eq_some_iff.1 h).1;show (mI (Db P V) (P.globals.size + 1 + V.length)).get _=_;rw [iL,if_pos (by omega)];unfold Db;rw [if_neg (by omega),show P.globals.size + 1 + j - P.globals.size - 1=j by omega,h];rfl
theorem nR {V:List jl}{j:Nat}{v:jl} (h:V[j]?=some v):oK P w V (P.globals.size + 1 + j)=some ⟨v.blk,v.sh,qM w v.blk - v.sh,P.cellsOf v.e,lY P v.blk,v.sh⟩:=by
 unfold oK;rw [if_neg (by omega),if_neg (by omega),show P.globals.size + 1 + j - P.globals.size - 1=j by omega,h];rfl
theorem mT {V:List jl}{b:Nat}{i:tg} (h:oK P w V b=some i) :
  (b < P.globals.size∧i=⟨b,0,qM w b,Fq P w b,b,0⟩)∨(P.globals.size < b∧∃v,V[b - P.globals.size - 1]?=some v∧i=⟨v.blk,v.sh,qM w v.blk - v.sh,P.cellsOf v.e,lY P v.blk,v.sh⟩):=by
 unfold oK at h;split at h
 ·rename_i hb; injection h with h; exact .inl ⟨hb,h.symm⟩
 ·split at h
  ·cases h
  ·rename_i h1 h2;rw [Option.map_eq_some_iff] at h;obtain⟨v,h3,h4⟩:=h;exact .inr ⟨by omega,v,h3,h4.symm⟩
theorem yS (V:List jl):cE (IJ P H V):=by
 refine⟨fun b o hb=>?_,fun b cells e c st hb=>?_,fun c l x cells e c' st ok hm hx hg=>?_,fun b cells e c st ok hb=>?_,fun c l x hm hx=>?_,fun c l hm=>?_,fun c k hk=>?_⟩
 ·show b < P.globals.size + 1 + V.length∧cZ b o < P.globals.size + 1 + V.length;rcases qK hb with ⟨h1,rfl⟩ | ⟨h1,v,h2,rfl⟩
  ·exact⟨by omega,by show b < _; omega⟩
  ·have:=(List.getElem?_eq_some_iff.1 h2).1;have:=ol P v.blk;exact⟨by omega,by show lY P v.blk < _; omega⟩
 ·rcases qK hb with ⟨_,h2⟩ | ⟨h1,v,h2,h3⟩
  ·cases h2
  ·injection h3 with _ _ h3;subst h3;have hc:=ol P v.blk;have hj:=(List.getElem?_eq_some_iff.1 h2).1;show b∈((mI (fun c=>some (yA P V c)) (P.globals.size + 1)).get (lY P v.blk)).getD [lY P v.blk];rw [iL,if_pos (by omega)];show b∈yA P V (lY P v.blk);unfold yA;rw [List.mem_map];refine⟨b - P.globals.size - 1,List.mem_filter.2 ⟨List.mem_range.2 hj,?_⟩,by omega⟩;unfold Jh;rw [h2];simp
 ·have hm':(mI (fun c=>some (yA P V c)) (P.globals.size + 1)).get c=some l:=hm;rw [iL] at hm';split at hm'
  ·injection hm' with hm';subst hm';unfold yA at hx;rw [List.mem_map] at hx;obtain⟨j,hj,rfl⟩:=hx;have hj2:=(List.mem_filter.1 hj).2;unfold Jh at hj2;split at hj2
   ·rename_i v hv;rw [show j + (P.globals.size + 1)=P.globals.size + 1 + j by omega,qD hv] at hg;injection hg with hg;injection hg with _ _ hg;rw [← hg];simpa using hj2
   ·cases hj2
  ·cases hm'
 ·have hc:c≤P.globals.size:=by
   rcases qK hb with ⟨h1,h2⟩ | ⟨h1,v,h2,h3⟩
   ·injection h2 with _ _ h2; omega
   ·injection h3 with _ _ h3; rw [h3]; exact ol P v.blk
  refine⟨[],0,0,false,?_⟩;show (mI (Db P V) (P.globals.size + 1 + V.length)).get c=_;rw [iL,if_pos (by omega)];unfold Db;rw [if_pos hc]
 ·have hm':(mI (fun c=>some (yA P V c)) (P.globals.size + 1)).get c=some l:=hm;rw [iL] at hm';split at hm'
  ·injection hm' with hm';subst hm';unfold yA at hx;rw [List.mem_map] at hx;obtain⟨j,hj,rfl⟩:=hx;have:=List.mem_range.1 (List.mem_filter.1 hj).1;show _ < P.globals.size + 1 + V.length;omega
  ·cases hm'
 ·have hm':(mI (fun c=>some (yA P V c)) (P.globals.size + 1)).get c=some l:=hm;rw [iL] at hm';show c < P.globals.size + 1 + V.length;split at hm'
  ·omega
  ·cases hm'
 ·have hm':(mI (fun _=>some H) (P.globals.size + 1)).get c=some k:=hk;rw [iL] at hm';show c < P.globals.size + 1 + V.length;split at hm'
  ·omega
  ·cases hm'
theorem EK {b:Nat}{C:Array Value}{e:Nat}{fz:Nat × Nat} (h:w.heap[b]?=some (.cells C e fz)):qM w b=C.size:=by unfold qM; rw [h]
theorem uo {b:Nat}{o:Obj} (h:w.heap[b]?=some o):b < w.heap.size:=(Array.getElem?_eq_some_iff.1 h).1
theorem Nf {V:List jl} (hG:P.globals.size≤w.heap.size) (hH : 1180591620717411303424≤H) (hV:∀v∈V,Kh P w H V v) (T:Nat→Prop):iI P (oK P w V) T (IJ P H V) w:=by
 have hfz:∀c,c≤P.globals.size→(IJ P H V).fz.get c=some H:=fun c hc=>by
  show (mI (fun _=>some H) (P.globals.size + 1)).get c=_;rw [iL,if_pos (by omega)]
 refine⟨fun b i hb=>?_,fun b₁ b₂ i₁ i₂ h₁ h₂ he=>?_,fun b o hb hl hT=>?_,fun _ _ _=>trivial,fun g hg=>?_,fun b i hb hc=>?_⟩
 ·rcases mT hb with ⟨h1,rfl⟩ | ⟨h1,v,h2,rfl⟩
  ·show b < _; omega
  ·obtain⟨C,e,fz,h3,_⟩:=(hV v (List.mem_of_getElem? h2)).row;exact uo h3
 ·have key:∀b i,oK P w V b=some i→i.cls=lY P i.blk∧i.sh=i.st:=fun b i hb=>by
   rcases mT hb with ⟨h1,rfl⟩ | ⟨h1,v,h2,rfl⟩
   ·exact⟨by show b=lY P b; unfold lY; rw [if_pos h1],rfl⟩
   ·exact⟨rfl,rfl⟩
  obtain⟨k1,k2⟩:=key _ _ h₁;obtain⟨k3,k4⟩:=key _ _ h₂;exact⟨by rw [k1,k3,he],by omega⟩
 ·rcases qK hb with ⟨_,rfl⟩ | ⟨h1,v,h2,rfl⟩
  ·cases hl
  ·obtain⟨C,e',fz,h3,h4,h5,h6⟩:=(hV v (List.mem_of_getElem? h2)).row;have hb':b=P.globals.size + 1 + (b - P.globals.size - 1):=by omega
   refine⟨⟨v.blk,v.sh,qM w v.blk - v.sh,P.cellsOf v.e,lY P v.blk,v.sh⟩,_,?_,h3,?_⟩
   ·rw [hb'];exact nR h2
   ·have hf:=hfz _ (ol P v.blk);refine .row _ _ _ _ _ _ rfl rfl rfl ?_ h5 h6 (.inr ⟨H,hf,by show fz.2 + v.sh≤H + v.sh; omega⟩) e' (.inr ⟨H,hf,hH⟩);show v.sh + (qM w v.blk - v.sh)=C.size;rw [EK h3];omega
 ·exact⟨_,by unfold oK; rw [if_pos hg],rfl,rfl⟩
 ·rcases mT hb with ⟨h1,rfl⟩ | ⟨h1,v,h2,rfl⟩
  ·rfl
  ·have hc':lY P v.blk=b:=hc;have:=ol P v.blk;omega
theorem lg (V M:List jl):BB (oK P w V) (oK P w (V ++ M)):=by
 intro b i hb;rcases mT hb with ⟨h1,rfl⟩ | ⟨h1,v,h2,rfl⟩
 ·unfold oK; rw [if_pos h1]
 ·have hj:=(List.getElem?_eq_some_iff.1 h2).1;have h3:(V ++ M)[b - P.globals.size - 1]?=some v:=by rw [List.getElem?_append_left hj]; exact h2
  have hb':b=P.globals.size + 1 + (b - P.globals.size - 1):=by omega
  rw [hb'];exact nR h3
theorem ut (V M:List jl) (β:Nat→Nat):Fw (IJ P H V) (IJ P H (V ++ M)) β β 0 0 0 where
 le:=Nat.le_refl _
 next:=by show P.globals.size + 1 + V.length≤P.globals.size + 1 + (V ++ M).length; rw [List.length_append]; omega
 eq:=fun k hk=>by omega
 new:=fun k h1 h2=>by omega
 prot:=fun b cells e c st hb _=>by
  rcases qK hb with ⟨_,h2⟩ | ⟨h1,v,h2,h3⟩
  ·cases h2
  ·have hj:=(List.getElem?_eq_some_iff.1 h2).1;have h4:(V ++ M)[b - P.globals.size - 1]?=some v:=by rw [List.getElem?_append_left hj]; exact h2
   have hb':b=P.globals.size + 1 + (b - P.globals.size - 1):=by omega
   rw [hb',qD h4,h3]
 keep:=fun b cells e st ok k hk=>by omega
 w:=fun c hc hw=>by
  have:(0:Nat).testBit c=true:=hw;rw [Nat.zero_testBit] at this;cases this
theorem Kh.mono {V:List jl} (M:List jl) {v:jl} (h:Kh P w H V v):Kh P w H (V ++ M) v:=by
 obtain⟨C,e,fz,h1,h2,h3,h4⟩:=h.row;exact⟨C,e,fz,h1,h2,h3,h4.mono (lg V M)⟩
structure R2 (P:Program) (w:World) (H:Nat) (V:List jl) (vs cs:List Value) (ps:List PV):Prop where
 ok:∀v∈V,Kh P w H V v
 vr:bu (oK P w V) vs cs
 rc:Cs (IJ P H V) (fun _=>0) 0 vs ps
theorem Cs.append {A:AS}{β:Nat→Nat}{n:Nat} : ∀{l l':List Value}{r r':List PV},Cs A β n l r→Cs A β n l' r'→Cs A β n (l ++ l') (r ++ r'):=by
 intro l
 induction l with
 | nil=>intro l' r r' h h'; cases h; exact h'
 | cons v l ih=>intro l' r r' h h'; cases h with | cons _ p _ r h hs=>exact .cons _ _ _ _ h (ih hs h')
theorem R2.nil {V:List jl} (h:∀v∈V,Kh P w H V v):R2 P w H V [] [] []:=⟨h,.nil,.nil⟩
end
def zx (P:Program):List Field→Nat→Nat→Bool
 | [],k,m=>Nat.beq k m
 | f :: l,k,m=>Nat.beq f.offset k && (Nat.ble (k + P.cellsOf f.type) m && zx P l (k + P.cellsOf f.type) m)
def Tk (P:Program) (S:List TypeId) (t:TypeId):Bool:=match P.underlying t with
 | some .bool=>true
 | some (.int _)=>true
 | some .string=>true
 | some (.slice e)=>S.contains e && Nat.ble 1 (P.cellsOf e)
 | some (.struct fs)=>fs.toList.all (fun f=>S.contains f.type) && zx P fs.toList 0 (P.cellsOf t)
 | _=>false
def i6 (P:Program):Nat→TypeId→List PV→Prop
 | 0,_,_=>False
 | n + 1,t,ps=>match P.underlying t with
  | some .bool=>∃b,ps=[.sc (.bool b)]
  | some (.int k)=>∃z,ps=[.sc (.int k z)]∧(Lit.int k z).wf=true
  | some .string=>∃s:ByteArray,ps=[.sc (.string s)]∧s.size≤maxLen
  | some (.slice e)=>ps=[.sc (.slice none 0 0)]∨∃ls:List (List PV),ps=[.lit e ls.length ls.flatten]∧ls.length≤maxLen∧∀x∈ls,i6 P n e x
  | some (.struct fs)=>∃ls:List (List PV),ps=ls.flatten∧ls.length=fs.toList.length∧∀(j:Nat) f x,fs.toList[j]?=some f→ls[j]?=some x→i6 P n f.type x
  | _=>False
structure CW (H:Type) where
 b:DataW H→Nat
 bs:List (DataW H)→Nat
 nil:bs []=0
 cons:∀d l,bs (d :: l)=b d + bs l
 slice:∀l r,b (.slice l r)=bs l + bs r + 1
 agg:∀l,b (.agg l)=bs l + 1
 pos:∀d,1≤b d
 str:∀l,b (.lit (.string l))=l.length + 1
end Go.PE
namespace Go.PE
open Go Go.EvL
section
variable {P:Program}{w:World}{H:Nat}{D:Type}{enc:TypeId × Value→D}
theorem ow {α β:Type} (f:α→Option β):∀(l:List α) (r:List β),l.mapM f=some r→r.length=l.length∧∀(j:Nat) (a:α) (b:β),l[j]?=some a→r[j]?=some b→f a=some b:=by
 intro l
 induction l with
 | nil=>intro r h; simp at h; subst h; exact⟨rfl,fun j a b h=>by simp at h⟩
 | cons a l ih=>
  intro r h;rw [List.mapM_cons] at h;cases h1:f a with
  | none=>rw [h1] at h; cases h
  | some b=>
   rw [h1] at h;cases h2:l.mapM f with
   | none=>rw [h2] at h; cases h
   | some r'=>
    rw [h2] at h;have h':some (b :: r')=some r:=h;injection h' with h'; subst h';obtain⟨e1,e2⟩:=ih r' h2;refine⟨by simp [e1],fun j x y hx hy=>?_⟩;cases j with
    | zero=>simp at hx hy; subst hx; subst hy; exact h1
    | succ j=>exact e2 j x y (by simpa using hx) (by simpa using hy)
theorem wL {a:Addr}{n:Nat}{r:List Value} (h:w.cells? 0 a n=some r) (hn : 0 < n) :
  ∃C e fz,a.spot=none∧w.heap[a.block]?=some (.cells C e fz)∧a.off + n≤C.size∧r=(C.toList.drop a.off).take n:=by
 unfold World.cells? at h;rw [if_pos (Nat.zero_le _)] at h;obtain⟨h1,h2⟩:=ow _ _ _ h;rw [List.length_range] at h1;have hc:∀i,i < n→∃v,r[i]?=some v∧w.cell? (a.add i)=some v:=fun i hi=>
  ⟨r[i]'(by omega),List.getElem?_eq_getElem (by omega),h2 i i _ (by simp [hi]) (List.getElem?_eq_getElem (by omega))⟩
 obtain⟨v0,_,hv0⟩:=hc 0 hn;have e0:a.add 0=a:=by simp [Addr.add]
 rw [e0] at hv0;unfold World.cell? at hv0;split at hv0
 ·rename_i C e fz hh;split at hv0
  ·cases hv0
  ·rename_i hs;obtain⟨g,o,sp⟩:=a;have hsp:sp=none:=by simpa using hs
   subst hsp;have hcell:∀i,i < n→r[i]?=C[o + i]?∧o + i < C.size:=fun i hi=>by
    obtain⟨v,k1,k2⟩:=hc i hi;rw [eK] at k2;unfold World.cell? at k2;rw [show w.heap[(⟨g,o + i,none⟩ : Addr).block]?=some (.cells C e fz) from hh] at k2;have k3:C[o + i]?=some v:=k2;exact⟨by rw [k1,k3],(Array.getElem?_eq_some_iff.1 k3).1⟩
   refine⟨C,e,fz,rfl,hh,by have:=(hcell (n - 1) (by omega)).2; show o + n≤_; omega,?_⟩;apply List.ext_getElem?;intro i;rw [List.getElem?_take,List.getElem?_drop];split
   ·rename_i hi;rw [(hcell i hi).1,Array.getElem?_toList]
   ·rw [List.getElem?_eq_none (by omega)]
 ·cases hv0
theorem xr (S:List TypeId) (B:CW D) (fuel:Nat) (IH:∀t cs d ps,S.contains t=true→DataW.trod enc P w 0 (fun _=>true) true fuel t cs=some (d,ps)→∀V,(∀v∈V,Kh P w H V v)→∃M vs pvs,R2 P w H (V ++ M) vs cs pvs∧i6 P fuel t pvs∧bj pvs≤B.b d) :
  ∀(L:List (TypeId × List Value × DataW D × List MemPlace)),(∀y∈L,S.contains y.1=true∧DataW.trod enc P w 0 (fun _=>true) true fuel y.1 y.2.1=some y.2.2)→∀V,(∀v∈V,Kh P w H V v)→
   ∃(M:List jl) (vs:List Value) (ls:List (List PV)),R2 P w H (V ++ M) vs (L.flatMap (·.2.1)) ls.flatten∧ls.length=L.length∧(∀(j:Nat) y x,L[j]?=some y→ls[j]?=some x→i6 P fuel y.1 x)∧bj ls.flatten≤B.bs (L.map (·.2.2.1)):=by
 intro L
 induction L with
 | nil=>intro _ V hV; exact⟨[],[],[],by rw [List.append_nil]; exact .nil hV,rfl,fun j y x h=>by simp at h,by simp [dk]⟩
 | cons y L ih=>
  intro hL V hV;obtain⟨h1,h2⟩:=hL y List.mem_cons_self;obtain⟨M,vs,pvs,o1,t1,b1⟩:=IH y.1 y.2.1 y.2.2.1 y.2.2.2 h1 h2 V hV;obtain⟨M',vs',ls,o2,l2,t2,b2⟩:=ih (fun z hz=>hL z (List.mem_cons_of_mem _ hz)) (V ++ M) o1.ok;refine⟨M ++ M',vs ++ vs',pvs :: ls,?_,by simp [l2],fun j z x hz hx=>?_,?_⟩
  ·rw [← List.append_assoc,List.flatMap_cons,List.flatten_cons];exact⟨o2.ok,bu.append (VR.mono (lg _ _) o1.vr) o2.vr,Cs.append (o1.rc.mono (ut _ _ _)) o2.rc⟩
  ·cases j with
   | zero=>simp at hz hx; subst hz; subst hx; exact t1
   | succ j=>exact t2 j z x (by simpa using hz) (by simpa using hx)
  ·rw [List.flatten_cons,jR,List.map_cons,B.cons]; omega
theorem BF {cs:List Value} : ∀(fs:List Field) (k m:Nat),zx P fs k m=true→cs.length=m→(fs.flatMap fun f=>(cs.drop f.offset).take (P.cellsOf f.type))=cs.drop k:=by
 intro fs
 induction fs with
 | nil=>
  intro k m h hm;have:k=m:=Nat.eq_of_beq_eq_true h;rw [List.flatMap_nil,List.drop_of_length_le (by omega)]
 | cons f l ih=>
  intro k m h hm;simp only [zx,Bool.and_eq_true] at h;obtain⟨h1,h2,h3⟩:=h;have h1:=Nat.eq_of_beq_eq_true h1;have h2:=Nat.le_of_ble_eq_true h2;rw [List.flatMap_cons,ih _ _ h3 hm,h1,← List.drop_drop,List.take_append_drop]
theorem BZ {C:List Value}{es:Nat} : ∀(n o:Nat),((List.range n).flatMap fun i=>(C.drop (o + i * es)).take es)=(C.drop o).take (n * es):=by
 intro n
 induction n with
 | zero=>intro o; simp
 | succ n ih=>
  intro o;rw [List.range_succ,List.flatMap_append,ih,List.flatMap_cons,List.flatMap_nil,List.append_nil,Nat.succ_mul,List.take_add,List.drop_drop]
theorem J0 {fuel:Nat}{t:TypeId}{cs:List Value}{x:DataW D × List MemPlace} (hu:P.underlying t=some .bool) (h:DataW.trod enc P w 0 (fun _=>true) true (fuel + 1) t cs=some x):∃b,cs=[.bool b]:=by
 unfold DataW.trod at h;rw [hu] at h;split at h<;>simp_all
theorem Ly {fuel:Nat}{t:TypeId}{cs:List Value}{k:IntKind}{x:DataW D × List MemPlace} (hu:P.underlying t=some (.int k)) (h:DataW.trod enc P w 0 (fun _=>true) true (fuel + 1) t cs=some x):∃z,cs=[.int k z]∧(Lit.int k z).wf=true:=by
 unfold DataW.trod at h;rw [hu] at h;split at h<;>simp_all
theorem BK {fuel:Nat}{t:TypeId}{cs:List Value}{x:DataW D × List MemPlace} (hu:P.underlying t=some .string) (h:DataW.trod enc P w 0 (fun _=>true) true (fuel + 1) t cs=some x):∃s:ByteArray,cs=[.string s]∧s.size≤maxLen∧x.1=.lit (.string s.data.toList):=by
 unfold DataW.trod at h;rw [hu] at h;split at h<;>simp_all;rw [← h.2]
theorem CH {fuel:Nat}{t:TypeId}{cs:List Value}{fs:Array Field}{x:DataW D × List MemPlace} (hu:P.underlying t=some (.struct fs)) (h:DataW.trod enc P w 0 (fun _=>true) true (fuel + 1) t cs=some x) :
  cs.length=P.cellsOf t∧∃xs,(fs.toList.mapM fun f=>DataW.trod enc P w 0 (fun _=>true) true fuel f.type ((cs.drop f.offset).take (P.cellsOf f.type)))=some xs∧x.1=.agg (xs.map (·.1)):=by
 unfold DataW.trod at h;rw [hu] at h;split at h<;>simp_all;obtain⟨_,xs,h1,h2⟩:=h;exact⟨xs,h1,by rw [← h2]⟩
theorem Hd {fuel:Nat}{t e:TypeId}{cs:List Value}{x:DataW D × List MemPlace} (hu:P.underlying t=some (.slice e)) (h:DataW.trod enc P w 0 (fun _=>true) true (fuel + 1) t cs=some x) :
  cs=[.slice none 0 0]∨∃a len cap elems rest,cs=[.slice (some a) len cap]∧len≤cap∧cap≤maxLen∧x.1=.slice (elems.map (·.1)) (rest.map (·.1))∧
   ((List.range len).mapM fun i=>(w.cells? 0 (a.add (i * P.cellsOf e)) (P.cellsOf e)).bind (DataW.trod enc P w 0 (fun _=>true) true fuel e))=some elems∧
   ((List.range (cap - len)).mapM fun j=>(w.cells? 0 (a.add ((len + j) * P.cellsOf e)) (P.cellsOf e)).bind (DataW.trod enc P w 0 (fun _=>true) true fuel e))=some rest:=by
 unfold DataW.trod at h;rw [hu] at h;split at h<;>simp_all;obtain⟨⟨h1,h2⟩,h3⟩:=h;rw [Option.bind_eq_some_iff] at h3;obtain⟨elems,e1,e2⟩:=h3;rw [Option.map_eq_some_iff] at e2;obtain⟨rest,e3,e4⟩:=e2;exact⟨_,_,_,⟨rfl,rfl,rfl⟩,h1,h2,elems,rest,by rw [← e4],e1,e3⟩
theorem nT (V:List jl) (v:jl):(V ++ [v])[V.length]?=some v:=by simp
theorem uc (S:List TypeId) (hS:∀t,S.contains t=true→Tk P S t=true) (B:CW D) (hH:∀(b:Nat) (C:Array Value) (e:Nat) (fz:Nat × Nat),w.heap[b]?=some (.cells C e fz)→fz.2≤H) (h0:∃C e fz,w.heap[0]?=some (.cells C e fz)) :
  ∀(fuel:Nat) (t:TypeId) (cs:List Value) (d:DataW D) (ps:List MemPlace),S.contains t=true→DataW.trod enc P w 0 (fun _=>true) true fuel t cs=some (d,ps)→∀V,(∀v∈V,Kh P w H V v)→∃M vs pvs,R2 P w H (V ++ M) vs cs pvs∧i6 P fuel t pvs∧bj pvs≤B.b d:=by
 intro fuel
 induction fuel with
 | zero=>intro t cs d ps _ h; cases h
 | succ fuel IH=>
  intro t cs d ps ht h V hV;have hty:=hS t ht;unfold Tk at hty;unfold i6;have one:∀(v:Value),eT (oK P w V) v v→Nj v=true→R2 P w H (V ++ []) [v] [v] [.sc v]:=fun v h1 h2=>by
   rw [List.append_nil];exact⟨hV,.cons _ _ _ _ h1 .nil,.cons _ _ _ _ (.sc v h2) .nil⟩
  have b1:∀v:Value,JO v=1→bj [.sc v]≤B.b d:=fun v hv=>by
   have:=B.pos d;rw [db,dk];show JO v + 0≤_;omega
  split at hty
  ·rename_i hu;obtain⟨b,rfl⟩:=J0 hu h;exact⟨[],_,_,one (.bool b) (.bool b) rfl,⟨b,rfl⟩,b1 _ rfl⟩
  ·rename_i k hu;obtain⟨z,rfl,hz⟩:=Ly hu h;exact⟨[],_,_,one (.int k z) (.int k z) rfl,⟨z,rfl,hz⟩,b1 _ rfl⟩
  ·rename_i hu;obtain⟨s,rfl,hs,hd⟩:=BK hu h;refine⟨[],_,_,one (.string s) (.string s) rfl,⟨s,rfl,hs⟩,?_⟩;have hd:d=.lit (.string s.data.toList):=hd;rw [db,dk,hd,B.str];exact Nat.le_refl _
  ·rename_i e hu;rw [Bool.and_eq_true] at hty;have hes : 1≤P.cellsOf e:=Nat.le_of_ble_eq_true hty.2;rcases Hd hu h with rfl | ⟨a,len,cap,elems,rest,rfl,hlc,hcm,hd,he,hr⟩
   ·exact⟨[],_,_,one _ .nilSlice rfl,.inl rfl,b1 _ rfl⟩
   obtain⟨l1,l2⟩:=ow _ _ _ he;obtain⟨r1,r2⟩:=ow _ _ _ hr;rw [List.length_range] at l1 r1;have hd':d=.slice (elems.map (·.1)) (rest.map (·.1)):=hd;by_cases hcap:cap=0
   ·subst hcap;obtain rfl:len=0:=by omega
    obtain⟨C,e',fz,hC⟩:=h0;have hg:=qD (P:=P) (H:=H) (nT V ⟨[],e,0,0⟩);have hφ:=nR (P:=P) (w:=w) (nT V ⟨[],e,0,0⟩);refine⟨[⟨[],e,0,0⟩],[.slice (some ⟨P.globals.size + 1 + V.length,0,none⟩) 0 0],[.lit e 0 []],⟨fun v hv=>?_,?_,?_⟩,.inr ⟨[],rfl,Nat.zero_le _,fun x hx=>by cases hx⟩,?_⟩
    ·rw [List.mem_append,List.mem_singleton] at hv;rcases hv with hv | rfl
     ·exact (hV v hv).mono _
     ·exact⟨C,e',fz,hC,hH _ _ _ _ hC,Nat.zero_le _,.nil⟩
    ·exact .cons _ _ _ _ (.slice _ 0 0 0 0 a _ hφ (Nat.le_refl _) (Nat.le_refl _) (.inl rfl) (by rw [Nat.zero_mul]; exact Nat.zero_le _)) .nil
    ·exact .cons _ _ _ _ (.lit _ 0 0 0 e [] [] _ _ hg ⟨(yS _).lt _ _ hg |>.2,fun k hk=>by omega⟩ (Nat.zero_le _) (Nat.le_refl _) .nil) .nil
    ·have:=B.pos d;rw [db,dk];show bj [] + 1 + 0≤_;rw [dk];omega
   ·have hk:∀k,k < cap→∃row x,w.cells? 0 (a.add (k * P.cellsOf e)) (P.cellsOf e)=some row∧DataW.trod enc P w 0 (fun _=>true) true fuel e row=some x∧(k < len→elems[k]?=some x):=by
     intro k hk;by_cases hkl:k < len
     ·have hx:elems[k]?=some (elems[k]'(by omega)):=List.getElem?_eq_getElem (by omega);have:=l2 k k _ (by simp [hkl]) hx;rw [Option.bind_eq_some_iff] at this;obtain⟨row,g1,g2⟩:=this;exact⟨row,_,g1,g2,fun _=>hx⟩
     ·have hx:rest[k - len]?=some (rest[k - len]'(by omega)):=List.getElem?_eq_getElem (by omega);have:=r2 (k - len) (k - len) _ (List.getElem?_range (by omega)) hx;rw [Option.bind_eq_some_iff] at this;obtain⟨row,g1,g2⟩:=this;rw [show len + (k - len)=k by omega] at g1;exact⟨row,_,g1,g2,fun hh=>absurd hh hkl⟩
    obtain⟨row0,_,g1,_,_⟩:=hk 0 (by omega);rw [Nat.zero_mul,show a.add 0=a by simp [Addr.add]] at g1;obtain⟨C,e',fz,hsp,hC,_,_⟩:=wL g1 hes;obtain⟨g,o,sp⟩:=a;have hsp':sp=none:=hsp;subst hsp';have hrow:∀k,k < cap→o + k * P.cellsOf e + P.cellsOf e≤C.size∧∃x,DataW.trod enc P w 0 (fun _=>true) true fuel e ((C.toList.drop (o + k * P.cellsOf e)).take (P.cellsOf e))=some x∧(k < len→elems[k]?=some x):=by
     intro k hkc;obtain⟨row,x,g1,g2,g3⟩:=hk k hkc;rw [eK] at g1;obtain⟨C',_,_,_,hC',h4,h5⟩:=wL g1 hes;have:w.heap[g]?=_:=hC';rw [show w.heap[g]?=some (.cells C e' fz) from hC] at this;injection this with this;injection this with this;subst this;exact⟨h4,x,by rw [← h5]; exact g2,g3⟩
    have hsz:o + cap * P.cellsOf e≤C.size:=by
     have:=(hrow (cap - 1) (by omega)).1;have h2:(cap - 1) * P.cellsOf e + P.cellsOf e=cap * P.cellsOf e:=by
      rw [← Nat.succ_mul]; congr 1; omega
     omega
    have hle:len * P.cellsOf e≤cap * P.cellsOf e:=Nat.mul_le_mul_right _ hlc;obtain⟨M,vs,ls,o1,o2,o3,o4⟩:=xr S B fuel IH ((List.range len).map fun k=>(e,(C.toList.drop (o + k * P.cellsOf e)).take (P.cellsOf e),elems.getD k (.nil,[]))) (fun y hy=>by
     rw [List.mem_map] at hy;obtain⟨k,hk',rfl⟩:=hy;have hkl:=List.mem_range.1 hk';obtain⟨_,x,q1,q2⟩:=hrow k (by omega);refine⟨hty.1,?_⟩;rw [q1];simp only [List.getD_eq_getElem?_getD,q2 hkl,Option.getD_some]) V hV
    rw [List.flatMap_map,BZ] at o1;have hlen:vs.length=len * P.cellsOf e:=by
     have:=bu.length o1.vr;rw [this,List.length_take,List.length_drop,Array.length_toList];omega
    have hll:ls.flatten.length=vs.length:=(Cs.len o1.rc).symm;have hl3:ls.length=len:=by rw [o2]; simp
    have hg:=qD (P:=P) (H:=H) (nT (V ++ M) ⟨vs,e,g,o⟩);have hφ:=nR (P:=P) (w:=w) (nT (V ++ M) ⟨vs,e,g,o⟩);refine⟨M ++ [⟨vs,e,g,o⟩],[.slice (some ⟨P.globals.size + 1 + (V ++ M).length,0,none⟩) len len],[.lit e len ls.flatten],?_,.inr ⟨ls,by rw [hl3],by omega,fun x hx=>?_⟩,?_⟩
    ·rw [← List.append_assoc];refine⟨fun v hv=>?_,.cons _ _ _ _ (.slice _ 0 len len cap ⟨g,o,none⟩ _ hφ (Nat.le_refl _) hlc (.inr rfl) ?_) .nil,.cons _ _ _ _ (.lit _ 0 len len e ls.flatten vs _ _ hg ⟨(yS _).lt _ _ hg |>.2,fun k hk=>by omega⟩ (by omega) (Nat.le_refl _) ?_) .nil⟩
     ·rw [List.mem_append,List.mem_singleton] at hv;rcases hv with hv | rfl
      ·exact (o1.ok v hv).mono _
      ·refine⟨C,e',fz,hC,hH _ _ _ _ hC,?_,?_⟩
       ·show o + vs.length≤C.size;omega
       ·show bu _ vs ((C.toList.drop o).take vs.length);rw [hlen];exact o1.vr.mono (lg _ _)
     ·show 0 + cap * P.cellsOf e≤qM w g - o;rw [EK hC];omega
     ·rw [List.drop_zero,hll,List.take_length];exact o1.rc.mono (ut _ _ _)
    ·obtain⟨j,hj,rfl⟩:=List.getElem_of_mem hx;have:=o3 j (e,(C.toList.drop (o + j * P.cellsOf e)).take (P.cellsOf e),elems.getD j (.nil,[])) ls[j] (by
      rw [List.getElem?_map,List.getElem?_range (by omega)]; rfl) (List.getElem?_eq_getElem hj)
     exact this
    ·rw [db,dk,hd',B.slice];show bj ls.flatten + 1 + 0≤_;have:(((List.range len).map fun k=>(e,(C.toList.drop (o + k * P.cellsOf e)).take (P.cellsOf e),elems.getD k (.nil,[]))).map fun y=>y.2.2.1)=elems.map (·.1):=by
      apply List.ext_getElem?;intro j;simp only [List.map_map,List.getElem?_map];by_cases hj:j < len
      ·rw [List.getElem?_range hj];have hx:elems[j]?=some (elems[j]'(by omega)):=List.getElem?_eq_getElem (by omega);simp [hx,List.getD_eq_getElem?_getD]
      ·rw [List.getElem?_eq_none (by simp; omega),List.getElem?_eq_none (by omega)];rfl
     rw [this] at o4;omega
  ·rename_i fs hu;rw [Bool.and_eq_true] at hty;obtain⟨hlen,xs,hm,hd⟩:=CH hu h;have hd':d=.agg (xs.map (·.1)):=hd;obtain⟨m1,m2⟩:=ow _ _ _ hm;have hfl:=BF (P:=P) (cs:=cs) fs.toList 0 _ hty.2 hlen;obtain⟨M,vs,ls,o1,o2,o3,o4⟩:=xr S B fuel IH ((List.range fs.toList.length).map fun k=>((fs.toList.getD k default).type,(cs.drop (fs.toList.getD k default).offset).take (P.cellsOf (fs.toList.getD k default).type),xs.getD k (.nil,[]))) (fun y hy=>by
    rw [List.mem_map] at hy;obtain⟨k,hk',rfl⟩:=hy;have hkl:=List.mem_range.1 hk';have hf:fs.toList[k]?=some (fs.toList[k]'hkl):=List.getElem?_eq_getElem hkl;have hx:xs[k]?=some (xs[k]'(by omega)):=List.getElem?_eq_getElem (by omega);have hfd:fs.toList.getD k default=fs.toList[k]'hkl:=by rw [List.getD_eq_getElem?_getD,hf]; rfl
    have hxd:xs.getD k (.nil,[])=xs[k]'(by omega):=by rw [List.getD_eq_getElem?_getD,hx]; rfl
    simp only [hfd,hxd];exact⟨List.all_eq_true.1 hty.1 _ (List.getElem_mem hkl),m2 k _ _ hf hx⟩) V hV
   have hrows:(((List.range fs.toList.length).map fun k=>((fs.toList.getD k default).type,(cs.drop (fs.toList.getD k default).offset).take (P.cellsOf (fs.toList.getD k default).type),xs.getD k (.nil,[]))).flatMap fun y=>y.2.1)=cs:=by
    rw [List.flatMap_map];have e1:((List.range fs.toList.length).flatMap fun k=>(cs.drop (fs.toList.getD k default).offset).take (P.cellsOf (fs.toList.getD k default).type))=fs.toList.flatMap fun f=>(cs.drop f.offset).take (P.cellsOf f.type):=by
     have e2:(List.range fs.toList.length).map (fun k=>fs.toList.getD k default)=fs.toList:=by
      apply List.ext_getElem?;intro j;rw [List.getElem?_map];by_cases hj:j < fs.toList.length
      ·rw [List.getElem?_range hj,List.getElem?_eq_getElem hj];show some (fs.toList.getD j default)=some fs.toList[j];rw [List.getD_eq_getElem?_getD,List.getElem?_eq_getElem hj];rfl
      ·rw [List.getElem?_eq_none (by simp; simpa using hj),List.getElem?_eq_none (by omega)];rfl
     conv=>rhs; rw [← e2,List.flatMap_map]
    rw [e1,hfl,List.drop_zero]
   rw [hrows] at o1;refine⟨M,vs,ls.flatten,o1,⟨ls,rfl,by rw [o2]; simp,fun j f x hf hx=>?_⟩,?_⟩
   ·have hj:=(List.getElem?_eq_some_iff.1 hf).1;have:=o3 j ((fs.toList.getD j default).type,(cs.drop (fs.toList.getD j default).offset).take (P.cellsOf (fs.toList.getD j default).type),xs.getD j (.nil,[])) x (by
     rw [List.getElem?_map,List.getElem?_range hj]; rfl) hx
    rw [List.getD_eq_getElem?_getD,hf] at this;exact this
   ·have e3:(((List.range fs.toList.length).map fun k=>((fs.toList.getD k default).type,(cs.drop (fs.toList.getD k default).offset).take (P.cellsOf (fs.toList.getD k default).type),xs.getD k (.nil,[]))).map fun y=>y.2.2.1)=xs.map (·.1):=by
     apply List.ext_getElem?;intro j;simp only [List.map_map,List.getElem?_map];by_cases hj:j < fs.toList.length
     ·rw [List.getElem?_range hj];have hx:xs[j]?=some (xs[j]'(by omega)):=List.getElem?_eq_getElem (by omega);simp [hx,List.getD_eq_getElem?_getD]
     ·rw [List.getElem?_eq_none (by simp; simpa using hj),List.getElem?_eq_none (by omega)];rfl
    rw [e3] at o4;rw [hd',B.agg];omega
  ·cases hty
end
end Go.PE
namespace Go.PE
open Go Go.EvL Go.RowKit
section
variable {P:Program}{Γ:Nat→Option fN}{ext:ai}
def R7:PS:=⟨fun _=>⟨[],0,0⟩,0,0⟩
theorem Hq (hE:yG P) (hO:cP P) (hm:P.follows .mixedOrders=true) (hP:sU P) (hΓ:wV P Γ) (hX:fa P (ez Γ) ext) {g:Nat} (hpu:ez Γ g=true) {w:World}{H:Nat}{args:Array Value}{pvs:List PV}{V:List jl}{vs:List Value}
  (hG:P.globals.size≤w.heap.size) (hH : 1180591620717411303424≤H) (hV:∀v∈V,Kh P w H V v) (hvr:bu (oK P w V) vs args.toList) (hrs:Rs (IJ P H V) (fun _=>0) 0 vs pvs) {s':PS} (h:aU P Γ ext g pvs R7=some (.sc (.bool true),s')) :
  Calls P g args w fun e w'=>e=.returned (.bool true)∧Below w.heap.size w w':=by
 obtain⟨_,_,hh⟩:=HT hE hO hm hP hΓ hX g pvs R7 _ _ h;obtain⟨u,A',β',cs,_,_,r1,hw⟩:=hh (IJ P H V) (fun _=>0) vs (yS V) ⟨fun k hk=>absurd hk (Nat.not_lt_zero _),fun j k hj=>absurd hj (Nat.not_lt_zero _)⟩ hrs;obtain⟨rfl,_⟩:=r1.sc;refine (cs.run (oK P w V) (fun _=>True) w args hvr (Nf hG hH hV _) (fun _ _ _=>trivial) fun b hb _=>?_).mono ?_
 ·have hb':P.globals.size + 1 + V.length≤b:=hb;unfold oK;rw [if_neg (by omega),if_neg (by omega),List.getElem?_eq_none (by omega)];rfl
 ·rintro e w' ⟨φ',hp,he⟩;refine⟨?_,hp.os,hp.tape,hp.output,hp.size,fun k hk=>hp.same k hk fun b i hb hi=>?_⟩
  ·cases he with
   | ret _ v' hv=>cases hv; rfl
  ·have hc:i.cls < (IJ P H V).next:=by
    show i.cls < P.globals.size + 1 + V.length;rcases mT hb with ⟨h1,rfl⟩ | ⟨h1,v,h2,rfl⟩
    ·show b < _; omega
    ·have:=ol P v.blk;show lY P v.blk < _; omega
   cases hbit:A'.w.testBit i.cls with
   | false=>rfl
   | true=>
    have:=hw hpu _ hc hbit;have h0:(0:Nat).testBit i.cls=true:=this;rw [Nat.zero_testBit] at h0;cases h0
def pP (gA:Nat):ai:=fun g args s=>if g=gA∧args.isEmpty=true then some (.sc (.bool true),s) else none
theorem LN {gA:Nat} (hb:∃fn c,P.funcs[gA]?=some fn∧fn.body=some c) (hc:∀w:World,P.globals.size≤w.heap.size→Calls P gA #[] w fun e w'=>e=.returned (.bool true)∧Below w.heap.size w w') (pu:Nat→Bool):fa P pu (pP gA):=by
 intro g args s q s' h;unfold pP at h;split at h
 ·rename_i hg;obtain⟨rfl,ha⟩:=hg;injection h with h;injection h with h1 h2;subst h1;subst h2;have ha':args=[]:=List.isEmpty_iff.1 ha;subst ha';refine⟨hb,.refl _,fun A β vs hi hs hr=>?_⟩;have hvs:vs=[]:=by cases hr; rfl
  subst hvs;refine⟨.bool true,A,β,⟨.refl hi,fun φ T w args' hv hrel _ _=>?_⟩,.refl _ _ _ _,hs,.cl _ _ (.sc _ rfl),fun _ c _ h=>h⟩;have ha2:args' = #[]:=by
   cases args' with
   | mk l=>cases hv; rfl
  subst ha2;refine (hc w (sa hrel)).mono ?_;rintro e w' ⟨rfl,bel⟩;exact⟨φ,cm.below hrel rfl rfl rfl bel,.ret _ _ (.bool true)⟩
 ·cases h
theorem JI (w:World):∃H,1180591620717411303424≤H∧∀(b:Nat) (C:Array Value) (e:Nat) (fz:Nat × Nat),w.heap[b]?=some (.cells C e fz)→fz.2≤H:=by
 have key:∀l:List Obj,∃H,1180591620717411303424≤H∧∀C e (fz:Nat × Nat),Obj.cells C e fz∈l→fz.2≤H:=by
  intro l
  induction l with
  | nil=>exact⟨_,Nat.le_refl _,fun C e fz h=>by cases h⟩
  | cons o l ih=>
   obtain⟨H,h1,h2⟩:=ih;cases o with
   | cells C e fz=>
    refine⟨H + fz.2,by omega,fun C' e' fz' h=>?_⟩;rcases List.mem_cons.1 h with h | h
    ·injection h with _ _ h; subst h; omega
    ·have:=h2 _ _ _ h; omega
   | _=>
    refine⟨H,h1,fun C' e' fz' h=>?_⟩;rcases List.mem_cons.1 h with h | h
    ·cases h
    ·exact h2 _ _ _ h
 obtain⟨H,h1,h2⟩:=key w.heap.toList;exact⟨H,h1,fun b C e fz h=>h2 C e fz (by
  have:=Array.mem_of_getElem? h;simpa using this)⟩
end
end Go.PE
namespace Go.PE
open Go Go.EvL
section
variable {P:Program}
def yV (P:Program) (n:Nat):List Field→List (List PV)→Prop
 | [],[]=>True
 | f :: fs,x :: ls=>i6 P n f.type x∧yV P n fs ls
 | _,_=>False
theorem MD {n:Nat} : ∀(fs:List Field) (ls:List (List PV)),ls.length=fs.length→(∀(j:Nat) f x,fs[j]?=some f→ls[j]?=some x→i6 P n f.type x)→yV P n fs ls:=by
 intro fs
 induction fs with
 | nil=>intro ls h _; cases ls with | nil=>trivial | cons a l=>cases h
 | cons f fs ih=>
  intro ls h hh;cases ls with
  | nil=>cases h
  | cons x ls=>exact⟨hh 0 f x rfl rfl,ih ls (by simpa using h) fun j f x h1 h2=>hh (j + 1) f x (by simpa using h1) (by simpa using h2)⟩
theorem eV {n t:Nat}{fs:Array Field}{ps:List PV} (hu:P.underlying t=some (.struct fs)) (h:i6 P n t ps):∃m ls,n=m + 1∧ps=ls.flatten∧yV P m fs.toList ls:=by
 cases n with
 | zero=>cases h
 | succ n=>
  unfold i6 at h;rw [hu] at h;obtain⟨ls,h1,h2,h3⟩:=h;exact⟨n,ls,rfl,h1,MD _ _ h2 h3⟩
theorem xg {n:Nat}{f1 f2:Field}{ls:List (List PV)} (h:yV P n [f1,f2] ls):∃a1 a2,ls=[a1,a2]∧i6 P n f1.type a1∧i6 P n f2.type a2:=by
 match ls,h with
 | [a1,a2],⟨h1,h2,_⟩=>exact⟨a1,a2,rfl,h1,h2⟩
theorem Sj {n:Nat}{f1 f2 f3:Field}{ls:List (List PV)} (h:yV P n [f1,f2,f3] ls):∃a1 a2 a3,ls=[a1,a2,a3]∧i6 P n f1.type a1∧i6 P n f2.type a2∧i6 P n f3.type a3:=by
 match ls,h with
 | [a1,a2,a3],⟨h1,h2,h3,_⟩=>exact⟨a1,a2,a3,rfl,h1,h2,h3⟩
theorem Sy {n:Nat}{f1 f2 f3 f4:Field}{ls:List (List PV)} (h:yV P n [f1,f2,f3,f4] ls):∃a1 a2 a3 a4,ls=[a1,a2,a3,a4]∧i6 P n f1.type a1∧i6 P n f2.type a2∧i6 P n f3.type a3∧i6 P n f4.type a4:=by
 match ls,h with
 | [a1,a2,a3,a4],⟨h1,h2,h3,h4,_⟩=>exact⟨a1,a2,a3,a4,rfl,h1,h2,h3,h4⟩
theorem NT {n:Nat}{f1 f2 f3 f4 f5:Field}{ls:List (List PV)} (h:yV P n [f1,f2,f3,f4,f5] ls):∃a1 a2 a3 a4 a5,ls=[a1,a2,a3,a4,a5]∧i6 P n f1.type a1∧i6 P n f2.type a2∧i6 P n f3.type a3∧i6 P n f4.type a4∧i6 P n f5.type a5:=by
 match ls,h with
 | [a1,a2,a3,a4,a5],⟨h1,h2,h3,h4,h5,_⟩=>exact⟨a1,a2,a3,a4,a5,rfl,h1,h2,h3,h4,h5⟩
theorem SI {n:Nat}{f1 f2 f3 f4 f5 f6 f7 f8 f9:Field}{ls:List (List PV)} (h:yV P n [f1,f2,f3,f4,f5,f6,f7,f8,f9] ls):∃a1 a2 a3 a4 a5 a6 a7 a8 a9,ls=[a1,a2,a3,a4,a5,a6,a7,a8,a9]∧i6 P n f1.type a1∧i6 P n f2.type a2∧i6 P n f3.type a3∧i6 P n f4.type a4∧i6 P n f5.type a5∧i6 P n f6.type a6∧i6 P n f7.type a7∧i6 P n f8.type a8∧i6 P n f9.type a9:=by
 match ls,h with
 | [a1,a2,a3,a4,a5,a6,a7,a8,a9],⟨h1,h2,h3,h4,h5,h6,h7,h8,h9,_⟩=>exact⟨a1,a2,a3,a4,a5,a6,a7,a8,a9,rfl,h1,h2,h3,h4,h5,h6,h7,h8,h9⟩
theorem Oo {n t:Nat}{ps:List PV} (h:i6 P n t ps):∃k,n=k + 1:=by
 cases n with
 | zero=>cases h
 | succ n=>exact⟨n,rfl⟩
theorem gC {n t:Nat}{k:IntKind}{ps:List PV} (hu:P.underlying t=some (.int k)) (h:i6 P n t ps):∃z,ps=[.sc (.int k z)]∧(Lit.int k z).wf=true:=by
 cases n with
 | zero=>cases h
 | succ n=>unfold i6 at h; rw [hu] at h; exact h
theorem lJ {n t:Nat}{ps:List PV} (hu:P.underlying t=some .bool) (h:i6 P n t ps):∃z,ps=[.sc (.bool z)]:=by
 cases n with
 | zero=>cases h
 | succ n=>unfold i6 at h; rw [hu] at h; exact h
theorem eD {n t:Nat}{ps:List PV} (hu:P.underlying t=some .string) (h:i6 P n t ps):∃s:ByteArray,ps=[.sc (.string s)]∧s.size≤maxLen:=by
 cases n with
 | zero=>cases h
 | succ n=>unfold i6 at h; rw [hu] at h; exact h
theorem NH {α:Type}{c:α→List PV}{Q:α→Prop} : ∀(ls:List (List PV)),(∀x∈ls,∃d,x=c d∧Q d)→∃l:List α,ls.flatten=l.flatMap c∧l.length=ls.length∧∀d∈l,Q d:=by
 intro ls
 induction ls with
 | nil=>intro _; exact⟨[],rfl,rfl,fun d h=>by cases h⟩
 | cons x ls ih=>
  intro h;obtain⟨d,rfl,hd⟩:=h x List.mem_cons_self;obtain⟨l,e1,e2,e3⟩:=ih fun y hy=>h y (List.mem_cons_of_mem _ hy);exact⟨d :: l,by rw [List.flatten_cons,List.flatMap_cons,e1],by simp [e2],fun y hy=>by
   rcases List.mem_cons.1 hy with rfl | hy
   ·exact hd
   ·exact e3 y hy⟩
theorem cB {x:List PV}{ls:List (List PV)} (h:x∈ls):bj x≤bj ls.flatten:=by
 have:=gD (c:=id) h;simpa [List.flatMap_id] using this
theorem mE {α:Type}{c:α→List PV}{Q:α→Prop}{n t e N:Nat}{ps:List PV} (hu:P.underlying t=some (.slice e)) (h:i6 P n t ps) (hc:∀d,1≤(c d).length) (hN:bj ps≤N) (hN':N < 4611686018427387904)
  (hel:∀m x,n=m + 1→i6 P m e x→bj x≤N→∃d,x=c d∧Q d):∃(p:PV) (l:Option (List α)),ps=[p]∧p=b9 e c l∧(l.getD []).length < 4611686018427387904∧∀d∈l.getD [],Q d:=by
 cases n with
 | zero=>cases h
 | succ n=>
  unfold i6 at h;rw [hu] at h;rcases h with rfl | ⟨ls,rfl,h1,h2⟩
  ·exact⟨_,none,rfl,rfl,by simp,fun d hd=>by cases hd⟩
  ·rw [db,dk] at hN;have hN2:bj ls.flatten + 1 + 0≤N:=hN;obtain⟨l,e1,e2,e3⟩:=NH (c:=c) (Q:=Q) ls fun x hx=>hel n x rfl (h2 x hx) (by have:=cB hx; omega);refine⟨_,some l,rfl,by rw [e1,← e2]; rfl,?_,e3⟩;have h3:=gL (e:=e) (c:=c) hc (some l);have h4:=eC e c (some l);simp only [Option.getD_some] at h3 h4 ⊢;rw [← e1] at h4;omega
end
end Go.PE
namespace Go.Proofs.YtflfflfodghgpaaGreatDoor
open Go Go.EvL Go.PE
theorem bA.succ:∀{d:Nat}{p:PV},bA d p→bA (d + 1) p:=by
 intro d
 induction d with
 | zero=>intro p h; cases h
 | succ d ih=>
  rintro p ⟨l,h1,h2,h3⟩;exact⟨l,h1,h2,fun x hx=>ih (h3 x hx)⟩
theorem bA.mono {d d':Nat}{p:PV} (h:bA d p) (hd:d≤d'):bA d' p:=by
 obtain⟨k,rfl⟩ : ∃k,d'=d + k:=⟨d' - d,by omega⟩
 induction k with
 | zero=>exact h
 | succ k ih=>exact (ih (by omega)).succ
theorem iC.mono {α:Type}{e:Nat}{c:α→List PV}{Q Q':α→Prop}{p:PV} (h:iC e c Q p) (hq:∀x,Q x→Q' x):iC e c Q' p:=by
 obtain⟨l,h1,h2,h3⟩:=h;exact⟨l,h1,h2,fun x hx=>hq x (h3 x hx)⟩
theorem dn.succ {D:Nat} : ∀{d:Nat}{x:ah},dn D d x→dn D (d + 1) x:=by
 intro d
 induction d with
 | zero=>intro x h; cases h
 | succ d ih=>
  rintro x ⟨h1,h2,h3,h4,h5⟩;exact⟨h1,h2,h3,h4.mono fun x=>ih,h5.mono fun x h=>⟨h.1,h.2.mono fun x=>ih⟩⟩
theorem dn.mono {D d d':Nat}{x:ah} (h:dn D d x) (hd:d≤d'):dn D d' x:=by
 obtain⟨k,rfl⟩ : ∃k,d'=d + k:=⟨d' - d,by omega⟩
 induction k with
 | zero=>exact h
 | succ k ih=>exact (ih (by omega)).succ
theorem JX {N:Nat} (hN:N < 4611686018427387904):∀(n:Nat) (ps:List PV),i6 Tryz.prog n 80 ps→bj ps≤N→∃p,ps=[p]∧bA n p:=by
 intro n
 induction n using Nat.strongRecOn with
 | ind n ih=>
  intro ps h hb;obtain⟨j,hj⟩:=Oo h;obtain⟨p,l,h1,h2,h3,h4⟩:=mE (c:=ao.cells) (Q:=fun x=>bA j x.parts) Tryz.underlying80 h (fun d=>by rw [ao.len]; omega) hb hN (fun m x hm hx hbx=>by
   obtain rfl:j=m:=by omega
   obtain⟨k,ls,hk,rfl,hf⟩:=eV Tryz.underlying90 hx;obtain⟨a,b,c,d,e,rfl,f1,f2,f3,f4,f5⟩:=NT hf;obtain⟨z1,rfl,_⟩:=gC Tryz.underlying3 f1;obtain⟨z2,rfl,_⟩:=eD Tryz.underlying9 f2;obtain⟨z3,rfl,_⟩:=gC Tryz.underlying3 f3;obtain⟨z4,rfl⟩:=lJ Tryz.underlying4 f4;obtain⟨q,rfl,hq⟩:=ih k (by omega) e f5 (Nat.le_trans (cB (by simp)) hbx);exact⟨⟨z1,z2,z3,z4,q⟩,rfl,hq.mono (by omega)⟩)
  refine⟨p,h1,?_⟩;rw [hj];exact⟨l,h2,h3,h4⟩
theorem yj {N:Nat} (hN:N < 4611686018427387904) {n:Nat}{ps:List PV} (h:i6 Tryz.prog n 82 ps) (hb:bj ps≤N):∃x:aw,ps=x.cells∧bA n x.parts:=by
 obtain⟨k,ls,rfl,rfl,hf⟩:=eV Tryz.underlying82 h;obtain⟨a,b,rfl,f1,f2⟩:=xg hf;obtain⟨z1,rfl,_⟩:=gC Tryz.underlying3 f1;obtain⟨q,rfl,hq⟩:=JX hN k b f2 (Nat.le_trans (cB (by simp)) hb);exact⟨⟨z1,q⟩,rfl,hq.succ⟩
theorem Bt {N:Nat} (hN:N < 4611686018427387904) {n D:Nat} (hD:n≤D) {ps:List PV} (h:i6 Tryz.prog n 23 ps) (hb:bj ps≤N):∃p,ps=[p]∧qZ D p:=by
 obtain⟨p,l,h1,h2,h3,h4⟩:=mE (c:=aw.cells) (Q:=fun x=>bA D x.parts) Tryz.underlying23 h (fun d=>by rw [aw.len]; omega) hb hN (fun m x hm hx hbx=>by
  obtain⟨y,h1,h2⟩:=yj hN hx hbx;exact⟨y,h1,h2.mono (by omega)⟩)
 exact⟨p,h1,l,h2,h3,h4⟩
theorem CC {N:Nat} (hN:N < 4611686018427387904) {n D:Nat} (hD:n≤D) {ps:List PV} (h:i6 Tryz.prog n 22 ps) (hb:bj ps≤N):∃p,ps=[p]∧s6 D p:=by
 obtain⟨p,l,h1,h2,h3,h4⟩:=mE (c:=aF.cells) (Q:=fun x=>bA D x.parts) Tryz.underlying22 h (fun d=>by rw [aF.len]; omega) hb hN (fun m x hm hx hbx=>by
  obtain⟨k,ls,rfl,rfl,hf⟩:=eV Tryz.underlying84 hx;obtain⟨a,b,c,rfl,f1,f2,f3⟩:=Sj hf;obtain⟨z1,rfl,_⟩:=gC Tryz.underlying3 f1;obtain⟨z2,rfl,_⟩:=eD Tryz.underlying9 f2;obtain⟨y,rfl,hy⟩:=yj hN f3 (Nat.le_trans (cB (by simp)) hbx);exact⟨⟨z1,z2,y.pos,y.parts⟩,rfl,hy.mono (by omega)⟩)
 exact⟨p,h1,l,h2,h3,h4⟩
theorem GE {N:Nat} (hN:N < 4611686018427387904) {n D:Nat} (hD:n≤D) {ps:List PV} (h:i6 Tryz.prog n 24 ps) (hb:bj ps≤N):∃p,ps=[p]∧vL D p:=by
 obtain⟨p,l,h1,h2,h3,h4⟩:=mE (c:=bo.cells) (Q:=fun x=>bA D x.parts) Tryz.underlying24 h (fun d=>by rw [bo.len]; omega) hb hN (fun m x hm hx hbx=>by
  obtain⟨k,ls,rfl,rfl,hf⟩:=eV Tryz.underlying148 hx;obtain⟨a,b,c,d,rfl,f1,f2,f3,f4⟩:=Sy hf;obtain⟨z1,rfl,_⟩:=gC Tryz.underlying3 f1;obtain⟨z2,rfl,_⟩:=gC Tryz.underlying3 f2;obtain⟨z3,rfl,_⟩:=gC Tryz.underlying3 f3;obtain⟨y,rfl,hy⟩:=yj hN f4 (Nat.le_trans (cB (by simp)) hbx);exact⟨⟨z1,z2,z3,y.pos,y.parts⟩,rfl,hy.mono (by omega)⟩)
 exact⟨p,h1,l,h2,h3,h4⟩
theorem Mc {N:Nat} (hN:N < 4611686018427387904) {D:Nat} : ∀(n:Nat),n≤D→∀(ps:List PV),i6 Tryz.prog n 28 ps→bj ps≤N→∃x:ah,ps=x.cells∧dn D n x:=by
 intro n
 induction n using Nat.strongRecOn with
 | ind n ih=>
  intro hn ps h hb;have kids:∀(m:Nat),m < n→∀(ps:List PV),i6 Tryz.prog m 25 ps→bj ps≤N→∃p,ps=[p]∧iC 28 ah.cells (dn D m) p:=by
   intro m hm ps h hb;obtain⟨p,l,h1,h2,h3,h4⟩:=mE (c:=ah.cells) (Q:=dn D m) Tryz.underlying25 h (fun d=>by rw [ah.len]; omega) hb hN (fun k x hk hx hbx=>by
    obtain⟨y,e1,e2⟩:=ih k (by omega) (by omega) x hx hbx;exact⟨y,e1,e2.mono (by omega)⟩)
   exact⟨p,h1,l,h2,h3,h4⟩
  obtain⟨k,ls,hk,rfl,hf⟩:=eV Tryz.underlying28 h;clear h;obtain⟨a1,a2,a3,a4,a5,a6,a7,a8,a9,rfl,f1,f2,f3,f4,f5,f6,f7,f8,f9⟩:=SI hf;obtain⟨z1,rfl,_⟩:=gC Tryz.underlying3 f1;obtain⟨z2,rfl,_⟩:=gC Tryz.underlying3 f2;obtain⟨z3,rfl,_⟩:=eD Tryz.underlying9 f3;obtain⟨z4,rfl⟩:=lJ Tryz.underlying4 f4;obtain⟨p5,rfl,h5⟩:=CC hN (D:=D) (by omega) f5 (Nat.le_trans (cB (by simp)) hb);obtain⟨p6,rfl,h6⟩:=Bt hN (D:=D) (by omega) f6 (Nat.le_trans (cB (by simp)) hb);obtain⟨p7,rfl,h7⟩:=GE hN (D:=D) (by omega) f7 (Nat.le_trans (cB (by simp)) hb);obtain⟨p8,rfl,h8⟩:=kids k (by omega) a8 f8 (Nat.le_trans (cB (by simp)) hb);obtain⟨p,l,h1,h2,h3,h4⟩:=mE (c:=be.cells) (Q:=fun it=>qZ D it.pats∧iC 28 ah.cells (dn D k) it.body) Tryz.underlying26 f9 (fun d=>by rw [be.len]; omega) (Nat.le_trans (cB (by simp)) hb) hN (fun m x hm hx hbx=>by
   obtain⟨k',ls,rfl,rfl,hf⟩:=eV Tryz.underlying150 hx;obtain⟨a,b,rfl,f1,f2⟩:=xg hf;obtain⟨q1,rfl,g1⟩:=Bt hN (D:=D) (by omega) f1 (Nat.le_trans (cB (by simp)) hbx);obtain⟨q2,rfl,g2⟩:=kids k' (by omega) b f2 (Nat.le_trans (cB (by simp)) hbx);exact⟨⟨q1,q2⟩,rfl,g1,g2.mono fun x h=>h.mono (by omega)⟩)
  subst h1;refine⟨⟨z1,z2,z3,z4,p5,p6,p7,p8,p⟩,rfl,?_⟩;rw [hk];exact⟨h5,h6,h7,h8,⟨l,h2,h3,h4⟩⟩
end Go.Proofs.YtflfflfodghgpaaGreatDoor
namespace Go.Proofs.YtflfflfodghgpaaGreatDoor
open Go Go.EvL Go.PE Go.Mir
variable {ext:ai}
theorem zd {t:List UInt8}{p j:Nat}{ps:List aT} (h:gY t p (.ok (ps,j))):ps.length≤16384∧∀q∈ps,Sm 16384 q:=by
 cases h with
 | wx h k=>
  have hb:=k.bound (Nat.zero_le _);have hs:=k.small (Nat.zero_le _) ⟨Nat.le_refl _,fun q hq=>by cases hq⟩;have up:∀q,Sm t.length q→Sm 16384 q:=fun q hq=>by
   induction hq with
   | mk h1 _ ih=>exact .mk (Nat.le_trans h1 h) ih
  exact⟨Nat.le_trans (Nat.le_trans hs.1 hb.2.1) h,fun q hq=>up q (hs.2 q hq)⟩
theorem DU {l:List aT} (h:∀q∈l,Sm 16384 q→∃d x,Kj q x∧x.cells=dL q∧bA d x.parts) (hs:∀q∈l,Sm 16384 q):∃d xs,tH l xs∧xs.flatMap ao.cells=t8 l∧∀x∈xs,bA d x.parts:=by
 induction l with
 | nil=>exact⟨0,[],by rw [tH],by rw [t8]; rfl,fun x hx=>by cases hx⟩
 | cons p l ih=>
  obtain⟨d,x,h1,h2,h3⟩:=h p (List.mem_cons_self ..) (hs p (List.mem_cons_self ..));obtain⟨e,xs,g1,g2,g3⟩:=ih (fun q hq=>h q (List.mem_cons_of_mem _ hq)) fun q hq=>hs q (List.mem_cons_of_mem _ hq);refine⟨max d e,x :: xs,?_,?_,?_⟩
  ·rw [tH];exact⟨x,xs,rfl,h1,g1⟩
  ·rw [t8,List.flatMap_cons,h2,g2]
  ·intro z hz;cases hz with
   | head=>exact h3.mono (Nat.le_max_left ..)
   | tail _ hz=>exact (g3 z hz).mono (Nat.le_max_right ..)
theorem IE {l:List aT}{xs:List ao} (h:tH l xs) (hc:xs.flatMap ao.cells=t8 l):dm l=b9 90 ao.cells (eH xs):=by
 have hl:=h.length;cases l with
 | nil=>
  rw [h.nil,dm];rfl
 | cons p ps=>
  cases xs with
  | nil=>cases hl
  | cons x xs=>
   rw [dm,← t8,← hc];show _=PV.lit 90 (xs.length + 1) ((x :: xs).flatMap ao.cells);simp only [List.length_cons] at hl;rw [show ps.length=xs.length by omega]
theorem vY {l:List aT}{d:Nat}{xs:List ao} (hn:l.length≤16384) (h:tH l xs) (hc:xs.flatMap ao.cells=t8 l) (hd:∀x∈xs,bA d x.parts):bA (d + 1) (dm l):=by
 refine⟨eH xs,IE h hc,?_,?_⟩
 ·rw [fU,h.length];omega
 ·rw [fU];exact hd
theorem IV {q:aT} (h:Sm 16384 q):∃d x,Kj q x∧x.cells=dL q∧bA d x.parts:=by
 induction h with
 | @mk k t o c ps h hs ih=>
  obtain⟨d,xs,h1,h2,h3⟩:=DU (fun q hq _=>ih q hq) hs;refine⟨d + 1,⟨k,⟨⟨t⟩⟩,o,c,dm ps⟩,?_,?_,vY h h1 h2 h3⟩
  ·rw [Kj];exact⟨rfl,rfl,rfl,rfl,eH xs,IE h1 h2,by rw [fU]; exact h1⟩
  ·rw [dL];rfl
theorem zo {t:List UInt8}{p j:Nat}{ps:List aT} (h:gY t p (.ok (ps,j))):∃d,bA d (dm ps):=by
 obtain⟨h1,h2⟩:=zd h;obtain⟨d,xs,g1,g2,g3⟩:=DU (fun q _ hq=>IV hq) h2;exact⟨d + 1,vY h1 g1 g2 g3⟩
end Go.Proofs.YtflfflfodghgpaaGreatDoor
namespace Go.Proofs.YtflfflfodghgpaaGreatDoor
open Go Go.EvL Go.PE Go.Mir
variable {ext:ai}
theorem E1 {d:Nat}{v:PV} (h:bA d v) {t:List UInt8}{p:Nat}{r:R} (hp:gY t p r):∃same:List aT→Bool,∀ps j,r=.ok (ps,j)→(∀s,Pc ext 186 [dm ps,v] (.sc (.bool (same ps))) s)∧∀s,Pc ext 185 [dm ps,v] (.sc (.bool (same ps))) s:=by
 cases r with
 | error x=>exact⟨fun _=>true,fun ps j h=>by cases h⟩
 | ok x=>
  obtain⟨ps,j⟩:=x;obtain⟨e,he⟩:=zo hp;obtain⟨b,h1,h2⟩:=CE (ext:=ext) (max d e) (dm ps) v (he.mono (Nat.le_max_right ..)) (h.mono (Nat.le_max_left ..));exact⟨fun _=>b,fun ps' j' h=>by cases h; exact⟨h1,h2⟩⟩
theorem sF {d:Nat}{v:PV} (h:bA d v) {l:List aT} (hl:Ki l v) (hsz:iD l < 1000000000000):∃r same,gY (dN 0 l) 0 r∧(∀ps j,r=.ok (ps,j)→∀s,Pc ext 186 [dm ps,v] (.sc (.bool (same ps))) s)∧
  (∀s,Pc ext 265 [v] (.sc (.int .i64 (if H2 same r then 0 else 1))) s)∧
  ∀s,Pc ext 299 [v] (.tup [.sc (.string ⟨⟨if H2 same r then dN 0 l else []⟩⟩),.sc (.int .i64 (if H2 same r then 0 else 1))]) s:=by
 obtain⟨r,hr⟩:=gY.total (dN 0 l) 0;obtain⟨same,hs⟩:=E1 (ext:=ext) h hr;exact⟨r,same,hr,fun ps j e=>(hs ps j e).1,fun s=>Dv hsz hl (fun ps j e=>(hs ps j e).2) hr s,fun s=>OO hsz hl (fun ps j e=>(hs ps j e).2) hr s⟩
theorem C3 {d:Nat}{v:PV} (h:bA d v) {l:List aT} (hl:Ki l v) (hsz:iD l < 1000000000000):∃r same,gY (dN 5 l) 5 r∧(∀ps j,r=.ok (ps,j)→∀s,Pc ext 186 [dm ps,v] (.sc (.bool (same ps))) s)∧
  ∀s,Pc ext 300 [v] (.tup [.sc (.string ⟨⟨dN 5 l⟩⟩),.sc (.bool (H2 same r))]) s:=by
 obtain⟨r,hr⟩:=gY.total (dN 5 l) 5;obtain⟨same,hs⟩:=E1 (ext:=ext) h hr;exact⟨r,same,hr,fun ps j e=>(hs ps j e).1,fun s=>Cj hsz hl (fun ps j e=>(hs ps j e).2) hr s⟩
end Go.Proofs.YtflfflfodghgpaaGreatDoor
set_option linter.unusedSimpArgs false
namespace Go.Proofs.YtflfflfodghgpaaGreatDoor
open Go Go.EvL Go.PE Go.Mir
variable {ext:ai}
theorem Q6 {u v:PV}{n:Nat} (hn:eA false v=some (iN n)) (hc:bx v=[v]) {b:Bool}{T:List UInt8} (hs:∀s,Pc ext 299 [v] (.tup [.sc (.string ⟨⟨T⟩⟩),.sc (.int .i64 (if b then 0 else 1))]) s) (s:PS) :
  Pc ext 263 [.agg [u,v]] (.sc (.bool (b && decide (0 < n) && !T.isEmpty && !(bt T 0 == 35)))) s:=by
 have he:((ByteArray.mk ⟨T⟩).toList == (ByteArray.mk #[]).toList)=T.isEmpty:=by
  rw [ByteArray.toList_eq,ByteArray.toList_eq];cases T<;>rfl
 have z0:((0:Int) == 0)=true:=rfl;have z1:((1:Int) == 0)=false:=rfl;refine mu OV 2 ?_;unfold OV;cases b with
 | false=>
  simp only [Bool.false_eq_true,if_false] at hs;exact qs hs hn hc z1
 | true=>
  simp only [if_true] at hs;cases c1:decide (0 < n) with
  | false=>exact tI hs hn hc z0 c1
  | true=>
   cases c2:T.isEmpty with
   | true=>exact wn hs hn hc z0 c1 he c2
   | false=>
    have hl0 : 0 < T.length:=by cases T with | nil=>cases c2 | cons a t=>exact Nat.succ_pos _
    cases c3:bt T 0 == 35 with
    | true=>exact tf hs hn hc z0 c1 he c2 c3 hl0
    | false=>exact tf hs hn hc z0 c1 he c2 c3 hl0
end Go.Proofs.YtflfflfodghgpaaGreatDoor
set_option linter.unusedSimpArgs false
namespace Go.Proofs.YtflfflfodghgpaaGreatDoor
open Go Go.EvL Go.PE Go.Mir
variable {ext:ai}
theorem Ge {xs:List aw}{ok:aw→Bool} (hx:xs.length < 1000000000000) (hw:∀x∈xs,∀s,Pc ext 263 [.agg x.cells] (.sc (.bool (ok x))) s) (s:PS):∀(k i:Nat) (f:aO),i + k=xs.length→(∀x∈xs.take i,ok x=true)→f 0=.lit 82 xs.length (xs.flatMap aw.cells)→f 3=iN i→
  Er (fun f' s'=>s'=s∧f' 2=.sc (.bool (xs.all ok))) (LP Tryz.prog Γ ext 0 pL vp f s):=by
 intro k
 induction k with
 | zero=>
  intro i f hk ha h0 h3;have e1:decide (i < xs.length)=false:=df;have hall:xs.all ok=true:=by
   rw [List.take_of_length_le om] at ha;exact List.all_eq_true.2 ha
  refine ac fun L hL=>?_;exact kU @pL.eq_1 @vp.eq_1 h0 h3 e1 hall
 | succ k ih=>
  intro i f hk ha h0 h3;have hl:i < xs.length:=om;have e1:decide (i < xs.length)=true:=decide_eq_true hl;have hj:xs[i]?=some xs[i]:=List.getElem?_eq_getElem hl;have hfl:=aQ aw.len xs;have hk3:=mO aw.len hj;have hc:=hw _ (List.getElem_mem hl);simp only [aw.cells] at hk3 hc;refine ac fun L hL=>?_;cases c:ok xs[i] with
  | false=>
   rw [c] at hc;have hall:xs.all ok=false:=by
    rw [Bool.eq_false_iff];intro h;rw [List.all_eq_true.1 h _ (List.getElem_mem hl)] at c;cases c
   exact tj @pL.eq_1 @vp.eq_1 h0 h3 e1 hl hfl hk3 hc hall
  | true=>
   rw [c] at hc;refine Bz @pL.eq_1 h0 h3 e1 hl hfl hk3 hc ?_;subst hL;refine ih (i + 1) _ om (fun x hx=>?_) (aL h0) bh;rw [List.take_succ_eq_append_getElem hl] at hx;rcases List.mem_append.1 hx with hx | hx
   ·exact ha x hx
   ·cases hx with
    | head=>exact c
    | tail _ h=>cases h
theorem K5 {y:Option (List aw)}{ok:aw→Bool} (hx:(y.getD []).length < 1000000000000) (hw:∀x∈y.getD [],∀s,Pc ext 263 [.agg x.cells] (.sc (.bool (ok x))) s) (s:PS):Pc ext 207 [b9 82 aw.cells y] (.sc (.bool ((y.getD []).all ok))) s:=by
 refine q1 M9 2 ?_;cases y with
 | none=>
  have z0:decide ((0:Int) < 0)=false:=rfl;unfold M9;refine tJ @bW ?_;refine ac fun L hL=>?_;refine OX @pL.eq_1 @vp.eq_1 z0 ?_;rfl
 | some xs=>
  unfold M9;refine tJ @bW ?_;exact Ge (xs:=xs) hx hw _ xs.length 0 _ (Nat.zero_add _) (fun x h=>by cases h) (aL @bW) bh
end Go.Proofs.YtflfflfodghgpaaGreatDoor
namespace Go.Mir
def gK (t:List UInt8):Bool:=!t.isEmpty && decide (t.length≤32) && !bC (bt t 0) && t.all fun c=>dV c.toNat
def OF (t:List UInt8):Nat:=if decide (dP t 0 < t.length) && bt t (dP t 0) == 61 && gK (t.take (dP t 0)) then dP t 0 + 1 else 0
def wZ:List (List UInt8):=[[33],[123],[125],[99,97,115,101],[100,111],[100,111,110,101],[101,108,105,102],[101,108,115,101],[101,115,97,99],[102,105],[102,111,114],[105,102],[105,110],[116,104,101,110],[117,110,116,105,108],[119,104,105,108,101]]
def lA (t:List UInt8):Bool:=wZ.any fun x=>t == x
def nu (k:Int):Bool:=decide (8≤k) && decide (k≤14)
def u0 (k:Int):Bool:=k == 1 || nu k || k == 15
def uG (k:Int):Bool:=u0 k || k == 2 || k == 3
def Ek (k:Int):Bool:=uG k || k == 4 || k == 5
def iq (l:List Int) (lo hi:Nat):Bool:=l.all (· == 6) && (decide (lo≤l.length) && decide (l.length≤hi))
def eR (k:Int) (l:List Int):Bool:=
 if k == 1 || k == 14 then l.length == 0
 else if k == 3 then l.length == 1 && (u0 (l.getD 0 0) || l.getD 0 0 == 2)
 else if k == 4 || k == 5 then l.length == 2 && Ek (l.getD 0 0) && uG (l.getD 1 0)
 else if k == 7 then l.length == 1 && Ek (l.getD 0 0)
 else if k == 8 || k == 9 || k == 13 then iq l 1 1
 else if k == 10 then iq l 2 3
 else if k == 11 || k == 12 then iq l 2 2
 else if k == 15 then l.length == 1 && nu (l.getD 0 0)
 else if k == 2 then l.all u0 && decide (2≤l.length)
 else if k == 6 then (l.all fun x=>Ek x || x == 7) && decide (1≤l.length)
 else false
theorem FG {t:List UInt8} (h0:t.isEmpty=false) (h1:decide (t.length≤32)=true) (h2:bC (bt t 0)=false):gK t=t.all fun c=>dV c.toNat:=by
 simp only [gK,h0,h1,h2,Bool.not_false,Bool.and_self,Bool.true_and]
end Go.Mir
set_option linter.unusedSimpArgs false
namespace Go.Proofs.YtflfflfodghgpaaGreatDoor
open Go Go.EvL Go.PE Go.Mir
variable {ext:ai}
theorem nj (e n:Nat) (cs:List PV):eA false (.lit e n cs)=some (iN n):=rfl
theorem aJ (b:ByteArray):(b.toList == (ByteArray.mk #[]).toList)=b.data.toList.isEmpty:=by
 rw [ByteArray.toList_eq,ByteArray.toList_eq];cases b.data.toList<;>rfl
theorem fp (b:ByteArray) (l:List UInt8):(b.toList == (ByteArray.mk ⟨l⟩).toList)=(b.data.toList == l):=by
 rw [ByteArray.toList_eq,ByteArray.toList_eq]
theorem Nk {b:ByteArray} (hb:b.data.toList.length < 4611686018427387904) (s:PS):∀(k i:Nat) (f:aO),i + k=b.data.toList.length→f 0=.sc (.string b)→f 3=iN i→
  Er (fun f' s'=>s'=s∧f' 2=.sc (.bool ((b.data.toList.drop i).all fun c=>dV c.toNat))) (LP Tryz.prog Γ ext 0 rK yf f s):=by
 intro k
 induction k with
 | zero=>
  intro i f hk h0 h3;have e1:decide (i < b.data.toList.length)=false:=df;have ha:((b.data.toList.drop i).all fun c=>dV c.toNat)=true:=by rw [List.drop_eq_nil_of_le om]; rfl
  refine ac fun L hL=>?_;exact kU @rK.eq_1 @yf.eq_1 h0 h3 e1 ha
 | succ k ih=>
  intro i f hk h0 h3;have hl:i < b.data.toList.length:=om;have e1:decide (i < b.data.toList.length)=true:=dt;refine ac fun L hL=>?_;rw [oj hl,List.all_cons,← nL hl];cases e2:dV (bt b.data.toList i) with
  | false=>exact A9 @rK.eq_1 @yf.eq_1 h0 h3 e1 hl @eI e2
  | true=>
   simp -implicitDefEqProofs (disch:=omega) only [ZS,seval,rK,h0,h3,e1,hl,eI,e2];subst hL;rw [Bool.true_and];exact ih (i + 1) _ om (aL h0) bh
theorem qT {b:ByteArray} (hb:b.data.toList.length < 4611686018427387904) (s:PS):Pc ext 159 [.sc (.string b)] (.sc (.bool (gK b.data.toList))) s:=by
 refine q1 Pq 2 ?_;unfold Pq;cases c0:b.data.toList.isEmpty with
 | true=>exact jC @aJ c0 @gK.eq_1
 | false=>
  have hl0 : 0 < b.data.toList.length:=by
   cases h:b.data.toList with
   | nil=>rw [h] at c0; cases c0
   | cons x l=>exact Nat.succ_pos _
  cases c1:decide (32 < b.data.toList.length) with
  | true=>
   have c2:decide (b.data.toList.length≤32)=false:=decide_eq_false (by have:=of_decide_eq_true c1; omega);exact tI @aJ c0 c1 c2 @gK.eq_1
  | false=>
   have c2:decide (b.data.toList.length≤32)=true:=decide_eq_true (by have:=of_decide_eq_false c1; omega);cases c3:bC (bt b.data.toList 0) with
   | true=>exact A9 @aJ c0 c1 c2 c3 hl0 @cg @gK.eq_1
   | false=>
    rw [FG c0 c2 c3];refine Ci @aJ c0 c1 c2 c3 hl0 @cg ?_;exact Nk hb _ b.data.toList.length 0 _ (Nat.zero_add _) bh bh
theorem Re {b:ByteArray} (hb:b.data.toList.length < 1000000000000) (s:PS):Pc ext 303 [.sc (.string b)] (iN (OF b.data.toList)) s:=by
 have hn:∀s,Pc ext 332 [.sc (.string b),.sc (.int .i64 0)] (iN (dP b.data.toList 0)) s:=fun s=>vn om (Nat.zero_le _) s;have hle:dP b.data.toList 0≤b.data.toList.length:=kr (Nat.zero_le _);have hr:=fun s=>qT (ext:=ext) (b:=⟨⟨(b.data.toList.drop 0).take (dP b.data.toList 0 - 0)⟩⟩) (by simp only [List.length_take,List.length_drop]; omega) s;simp only [List.drop_zero,Nat.sub_zero] at hr;have hz:((0:Nat):Int)=0:=rfl;refine q1 Pe 2 ?_;unfold Pe OF;generalize dP b.data.toList 0=n at hn hle hr ⊢;cases c0:decide (n < b.data.toList.length) with
 | false=>exact jC hn c0 hz
 | true=>
  have hl:=of_decide_eq_true c0;cases c1:bt b.data.toList n == 61 with
  | false=>exact tI hn c0 c1 hl hz
  | true=>
   cases c2:gK (b.data.toList.take n) with
   | false=>exact tf hn c0 c1 c2 hl hr @Nat.sub_zero hle hz
   | true=>exact tf hn c0 c1 c2 hl hr @Nat.sub_zero hle hz
theorem vu {b:ByteArray} (s:PS):Pc ext 229 [.sc (.string b)] (.sc (.bool (lA b.data.toList))) s:=by
 refine q1 OA 2 ?_;unfold OA;simp only [lA,wZ,List.any_cons,List.any_nil,Bool.or_false];have hs:∀l:List UInt8,(b.toList == (ByteArray.mk ⟨l⟩).toList)=(b.data.toList == l):=fp b;cases c1:b.data.toList == [33] with
 | true=>exact qf hs c1
 | false=>
 cases c2:b.data.toList == [123] with
 | true=>exact jC hs c1 c2
 | false=>
 cases c3:b.data.toList == [125] with
 | true=>exact qs hs c1 c2 c3
 | false=>
 cases c4:b.data.toList == [99,97,115,101] with
 | true=>exact tI hs c1 c2 c3 c4
 | false=>
 cases c5:b.data.toList == [100,111] with
 | true=>exact kU hs c1 c2 c3 c4 c5
 | false=>
 cases c6:b.data.toList == [100,111,110,101] with
 | true=>exact wn hs c1 c2 c3 c4 c5 c6
 | false=>
 cases c7:b.data.toList == [101,108,105,102] with
 | true=>exact A9 hs c1 c2 c3 c4 c5 c6 c7
 | false=>
 cases c8:b.data.toList == [101,108,115,101] with
 | true=>exact tf hs c1 c2 c3 c4 c5 c6 c7 c8
 | false=>
 cases c9:b.data.toList == [101,115,97,99] with
 | true=>exact tj hs c1 c2 c3 c4 c5 c6 c7 c8 c9
 | false=>
 cases d1:b.data.toList == [102,105] with
 | true=>exact oQ hs c1 c2 c3 c4 c5 c6 c7 c8 c9 d1 tv
 | false=>
 cases d2:b.data.toList == [102,111,114] with
 | true=>exact oQ hs c1 c2 c3 c4 c5 c6 c7 c8 c9 d1 d2
 | false=>
 cases d3:b.data.toList == [105,102] with
 | true=>exact zT hs c1 c2 c3 c4 c5 c6 c7 c8 c9 d1 d2 d3 tv
 | false=>
 cases d4:b.data.toList == [105,110] with
 | true=>exact zT hs c1 c2 c3 c4 c5 c6 c7 c8 c9 d1 d2 d3 d4
 | false=>
 cases d5:b.data.toList == [116,104,101,110] with
 | true=>exact qO hs c1 c2 c3 c4 c5 c6 c7 c8 c9 d1 d2 d3 d4 d5 tv
 | false=>
 cases d6:b.data.toList == [117,110,116,105,108] with
 | true=>exact qO hs c1 c2 c3 c4 c5 c6 c7 c8 c9 d1 d2 d3 d4 d5 d6
 | false=>
 cases d7:b.data.toList == [119,104,105,108,101] with
 | true=>exact lb hs c1 c2 c3 c4 c5 c6 c7 c8 c9 d1 d2 d3 d4 d5 d6 d7 tv tv
 | false=>exact lb hs c1 c2 c3 c4 c5 c6 c7 c8 c9 d1 d2 d3 d4 d5 d6 d7 tv tv
end Go.Proofs.YtflfflfodghgpaaGreatDoor
namespace Go.Proofs.YtflfflfodghgpaaGreatDoor
open Go Go.EvL Go.PE Go.Mir
variable {ext:ai}
structure fu where
 name:ByteArray
 value:ByteArray
 set:Bool
 exp:Bool
 ro:Bool
def fu.cells (x:fu):List PV:=[.sc (.string x.name),.sc (.string x.value),.sc (.bool x.set),.sc (.bool x.exp),.sc (.bool x.ro)]
structure cj where
 name:ByteArray
 value:ByteArray
def cj.cells (x:cj):List PV:=[.sc (.string x.name),.sc (.string x.value)]
structure ei where
 sig:Int
 act:ByteArray
def ei.cells (x:ei):List PV:=[.sc (.int .i64 x.sig),.sc (.string x.act)]
def gx (b:ByteArray):List PV:=[.sc (.string b)]
end Go.Proofs.YtflfflfodghgpaaGreatDoor
namespace Go.Proofs.YtflfflfodghgpaaGreatDoor
open Go Go.EvL Go.PE
variable {ext:ai}
theorem du (cs:List PV):bx (.agg cs)=cs:=(rfl)
theorem dW {α:Type} (e:Nat) (c:α→List PV) (m:Option (List α)):bx (b9 e c m)=[b9 e c m]:=by cases m<;>rfl
theorem jk {α:Type} (n:Nat) (s:PS) (e:Nat) (c:α→List PV) (m:Option (List α)):bQ n s (b9 e c m)=some (b9 e c m):=by cases m<;>rfl
theorem iJ (n:Nat) (s:PS) (v:Value):bQ n s (.sc v)=some (.sc v):=(rfl)
theorem fx (k:IntKind) (z:Int):cX (.sc (.int k z))=true:=(rfl)
theorem fC (b:ByteArray):cX (.sc (.string b))=true:=(rfl)
theorem eG (b:Bool):cX (.sc (.bool b))=true:=(rfl)
def jW {α:Type} (e:Nat) (c:α→List PV) (Q:α→α→Prop) (a b:PV):Prop:=∃l m:Option (List α),a=b9 e c l∧b=b9 e c m∧(l.getD []).length=(m.getD []).length∧(l.getD []).length < 4611686018427387904∧∀(i:Nat) x y,(l.getD [])[i]?=some x→(m.getD [])[i]?=some y→Q x y
theorem jW.one {α:Type}{e:Nat}{c:α→List PV}{Q:α→α→Prop}{a b:PV} (h:jW e c Q a b):cX a=true∧cX b=true∧cM a=true:=by
 obtain⟨l,m,rfl,rfl,_⟩:=h;exact⟨dH _ _ _,dH _ _ _,vW _ _ _⟩
def uP:Nat→PV→PV→Prop
 | 0,_,_=>False
 | d + 1,a,b=>jW 90 ao.cells (fun x y=>(x.kind=y.kind∧x.text=y.text∧x.op=y.op∧x.colon=y.colon)∧uP d x.parts y.parts) a b
theorem uP.one {d:Nat}{a b:PV} (h:uP d a b):cX a=true∧cX b=true∧cM a=true:=by
 cases d with
 | zero=>cases h
 | succ d=>exact jW.one h
theorem Nr {α:Type}{c:α→List PV}{R:α→α→Prop}{g:Nat}{l:List α} (h:∀x∈l,∃y,(∀s,aU Tryz.prog Γ ext g [.agg (c x)] s=some (.agg (c y),s))∧R y x) :
  ∃cp:α→α,∀x∈l,(∀s,aU Tryz.prog Γ ext g [.agg (c x)] s=some (.agg (c (cp x)),s))∧R (cp x) x:=by
 have h':∀x,∃y,x∈l→(∀s,aU Tryz.prog Γ ext g [.agg (c x)] s=some (.agg (c y),s))∧R y x:=fun x=>by
  by_cases hx:x∈l
  ·obtain⟨y,hy⟩:=h x hx;exact⟨y,fun _=>hy⟩
  ·exact⟨x,fun hh=>absurd hh hx⟩
 exact Classical.axiomOfChoice h'
theorem Hk {d:Nat}{x y:ao} (h:uP d y.parts x.parts):y.cells.all cX=true∧y.cells.all cM=true:=by
 obtain⟨h1,_,h3⟩:=h.one;simp only [ao.cells,List.all_cons,List.all_nil,h1,h3,Bool.and_true];exact⟨rfl,rfl⟩
theorem uP.sl {d:Nat}{a b:PV} (h:uP d a b):∃m,a=b9 90 ao.cells m:=by
 cases d with
 | zero=>cases h
 | succ d=>obtain⟨m,_,h,_⟩:=h; exact⟨m,h⟩
def FU (d:Nat) (y x:aw):Prop:=y.pos=x.pos∧uP d y.parts x.parts
def RA (d:Nat) (y x:aF):Prop:=(y.pos=x.pos∧y.name=x.name∧y.vpos=x.vpos)∧uP d y.parts x.parts
def RJ (d:Nat) (y x:bo):Prop:=(y.pos=x.pos∧y.fd=x.fd∧y.op=x.op∧y.tpos=x.tpos)∧uP d y.parts x.parts
end Go.Proofs.YtflfflfodghgpaaGreatDoor
namespace Go.Proofs.YtflfflfodghgpaaGreatDoor
open Go Go.EvL Go.PE
variable {ext:ai}
def zD (D:Nat):Nat→ah→ah→Prop
 | 0,_,_=>False
 | d + 1,y,x=>(y.kind=x.kind∧y.pos=x.pos∧y.name=x.name∧y.all=x.all)∧jW 84 aF.cells (RA D) y.assigns x.assigns∧jW 82 aw.cells (FU D) y.words x.words∧jW 148 bo.cells (RJ D) y.redirs x.redirs∧jW 28 ah.cells (zD D d) y.kids x.kids∧
  jW 150 be.cells (fun j i=>jW 82 aw.cells (FU D) j.pats i.pats∧jW 28 ah.cells (zD D d) j.body i.body) y.items x.items
theorem fb {α:Type}{e:Nat}{c:α→List PV}{a p:PV}{l:Option (List α)} (ha:a=b9 e c l) {x:α} (hx:x∈l.getD []) (hp:p∈c x) {N:Nat} (hb:a.bulk≤N):p.bulk≤N∧bj (c x)≤N:=by
 have h0:=eC e c l;rw [← ha] at h0;have h1:=gD (c:=c) hx;have h2:=iz hp;omega
theorem nC {α:Type}{e:Nat}{c:α→List PV}{a:PV}{l:Option (List α)} (ha:a=b9 e c l) (hc:∀x,1≤(c x).length) {N:Nat} (hb:a.bulk≤N):(l.getD []).length≤N:=by
 have h0:=gL (e:=e) hc l;rw [← ha] at h0;omega
theorem Fb {D:Nat} (x y:aw) (h:FU D y x):y.cells.all cX=true∧y.cells.all cM=true:=
 ⟨aw.one h.2.one.1,aw.clean h.2.one.2.2⟩
theorem jW.sl {α:Type}{e:Nat}{c:α→List PV}{Q:α→α→Prop}{a b:PV} (h:jW e c Q a b):∃m,a=b9 e c m:=by
 obtain⟨m,_,h,_⟩:=h; exact⟨m,h⟩
theorem sq {D d:Nat} (x y:ah) (h:zD D d y x):y.cells.all cX=true∧y.cells.all cM=true:=by
 cases d with
 | zero=>cases h
 | succ d=>
  obtain⟨_,h1,h2,h3,h4,h5⟩:=h;obtain⟨a1,_,b1⟩:=h1.one;obtain⟨a2,_,b2⟩:=h2.one;obtain⟨a3,_,b3⟩:=h3.one;obtain⟨a4,_,b4⟩:=h4.one;obtain⟨a5,_,b5⟩:=h5.one;simp only [ah.cells,List.all_cons,List.all_nil,a1,a2,a3,a4,a5,b1,b2,b3,b4,b5,Bool.and_true];exact⟨rfl,rfl⟩
end Go.Proofs.YtflfflfodghgpaaGreatDoor
namespace Go.Proofs.YtflfflfodghgpaaGreatDoor
open Go Go.EvL Go.PE
variable {ext:ai}
theorem Hu {α:Type}{c:α→List PV}{es:Nat} (hi:∀x y,c x=c y→x=y) (hc:∀x,(c x).length=es):∀(l m:List α),l.length=m.length→l.flatMap c=m.flatMap c→l=m:=by
 intro l
 induction l with
 | nil=>intro m h _; cases m with | nil=>rfl | cons y m=>cases h
 | cons x l ih=>
  intro m h hh;cases m with
  | nil=>cases h
  | cons y m=>
   rw [List.flatMap_cons,List.flatMap_cons] at hh;obtain⟨h1,h2⟩:=List.append_inj hh (by rw [hc,hc]);rw [hi _ _ h1,ih m (by simpa using h) h2]
theorem EC {α:Type}{e es:Nat}{c:α→List PV} (hi:∀x y,c x=c y→x=y) (hc:∀x,(c x).length=es) {l m:Option (List α)} (h:b9 e c l=b9 e c m):l=m:=by
 cases l with
 | none=>cases m with | none=>rfl | some m=>cases h
 | some l=>
  cases m with
  | none=>cases h
  | some m=>
   simp only [b9] at h;injection h with _ h1 h2;rw [Hu hi hc l m h1 h2]
theorem ah.inj (x y:ah) (h:x.cells=y.cells):x=y:=by
 cases x; cases y; simp only [ah.cells] at h; simp at h; obtain⟨rfl,rfl,rfl,rfl,rfl,rfl,rfl,rfl,rfl⟩:=h; rfl
theorem IY.kidsBulk {D d:Nat}{x:ah}{la:Option (List aF)}{lw:Option (List aw)}{lr:Option (List bo)}{lk:Option (List ah)}{li:Option (List be)}{pt:be→Option (List aw)}{bd:be→Option (List ah)} (h:IY D d x la lw lr lk li pt bd) :
  1 + (la.getD []).length + (lr.getD []).length + (ft (la.getD []) (lw.getD []) (lr.getD []) (li.getD []) pt).length + bj ((jX (lk.getD []) (li.getD []) bd).flatMap ah.cells)≤bj x.cells:=by
 simp only [ah.cells,db,dk,h.a,h.w,h.r,h.k,h.i];have l2:∀{α:Type}{e:Nat}{c:α→List PV} (hc:∀x,2≤(c x).length) (l:Option (List α)),2 * (l.getD []).length + 1≤(b9 e c l).bulk:=fun {α e c} hc l=>by
  rw [← eC];have h:=rD ((l.getD []).flatMap c);have:∀m:List α,2 * m.length≤(m.flatMap c).length:=by
   intro m
   induction m with
   | nil=>simp
   | cons a m ih=>have:=hc a; simp only [List.flatMap_cons,List.length_append,List.length_cons]; omega
  have:=this (l.getD []);omega
 have hA:=l2 (e:=84) (c:=aF.cells) (fun y=>by rw [aF.len]; omega) la;have hW:=gL (e:=82) (c:=aw.cells) (fun y=>by rw [aw.len]; omega) lw;have hR:=l2 (e:=148) (c:=bo.cells) (fun y=>by rw [bo.len]; omega) lr;have hK2:=eC 28 ah.cells lk;have hI2:=eC 150 be.cells li;have hic:∀it∈li.getD [],bj it.cells=(b9 82 aw.cells (pt it)).bulk + (b9 28 ah.cells (bd it)).bulk:=fun it hi=>by
  simp only [be.cells,db,dk,h.hpt it hi,h.hbd it hi,Nat.add_zero]
 have key:∀l:List be,(∀it∈l,bj it.cells=(b9 82 aw.cells (pt it)).bulk + (b9 28 ah.cells (bd it)).bulk)→(l.flatMap fun it=>(pt it).getD []).length + bj ((l.flatMap fun it=>(bd it).getD []).flatMap ah.cells)≤bj (l.flatMap be.cells):=by
  intro l
  induction l with
  | nil=>intro _; simp [dk]
  | cons it l ih=>
   intro hh;have h1:=hh it List.mem_cons_self;have h2:=ih fun z hz=>hh z (List.mem_cons_of_mem _ hz);have h3:=gL (e:=82) (c:=aw.cells) (fun y=>by rw [aw.len]; omega) (pt it);have h4:=eC 28 ah.cells (bd it);simp only [List.flatMap_cons,jR,List.length_append,List.flatMap_append];omega
 have hk:=key (li.getD []) hic;simp only [ft,jX,List.length_append,List.length_map,List.flatMap_append,jR];omega
end Go.Proofs.YtflfflfodghgpaaGreatDoor
set_option linter.unusedSimpArgs false
namespace Go.Proofs.YtflfflfodghgpaaGreatDoor
open Go Go.EvL Go.PE Go.Mir
variable {ext:ai}
theorem bT (k:Int) (s:PS):Pc ext 184 [.sc (.int .i64 k)] (.sc (.bool (nu k))) s:=by
 refine q1 Pg 2 ?_;unfold Pg nu;cases c1:decide (8≤k) with
 | false=>exact aL c1
 | true=>exact aL c1
theorem ii (k:Int) (s:PS):Pc ext 259 [.sc (.int .i64 k)] (.sc (.bool (u0 k))) s:=by
 refine q1 PW 2 ?_;unfold PW u0;cases c1:k == 1 with
 | true=>exact aL c1
 | false=>
  cases c2:nu k with
  | true=>exact jC c1 @bT c2
  | false=>exact jC c1 @bT c2
theorem iM (k:Int) (s:PS):Pc ext 261 [.sc (.int .i64 k)] (.sc (.bool (uG k))) s:=by
 refine q1 OT 2 ?_;unfold OT uG;cases c1:u0 k with
 | true=>exact qf @ii c1
 | false=>
  cases c2:k == 2 with
  | true=>exact jC @ii c1 c2
  | false=>exact jC @ii c1 c2
theorem mf (k:Int) (s:PS):Pc ext 260 [.sc (.int .i64 k)] (.sc (.bool (Ek k))) s:=by
 refine q1 QO 2 ?_;unfold QO Ek;cases c1:uG k with
 | true=>exact qf @iM c1
 | false=>
  cases c2:k == 4 with
  | true=>exact jC @iM c1 c2
  | false=>exact jC @iM c1 c2
def kinds (l:List ah):List Int:=l.map ah.kind
theorem CZ {xs:List ah} (hx:xs.length < 1000000000000) {lo hi:Nat} (hlo:lo < 100) (hhi:hi < 100) (s:PS):∀(k i:Nat) (f:aO),i + k=xs.length→f 0=b9 28 ah.cells (some xs)→f 1=iN lo→f 2=iN hi→f 7=iN i→
  Er (fun f' s'=>s'=s∧f' 6=.sc (.bool (((kinds xs).drop i).all (· == 6) && (decide (lo≤xs.length) && decide (xs.length≤hi))))) (LP Tryz.prog Γ ext 0 lP pB f s):=by
 intro k
 induction k with
 | zero=>
  intro i f hk h0 h1 h2 h7;have e1:decide (i < xs.length)=false:=df;have ha:((kinds xs).drop i).all (· == 6)=true:=by rw [List.drop_eq_nil_of_le (by rw [kinds,List.length_map]; omega)]; rfl
  refine ac fun L hL=>?_;simp only [b9] at h0;cases c1:decide (lo≤xs.length) with
  | false=>exact tf @lP.eq_1 @pB.eq_1 h0 h1 h2 h7 e1 ha c1
  | true=>exact tf @lP.eq_1 @pB.eq_1 h0 h1 h2 h7 e1 ha c1
 | succ k ih=>
  intro i f hk h0 h1 h2 h7;have h0':=h0;have hl:i < xs.length:=om;have e1:decide (i < xs.length)=true:=decide_eq_true hl;have hj:xs[i]?=some xs[i]:=List.getElem?_eq_getElem hl;have hfl:=aQ ah.len xs;obtain⟨rr,hk3⟩:=de ah.len hj;have hd:(kinds xs).drop i=xs[i].kind :: (kinds xs).drop (i + 1):=by
   rw [kinds,← List.map_drop,List.drop_eq_getElem_cons hl,List.map_cons,List.map_drop]
  simp only [b9] at h0;simp only [ah.cells,List.cons_append,List.nil_append] at hk3;rw [hd,List.all_cons];refine ac fun L hL=>?_;cases c:xs[i].kind == 6 with
  | false=>exact Ss @lP.eq_1 @pB.eq_1 h0 h7 e1 hl @yq hfl hk3 @ap @cO c @Bool.not_false @Bool.false_and
  | true=>
   refine El @lP.eq_1 h0 h7 e1 hl @yq hfl hk3 @ap @cO c @Bool.not_true ?_;subst hL;rw [Bool.true_and];exact ih (i + 1) _ om (aL h0) (aL h1) (aL h2) bh
theorem EQ {y:Option (List ah)} (hx:(y.getD []).length < 1000000000000) {lo hi:Nat} (hlo:lo < 100) (hhi:hi < 100) (s:PS):Pc ext 262 [b9 28 ah.cells y,iN lo,iN hi] (.sc (.bool (iq (kinds (y.getD [])) lo hi))) s:=by
 refine q1 ME 6 ?_;have hkl:(kinds (y.getD [])).length=(y.getD []).length:=List.length_map _;rw [iq,hkl];cases y with
 | none=>
  have z0:decide ((0:Int) < 0)=false:=rfl;have z1:decide ((lo:Int)≤0)=decide (lo≤0):=by rw [decide_eq_decide]; omega
  have z2:decide (0≤(hi:Int))=decide (0≤hi):=by rw [decide_eq_decide]; omega
  unfold ME;refine tJ @bW ?_;refine ac fun L hL=>?_;cases c1:decide (lo≤0) with
  | false=>simp -implicitDefEqProofs (disch:=omega) only [ZS,seval,ZX,lP,pB,z0,z1,z2,c1,Option.getD_none,kinds,List.map_nil]
  | true=>simp -implicitDefEqProofs (disch:=omega) only [ZS,seval,ZX,lP,pB,z0,z1,z2,c1,Option.getD_none,kinds,List.map_nil]
 | some xs=>
  have key:=fun s f h0 h1 h2 h7=>CZ (ext:=ext) (xs:=xs) hx hlo hhi s xs.length 0 f (Nat.zero_add _) h0 h1 h2 h7;simp only [List.drop_zero] at key;simp only [Option.getD_some];unfold ME;refine tJ @bW ?_;exact key _ _ (aL @bW) bh bh bh
end Go.Proofs.YtflfflfodghgpaaGreatDoor
set_option linter.unusedSimpArgs false
namespace Go.Proofs.YtflfflfodghgpaaGreatDoor
open Go Go.EvL Go.PE Go.Mir
variable {ext:ai}
def SC (v:PV):Nat:=match v with
 | .lit _ n _=>n
 | _=>0
theorem Kw {α:Type}{e:Nat}{c:α→List PV} (x:Option (List α)):SC (b9 e c x)=(x.getD []).length:=by cases x<;>rfl
def NQ (p:ao):Bool:=(!p.text.data.toList.isEmpty && bt p.text.data.toList (p.text.data.toList.length - 1) == 10) && p.op == 0 && !p.colon && SC p.parts == 0
def NW (l:List ao) (b:Bool):Bool:=match l with
 | [p]=>if p.kind == 2 then NQ p else b
 | _=>b
theorem ON {y:Option (List ao)}{b:Bool}{T:ByteArray} (hy:(y.getD []).length < 1000000000000) (hp:∀p∈y.getD [],p.text.data.toList.length < 1000000000000∧∃z:Option (List ao),p.parts=b9 90 ao.cells z)
  (hs:∀s,Pc ext 300 [b9 90 ao.cells y] (.tup [.sc (.string T),.sc (.bool b)]) s) (s:PS) :
  Pc ext 264 [b9 90 ao.cells y] (.sc (.bool (NW (y.getD []) b))) s:=by
 refine q1 Oq 2 ?_;have hlen:=cA (e:=90) (c:=ao.cells) y;unfold Oq
 match y,hy,hp,hs,hlen with
 | none,hy,hp,hs,hlen=>
  have z0:((0:Int) == 1)=false:=rfl;simp only [b9,List.length_cons,List.length_nil] at hs ⊢;refine u6 hs z0 ?_;rfl
 | some [],hy,hp,hs,hlen=>
  have z0:(((0:Nat):Int) == 1)=false:=rfl;simp only [b9,List.length_cons,List.length_nil] at hs ⊢;refine u6 hs z0 ?_;rfl
 | some (p :: q :: r),hy,hp,hs,hlen=>
  have z0:(r.length + 1 + 1 == 1)=false:=by simp
  simp only [b9,List.length_cons,List.length_nil] at hs ⊢;refine u6 hs z0 ?_;rfl
 | some [p],hy,hp,hs,hlen=>
  obtain⟨k,t,o,c,v⟩:=p;obtain⟨ht,z,rfl⟩:=hp _ (List.mem_cons_self ..);simp only at ht;have hz:=cA (e:=90) (c:=ao.cells) z;rw [← Kw (e:=90) (c:=ao.cells)] at hz;have z0:(((1:Nat):Int) == 1)=true:=rfl;generalize b9 90 ao.cells z=v at hz hs hlen ⊢;simp only [b9,Option.getD_some,List.flatMap_cons,List.flatMap_nil,List.append_nil,ao.cells,List.length_cons,List.length_nil,Nat.zero_add] at hs hlen ⊢;simp only [Option.getD_some,NW,NQ];cases c0:k == 2 with
  | false=>exact tI hs z0 c0 @Nat.zero_mul @ap
  | true=>
   cases c1:t.data.toList.isEmpty with
   | true=>exact kU z0 c0 @Nat.zero_mul @ap @aJ c1
   | false=>
    have hl0 : 0 < t.data.toList.length:=by
     cases h:t.data.toList with
     | nil=>rw [h] at c1; cases c1
     | cons x l=>exact Nat.succ_pos _
    have hl1:t.data.toList.length - 1 < t.data.toList.length:=om;cases c2:bt t.data.toList (t.data.toList.length - 1) == 10 with
    | false=>exact tj hlen z0 c0 @Nat.zero_mul @ap @aJ c1 c2 hl0 hl1
    | true=>
     cases c3:o == 0 with
     | false=>exact oQ hlen z0 c0 @Nat.zero_mul @ap @aJ c1 c2 c3 hl0 hl1 tv
     | true=>
      cases c with
      | true=>exact tj z0 c0 @Nat.zero_mul @ap @aJ c1 c2 c3 hl0 hl1
      | false=>exact oQ hlen z0 c0 @Nat.zero_mul @ap @aJ c1 c2 c3 hl0 hl1 hz
end Go.Proofs.YtflfflfodghgpaaGreatDoor
set_option linter.unusedSimpArgs false
namespace Go.Proofs.YtflfflfodghgpaaGreatDoor
open Go Go.EvL Go.PE Go.Mir
variable {ext:ai}
def Ij (okW okH:PV→Bool) (r:bo):Bool:=!(decide (r.fd < 0) || decide (2147483647 < r.fd) || decide (r.op < 1) || decide (8 < r.op)) && (if r.op == 8 then okH r.parts else okW r.parts)
theorem Ka {xs:List bo}{okW okH:PV→Bool} (hx:xs.length < 1000000000000) (ho:∀x∈xs,cX x.parts=true∧bx x.parts=[x.parts]) (hw:∀x∈xs,∀s,Pc ext 263 [.agg [.sc (.int .i64 x.tpos),x.parts]] (.sc (.bool (okW x.parts))) s)
  (hh:∀x∈xs,∀s,Pc ext 264 [x.parts] (.sc (.bool (okH x.parts))) s) (n0:Nat):∀(k i:Nat) (f:aO) (s:PS),i + k=xs.length→(n0≤s.w∧n0≤s.n)→f 0=b9 148 bo.cells (some xs)→f 3=iN i→
  Er (fun f' s'=>n0≤s'.w∧f' 2=.sc (.bool ((xs.drop i).all (Ij okW okH)))) (LP Tryz.prog Γ ext 0 j4 kN f s):=by
 intro k
 induction k with
 | zero=>
  intro i f s hk hn h0 h3;have e1:decide (i < xs.length)=false:=df;have ha:(xs.drop i).all (Ij okW okH)=true:=by rw [List.drop_eq_nil_of_le om]; rfl
  refine ac fun L hL=>?_;simp only [b9] at h0;refine BD @j4.eq_1 @kN.eq_1 h0 h3 e1 ha ?_;exact hn.1
 | succ k ih=>
  intro i f s hk hn h0 h3;have hl:i < xs.length:=om;have e1:decide (i < xs.length)=true:=decide_eq_true hl;have hj:xs[i]?=some xs[i]:=List.getElem?_eq_getElem hl;have hfl:=aQ bo.len xs;have hk3:=mO bo.len hj;obtain⟨ov,cv⟩:=ho _ (List.getElem_mem hl);have hw1:=hw _ (List.getElem_mem hl);have hh1:=hh _ (List.getElem_mem hl);rw [List.drop_eq_getElem_cons hl,List.all_cons];have hgo:=ih (i + 1);generalize hxi:xs[i]=x at *;obtain⟨p,fd,op,tp,v⟩:=x;simp only at ov cv hw1 hh1;simp only [bo.cells] at hk3;simp only [b9] at h0;simp only [Ij];refine ac fun L hL=>?_;cases c1:decide (fd < 0) with
  | true=>simp -implicitDefEqProofs (disch:=omega) only [ZS,seval,ZX,j4,kN,h0,h3,e1,hl,hfl,hk3,ov,cv,aR,aB,az,aA,ay,bne,c1]; first | omega | exact hn.1
  | false=>
  cases c2:decide (2147483647 < fd) with
  | true=>exact lb @j4.eq_1 @kN.eq_1 h0 h3 e1 hl hfl hk3 ov cv @aR @aB @az @aA @ay @cO c1 c2 tv
  | false=>
  cases c3:decide (op < 1) with
  | true=>exact lb @j4.eq_1 @kN.eq_1 h0 h3 e1 hl hfl hk3 ov cv @aR @aB @az @aA @ay @cO c1 c2 c3
  | false=>
  cases c4:decide (8 < op) with
  | true=>exact AU @j4.eq_1 @kN.eq_1 h0 h3 e1 hl hfl hk3 ov cv @aR @aB @az @aA @ay @cO c1 c2 c3 c4 tv tv
  | false=>
  cases c5:op == 8 with
  | true=>
   cases c6:okH v with
   | false=>
    rw [c6] at hh1;exact AU @j4.eq_1 @kN.eq_1 h0 h3 e1 hl hfl hk3 ov cv @aR @aB @az @aA @ay @cO c1 c2 c3 c4 c5 hh1
   | true=>
    rw [c6] at hh1;refine KR @j4.eq_1 h0 h3 e1 hl hfl hk3 ov cv @aR @aB @az @aA @ay @cO c1 c2 c3 c4 c5 hh1 tv ?_;subst hL;exact hgo _ _ om bh (aL h0) bh
  | false=>
   cases c6:okW v with
   | false=>
    rw [c6] at hw1;exact AU @j4.eq_1 @kN.eq_1 h0 h3 e1 hl hfl hk3 ov cv @aR @aB @az @aA @ay @cO c1 c2 c3 c4 c5 hw1
   | true=>
    rw [c6] at hw1;refine KR @j4.eq_1 h0 h3 e1 hl hfl hk3 ov cv @aR @aB @az @aA @ay @cO c1 c2 c3 c4 c5 hw1 tv ?_;subst hL;exact hgo _ _ om bh (aL h0) bh
theorem J7 {y:Option (List bo)}{okW okH:PV→Bool} (hx:(y.getD []).length < 1000000000000) (ho:∀x∈y.getD [],cX x.parts=true∧bx x.parts=[x.parts]) (hw:∀x∈y.getD [],∀s,Pc ext 263 [.agg [.sc (.int .i64 x.tpos),x.parts]] (.sc (.bool (okW x.parts))) s)
  (hh:∀x∈y.getD [],∀s,Pc ext 264 [x.parts] (.sc (.bool (okH x.parts))) s) (s:PS):Pc ext 208 [b9 148 bo.cells y] (.sc (.bool ((y.getD []).all (Ij okW okH)))) s:=by
 refine mu MP 2 ?_;cases y with
 | none=>
  have z0:decide ((0:Int) < 0)=false:=rfl;unfold MP;refine tJ @bW ?_;refine ac fun L hL=>?_;refine OX @j4.eq_1 @kN.eq_1 z0 ?_
  first | done | exact⟨Nat.le_refl _,rfl⟩ | rfl
 | some xs=>
  unfold MP;refine tJ @bW ?_;exact Ka (xs:=xs) hx ho hw hh s.n xs.length 0 _ _ (Nat.zero_add _) ⟨bh,bh⟩ (aL @bW) bh
def x8 (okW:PV→Bool) (pt:be→Option (List aw)) (bd:be→Option (List ah)) (it:be):Bool:=!((pt it).getD []).isEmpty && ((pt it).getD []).all (fun w=>okW w.parts) && iq (kinds ((bd it).getD [])) 0 1
theorem GP {xs:List be}{okW:PV→Bool}{pt:be→Option (List aw)}{bd:be→Option (List ah)} (hx:xs.length < 1000000000000) (hp:∀it∈xs,it.pats=b9 82 aw.cells (pt it)) (hb:∀it∈xs,it.body=b9 28 ah.cells (bd it))
  (hw:∀it∈xs,∀s,Pc ext 207 [it.pats] (.sc (.bool (((pt it).getD []).all fun w=>okW w.parts))) s) (hh:∀it∈xs,∀s,Pc ext 262 [it.body,.sc (.int .i64 0),.sc (.int .i64 1)] (.sc (.bool (iq (kinds ((bd it).getD [])) 0 1))) s) (s:PS) :
  ∀(k i:Nat) (f:aO),i + k=xs.length→f 0=b9 150 be.cells (some xs)→f 3=iN i→Er (fun f' s'=>s'=s∧f' 2=.sc (.bool ((xs.drop i).all (x8 okW pt bd)))) (LP Tryz.prog Γ ext 0 lQ pW f s):=by
 intro k
 induction k with
 | zero=>
  intro i f hk h0 h3;have e1:decide (i < xs.length)=false:=df;have ha:(xs.drop i).all (x8 okW pt bd)=true:=by rw [List.drop_eq_nil_of_le om]; rfl
  refine ac fun L hL=>?_;simp only [b9] at h0;exact wn @lQ.eq_1 @pW.eq_1 h0 h3 e1 @nj ha
 | succ k ih=>
  intro i f hk h0 h3;have hl:i < xs.length:=om;have e1:decide (i < xs.length)=true:=decide_eq_true hl;have hj:xs[i]?=some xs[i]:=List.getElem?_eq_getElem hl;have hfl:=aQ be.len xs;obtain⟨rr,hk3⟩:=de be.len hj;have hp1:=cA (e:=82) (c:=aw.cells) (pt xs[i]);rw [← hp _ (List.getElem_mem hl)] at hp1;have hcp:bx xs[i].pats=[xs[i].pats]:=by rw [hp _ (List.getElem_mem hl)]; cases pt xs[i]<;>rfl
  have hcb:bx xs[i].body=[xs[i].body]:=by rw [hb _ (List.getElem_mem hl)]; cases bd xs[i]<;>rfl
  have hw1:=hw _ (List.getElem_mem hl);have hh1:=hh _ (List.getElem_mem hl);have he:((pt xs[i]).getD []).isEmpty=(((pt xs[i]).getD []).length == 0):=by cases (pt xs[i]).getD []<;>rfl
  rw [List.drop_eq_getElem_cons hl,List.all_cons];simp only [b9] at h0;simp only [be.cells,List.cons_append,List.nil_append] at hk3;simp only [x8,he];have hgo:=ih (i + 1)
  try simp only [x8,he] at hgo
  generalize ((pt xs[i]).getD []).length=m at hp1 hgo ⊢;refine ac fun L hL=>?_;cases c1:m == 0 with
  | true=>exact zT @lQ.eq_1 @pW.eq_1 h0 h3 e1 hl @nj hfl hk3 @ap hcp hp1 c1 tv
  | false=>
  cases c2:((pt xs[i]).getD []).all fun w=>okW w.parts with
  | false=>
   rw [c2] at hw1;exact zT @lQ.eq_1 @pW.eq_1 h0 h3 e1 hl @nj hfl hk3 @ap hcp hp1 c1 hw1
  | true=>
  rw [c2] at hw1;cases c3:iq (kinds ((bd xs[i]).getD [])) 0 1 with
  | false=>
   rw [c3] at hh1;exact qO @lQ.eq_1 @pW.eq_1 h0 h3 e1 hl @nj hfl hk3 @ap hcp hcb hp1 c1 hw1 hh1
  | true=>
   rw [c3] at hh1;refine GT @lQ.eq_1 h0 h3 e1 hl @nj hfl hk3 @ap hcp hcb hp1 c1 hw1 hh1 tv ?_;subst hL;exact hgo _ om (aL h0) bh
theorem Ko {y:Option (List be)}{okW:PV→Bool}{pt:be→Option (List aw)}{bd:be→Option (List ah)} (hx:(y.getD []).length < 1000000000000) (hp:∀it∈y.getD [],it.pats=b9 82 aw.cells (pt it)) (hb:∀it∈y.getD [],it.body=b9 28 ah.cells (bd it))
  (hw:∀it∈y.getD [],∀w∈(pt it).getD [],∀s,Pc ext 263 [.agg w.cells] (.sc (.bool (okW w.parts))) s) (hl:∀it∈y.getD [],((pt it).getD []).length < 1000000000000∧((bd it).getD []).length < 1000000000000) (s:PS) :
  Pc ext 209 [b9 150 be.cells y] (.sc (.bool ((y.getD []).all (x8 okW pt bd)))) s:=by
 refine q1 My 2 ?_;cases y with
 | none=>
  have z0:decide ((0:Int) < 0)=false:=rfl;unfold My;refine tJ @bW ?_;refine ac fun L hL=>?_;refine OX @lQ.eq_1 @pW.eq_1 z0 ?_;rfl
 | some xs=>
  unfold My;refine tJ @bW ?_;refine GP (xs:=xs) hx hp hb (fun it h s=>?_) (fun it h s=>?_) _ xs.length 0 _ (Nat.zero_add _) (aL @bW) bh
  ·rw [hp it h];exact K5 (hl it h).1 (hw it h) s
  ·rw [hb it h];exact EQ (lo:=0) (hi:=1) (hl it h).2 om om s
end Go.Proofs.YtflfflfodghgpaaGreatDoor
set_option linter.unusedSimpArgs false
namespace Go.Proofs.YtflfflfodghgpaaGreatDoor
open Go Go.EvL Go.PE Go.Mir
variable {ext:ai}
def xC (k e:Int):Bool:=!((k == 2 && !u0 e) || (k == 6 && !Ek e && !(e == 7)))
theorem JW {x:ah}{xs:List ah} (hx:xs.length < 1000000000000) {b n0:Nat}{s:PS} (hn:n0≤s.w) (hb:s.h b=⟨x.cells,0,28⟩):∀(k i:Nat) (f:aO),i + k=xs.length→f 1=.ptr b 0 9→f 3=b9 28 ah.cells (some xs)→f 4=iN i→
  Er (fun f' s'=>n0≤s'.w∧f' 2=.sc (.bool (((kinds xs).drop i).all (xC x.kind) && (x.kind == 2 && decide (2≤xs.length) || x.kind == 6 && decide (1≤xs.length))))) (LP Tryz.prog Γ ext 1 gZ jZ f s):=by
 obtain⟨K,p,nm,al,aa,ws,rs,v,is⟩:=x;simp only [ah.cells] at hb;intro k
 induction k with
 | zero=>
  intro i f hk h1 h3 h4;have e1:decide (i < xs.length)=false:=df;have ha:((kinds xs).drop i).all (xC K)=true:=by rw [List.drop_eq_nil_of_le (by rw [kinds,List.length_map]; omega)]; rfl
  refine ac fun L hL=>?_;simp only [b9] at h3;cases c1:K == 2 with
  | true=>
   have c2:(K == 6)=false:=by rw [eq_of_beq c1]; rfl
   cases c3:decide (2≤xs.length) with
   | true=>exact jp @gZ.eq_1 @jZ.eq_1 h1 h3 h4 hb e1 ha c1 c2 c3 tv hn
   | false=>exact jp @gZ.eq_1 @jZ.eq_1 h1 h3 h4 hb e1 ha c1 c2 c3 tv hn
  | false=>
   cases c2:K == 6 with
   | true=>exact yi @gZ.eq_1 @jZ.eq_1 h1 h3 h4 hb e1 ha c1 c2 hn
   | false=>exact yi @gZ.eq_1 @jZ.eq_1 h1 h3 h4 hb e1 ha c1 c2 hn
 | succ k ih=>
  intro i f hk h1 h3 h4;have hl:i < xs.length:=om;have e1:decide (i < xs.length)=true:=decide_eq_true hl;have hj:xs[i]?=some xs[i]:=List.getElem?_eq_getElem hl;have hfl:=aQ ah.len xs;obtain⟨rr,hk3⟩:=de ah.len hj;have hd:(kinds xs).drop i=xs[i].kind :: (kinds xs).drop (i + 1):=by
   rw [kinds,← List.map_drop,List.drop_eq_getElem_cons hl,List.map_cons,List.map_drop]
  simp only [b9] at h3;simp only [ah.cells,List.cons_append,List.nil_append] at hk3;rw [hd,List.all_cons];have hgo:=ih (i + 1);generalize xs[i].kind=e at hk3 ⊢;simp only [xC];simp only [xC] at hgo;refine ac fun L hL=>?_;cases c1:K == 2 with
  | true=>
   have c2:(K == 6)=false:=by rw [eq_of_beq c1]; rfl
   simp only [c1,c2] at hgo ⊢;cases c3:u0 e with
   | false=>exact GT @gZ.eq_1 @jZ.eq_1 h1 h3 h4 hb e1 hl hfl hk3 @ap @ii c1 c2 c3 tv hn
   | true=>
    refine qJ @gZ.eq_1 h1 h3 h4 hb e1 hl hfl hk3 @ap @ii c1 c2 c3 ?_;subst hL;exact (hgo _ om (aL h1) (aL h3) bh).mono (fun f' s' h=>by simpa only [Bool.true_and,Bool.false_and,Bool.true_or,Bool.not_true,Bool.not_false,Bool.or_false,Bool.and_false] using h)
  | false=>
   simp only [c1] at hgo ⊢;cases c2:K == 6 with
   | true=>
    simp only [c2] at hgo ⊢;cases c3:Ek e with
    | true=>
     refine qJ @gZ.eq_1 h1 h3 h4 hb e1 hl hfl hk3 @ap @mf c1 c2 c3 ?_;subst hL;exact (hgo _ om (aL h1) (aL h3) bh).mono (fun f' s' h=>by simpa only [Bool.true_and,Bool.false_and,Bool.true_or,Bool.not_true,Bool.not_false,Bool.or_false,Bool.and_false,Bool.false_or] using h)
    | false=>
     cases c4:e == 7 with
     | false=>exact rG @gZ.eq_1 @jZ.eq_1 h1 h3 h4 hb e1 hl hfl hk3 @ap @mf @cO c1 c2 c3 c4 tv tv hn
     | true=>
      refine GT @gZ.eq_1 h1 h3 h4 hb e1 hl hfl hk3 @ap @mf @cO c1 c2 c3 c4 ?_;subst hL;exact (hgo _ om (aL h1) (aL h3) bh).mono (fun f' s' h=>by simpa only [Bool.true_and,Bool.false_and,Bool.true_or,Bool.not_true,Bool.not_false,Bool.or_false,Bool.and_false,Bool.false_or] using h)
   | false=>
    simp only [c2] at hgo ⊢;simp -implicitDefEqProofs (disch:=omega) only [ZS,seval,ZX,gZ,h1,h3,h4,hb,e1,hl,hfl,hk3,ap,c1,c2];subst hL;exact (hgo _ om (by simp -implicitDefEqProofs (disch:=omega) only [ZS,seval,h1]) (by simp -implicitDefEqProofs (disch:=omega) only [ZS,seval,h3]; rfl) (by simp -implicitDefEqProofs (disch:=omega) only [ZS,seval])).mono (fun f' s' h=>by simpa only [Bool.true_and,Bool.false_and,Bool.true_or,Bool.not_true,Bool.not_false,Bool.or_false,Bool.and_false,Bool.false_or] using h)
theorem QE {x:ah}{lk:Option (List ah)} (hk:x.kids=b9 28 ah.cells lk) (hx:(lk.getD []).length < 1000000000000) (s:PS):aU Tryz.prog Γ ext 206 [.agg x.cells] s=some (.sc (.bool (eR x.kind (kinds (lk.getD [])))),s):=by
 obtain⟨k,p,nm,al,aa,ws,rs,v,is⟩:=x;simp only at hk;have hlen:=cA (e:=28) (c:=ah.cells) lk;have hkl:(kinds (lk.getD [])).length=(lk.getD []).length:=List.length_map _;rw [← hk,← hkl] at hlen;have hcv:bx v=[v]:=by rw [hk]; cases lk<;>rfl
 have hL:∀(lo hi:Nat),lo < 100→hi < 100→∀s,Pc ext 262 [v,iN lo,iN hi] (.sc (.bool (iq (kinds (lk.getD [])) lo hi))) s:=fun lo hi h1 h2 s=>by
  rw [hk];exact EQ hx h1 h2 s
 have hL11:∀s,aU Tryz.prog Γ ext 262 [v,.sc (.int .i64 1),.sc (.int .i64 1)] s=_:=hL 1 1 om om;have hL23:∀s,aU Tryz.prog Γ ext 262 [v,.sc (.int .i64 2),.sc (.int .i64 3)] s=_:=hL 2 3 om om;have hL22:∀s,aU Tryz.prog Γ ext 262 [v,.sc (.int .i64 2),.sc (.int .i64 2)] s=_:=hL 2 2 om om;have hK1:(kinds (lk.getD [])).length=1→∃a:ah,v=.lit 28 1 a.cells∧kinds (lk.getD [])=[a.kind]:=fun h=>by
  rw [hkl] at h;cases lk with
  | none=>cases h
  | some l=>
   match l,h with
   | [a],_=>exact⟨a,by rw [hk]; simp only [b9,List.flatMap_cons,List.flatMap_nil,List.append_nil]; rfl,rfl⟩
 have hK2:(kinds (lk.getD [])).length=2→∃a b:ah,v=.lit 28 2 (a.cells ++ b.cells)∧kinds (lk.getD [])=[a.kind,b.kind]:=fun h=>by
  rw [hkl] at h;cases lk with
  | none=>cases h
  | some l=>
   match l,h with
   | [a,b],_=>exact⟨a,b,by rw [hk]; simp only [b9,List.flatMap_cons,List.flatMap_nil,List.append_nil]; rfl,rfl⟩
 refine mu Qu 2 ?_;unfold Qu;simp only [ah.cells];cases c1:k == 1 with
 | true=>
  have hB:eR k (kinds (lk.getD []))=((kinds (lk.getD [])).length == 0):=by unfold eR; simp only [c1,Bool.or_false,Bool.false_or,Bool.true_or,Bool.or_true,if_true,Bool.false_eq_true,if_false]
  simp only [hB];exact jC hcv hlen c1
 | false=>
 cases c14:k == 14 with
 | true=>
  have hB:eR k (kinds (lk.getD []))=((kinds (lk.getD [])).length == 0):=by unfold eR; simp only [c1,c14,Bool.or_false,Bool.false_or,Bool.true_or,Bool.or_true,if_true,Bool.false_eq_true,if_false]
  simp only [hB];exact qs hcv hlen c1 c14
 | false=>
 cases c3:k == 3 with
 | true=>
  have hB:eR k (kinds (lk.getD []))=((kinds (lk.getD [])).length == 1 && (u0 ((kinds (lk.getD [])).getD 0 0) || (kinds (lk.getD [])).getD 0 0 == 2)):=by unfold eR; simp only [c1,c14,c3,Bool.or_false,Bool.false_or,Bool.true_or,Bool.or_true,if_true,Bool.false_eq_true,if_false]
  simp only [hB];cases d0:(kinds (lk.getD [])).length == 1 with
  | false=>
   exact kU hcv hlen d0 c1 c14 c3
  | true=>
   obtain⟨a,hv,hq⟩:=hK1 (of_decide_eq_true d0);obtain⟨ak,a1,a2,a3,a4,a5,a6,a7,a8⟩:=a;simp only [ah.cells,List.cons_append,List.nil_append] at hv;rw [hq];subst hv;have z1:(((1:Nat):Int) == 1)=true:=rfl;have np1:kw (.sc (.int .i64 1))=some 1:=rfl;simp only [List.getD_cons_zero,List.getD_cons_succ];cases d1:u0 ak with
   | true=>
    cases d2:ak == 2 with
    | true=>
     exact qO hcv z1 np1 @Nat.zero_mul @Nat.one_mul @ap @ii @mf @iM @bT d1 d2 c1 c14 c3 tv
    | false=>
     exact qO hcv z1 np1 @Nat.zero_mul @Nat.one_mul @ap @ii @mf @iM @bT d1 d2 c1 c14 c3 tv
   | false=>
    cases d2:ak == 2 with
    | true=>
     exact qO hcv z1 np1 @Nat.zero_mul @Nat.one_mul @ap @ii @mf @iM @bT d1 d2 c1 c14 c3 tv
    | false=>
     exact qO hcv z1 np1 @Nat.zero_mul @Nat.one_mul @ap @ii @mf @iM @bT d1 d2 c1 c14 c3 tv
 | false=>
 cases c4:k == 4 with
 | true=>
  have hB:eR k (kinds (lk.getD []))=((kinds (lk.getD [])).length == 2 && Ek ((kinds (lk.getD [])).getD 0 0) && uG ((kinds (lk.getD [])).getD 1 0)):=by unfold eR; simp only [c1,c14,c3,c4,Bool.or_false,Bool.false_or,Bool.true_or,Bool.or_true,if_true,Bool.false_eq_true,if_false]
  simp only [hB];cases d0:(kinds (lk.getD [])).length == 2 with
  | false=>
   exact wn hcv hlen d0 c1 c14 c3 c4
  | true=>
   obtain⟨a,b,hv,hq⟩:=hK2 (of_decide_eq_true d0);obtain⟨ak,a1,a2,a3,a4,a5,a6,a7,a8⟩:=a;obtain⟨bk,b1,b2,b3,b4,b5,b6,b7,b8⟩:=b;simp only [ah.cells,List.cons_append,List.nil_append] at hv;rw [hq];subst hv;have z1:(((2:Nat):Int) == 2)=true:=rfl;have np1:kw (.sc (.int .i64 1))=some 1:=rfl;simp only [List.getD_cons_zero,List.getD_cons_succ];cases d1:Ek ak with
   | true=>
    cases d2:uG bk with
    | true=>
     exact qO hcv z1 np1 @Nat.zero_mul @Nat.one_mul @ap @ii @mf @iM @bT d1 d2 c1 c14 c3 c4
    | false=>
     exact qO hcv z1 np1 @Nat.zero_mul @Nat.one_mul @ap @ii @mf @iM @bT d1 d2 c1 c14 c3 c4
   | false=>
    cases d2:uG bk with
    | true=>
     exact qO hcv z1 np1 @Nat.zero_mul @Nat.one_mul @ap @ii @mf @iM @bT d1 d2 c1 c14 c3 c4
    | false=>
     exact qO hcv z1 np1 @Nat.zero_mul @Nat.one_mul @ap @ii @mf @iM @bT d1 d2 c1 c14 c3 c4
 | false=>
 cases c5:k == 5 with
 | true=>
  have hB:eR k (kinds (lk.getD []))=((kinds (lk.getD [])).length == 2 && Ek ((kinds (lk.getD [])).getD 0 0) && uG ((kinds (lk.getD [])).getD 1 0)):=by unfold eR; simp only [c1,c14,c3,c4,c5,Bool.or_false,Bool.false_or,Bool.true_or,Bool.or_true,if_true,Bool.false_eq_true,if_false]
  simp only [hB];cases d0:(kinds (lk.getD [])).length == 2 with
  | false=>
   exact A9 hcv hlen d0 c1 c14 c3 c4 c5
  | true=>
   obtain⟨a,b,hv,hq⟩:=hK2 (of_decide_eq_true d0);obtain⟨ak,a1,a2,a3,a4,a5,a6,a7,a8⟩:=a;obtain⟨bk,b1,b2,b3,b4,b5,b6,b7,b8⟩:=b;simp only [ah.cells,List.cons_append,List.nil_append] at hv;rw [hq];subst hv;have z1:(((2:Nat):Int) == 2)=true:=rfl;have np1:kw (.sc (.int .i64 1))=some 1:=rfl;simp only [List.getD_cons_zero,List.getD_cons_succ];cases d1:Ek ak with
   | true=>
    cases d2:uG bk with
    | true=>
     exact lb hcv z1 np1 @Nat.zero_mul @Nat.one_mul @ap @ii @mf @iM @bT d1 d2 c1 c14 c3 c4 c5 tv tv
    | false=>
     exact lb hcv z1 np1 @Nat.zero_mul @Nat.one_mul @ap @ii @mf @iM @bT d1 d2 c1 c14 c3 c4 c5 tv tv
   | false=>
    cases d2:uG bk with
    | true=>
     exact lb hcv z1 np1 @Nat.zero_mul @Nat.one_mul @ap @ii @mf @iM @bT d1 d2 c1 c14 c3 c4 c5 tv tv
    | false=>
     exact lb hcv z1 np1 @Nat.zero_mul @Nat.one_mul @ap @ii @mf @iM @bT d1 d2 c1 c14 c3 c4 c5 tv tv
 | false=>
 cases c7:k == 7 with
 | true=>
  have hB:eR k (kinds (lk.getD []))=((kinds (lk.getD [])).length == 1 && Ek ((kinds (lk.getD [])).getD 0 0)):=by unfold eR; simp only [c1,c14,c3,c4,c5,c7,Bool.or_false,Bool.false_or,Bool.true_or,Bool.or_true,if_true,Bool.false_eq_true,if_false]
  simp only [hB];cases d0:(kinds (lk.getD [])).length == 1 with
  | false=>
   exact tf hcv hlen d0 c1 c14 c3 c4 c5 c7
  | true=>
   obtain⟨a,hv,hq⟩:=hK1 (of_decide_eq_true d0);obtain⟨ak,a1,a2,a3,a4,a5,a6,a7,a8⟩:=a;simp only [ah.cells,List.cons_append,List.nil_append] at hv;rw [hq];subst hv;have z1:(((1:Nat):Int) == 1)=true:=rfl;have np1:kw (.sc (.int .i64 1))=some 1:=rfl;simp only [List.getD_cons_zero,List.getD_cons_succ];cases d1:Ek ak with
   | true=>
    exact lb hcv z1 np1 @Nat.zero_mul @Nat.one_mul @ap @ii @mf @iM @bT d1 c1 c14 c3 c4 c5 c7 tv tv
   | false=>
    exact lb hcv z1 np1 @Nat.zero_mul @Nat.one_mul @ap @ii @mf @iM @bT d1 c1 c14 c3 c4 c5 c7 tv tv
 | false=>
 cases c8:k == 8 with
 | true=>
  have hB:eR k (kinds (lk.getD []))=iq (kinds (lk.getD [])) 1 1:=by unfold eR; simp only [c1,c14,c3,c4,c5,c7,c8,Bool.or_false,Bool.false_or,Bool.true_or,Bool.or_true,if_true,Bool.false_eq_true,if_false]
  simp only [hB];exact tf hcv hL11 c1 c14 c3 c4 c5 c7 c8
 | false=>
 cases c9:k == 9 with
 | true=>
  have hB:eR k (kinds (lk.getD []))=iq (kinds (lk.getD [])) 1 1:=by unfold eR; simp only [c1,c14,c3,c4,c5,c7,c8,c9,Bool.or_false,Bool.false_or,Bool.true_or,Bool.or_true,if_true,Bool.false_eq_true,if_false]
  simp only [hB];exact tj hcv hL11 c1 c14 c3 c4 c5 c7 c8 c9
 | false=>
 cases c13:k == 13 with
 | true=>
  have hB:eR k (kinds (lk.getD []))=iq (kinds (lk.getD [])) 1 1:=by unfold eR; simp only [c1,c14,c3,c4,c5,c7,c8,c9,c13,Bool.or_false,Bool.false_or,Bool.true_or,Bool.or_true,if_true,Bool.false_eq_true,if_false]
  simp only [hB];exact oQ hcv hL11 c1 c14 c3 c4 c5 c7 c8 c9 c13 tv
 | false=>
 cases c10:k == 10 with
 | true=>
  have hB:eR k (kinds (lk.getD []))=iq (kinds (lk.getD [])) 2 3:=by unfold eR; simp only [c1,c14,c3,c4,c5,c7,c8,c9,c13,c10,Bool.or_false,Bool.false_or,Bool.true_or,Bool.or_true,if_true,Bool.false_eq_true,if_false]
  simp only [hB];exact oQ hcv hL23 c1 c14 c3 c4 c5 c7 c8 c9 c13 c10
 | false=>
 cases c11:k == 11 with
 | true=>
  have hB:eR k (kinds (lk.getD []))=iq (kinds (lk.getD [])) 2 2:=by unfold eR; simp only [c1,c14,c3,c4,c5,c7,c8,c9,c13,c10,c11,Bool.or_false,Bool.false_or,Bool.true_or,Bool.or_true,if_true,Bool.false_eq_true,if_false]
  simp only [hB];exact zT hcv hL22 c1 c14 c3 c4 c5 c7 c8 c9 c13 c10 c11 tv
 | false=>
 cases c12:k == 12 with
 | true=>
  have hB:eR k (kinds (lk.getD []))=iq (kinds (lk.getD [])) 2 2:=by unfold eR; simp only [c1,c14,c3,c4,c5,c7,c8,c9,c13,c10,c11,c12,Bool.or_false,Bool.false_or,Bool.true_or,Bool.or_true,if_true,Bool.false_eq_true,if_false]
  simp only [hB];exact zT hcv hL22 c1 c14 c3 c4 c5 c7 c8 c9 c13 c10 c11 c12
 | false=>
 cases c15:k == 15 with
 | true=>
  have hB:eR k (kinds (lk.getD []))=((kinds (lk.getD [])).length == 1 && nu ((kinds (lk.getD [])).getD 0 0)):=by unfold eR; simp only [c1,c14,c3,c4,c5,c7,c8,c9,c13,c10,c11,c12,c15,Bool.or_false,Bool.false_or,Bool.true_or,Bool.or_true,if_true,Bool.false_eq_true,if_false]
  simp only [hB];cases d0:(kinds (lk.getD [])).length == 1 with
  | false=>
   exact qO hcv hlen d0 c1 c14 c3 c4 c5 c7 c8 c9 c13 c10 c11 c12 c15
  | true=>
   obtain⟨a,hv,hq⟩:=hK1 (of_decide_eq_true d0);obtain⟨ak,a1,a2,a3,a4,a5,a6,a7,a8⟩:=a;simp only [ah.cells,List.cons_append,List.nil_append] at hv;rw [hq];subst hv;have z1:(((1:Nat):Int) == 1)=true:=rfl;have np1:kw (.sc (.int .i64 1))=some 1:=rfl;simp only [List.getD_cons_zero,List.getD_cons_succ];cases d1:nu ak with
   | true=>
    exact Gh hcv z1 np1 @Nat.zero_mul @Nat.one_mul @ap @ii @mf @iM @bT d1 c1 c14 c3 c4 c5 c7 c8 c9 c13 c10 c11 c12 c15 tv tv
   | false=>
    exact Gh hcv z1 np1 @Nat.zero_mul @Nat.one_mul @ap @ii @mf @iM @bT d1 c1 c14 c3 c4 c5 c7 c8 c9 c13 c10 c11 c12 c15 tv tv
 | false=>
 have hB:eR k (kinds (lk.getD []))=((kinds (lk.getD [])).all (xC k) && (k == 2 && decide (2≤(kinds (lk.getD [])).length) || k == 6 && decide (1≤(kinds (lk.getD [])).length))):=by
  unfold eR;simp only [c1,c14,c3,c4,c5,c7,c8,c9,c13,c10,c11,c12,c15,Bool.or_false,Bool.false_or,Bool.true_or,Bool.or_true,if_true,Bool.false_eq_true,if_false];have hst:xC k=fun e=>!((k == 2 && !u0 e) || (k == 6 && !Ek e && !(e == 7))):=rfl;cases d2:k == 2 with
  | true=>
   have d6:(k == 6)=false:=by rw [eq_of_beq d2]; rfl
   simp only [hst,d2,d6,if_true,Bool.true_and,Bool.false_and,Bool.or_false,Bool.not_not]
   all_goals rfl
  | false=>
   cases d6:k == 6 with
   | true=>
    simp only [hst,d2,d6,if_true,Bool.true_and,Bool.false_and,Bool.or_false,Bool.false_or,Bool.not_and,Bool.not_not,Bool.false_eq_true,if_false]
   | false=>simp only [hst,d2,d6,if_true,Bool.true_and,Bool.false_and,Bool.or_false,Bool.and_false,Bool.false_eq_true,if_false]
 simp only [hB];cases lk with
 | none=>
  have z0:decide ((0:Int) < 0)=false:=rfl;have z1:decide (2≤(0:Int))=false:=rfl;have z2:decide (1≤(0:Int))=false:=rfl;simp only [b9] at hk;subst hk;refine qJ hcv c1 c14 c3 c4 c5 c7 c8 c9 c13 c10 c11 c12 c15 ?_;refine ac fun L hL=>?_;cases d2:k == 2 with
  | true=>
   have d6:(k == 6)=false:=by rw [eq_of_beq d2]; rfl
   exact oQ @gZ.eq_1 @jZ.eq_1 z0 z1 z2 d2 d6 @Option.getD_none.{0} @kinds.eq_1 @List.map_nil.{0,0} decide_false tv
  | false=>
   cases d6:k == 6 with
   | true=>exact oQ @gZ.eq_1 @jZ.eq_1 z0 z1 z2 d2 d6 @Option.getD_none.{0} @kinds.eq_1 @List.map_nil.{0,0} decide_false tv
   | false=>exact oQ @gZ.eq_1 @jZ.eq_1 z0 z1 z2 d2 d6 @Option.getD_none.{0} @kinds.eq_1 @List.map_nil.{0,0} decide_false tv
 | some xs=>
  simp only [b9] at hk;subst hk;refine qJ hcv c1 c14 c3 c4 c5 c7 c8 c9 c13 c10 c11 c12 c15 ?_;rw [hkl];exact JW (x:=⟨k,p,nm,al,aa,ws,rs,.lit 28 xs.length (xs.flatMap ah.cells),is⟩) (xs:=xs) hx (b:=s.n) (n0:=s.n) bh (aL @ah.cells.eq_1) xs.length 0 _ (Nat.zero_add _) bh bh bh
end Go.Proofs.YtflfflfodghgpaaGreatDoor
set_option linter.unusedSimpArgs false
namespace Go.PE
open Go Go.EvL
section
variable {P:Program}{Γ:Nat→Option fN}{ext:ai}
theorem FQ {g r r2:Nat}{fn:fN}{args:List PV}{s:PS}{u v:Value} (hg:Γ g=some fn) (hl:args.length≤fn.nt) (hr:fn.res=[.tmp r,.tmp r2]) (hk:fn.keep=false) (h:Er (fun f' s'=>s.n≤s'.w∧f' r=.sc u∧f' r2=.sc v) (aS P Γ ext fn.body (cK args 0) ⟨s.h,s.n,s.n⟩)):aU P Γ ext g args s=some (.tup [.sc u,.sc v],s):=by
 refine ij hg hl h ?_;rintro f s' ⟨hw,h,h2⟩;exact fJ (vs:=[.sc u,.sc v]) hk (by rw [hr]; simp only [ck,Option.map_some,h,h2]) hw rfl
end
end Go.PE
namespace Go.Proofs.YtflfflfodghgpaaGreatDoor
open Go Go.EvL Go.PE Go.Mir
variable {ext:ai}
def LD (l:List ao):Bool:=match l with
 | [p]=>p.kind == 1
 | _=>false
def Jk (l:List ao):ByteArray:=match l with
 | [p]=>if p.kind == 1 then p.text else ⟨#[]⟩
 | _=>⟨#[]⟩
def IM (l:List ao):Bool:=match l with
 | p :: _=>p.kind == 1 && decide (0 < OF p.text.data.toList)
 | _=>false
def pA (l:List ao):Bool:=!(LD l && lA (Jk l).data.toList || IM l)
theorem Tc {y:Option (List ao)} (u:Value) (s:PS):Pc ext 266 [.agg [.sc u,b9 90 ao.cells y]] (.tup [.sc (.string (Jk (y.getD []))),.sc (.bool (LD (y.getD [])))]) s:=by
 have hc:bx (b9 90 ao.cells y)=[b9 90 ao.cells y]:=by cases y<;>rfl
 refine FQ (fn:=KV) (r:=2) (r2:=3) (by rfl) (by simp [KV]) (by rfl) (by rfl) ?_;unfold KV
 match y,hc with
 | none,hc=>
  have z0:((0:Int) == 1)=false:=rfl;simp only [b9] at hc ⊢;refine u6 hc z0 ?_;exact⟨rfl,rfl⟩
 | some [],hc=>
  have z0:(((0:Nat):Int) == 1)=false:=rfl;simp only [b9,List.flatMap_nil] at hc ⊢;refine u6 hc z0 ?_;exact⟨rfl,rfl⟩
 | some (p :: q :: r),hc=>
  have z0:(r.length + 1 + 1 == 1)=false:=by simp
  simp only [b9] at hc ⊢;refine u6 hc z0 ?_;exact⟨rfl,rfl⟩
 | some [p],hc=>
  obtain⟨k,t,o,c,v⟩:=p;have z0:(((1:Nat):Int) == 1)=true:=rfl;simp only [b9,List.flatMap_cons,List.flatMap_nil,List.append_nil,ao.cells] at hc ⊢;simp only [Option.getD_some,LD,Jk];cases c0:k == 1 with
  | false=>exact tI hc z0 c0 @Nat.zero_mul @ap
  | true=>exact tI hc z0 c0 @Nat.zero_mul @ap
theorem SS {y:Option (List ao)} (hy:(y.getD []).length < 1000000000000) (ht:∀p∈y.getD [],p.text.data.toList.length < 1000000000000) (u:Value) (s:PS):Pc ext 267 [.agg [.sc u,b9 90 ao.cells y]] (.sc (.bool (IM (y.getD [])))) s:=by
 have hc:bx (b9 90 ao.cells y)=[b9 90 ao.cells y]:=by cases y<;>rfl
 refine mu Oi 2 ?_;unfold Oi
 match y,hc,hy,ht with
 | none,hc,hy,ht=>
  have z0:decide ((0:Int) < 0)=false:=rfl;simp only [b9] at hc ⊢;refine u6 hc z0 ?_
  first | rfl | exact⟨Nat.le_refl _,rfl⟩
 | some [],hc,hy,ht=>
  have z0:decide ((0:Int) < ((0:Nat):Int))=false:=rfl;simp only [b9,List.flatMap_nil] at hc ⊢;refine u6 hc z0 ?_
  first | rfl | exact⟨Nat.le_refl _,rfl⟩
 | some (p :: r),hc,hy,ht=>
  obtain⟨k,t,o,c,v⟩:=p;have hA:=fun s=>Re (ext:=ext) (ht _ (List.mem_cons_self ..)) s;have hf:=aQ ao.len r;have z0:decide (0 < r.length + 1)=true:=decide_eq_true (Nat.succ_pos _);have hl0 : 0 < r.length + 1:=Nat.succ_pos _;have q5:(r.length * 5 + 1 + 1 + 1 + 1 + 1=(r.length + 1) * 5)=True:=eq_true om;simp only [b9,List.flatMap_cons,ao.cells,List.cons_append,List.nil_append] at hc ⊢;simp only [Option.getD_some,IM];cases c0:k == 1 with
  | false=>exact A9 hc z0 hl0 hf q5 c0 @Nat.zero_mul @ap
  | true=>exact tf hc z0 hl0 hf q5 c0 @Nat.zero_mul @ap hA
def rS (l:List aw) (q:aw→Bool):Bool:=match l with
 | []=>true
 | w :: _=>q w
def xX (okV:PV→Bool) (pv:PV→List ao) (x:ah) (la:List aF) (lw:List aw) (nr ni:Nat):Bool:=
 (la.all fun a=>gK a.name.data.toList && okV a.parts) && (rS lw (fun w=>pA (pv w.parts)) && (decide (0 < la.length + lw.length + nr) && x.name.data.toList.isEmpty && !x.all && (ni == 0)))
theorem Kz {x:ah}{la:List aF}{okV:PV→Bool}{R:Bool} (hx:la.length < 1000000000000) {b n0:Nat}{s:PS} (hn:n0≤s.w) (hb:s.h b=⟨x.cells,0,28⟩) (ha:x.assigns=b9 84 aF.cells (some la))
  (hv:∀a∈la,∀s,Pc ext 265 [a.parts] (.sc (.int .i64 (if okV a.parts then 0 else 1))) s) (hc:∀a∈la,a.name.data.toList.length < 1000000000000∧bx a.parts=[a.parts])
  (hR:∀f,f 1=.ptr b 0 9→Er (fun f' s'=>n0≤s'.w∧f' 2=.sc (.bool R)) (aS Tryz.prog Γ ext ue f s)):∀(k i:Nat) (f:aO),i + k=la.length→f 1=.ptr b 0 9→f 3=iN i→
  Er (fun f' s'=>n0≤s'.w∧f' 2=.sc (.bool (((la.drop i).all fun a=>gK a.name.data.toList && okV a.parts) && R))) (LP Tryz.prog Γ ext 0 nb ue f s):=by
 obtain⟨K,p,nm,al,aa,ws,rs,v,is⟩:=x;simp only at ha;simp only [ah.cells] at hb;subst ha;intro k
 induction k with
 | zero=>
  intro i f hk h1 h3;have e1:decide (i < la.length)=false:=df;rw [List.drop_eq_nil_of_le om,List.all_nil,Bool.true_and];have hgo:=hR;refine ac fun L hL=>?_;refine BD @nb.eq_1 h1 h3 hb @bW e1 ?_;exact hgo _ (aL h1)
 | succ k ih=>
  intro i f hk h1 h3;have hl:i < la.length:=om;have e1:decide (i < la.length)=true:=decide_eq_true hl;have hj:la[i]?=some la[i]:=List.getElem?_eq_getElem hl;have hfl:=aQ aF.len la;obtain⟨rr,hk3⟩:=de aF.len hj;have hv1:=hv _ (List.getElem_mem hl);obtain⟨hc1,hc2⟩:=hc _ (List.getElem_mem hl);have hnm:=fun s=>qT (ext:=ext) (b:=la[i].name) om s;rw [List.drop_eq_getElem_cons hl,List.all_cons];have hgo:=ih (i + 1);simp only [aF.cells,List.cons_append,List.nil_append] at hk3;have z0:((0:Int) == 0)=true:=rfl;have z1:((1:Int) == 0)=false:=rfl;refine ac fun L hL=>?_;cases c1:gK la[i].name.data.toList with
  | false=>exact jp @nb.eq_1 h1 h3 hb @bW e1 hl hfl hk3 @ap hnm c1 hn
  | true=>
  cases c2:okV la[i].parts with
  | false=>
   rw [c2] at hv1;simp only [Bool.false_eq_true,if_false] at hv1;exact GT @nb.eq_1 h1 h3 hb @bW e1 hl hfl hk3 @ap hnm c1 hc2 hv1 @cO z1 hn
  | true=>
   rw [c2] at hv1;simp only [if_true] at hv1;refine GT @nb.eq_1 h1 h3 hb @bW e1 hl hfl hk3 @ap hnm c1 hc2 hv1 @cO z0 ?_;subst hL;exact hgo _ om (aL h1) bh
def O8:bw:=(sr [ob 56 (.faddr 4 (tp 1)),ob 57 (.load 22 false 1 (tp 56)),ob 58 (.len false (tp 57)),ob 59 (.faddr 5 (tp 1)),ob 60 (.load 23 false 1 (tp 59)),ob 61 (.len false (tp 60)),ob 62 (bn .add 3 58 61),ob 63 (.faddr 6 (tp 1)),ob 64 (.load 24 false 1 (tp 63)),ob 65 (.len false (tp 64)),ob 66 (bn .add 3 62 65),ob 67 (bi .gtr 66 0),mt 68 67,og 68 true 69 (.faddr 2 (tp 1)),og 68 true 70 (.load 9 false 1 (tp 69)),og 68 true 71 (.bin .eql 9 (tp 70) (ks #[])),ob 72 (pk 68 71),mt 73 72,og 73 true 74 (.faddr 3 (tp 1)),og 73 true 75 (.load 4 false 1 (tp 74)),og 73 true 76 (.un .not (tp 75)),ob 77 (pk 73 76),mt 78 77,og 78 true 79 (.faddr 8 (tp 1)),og 78 true 80 (.load 26 false 1 (tp 79)),og 78 true 81 (.len false (tp 80)),og 78 true 82 (bi .eql 81 0),ob 83 (pk 78 82),mt 2 83]
 .ret)
theorem MC:ue=(.seq (uH [ob 32 (.faddr 5 (tp 1)),ob 33 (.load 23 false 1 (tp 32)),ob 34 (.len false (tp 33)),ob 35 (bi .gtr 34 0)] 35
 (sr [ob 37 (.faddr 5 (tp 1)),ob 38 (.load 23 false 1 (tp 37)),ob 39 (.iaddr 2 (tp 38) (ki 0)),ob 40 (.load 82 true 2 (tp 39)),ob 41 (cl 266 [(tp 40)]),mt 36 41,ob 42 (.ext (tp 36) 0),ob 43 (.ext (tp 36) 1),mt 4 42,mt 5 43]
 (uH [mt 44 5,mt 45 44,gt 45 true 46 4,og 45 true 47 (cl 229 [(tp 46)]),ob 48 (pk 45 47),mt 49 48,og 49 false 50 (.faddr 5 (tp 1)),og 49 false 51 (.load 23 false 1 (tp 50)),og 49 false 52 (.iaddr 2 (tp 51) (ki 0)),og 49 false 53 (.load 82 true 2 (tp 52)),og 49 false 54 (cl 267 [(tp 53)]),ob 55 (po 49 54)] 55
 (sr [mk 2 (.bool false)]
 .ret)
 .skip))
 .skip) O8):=rfl
theorem FO {k p:Int}{nm:ByteArray}{al:Bool}{aa ws rs v is:PV}{na nw nr ni:Nat}{lw:List aw}{y:Option (List ao)} (hna:na < 1000000000000) (hnr:nr < 1000000000000) {b n0:Nat}{s:PS} (hn:n0≤s.w) (hb:s.h b=⟨[.sc (.int .i64 k),.sc (.int .i64 p),.sc (.string nm),.sc (.bool al),aa,ws,rs,v,is],0,28⟩)
  (ha:eA false aa=some (iN na)) (hr:eA false rs=some (iN nr)) (hi:eA false is=some (iN ni)) (hw:(nw=0∧eA false ws=some (.sc (.int .i64 0))∧lw=[])∨∃w r,lw=w :: r∧nw=lw.length∧ws=.lit 82 lw.length (lw.flatMap aw.cells)∧w.parts=b9 90 ao.cells y∧(y.getD []).length < 1000000000000∧∀p∈y.getD [],p.text.data.toList.length < 1000000000000) (hnw:nw < 1000000000000) (f:aO) (h1:f 1=.ptr b 0 9) :
  Er (fun f' s'=>n0≤s'.w∧f' 2=.sc (.bool (rS lw (fun _=>pA (y.getD [])) && (decide (0 < na + nw + nr) && nm.data.toList.isEmpty && !al && (ni == 0))))) (aS Tryz.prog Γ ext ue f s):=by
 have fin:∀{Q:Bool}{f:aO},f 1=.ptr b 0 9→(eA false ws=some (iN nw))→Q=(decide (0 < na + nw + nr) && nm.data.toList.isEmpty && !al && (ni == 0))→Er (fun f' s'=>n0≤s'.w∧f' 2=.sc (.bool Q)) (aS Tryz.prog Γ ext O8 f s):=by
  intro Q f h1 hw hQ;subst hQ;unfold O8;cases c1:decide (0 < na + nw + nr) with
  | false=>exact BD h1 hb ha hr hw c1 hn
  | true=>
  cases c2:nm.data.toList.isEmpty with
  | false=>exact Bz h1 hb ha hr hw c1 @aJ c2 hn
  | true=>
  cases al with
  | true=>exact Bz h1 hb ha hr hw c1 @aJ c2 hn
  | false=>exact GI h1 hb ha hr hi hw c1 @aJ c2 hn
 rw [MC];rcases hw with ⟨rfl,hw,rfl⟩ | ⟨w,r,rfl,rfl,rfl,hy,hy1,hy2⟩
 ·have z0:decide ((0:Int) < 0)=false:=rfl;refine R9 h1 hb hw z0 ?_;refine fin (aL h1) hw ?_;simp only [rS,Bool.true_and,Nat.add_zero]
 ·obtain⟨u,q⟩:=w;simp only at hy;subst hy;have hcq:bx (b9 90 ao.cells y)=[b9 90 ao.cells y]:=by cases y<;>rfl
  have hL:=fun s=>Tc (ext:=ext) (y:=y) (.int .i64 u) s;have hA:=fun s=>SS (ext:=ext) hy1 hy2 (.int .i64 u) s;have hR:=fun s=>vu (ext:=ext) (b:=Jk (y.getD [])) s;have z0:decide (0 < r.length + 1)=true:=decide_eq_true (Nat.succ_pos _);have hl0 : 0 < r.length + 1:=Nat.succ_pos _;have q2:(r.length * 2 + 1 + 1=(r.length + 1) * 2)=True:=eq_true om;have hf:=aQ aw.len r;have hfin:=fun f h=>fin (f:=f) (Q:=(decide (0 < na + (r.length + 1) + nr) && nm.data.toList.isEmpty && !al && (ni == 0))) h rfl rfl;simp only [List.flatMap_cons,List.length_cons,aw.cells,List.cons_append,List.nil_append] at hb hfin ⊢;simp only [rS,pA];generalize b9 90 ao.cells y=q at *;cases c1:LD (y.getD []) with
  | true=>
   rw [c1] at hL;cases c2:lA (Jk (y.getD [])).data.toList with
   | true=>
    rw [c2] at hR;exact jp h1 hb z0 hl0 hf q2 @Nat.zero_mul @ap hcq hL hR tv hn
   | false=>
    rw [c2] at hR;cases c3:IM (y.getD []) with
    | true=>
     rw [c3] at hA;exact jp h1 hb z0 hl0 hf q2 @Nat.zero_mul @ap hcq hL hR hA hn
    | false=>
     rw [c3] at hA;refine jp h1 hb z0 hl0 hf q2 @Nat.zero_mul @ap hcq hL hR hA ?_;exact hfin _ (aL h1)
  | false=>
   rw [c1] at hL;cases c3:IM (y.getD []) with
   | true=>
    rw [c3] at hA;exact jp h1 hb z0 hl0 hf q2 @Nat.zero_mul @ap hcq hL hA tv hn
   | false=>
    rw [c3] at hA;refine jp h1 hb z0 hl0 hf q2 @Nat.zero_mul @ap hcq hL hA tv ?_;exact hfin _ (aL h1)
end Go.Proofs.YtflfflfodghgpaaGreatDoor
