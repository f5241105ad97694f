/- What functions of the program and of the reference compute, on values. No statement is proved here. -/
import Derived.Test.YtgkggocjoolciaaGreatDoorTxH
import Derived.Test.YtgkggocjoolciaaGreatDoorTxC
import Derived.Test.YtgkggocjoolciaaGreatDoorTxA
import Derived.Test.YtgkggocjoolciaaGreatDoorEvE
set_option linter.all false
namespace Go.Proofs.YtgkggocjoolciaaGreatDoor
open Go Go.EvL Go.PE
variable {ext:aq}
theorem Ac {α β:Type}{g:α→β}{l:List α}{i:Nat}{x:α} (h:l[i]?=some x):(l.take (i + 1)).map g=(l.take i).map g ++ [g x]:=by
 rw [List.take_add_one,h,List.map_append];simp
def ax.val (y:ax):aw:=⟨y.vpos,y.parts⟩
def aA.tgt (y:aA):aw:=⟨y.tpos,y.parts⟩
theorem aw.one {y:aw} (h:cL y.parts=true):y.cells.all cL=true:=by simp only [aw.cells,List.all_cons,List.all_nil,h,Bool.and_true]; rfl
theorem aw.clean {y:aw} (h:cP y.parts=true):y.cells.all cP=true:=by simp only [aw.cells,List.all_cons,List.all_nil,h,Bool.and_true]; rfl
structure wq (x:am) (b:Nat) (l:List aw) (f:aR) (s:PS):Prop where
 p:f 1=.ptr b 0 9
 h:s.h b=⟨x.cells,0,69⟩
 n:b + 1≤s.n
 w:b≤s.w
 acc:gL 97 2 aw.cells (b + 1) l (f 3) s
def eC (la:List ax) (lw:List aw) (lr:List aA) (li:List aF) (pt:aF→Option (List aw)):List aw:=la.map ax.val ++ lw ++ lr.map aA.tgt ++ li.flatMap fun it=>(pt it).getD []
theorem Gy (x:am) (la:Option (List ax)) (lw:Option (List aw)) (lr:Option (List aA)) (li:Option (List aF)) (pt:aF→Option (List aw)) (ha:x.assigns=aK 99 ax.cells la) (hw:x.words=aK 97 aw.cells lw) (hr:x.redirs=aK 124 aA.cells lr) (hit:x.items=aK 129 aF.cells li)
  (hpt:∀it∈li.getD [],it.pats=aK 97 aw.cells (pt it)) (hbig:(la.getD []).length + (lw.getD []).length + (lr.getD []).length + ((li.getD []).flatMap fun it=>(pt it).getD []).length≤16777216) (hlen:(li.getD []).length≤16777216)
  (ho:∀y∈eC (la.getD []) (lw.getD []) (lr.getD []) (li.getD []) pt,cL y.parts=true∧cP y.parts=true) (s:PS) :
  aD Tryz.prog Γ ext 64 [.agg x.cells] s=some (aK 97 aw.cells (dx (eC (la.getD []) (lw.getD []) (lr.getD []) (li.getD []) pt)),s):=by
 have LA:=bE (e:=99) (c:=ax.cells) la;have LR:=bE (e:=124) (c:=aA.cells) lr;have LI:=bE (e:=129) (c:=aF.cells) li;have o1:∀y∈la.getD [],cL y.parts=true:=fun y hy=>(ho y.val (by simp only [eC,List.mem_append,List.mem_map]; exact .inl (.inl (.inl ⟨y,hy,rfl⟩)))).1;have o2:∀y∈lw.getD [],cL y.parts=true:=fun y hy=>(ho y (by simp only [eC,List.mem_append]; exact .inl (.inl (.inr hy)))).1;have o3:∀y∈lr.getD [],cL y.parts=true:=fun y hy=>(ho y.tgt (by simp only [eC,List.mem_append,List.mem_map]; exact .inl (.inr ⟨y,hy,rfl⟩))).1;have o4:∀it∈li.getD [],∀y∈(pt it).getD [],cL y.parts=true:=fun it hi y hy=>(ho y (by simp only [eC,List.mem_append,List.mem_flatMap]; exact .inr ⟨it,hi,hy⟩)).1;suffices h:∃q,aD Tryz.prog Γ ext 64 [.agg x.cells] s=some q∧q=(aK 97 aw.cells (dx (eC (la.getD []) (lw.getD []) (lr.getD []) (li.getD []) pt)),s) by
  obtain⟨q,e,rfl⟩:=h;exact e
 refine yE (fn:=Tb) (by rfl) (by simp [Tb]) ?_;generalize hQ:G6 Tb s _=Q;unfold Tb;refine fB (fun f s'=>f 1=.ptr s.n 0 9∧s'.h s.n=⟨x.cells,0,69⟩∧s'.n=s.n + 1∧s'.w=s.n) ?_ ?_
 ·simp -implicitDefEqProofs only [ZS,seval,ZX,br,az];exact⟨_,_,rfl,rfl,by simp -implicitDefEqProofs only [↓reduceIte,dG],rfl,rfl⟩
 rintro f s1 ⟨p1,p2,p3,p4⟩;refine fB (wq x s.n []) ?_ ?_
 ·simp -implicitDefEqProofs only [de,bO,bj,aY,bM,bT,bY];exact⟨_,_,rfl,p1,p2,by omega,by omega,.nil _ _ _ _ _⟩
 rintro f s1 hI;refine kO ?_;refine fB (fun f s1=>wq x s.n ([] ++ ((la.getD []).take 0).map ax.val) f s1∧f 4=.sc (.int .i64 ((0:Nat):Int))) ?_ ?_
 ·obtain⟨p1,p2,p3,p4,p5⟩:=hI;simp -implicitDefEqProofs only [de,bO,bj,aY,bM,bT,bY,List.take_zero,List.map_nil,List.append_nil];exact⟨_,_,rfl,⟨p1,p2,p3,p4,by first | exact p5 | (rw [List.append_nil]; exact p5)⟩,rfl⟩
 rintro f s1 hI;refine ow (la.getD []).length (fun i f s1=>wq x s.n ([] ++ ((la.getD []).take i).map ax.val) f s1∧f 4=.sc (.int .i64 (i:Int))) (fun f s1=>wq x s.n ([] ++ (la.getD []).map ax.val) f s1) hI ?_ ?_
 ·rintro i f s1 hi ⟨⟨p1,p2,p3,p4,p5⟩,h4⟩;by_cases hlt:i < (la.getD []).length
  ·have h5:(decide ((i:Int) < ((la.getD []).length:Int)))=true:=by simp; exact hlt
   have hx:(la.getD [])[i]?=some ((la.getD [])[i]):=List.getElem?_eq_getElem hlt;generalize (la.getD [])[i]=y at hx;have hmem:=List.mem_of_getElem? hx;have hfl:=Ac (g:=ax.val) hx;obtain⟨v',s',a1,a2,a3,a4,a5⟩:=(p5.new ⟨y.val.cells,0,97⟩).app (bytes:=32) aw.len [y.val] (by omega) (by simp only [List.length_append,List.length_map,List.length_take,List.length_cons,List.length_nil]; omega) (by simp only [List.length_append,List.length_map,List.length_take,List.length_cons,List.length_nil]; omega) (fun z hz=>by rw [List.mem_singleton] at hz; subst hz; exact aw.one (o1 y hmem)) (by rw [cD]; omega);have h6:s'.h s.n=⟨x.cells,0,69⟩:=by rw [a3 _ (by omega),dG,if_neg (by omega)]; exact p2
   have h8:s.n≤s'.w:=a5 _ (by omega) (by rw [ip]; exact p4);rw [cD] at a4;obtain⟨m,rfl⟩ : ∃k,la=some k:=by cases la with | none=>simp at hx | some k=>exact⟨k,rfl⟩
   simp only [aK,Option.getD_some] at ha hx hlt LA h5 hbig hfl;have h1:=aB ax.len m;obtain⟨r1,h3⟩:=bU ax.len hx;have h7:=fD (i:=i) (by omega);simp only [am.cells,ha] at p2;simp only [List.flatMap_cons,List.flatMap_nil,List.append_nil,aw.cells,ax.val,List.length_cons,List.length_nil,Nat.zero_add] at a1;simp -implicitDefEqProofs only [ZS,seval,ZX,az,List.map_cons,List.map_nil,List.append_nil,p1,p2,h4,LA,h5,h7,hlt,h1,h3,au,ax.cells,a1];refine⟨hlt,p1,h6,by omega,h8,?_⟩;show gL 97 2 aw.cells (s.n + 1) ([] ++ (m.take (i + 1)).map ax.val) v' s';rw [hfl,← List.append_assoc];exact a2
  ·obtain rfl:i=(la.getD []).length:=by omega
   have h5:(decide (((la.getD []).length:Int) < ((la.getD []).length:Int)))=false:=by simp
   have p2':=p2;simp only [am.cells,ha] at p2';simp -implicitDefEqProofs only [ZS,seval,ZX,p1,p2',h4,LA,h5];refine⟨p1,p2,p3,p4,?_⟩;rw [List.take_length] at p5;exact p5
 rintro f s1 ⟨p1,p2,p3,p4,p5⟩;refine fB (wq x s.n ([] ++ (la.getD []).map ax.val ++ lw.getD [])) ?_ ?_
 ·obtain⟨v',s',a1,a2,a3,a4,a5⟩:=p5.app (bytes:=32) aw.len (lw.getD []) (by omega) (by simp only [List.length_append,List.length_map,List.length_nil]; omega) (by simp only [List.length_append,List.length_map,List.length_nil]; omega) (fun y hy=>aw.one (o2 y hy)) p3;have he:=rH (e:=97) aw.len lw s1;have h6:s'.h s.n=⟨x.cells,0,69⟩:=by rw [a3 _ (by omega)]; exact p2
  simp only [am.cells] at p2;simp -implicitDefEqProofs only [ZS,seval,ZX,p1,p2,hw,he,a1];refine⟨_,_,rfl,p1,h6,by omega,a5 _ (by omega) p4,?_⟩;rw [List.nil_append] at a2;exact a2
 rintro f s1 hI;refine kO ?_;refine fB (fun f s1=>wq x s.n (([] ++ (la.getD []).map ax.val ++ lw.getD []) ++ ((lr.getD []).take 0).map aA.tgt) f s1∧f 5=.sc (.int .i64 ((0:Nat):Int))) ?_ ?_
 ·obtain⟨p1,p2,p3,p4,p5⟩:=hI;simp -implicitDefEqProofs only [de,bO,bj,aY,bM,bT,bY,List.take_zero,List.map_nil,List.nil_append,List.append_nil];exact⟨_,_,rfl,⟨p1,p2,p3,p4,by first | exact p5 | (rw [List.append_nil]; exact p5)⟩,rfl⟩
 rintro f s1 hI;refine ow (lr.getD []).length (fun i f s1=>wq x s.n (([] ++ (la.getD []).map ax.val ++ lw.getD []) ++ ((lr.getD []).take i).map aA.tgt) f s1∧f 5=.sc (.int .i64 (i:Int))) (fun f s1=>wq x s.n (([] ++ (la.getD []).map ax.val ++ lw.getD []) ++ (lr.getD []).map aA.tgt) f s1) hI ?_ ?_
 ·rintro i f s1 hi ⟨⟨p1,p2,p3,p4,p5⟩,h4⟩;by_cases hlt:i < (lr.getD []).length
  ·have h5:(decide ((i:Int) < ((lr.getD []).length:Int)))=true:=by simp; exact hlt
   have hx:(lr.getD [])[i]?=some ((lr.getD [])[i]):=List.getElem?_eq_getElem hlt;generalize (lr.getD [])[i]=y at hx;have hmem:=List.mem_of_getElem? hx;have hfl:=Ac (g:=aA.tgt) hx;obtain⟨v',s',a1,a2,a3,a4,a5⟩:=(p5.new ⟨y.tgt.cells,0,97⟩).app (bytes:=32) aw.len [y.tgt] (by omega) (by simp only [List.length_append,List.length_map,List.length_take,List.length_cons,List.length_nil]; omega) (by simp only [List.length_append,List.length_map,List.length_take,List.length_cons,List.length_nil]; omega) (fun z hz=>by rw [List.mem_singleton] at hz; subst hz; exact aw.one (o3 y hmem)) (by rw [cD]; omega);have h6:s'.h s.n=⟨x.cells,0,69⟩:=by rw [a3 _ (by omega),dG,if_neg (by omega)]; exact p2
   have h8:s.n≤s'.w:=a5 _ (by omega) (by rw [ip]; exact p4);rw [cD] at a4;obtain⟨m,rfl⟩ : ∃k,lr=some k:=by cases lr with | none=>simp at hx | some k=>exact⟨k,rfl⟩
   simp only [aK,Option.getD_some] at hr hx hlt LR h5 hbig hfl;have h1:=aB aA.len m;obtain⟨r1,h3⟩:=bU aA.len hx;have h7:=fD (i:=i) (by omega);simp only [am.cells,hr] at p2;simp only [List.flatMap_cons,List.flatMap_nil,List.append_nil,aw.cells,aA.tgt,List.length_cons,List.length_nil,Nat.zero_add] at a1;simp -implicitDefEqProofs only [ZS,seval,ZX,az,List.map_cons,List.map_nil,List.append_nil,p1,p2,h4,LR,h5,h7,hlt,h1,h3,au,aA.cells,a1];refine⟨hlt,p1,h6,by omega,h8,?_⟩;show gL 97 2 aw.cells (s.n + 1) (([] ++ (la.getD []).map ax.val ++ lw.getD []) ++ (m.take (i + 1)).map aA.tgt) v' s';rw [hfl,← List.append_assoc];exact a2
  ·obtain rfl:i=(lr.getD []).length:=by omega
   have h5:(decide (((lr.getD []).length:Int) < ((lr.getD []).length:Int)))=false:=by simp
   have p2':=p2;simp only [am.cells,hr] at p2';simp -implicitDefEqProofs only [ZS,seval,ZX,p1,p2',h4,LR,h5];refine⟨p1,p2,p3,p4,?_⟩;rw [List.take_length] at p5;exact p5
 rintro f s1 hI;refine kO ?_;refine fB (fun f s1=>wq x s.n ((([] ++ (la.getD []).map ax.val ++ lw.getD []) ++ (lr.getD []).map aA.tgt) ++ ((li.getD []).take 0).flatMap fun it=>(pt it).getD []) f s1∧f 6=.sc (.int .i64 ((0:Nat):Int))) ?_ ?_
 ·obtain⟨p1,p2,p3,p4,p5⟩:=hI;simp -implicitDefEqProofs only [de,bO,bj,aY,bM,bT,bY,List.take_zero,List.nil_append];exact⟨_,_,rfl,⟨p1,p2,p3,p4,by rw [List.flatMap_nil,List.append_nil]; exact p5⟩,rfl⟩
 rintro f s1 hI;refine ow (li.getD []).length (fun i f s1=>wq x s.n ((([] ++ (la.getD []).map ax.val ++ lw.getD []) ++ (lr.getD []).map aA.tgt) ++ ((li.getD []).take i).flatMap fun it=>(pt it).getD []) f s1∧f 6=.sc (.int .i64 (i:Int))) (fun f s1=>wq x s.n (eC (la.getD []) (lw.getD []) (lr.getD []) (li.getD []) pt) f s1) hI ?_ ?_
 ·rintro i f s1 hi ⟨⟨p1,p2,p3,p4,p5⟩,h4⟩;by_cases hlt:i < (li.getD []).length
  ·have h5:(decide ((i:Int) < ((li.getD []).length:Int)))=true:=by simp; exact hlt
   have hx:(li.getD [])[i]?=some ((li.getD [])[i]):=List.getElem?_eq_getElem hlt;generalize (li.getD [])[i]=it at hx;have hmem:=List.mem_of_getElem? hx;have hb:=hpt it hmem;have hfl:=xY (g:=fun it=>(pt it).getD []) hx;have hle:=qV (g:=fun it=>(pt it).getD []) (li.getD []) (i + 1);rw [hfl,List.length_append] at hle;obtain⟨v',s',a1,a2,a3,a4,a5⟩:=p5.app (bytes:=32) aw.len ((pt it).getD []) (by omega) (by simp only [List.length_append,List.length_map,List.length_nil]; omega) (by simp only [List.length_append,List.length_map,List.length_nil]; omega) (fun y hy=>aw.one (o4 it hmem y hy)) p3;have he:=rH (e:=97) aw.len (pt it) s1;have h6:s'.h s.n=⟨x.cells,0,69⟩:=by rw [a3 _ (by omega)]; exact p2
   obtain⟨m,rfl⟩ : ∃k,li=some k:=by cases li with | none=>simp at hx | some k=>exact⟨k,rfl⟩
   simp only [aK,Option.getD_some] at hit hx hlt LI h5 hlen hfl;have h1:=aB aF.len m;obtain⟨r1,h3⟩:=bU aF.len hx;have h7:=fD (i:=i) (by omega);simp only [am.cells,hit] at p2;simp -implicitDefEqProofs only [ZS,seval,ZX,p1,p2,h4,LI,h5,h7,hlt,h1,h3,au,aF.cells,hb,he,a1];refine⟨hlt,p1,h6,by omega,a5 _ (by omega) p4,?_⟩;show gL 97 2 aw.cells (s.n + 1) ((([] ++ (la.getD []).map ax.val ++ lw.getD []) ++ (lr.getD []).map aA.tgt) ++ (m.take (i + 1)).flatMap fun it=>(pt it).getD []) v' s';rw [hfl,← List.append_assoc];exact a2
  ·obtain rfl:i=(li.getD []).length:=by omega
   have h5:(decide (((li.getD []).length:Int) < ((li.getD []).length:Int)))=false:=by simp
   have p2':=p2;simp only [am.cells,hit] at p2';simp -implicitDefEqProofs only [ZS,seval,ZX,p1,p2',h4,LI,h5];refine⟨p1,p2,p3,p4,?_⟩;rw [List.take_length] at p5;exact p5
 ·rintro f s1 ⟨p1,p2,p3,p4,p5⟩;refine zk ?_;simp -implicitDefEqProofs only [de,bO,bj,aY,bM,cZ,aU,↓reduceIte];refine⟨_,_,rfl,?_⟩;subst hQ;refine yS ?_ rfl;refine fM (vs:=[f 3]) rfl rfl p4 ?_;exact zl (p5.frz aw.len (by omega) fun y hy=>aw.clean (ho y hy).2)
def iM (lk:List am) (li:List aF) (bd:aF→Option (List am)):List am:=lk ++ li.flatMap fun it=>(bd it).getD []
structure Hr (D d:Nat) (x:am) (la:Option (List ax)) (lw:Option (List aw)) (lr:Option (List aA)) (lk:Option (List am)) (li:Option (List aF)) (pt:aF→Option (List aw)) (bd:aF→Option (List am)):Prop where
 a:x.assigns=aK 99 ax.cells la
 w:x.words=aK 97 aw.cells lw
 r:x.redirs=aK 124 aA.cells lr
 k:x.kids=aK 69 am.cells lk
 i:x.items=aK 129 aF.cells li
 hpt:∀it∈li.getD [],it.pats=aK 97 aw.cells (pt it)
 hbd:∀it∈li.getD [],it.body=aK 69 am.cells (bd it)
 words:∀y∈eC (la.getD []) (lw.getD []) (lr.getD []) (li.getD []) pt,aL D y.parts
 kids:∀y∈iM (lk.getD []) (li.getD []) bd,bC D d y
theorem bC.dec {D d:Nat}{x:am} (h:bC D (d + 1) x):∃la lw lr lk li pt bd,Hr D d x la lw lr lk li pt bd:=by
 obtain⟨⟨la,a1,_,a2⟩,⟨lw,w1,_,w2⟩,⟨lr,r1,_,r2⟩,⟨lk,k1,_,k2⟩,⟨li,i1,_,i2⟩⟩:=h;have hp:∀it:aF,∃l:Option (List aw),it∈li.getD []→it.pats=aK 97 aw.cells l∧∀y∈l.getD [],aL D y.parts:=fun it=>by
  by_cases hi:it∈li.getD []
  ·obtain⟨l,e1,_,e2⟩:=(i2 it hi).1;exact⟨l,fun _=>⟨e1,e2⟩⟩
  ·exact⟨none,fun hh=>absurd hh hi⟩
 have hb:∀it:aF,∃l:Option (List am),it∈li.getD []→it.body=aK 69 am.cells l∧∀y∈l.getD [],bC D d y:=fun it=>by
  by_cases hi:it∈li.getD []
  ·obtain⟨l,e1,_,e2⟩:=(i2 it hi).2;exact⟨l,fun _=>⟨e1,e2⟩⟩
  ·exact⟨none,fun hh=>absurd hh hi⟩
 obtain⟨pt,hpt⟩:=Classical.axiomOfChoice hp;obtain⟨bd,hbd⟩:=Classical.axiomOfChoice hb;refine⟨la,lw,lr,lk,li,pt,bd,a1,w1,r1,k1,i1,fun it hi=>(hpt it hi).1,fun it hi=>(hbd it hi).1,fun y hy=>?_,fun y hy=>?_⟩
 ·simp only [eC,List.mem_append,List.mem_map,List.mem_flatMap] at hy;rcases hy with ((⟨z,hz,rfl⟩ | hy) | ⟨z,hz,rfl⟩) | ⟨it,hi,hy⟩
  ·exact a2 z hz
  ·exact w2 y hy
  ·exact r2 z hz
  ·exact (hpt it hi).2 y hy
 ·simp only [iM,List.mem_append,List.mem_flatMap] at hy;rcases hy with hy | ⟨it,hi,hy⟩
  ·exact k2 y hy
  ·exact (hbd it hi).2 y hy
theorem aL.clean {d:Nat}{p:PV} (h:aL d p):cP p=true:=by
 cases d with
 | zero=>cases h
 | succ d=>obtain⟨l,rfl,_⟩:=h; exact vD _ _ _
section
variable {D d:Nat}{x:am}{la:Option (List ax)}{lw:Option (List aw)}{lr:Option (List aA)}{lk:Option (List am)}{li:Option (List aF)}{pt:aF→Option (List aw)}{bd:aF→Option (List am)}
theorem Hr.sizes (h:Hr D d x la lw lr lk li pt bd) {N:Nat} (hN:aM x.cells≤N):(la.getD []).length + (lw.getD []).length + (lr.getD []).length + ((li.getD []).flatMap fun it=>(pt it).getD []).length≤N∧(lk.getD []).length + ((li.getD []).flatMap fun it=>(bd it).getD []).length≤N∧(li.getD []).length≤N∧∀y∈iM (lk.getD []) (li.getD []) bd,aM y.cells≤N:=by
 simp only [am.cells,ch,ck,h.a,h.w,h.r,h.k,h.i] at hN;have hA:=gY (e:=99) (c:=ax.cells) (fun y=>by rw [ax.len]; omega) la;have hW:=gY (e:=97) (c:=aw.cells) (fun y=>by rw [aw.len]; omega) lw;have hR:=gY (e:=124) (c:=aA.cells) (fun y=>by rw [aA.len]; omega) lr;have hK:=gY (e:=69) (c:=am.cells) (fun y=>by rw [am.len]; omega) lk;have hI:=gY (e:=129) (c:=aF.cells) (fun y=>by rw [aF.len]; omega) li;have hK2:=dB 69 am.cells lk;have hI2:=dB 129 aF.cells li;have hic:∀it∈li.getD [],aM it.cells=(aK 97 aw.cells (pt it)).bulk + (aK 69 am.cells (bd it)).bulk:=fun it hi=>by
  simp only [aF.cells,ch,ck,h.hpt it hi,h.hbd it hi,Nat.add_zero]
 have hP:=Aw (c:=aF.cells) (g:=fun it=>(pt it).getD []) (li.getD []) fun it hi=>by
  have:=gY (e:=97) (c:=aw.cells) (fun y=>by rw [aw.len]; omega) (pt it);rw [hic it hi]; omega
 have hB:=Aw (c:=aF.cells) (g:=fun it=>(bd it).getD []) (li.getD []) fun it hi=>by
  have:=gY (e:=69) (c:=am.cells) (fun y=>by rw [am.len]; omega) (bd it);rw [hic it hi]; omega
 refine⟨by omega,by omega,by omega,fun y hy=>?_⟩;simp only [iM,List.mem_append,List.mem_flatMap] at hy;rcases hy with hy | ⟨it,hi,hy⟩
 ·have:=gw (c:=am.cells) hy; omega
 ·have h1:=gw (c:=am.cells) hy;have h2:=dB 69 am.cells (bd it);have h3:=gw (c:=aF.cells) hi;rw [hic it hi] at h3;omega
theorem Hr.words_ok (h:Hr D d x la lw lr lk li pt bd) (hN:aM x.cells≤16777216) (s:PS):aD Tryz.prog Γ ext 64 [.agg x.cells] s=some (aK 97 aw.cells (dx (eC (la.getD []) (lw.getD []) (lr.getD []) (li.getD []) pt)),s):=by
 obtain⟨n1,n2,n3,_⟩:=h.sizes hN;exact Gy x la lw lr li pt h.a h.w h.r h.i h.hpt n1 n3 (fun y hy=>⟨(h.words y hy).one,(h.words y hy).clean⟩) s
theorem Hr.kids_ok (h:Hr D d x la lw lr lk li pt bd) (hN:aM x.cells≤16777216) (s:PS):aD Tryz.prog Γ ext 66 [.agg x.cells] s=some (aK 69 am.cells (dx (iM (lk.getD []) (li.getD []) bd)),s):=by
 obtain⟨n1,n2,n3,_⟩:=h.sizes hN;refine Go.Proofs.YtgkggocjoolciaaGreatDoor.kids_ok x lk li bd h.k h.i h.hbd n2 n3 (fun y hy=>?_) s;have hy':y∈iM (lk.getD []) (li.getD []) bd:=by
  simp only [iM,List.mem_append,List.mem_flatMap];exact hy
 exact⟨(h.kids y hy').ones,(h.kids y hy').cleans⟩
end
structure zH (x:am) (b:Nat) (s0:PS) (slot:Nat) (i:Nat) (f:aR) (s:PS):Prop where
 s:s0=s
 p:f 1=.ptr b 0 9
 z:∃z:Int,f 3=.sc (.int .i64 z)
 i:f slot=.sc (.int .i64 (i:Int))
theorem Gh {D:Nat} : ∀(d:Nat) (x:am),bC D d x→aM x.cells≤16777216→∀s,∃z:Int,aD Tryz.prog Γ ext 32 [.agg x.cells] s=some (.sc (.int .i64 z),s):=by
 intro d
 induction d with
 | zero=>intro x h; cases h
 | succ d ih=>
  intro x hx hN s;obtain⟨la,lw,lr,lk,li,pt,bd,hd⟩:=hx.dec;obtain⟨n1,n2,n3,n4⟩:=hd.sizes hN;have LA:=bE (e:=99) (c:=ax.cells) la;have LR:=bE (e:=124) (c:=aA.cells) lr;have LI:=bE (e:=129) (c:=aF.cells) li;suffices h:∃q,aD Tryz.prog Γ ext 32 [.agg x.cells] s=some q∧∃z:Int,q=(.sc (.int .i64 z),s) by
   obtain⟨q,e,z,rfl⟩:=h;exact⟨z,e⟩
  refine yE (fn:=OQ) (by rfl) (by simp [OQ]) ?_;generalize hQ:G6 OQ s _=Q;unfold OQ;refine fB (fun f s'=>f 1=.ptr s.n 0 9∧s'.h s.n=⟨x.cells,0,69⟩∧s'.n=s.n + 1∧s'.w=s.n) ?_ ?_
  ·simp -implicitDefEqProofs only [ZS,seval,ZX,br,az];exact⟨_,_,rfl,rfl,by simp -implicitDefEqProofs only [↓reduceIte,dG],rfl,rfl⟩
  rintro f s1 ⟨p1,p2,p3,p4⟩;have q2:=p2;simp only [am.cells,hd.a,hd.r,hd.i] at q2;refine fB (fun f s'=>s1=s'∧f 1=.ptr s.n 0 9∧∃z:Int,f 3=.sc (.int .i64 z)) ?_ ?_
  ·simp -implicitDefEqProofs only [ZS,seval,ZX,p1,q2,LA,LR,LI];exact⟨_,_,rfl,rfl,p1,_,rfl⟩
  rintro f _ ⟨rfl,p1,hz⟩;refine kO ?_;refine fB (zH x s.n s1 4 0) ?_ ?_
  ·simp -implicitDefEqProofs only [de,bO,bj,aY,bM,bT,bY];exact⟨_,_,rfl,rfl,p1,hz,rfl⟩
  intro f s' hI;refine ow (la.getD []).length (zH x s.n s1 4) (zH x s.n s1 4 (la.getD []).length) hI ?_ ?_
  ·rintro i f _ hi ⟨rfl,p1,⟨z,hz⟩,h4⟩;by_cases hlt:i < (la.getD []).length
   ·have h5:(decide ((i:Int) < ((la.getD []).length:Int)))=true:=by simp; exact hlt
    have hx:(la.getD [])[i]?=some ((la.getD [])[i]):=List.getElem?_eq_getElem hlt;generalize (la.getD [])[i]=y at hx;obtain⟨m,rfl⟩ : ∃k,la=some k:=by cases la with | none=>simp at hx | some k=>exact⟨k,rfl⟩
    simp only [aK,Option.getD_some] at q2 hx hlt LA h5 n1;have h1:=aB ax.len m;obtain⟨r1,h3⟩:=bU ax.len hx;have h7:=fD (i:=i) (by omega);simp -implicitDefEqProofs only [ZS,seval,ZX,p1,q2,h4,hz,LA,h5,h7,hlt,h1,h3,au,ax.cells];exact⟨hlt,rfl,p1,⟨_,rfl⟩,rfl⟩
   ·obtain rfl:i=(la.getD []).length:=by omega
    have h5:(decide (((la.getD []).length:Int) < ((la.getD []).length:Int)))=false:=by simp
    simp -implicitDefEqProofs only [ZS,seval,ZX,p1,q2,h4,LA,h5];exact⟨rfl,p1,⟨z,hz⟩,h4⟩
  rintro f _ ⟨rfl,p1,hz,_⟩;have h38:=hd.words_ok (ext:=ext) hN s1;have hwds:=hd.words;have hwn:(eC (la.getD []) (lw.getD []) (lr.getD []) (li.getD []) pt).length≤16777216:=by simp only [eC,List.length_append,List.length_map]; omega
  generalize eC (la.getD []) (lw.getD []) (lr.getD []) (li.getD []) pt=wl at h38 hwds hwn;have hwl:(dx wl).getD []=wl:=bV wl;have LW:=bE (e:=97) (c:=aw.cells) (dx wl);rw [hwl] at LW;simp only [am.cells] at h38;have q3:=p2;simp only [am.cells] at q3;refine fB (fun f s'=>s1=s'∧f 1=.ptr s.n 0 9∧(∃z:Int,f 3=.sc (.int .i64 z))∧f 5=aK 97 aw.cells (dx wl)) ?_ ?_
  ·simp -implicitDefEqProofs only [ZS,seval,ZX,List.map_cons,List.map_nil,List.append_nil,p1,q3,h38];exact⟨_,_,rfl,rfl,p1,hz,rfl⟩
  rintro f _ ⟨rfl,p1,hz,hw⟩;refine kO ?_;refine fB (fun f s'=>zH x s.n s1 6 0 f s'∧f 5=aK 97 aw.cells (dx wl)) ?_ ?_
  ·simp -implicitDefEqProofs only [de,bO,bj,aY,bM,bT,bY];exact⟨_,_,rfl,⟨rfl,p1,hz,rfl⟩,hw⟩
  intro f s' hI;refine ow wl.length (fun i f s'=>zH x s.n s1 6 i f s'∧f 5=aK 97 aw.cells (dx wl)) (zH x s.n s1 6 wl.length) hI ?_ ?_
  ·rintro i f _ hi ⟨⟨rfl,p1,⟨z,hz⟩,h4⟩,hw⟩;by_cases hlt:i < wl.length
   ·have h5:(decide ((i:Int) < (wl.length:Int)))=true:=by simp; exact hlt
    have hx:wl[i]?=some (wl[i]):=List.getElem?_eq_getElem hlt;generalize wl[i]=y at hx;obtain⟨cz,cy,hc⟩:=It (ext:=ext) D y.parts (hwds y (List.mem_of_getElem? hx)) s1;have hw':=hw;obtain hop:dx wl=some wl:=by cases wl with | nil=>simp at hx | cons a l=>rfl
    rw [hop] at hw' LW;simp only [aK] at hw' LW;have h1:=aB aw.len wl;obtain⟨r1,h3⟩:=bU aw.len hx;have h7:=fD (i:=i) (by omega);simp -implicitDefEqProofs only [ZS,seval,ZX,List.map_cons,List.map_nil,List.append_nil,List.getElem?_cons_zero,List.getElem?_cons_succ,hw',h4,hz,LW,h5,h7,hlt,h1,h3,au,aw.cells,hc];exact⟨⟨rfl,p1,⟨_,rfl⟩,rfl⟩,hw'.symm.trans hw⟩
   ·obtain rfl:i=wl.length:=by omega
    have h5:(decide ((wl.length:Int) < (wl.length:Int)))=false:=by simp
    simp -implicitDefEqProofs only [ZS,seval,ZX,hw,h4,LW,h5];exact⟨rfl,p1,⟨z,hz⟩,h4⟩
  rintro f _ ⟨rfl,p1,hz,_⟩;have h40:=hd.kids_ok (ext:=ext) hN s1;have hks:=hd.kids;have hkn:(iM (lk.getD []) (li.getD []) bd).length≤16777216:=by simp only [iM,List.length_append]; omega
  generalize iM (lk.getD []) (li.getD []) bd=kl at h40 hks n4 hkn;have LK:=bE (e:=69) (c:=am.cells) (dx kl);rw [bV] at LK;simp only [am.cells] at h40;refine fB (fun f s'=>s1=s'∧f 1=.ptr s.n 0 9∧(∃z:Int,f 3=.sc (.int .i64 z))∧f 9=aK 69 am.cells (dx kl)) ?_ ?_
  ·simp -implicitDefEqProofs only [ZS,seval,ZX,List.map_cons,List.map_nil,List.append_nil,p1,q3,h40];exact⟨_,_,rfl,rfl,p1,hz,rfl⟩
  rintro f _ ⟨rfl,p1,hz,hw⟩;refine kO ?_;refine fB (fun f s'=>zH x s.n s1 10 0 f s'∧f 9=aK 69 am.cells (dx kl)) ?_ ?_
  ·simp -implicitDefEqProofs only [de,bO,bj,aY,bM,bT,bY];exact⟨_,_,rfl,⟨rfl,p1,hz,rfl⟩,hw⟩
  intro f s' hI;refine ow kl.length (fun i f s'=>zH x s.n s1 10 i f s'∧f 9=aK 69 am.cells (dx kl)) (zH x s.n s1 10 kl.length) hI ?_ ?_
  ·rintro i f _ hi ⟨⟨rfl,p1,⟨z,hz⟩,h4⟩,hw⟩;by_cases hlt:i < kl.length
   ·have h5:(decide ((i:Int) < (kl.length:Int)))=true:=by simp; exact hlt
    have hx:kl[i]?=some (kl[i]):=List.getElem?_eq_getElem hlt;generalize kl[i]=y at hx;obtain⟨cz,hc⟩:=ih y (hks y (List.mem_of_getElem? hx)) (n4 y (List.mem_of_getElem? hx)) s1;have hw':=hw;obtain hop:dx kl=some kl:=by cases kl with | nil=>simp at hx | cons a l=>rfl
    rw [hop] at hw' LK;simp only [aK] at hw' LK;have h1:=aB am.len kl;have h3:=kB am.len hx;have h7:=fD (i:=i) (by omega);simp -implicitDefEqProofs only [ZS,seval,ZX,List.map_cons,List.map_nil,List.append_nil,hw',h4,hz,LK,h5,h7,hlt,h1,h3,hc];exact⟨⟨rfl,p1,⟨_,rfl⟩,rfl⟩,hw'.symm.trans hw⟩
   ·obtain rfl:i=kl.length:=by omega
    have h5:(decide ((kl.length:Int) < (kl.length:Int)))=false:=by simp
    simp -implicitDefEqProofs only [ZS,seval,ZX,hw,h4,LK,h5];exact⟨rfl,p1,⟨z,hz⟩,h4⟩
  ·rintro f _ ⟨rfl,p1,⟨z,hz⟩,_⟩;refine zk ?_;simp -implicitDefEqProofs only [de,bO,bj,aY,bM,cZ,aU,↓reduceIte,hz];refine⟨_,_,rfl,?_⟩;subst hQ;refine yS ?_ ⟨z,rfl⟩;exact fM (vs:=[.sc (.int .i64 z)]) rfl rfl (by omega) rfl
end Go.Proofs.YtgkggocjoolciaaGreatDoor
namespace Go.PE
open Go Go.EvL
noncomputable def nz {α:Type} (f:Nat→Option α):Nat→Tr α
 | 0=>.nil
 | n + 1=>match f n with
  | some a=>Tr.set a 40 (nz f n) n
  | none=>nz f n
theorem iV {α:Type} (f:Nat→Option α) (n b:Nat):(nz f n).get b=if b < n then f b else none:=by
 induction n with
 | zero=>simp [nz,Tr.get_nil]
 | succ n ih=>
  unfold nz;cases h:f n with
  | none=>
   simp only;rw [ih];by_cases hb:b=n
   ·subst hb; simp [h]
   ·by_cases hlt:b < n
    ·rw [if_pos hlt,if_pos (by omega)]
    ·rw [if_neg hlt,if_neg (by omega)]
  | some a=>
   simp only;rw [Tr.get_set _ _ _ _ trivial,ih];by_cases hb:b=n
   ·subst hb; rw [if_pos rfl,if_pos (by omega),h]
   ·rw [if_neg hb];by_cases hlt:b < n
    ·rw [if_pos hlt,if_pos (by omega)]
    ·rw [if_neg hlt,if_neg (by omega)]
structure jF where
 cells:List Value
 e:Nat
 blk:Nat
 sh:Nat
section
variable (P:Program) (w:World) (H:Nat)
def mA (b:Nat):Nat:=if b < P.globals.size then b else P.globals.size
theorem pA (b:Nat):mA P b≤P.globals.size:=by unfold mA; split<;>omega
def Eb (V:List jF) (b:Nat):Option fW:=
 if b≤P.globals.size then some (.row [] 0 b 0 false) else (V[b - P.globals.size - 1]?).map fun v=>.row v.cells v.e (mA P v.blk) v.sh true
def JJ (V:List jF) (c j:Nat):Bool:=match V[j]? with
 | some v=>mA P v.blk == c
 | none=>false
def yG (V:List jF) (c:Nat):List Nat:=((List.range V.length).filter (JJ P V c)).map (· + (P.globals.size + 1))
noncomputable def Is (V:List jF):AS:=
 ⟨nz (Eb P V) (P.globals.size + 1 + V.length),P.globals.size + 1 + V.length,nz (fun c=>some (yG P V c)) (P.globals.size + 1),nz (fun _=>some H) (P.globals.size + 1),0,0⟩
def pN (V:List jF):dI:=fun b=>
 if b < P.globals.size then some ⟨b,0,rW w b,G8 P w b,b,0⟩ else if b=P.globals.size then none
 else (V[b - P.globals.size - 1]?).map fun v=>⟨v.blk,v.sh,rW w v.blk - v.sh,P.cellsOf v.e,mA P v.blk,v.sh⟩
structure KG (V:List jF) (v:jF):Prop where
 row:∃C e fz,w.heap[v.blk]?=some (.cells C e fz)∧fz.2≤H∧v.sh + v.cells.length≤C.size∧bu (pN P w V) v.cells ((C.toList.drop v.sh).take v.cells.length)
variable {P w H}
theorem ry {V:List jF}{b:Nat}{o:fW} (h:(Is P H V).heap.get b=some o) :
  (b≤P.globals.size∧o=.row [] 0 b 0 false)∨(P.globals.size < b∧∃v,V[b - P.globals.size - 1]?=some v∧o=.row v.cells v.e (mA P v.blk) v.sh true):=by
 have h':(nz (Eb P V) (P.globals.size + 1 + V.length)).get b=some o:=h;rw [iV] at h';split at h'
 ·unfold Eb at h';split at h'
  ·rename_i hb; injection h' with h'; exact .inl ⟨hb,h'.symm⟩
  ·rename_i hb;rw [Option.map_eq_some_iff] at h';obtain⟨v,h1,h2⟩:=h';exact .inr ⟨by omega,v,h1,h2.symm⟩
 ·cases h'
theorem rt {V:List jF}{j:Nat}{v:jF} (h:V[j]?=some v):(Is P H V).heap.get (P.globals.size + 1 + j)=some (.row v.cells v.e (mA P v.blk) v.sh true):=by
 have hj:=(List.getElem?_eq_some_iff.1 h).1;show (nz (Eb P V) (P.globals.size + 1 + V.length)).get _=_;rw [iV,if_pos (by omega)];unfold Eb;rw [if_neg (by omega),show P.globals.size + 1 + j - P.globals.size - 1=j by omega,h];rfl
theorem oJ {V:List jF}{j:Nat}{v:jF} (h:V[j]?=some v):pN P w V (P.globals.size + 1 + j)=some ⟨v.blk,v.sh,rW w v.blk - v.sh,P.cellsOf v.e,mA P v.blk,v.sh⟩:=by
 unfold pN;rw [if_neg (by omega),if_neg (by omega),show P.globals.size + 1 + j - P.globals.size - 1=j by omega,h];rfl
theorem ol {V:List jF}{b:Nat}{i:ua} (h:pN P w V b=some i) :
  (b < P.globals.size∧i=⟨b,0,rW w b,G8 P w b,b,0⟩)∨(P.globals.size < b∧∃v,V[b - P.globals.size - 1]?=some v∧i=⟨v.blk,v.sh,rW w v.blk - v.sh,P.cellsOf v.e,mA P v.blk,v.sh⟩):=by
 unfold pN at h;split at h
 ·rename_i hb; injection h with h; exact .inl ⟨hb,h.symm⟩
 ·split at h
  ·cases h
  ·rename_i h1 h2;rw [Option.map_eq_some_iff] at h;obtain⟨v,h3,h4⟩:=h;exact .inr ⟨by omega,v,h3,h4.symm⟩
theorem yd (V:List jF):cT (Is P H V):=by
 refine⟨fun b o hb=>?_,fun b cells e c st hb=>?_,fun c l x cells e c' st ok hm hx hg=>?_,fun b cells e c st ok hb=>?_,fun c l x hm hx=>?_,fun c l hm=>?_,fun c k hk=>?_⟩
 ·show b < P.globals.size + 1 + V.length∧dE b o < P.globals.size + 1 + V.length;rcases ry hb with ⟨h1,rfl⟩ | ⟨h1,v,h2,rfl⟩
  ·exact⟨by omega,by show b < _; omega⟩
  ·have:=(List.getElem?_eq_some_iff.1 h2).1;have:=pA P v.blk;exact⟨by omega,by show mA P v.blk < _; omega⟩
 ·rcases ry hb with ⟨_,h2⟩ | ⟨h1,v,h2,h3⟩
  ·cases h2
  ·injection h3 with _ _ h3;subst h3;have hc:=pA P v.blk;have hj:=(List.getElem?_eq_some_iff.1 h2).1;show b∈((nz (fun c=>some (yG P V c)) (P.globals.size + 1)).get (mA P v.blk)).getD [mA P v.blk];rw [iV,if_pos (by omega)];show b∈yG P V (mA P v.blk);unfold yG;rw [List.mem_map];refine⟨b - P.globals.size - 1,List.mem_filter.2 ⟨List.mem_range.2 hj,?_⟩,by omega⟩;unfold JJ;rw [h2];simp
 ·have hm':(nz (fun c=>some (yG P V c)) (P.globals.size + 1)).get c=some l:=hm;rw [iV] at hm';split at hm'
  ·injection hm' with hm';subst hm';unfold yG at hx;rw [List.mem_map] at hx;obtain⟨j,hj,rfl⟩:=hx;have hj2:=(List.mem_filter.1 hj).2;unfold JJ at hj2;split at hj2
   ·rename_i v hv;rw [show j + (P.globals.size + 1)=P.globals.size + 1 + j by omega,rt hv] at hg;injection hg with hg;injection hg with _ _ hg;rw [← hg];simpa using hj2
   ·cases hj2
  ·cases hm'
 ·have hc:c≤P.globals.size:=by
   rcases ry hb with ⟨h1,h2⟩ | ⟨h1,v,h2,h3⟩
   ·injection h2 with _ _ h2; omega
   ·injection h3 with _ _ h3; rw [h3]; exact pA P v.blk
  refine⟨[],0,0,false,?_⟩;show (nz (Eb P V) (P.globals.size + 1 + V.length)).get c=_;rw [iV,if_pos (by omega)];unfold Eb;rw [if_pos hc]
 ·have hm':(nz (fun c=>some (yG P V c)) (P.globals.size + 1)).get c=some l:=hm;rw [iV] at hm';split at hm'
  ·injection hm' with hm';subst hm';unfold yG at hx;rw [List.mem_map] at hx;obtain⟨j,hj,rfl⟩:=hx;have:=List.mem_range.1 (List.mem_filter.1 hj).1;show _ < P.globals.size + 1 + V.length;omega
  ·cases hm'
 ·have hm':(nz (fun c=>some (yG P V c)) (P.globals.size + 1)).get c=some l:=hm;rw [iV] at hm';show c < P.globals.size + 1 + V.length;split at hm'
  ·omega
  ·cases hm'
 ·have hm':(nz (fun _=>some H) (P.globals.size + 1)).get c=some k:=hk;rw [iV] at hm';show c < P.globals.size + 1 + V.length;split at hm'
  ·omega
  ·cases hm'
theorem ES {b:Nat}{C:Array Value}{e:Nat}{fz:Nat × Nat} (h:w.heap[b]?=some (.cells C e fz)):rW w b=C.size:=by unfold rW; rw [h]
theorem vU {b:Nat}{o:Obj} (h:w.heap[b]?=some o):b < w.heap.size:=(Array.getElem?_eq_some_iff.1 h).1
theorem NK {V:List jF} (hG:P.globals.size≤w.heap.size) (hH : 1180591620717411303424≤H) (hV:∀v∈V,KG P w H V v) (T:Nat→Prop):je P (pN P w V) T (Is P H V) w:=by
 have hfz:∀c,c≤P.globals.size→(Is P H V).fz.get c=some H:=fun c hc=>by
  show (nz (fun _=>some H) (P.globals.size + 1)).get c=_;rw [iV,if_pos (by omega)]
 refine⟨fun b i hb=>?_,fun b₁ b₂ i₁ i₂ h₁ h₂ he=>?_,fun b o hb hl hT=>?_,fun _ _ _=>trivial,fun g hg=>?_,fun b i hb hc=>?_⟩
 ·rcases ol hb with ⟨h1,rfl⟩ | ⟨h1,v,h2,rfl⟩
  ·show b < _; omega
  ·obtain⟨C,e,fz,h3,_⟩:=(hV v (List.mem_of_getElem? h2)).row;exact vU h3
 ·have key:∀b i,pN P w V b=some i→i.cls=mA P i.blk∧i.sh=i.st:=fun b i hb=>by
   rcases ol hb with ⟨h1,rfl⟩ | ⟨h1,v,h2,rfl⟩
   ·exact⟨by show b=mA P b; unfold mA; rw [if_pos h1],rfl⟩
   ·exact⟨rfl,rfl⟩
  obtain⟨k1,k2⟩:=key _ _ h₁;obtain⟨k3,k4⟩:=key _ _ h₂;exact⟨by rw [k1,k3,he],by omega⟩
 ·rcases ry hb with ⟨_,rfl⟩ | ⟨h1,v,h2,rfl⟩
  ·cases hl
  ·obtain⟨C,e',fz,h3,h4,h5,h6⟩:=(hV v (List.mem_of_getElem? h2)).row;have hb':b=P.globals.size + 1 + (b - P.globals.size - 1):=by omega
   refine⟨⟨v.blk,v.sh,rW w v.blk - v.sh,P.cellsOf v.e,mA P v.blk,v.sh⟩,_,?_,h3,?_⟩
   ·rw [hb'];exact oJ h2
   ·have hf:=hfz _ (pA P v.blk);refine .row _ _ _ _ _ _ rfl rfl rfl ?_ h5 h6 (.inr ⟨H,hf,by show fz.2 + v.sh≤H + v.sh; omega⟩) e' (.inr ⟨H,hf,hH⟩);show v.sh + (rW w v.blk - v.sh)=C.size;rw [ES h3];omega
 ·exact⟨_,by unfold pN; rw [if_pos hg],rfl,rfl⟩
 ·rcases ol hb with ⟨h1,rfl⟩ | ⟨h1,v,h2,rfl⟩
  ·rfl
  ·have hc':mA P v.blk=b:=hc;have:=pA P v.blk;omega
theorem ve (V M:List jF):BR (pN P w V) (pN P w (V ++ M)):=by
 intro b i hb;rcases ol hb with ⟨h1,rfl⟩ | ⟨h1,v,h2,rfl⟩
 ·unfold pN; rw [if_pos h1]
 ·have hj:=(List.getElem?_eq_some_iff.1 h2).1;have h3:(V ++ M)[b - P.globals.size - 1]?=some v:=by rw [List.getElem?_append_left hj]; exact h2
  have hb':b=P.globals.size + 1 + (b - P.globals.size - 1):=by omega
  rw [hb'];exact oJ h3
theorem Jy (V M:List jF) (β:Nat→Nat):Fw (Is P H V) (Is P H (V ++ M)) β β 0 0 0 where
 le:=Nat.le_refl _
 next:=by show P.globals.size + 1 + V.length≤P.globals.size + 1 + (V ++ M).length; rw [List.length_append]; omega
 eq:=fun k hk=>by omega
 new:=fun k h1 h2=>by omega
 prot:=fun b cells e c st hb _=>by
  rcases ry hb with ⟨_,h2⟩ | ⟨h1,v,h2,h3⟩
  ·cases h2
  ·have hj:=(List.getElem?_eq_some_iff.1 h2).1;have h4:(V ++ M)[b - P.globals.size - 1]?=some v:=by rw [List.getElem?_append_left hj]; exact h2
   have hb':b=P.globals.size + 1 + (b - P.globals.size - 1):=by omega
   rw [hb',rt h4,h3]
 keep:=fun b cells e st ok k hk=>by omega
 w:=fun c hc hw=>by
  have:(0:Nat).testBit c=true:=hw;rw [Nat.zero_testBit] at this;cases this
theorem KG.mono {V:List jF} (M:List jF) {v:jF} (h:KG P w H V v):KG P w H (V ++ M) v:=by
 obtain⟨C,e,fz,h1,h2,h3,h4⟩:=h.row;exact⟨C,e,fz,h1,h2,h3,h4.mono (ve V M)⟩
structure S6 (P:Program) (w:World) (H:Nat) (V:List jF) (vs cs:List Value) (ps:List PV):Prop where
 ok:∀v∈V,KG P w H V v
 vr:bu (pN P w V) vs cs
 rc:Cs (Is P H V) (fun _=>0) 0 vs ps
theorem Cs.append {A:AS}{β:Nat→Nat}{n:Nat} : ∀{l l':List Value}{r r':List PV},Cs A β n l r→Cs A β n l' r'→Cs A β n (l ++ l') (r ++ r'):=by
 intro l
 induction l with
 | nil=>intro l' r r' h h'; cases h; exact h'
 | cons v l ih=>intro l' r r' h h'; cases h with | cons _ p _ r h hs=>exact .cons _ _ _ _ h (ih hs h')
theorem S6.nil {V:List jF} (h:∀v∈V,KG P w H V v):S6 P w H V [] [] []:=⟨h,.nil,.nil⟩
end
def zu (P:Program):List Field→Nat→Nat→Bool
 | [],k,m=>Nat.beq k m
 | f :: l,k,m=>Nat.beq f.offset k && (Nat.ble (k + P.cellsOf f.type) m && zu P l (k + P.cellsOf f.type) m)
def Uv (P:Program) (S:List TypeId) (t:TypeId):Bool:=match P.underlying t with
 | some .bool=>true
 | some (.int _)=>true
 | some .string=>true
 | some (.slice e)=>S.contains e && Nat.ble 1 (P.cellsOf e)
 | some (.struct fs)=>fs.toList.all (fun f=>S.contains f.type) && zu P fs.toList 0 (P.cellsOf t)
 | _=>false
def ik (P:Program):Nat→TypeId→List PV→Prop
 | 0,_,_=>False
 | n + 1,t,ps=>match P.underlying t with
  | some .bool=>∃b,ps=[.sc (.bool b)]
  | some (.int k)=>∃z,ps=[.sc (.int k z)]∧(Lit.int k z).wf=true
  | some .string=>∃s:ByteArray,ps=[.sc (.string s)]∧s.size≤maxLen
  | some (.slice e)=>ps=[.sc (.slice none 0 0)]∨∃ls:List (List PV),ps=[.lit e ls.length ls.flatten]∧ls.length≤maxLen∧∀x∈ls,ik P n e x
  | some (.struct fs)=>∃ls:List (List PV),ps=ls.flatten∧ls.length=fs.toList.length∧∀(j:Nat) f x,fs.toList[j]?=some f→ls[j]?=some x→ik P n f.type x
  | _=>False
structure Dx (H:Type) where
 b:DataW H→Nat
 bs:List (DataW H)→Nat
 nil:bs []=0
 cons:∀d l,bs (d :: l)=b d + bs l
 slice:∀l r,b (.slice l r)=bs l + bs r + 1
 agg:∀l,b (.agg l)=bs l + 1
 pos:∀d,1≤b d
 str:∀l,b (.lit (.string l))=l.length + 1
section
variable {P:Program}{w:World}{H:Nat}{D:Type}{enc:TypeId × Value→D}
theorem oM {α β:Type} (f:α→Option β):∀(l:List α) (r:List β),l.mapM f=some r→r.length=l.length∧∀(j:Nat) (a:α) (b:β),l[j]?=some a→r[j]?=some b→f a=some b:=by
 intro l
 induction l with
 | nil=>intro r h; simp at h; subst h; exact⟨rfl,fun j a b h=>by simp at h⟩
 | cons a l ih=>
  intro r h;rw [List.mapM_cons] at h;cases h1:f a with
  | none=>rw [h1] at h; cases h
  | some b=>
   rw [h1] at h;cases h2:l.mapM f with
   | none=>rw [h2] at h; cases h
   | some r'=>
    rw [h2] at h;have h':some (b :: r')=some r:=h;injection h' with h'; subst h';obtain⟨e1,e2⟩:=ih r' h2;refine⟨by simp [e1],fun j x y hx hy=>?_⟩;cases j with
    | zero=>simp at hx hy; subst hx; subst hy; exact h1
    | succ j=>exact e2 j x y (by simpa using hx) (by simpa using hy)
theorem xm {a:Addr}{n:Nat}{r:List Value} (h:w.cells? 0 a n=some r) (hn : 0 < n) :
  ∃C e fz,a.spot=none∧w.heap[a.block]?=some (.cells C e fz)∧a.off + n≤C.size∧r=(C.toList.drop a.off).take n:=by
 unfold World.cells? at h;rw [if_pos (Nat.zero_le _)] at h;obtain⟨h1,h2⟩:=oM _ _ _ h;rw [List.length_range] at h1;have hc:∀i,i < n→∃v,r[i]?=some v∧w.cell? (a.add i)=some v:=fun i hi=>
  ⟨r[i]'(by omega),List.getElem?_eq_getElem (by omega),h2 i i _ (by simp [hi]) (List.getElem?_eq_getElem (by omega))⟩
 obtain⟨v0,_,hv0⟩:=hc 0 hn;have e0:a.add 0=a:=by simp [Addr.add]
 rw [e0] at hv0;unfold World.cell? at hv0;split at hv0
 ·rename_i C e fz hh;split at hv0
  ·cases hv0
  ·rename_i hs;obtain⟨g,o,sp⟩:=a;have hsp:sp=none:=by simpa using hs
   subst hsp;have hcell:∀i,i < n→r[i]?=C[o + i]?∧o + i < C.size:=fun i hi=>by
    obtain⟨v,k1,k2⟩:=hc i hi;rw [fA] at k2;unfold World.cell? at k2;rw [show w.heap[(⟨g,o + i,none⟩ : Addr).block]?=some (.cells C e fz) from hh] at k2;have k3:C[o + i]?=some v:=k2;exact⟨by rw [k1,k3],(Array.getElem?_eq_some_iff.1 k3).1⟩
   refine⟨C,e,fz,rfl,hh,by have:=(hcell (n - 1) (by omega)).2; show o + n≤_; omega,?_⟩;apply List.ext_getElem?;intro i;rw [List.getElem?_take,List.getElem?_drop];split
   ·rename_i hi;rw [(hcell i hi).1,Array.getElem?_toList]
   ·rw [List.getElem?_eq_none (by omega)]
 ·cases hv0
theorem xP (S:List TypeId) (B:Dx D) (fuel:Nat) (IH:∀t cs d ps,S.contains t=true→DataW.trod enc P w 0 (fun _=>true) true fuel t cs=some (d,ps)→∀V,(∀v∈V,KG P w H V v)→∃M vs pvs,S6 P w H (V ++ M) vs cs pvs∧ik P fuel t pvs∧aM pvs≤B.b d) :
  ∀(L:List (TypeId × List Value × DataW D × List MemPlace)),(∀y∈L,S.contains y.1=true∧DataW.trod enc P w 0 (fun _=>true) true fuel y.1 y.2.1=some y.2.2)→∀V,(∀v∈V,KG P w H V v)→
   ∃(M:List jF) (vs:List Value) (ls:List (List PV)),S6 P w H (V ++ M) vs (L.flatMap (·.2.1)) ls.flatten∧ls.length=L.length∧(∀(j:Nat) y x,L[j]?=some y→ls[j]?=some x→ik P fuel y.1 x)∧aM ls.flatten≤B.bs (L.map (·.2.2.1)):=by
 intro L
 induction L with
 | nil=>intro _ V hV; exact⟨[],[],[],by rw [List.append_nil]; exact .nil hV,rfl,fun j y x h=>by simp at h,by simp [ck]⟩
 | cons y L ih=>
  intro hL V hV;obtain⟨h1,h2⟩:=hL y List.mem_cons_self;obtain⟨M,vs,pvs,o1,t1,b1⟩:=IH y.1 y.2.1 y.2.2.1 y.2.2.2 h1 h2 V hV;obtain⟨M',vs',ls,o2,l2,t2,b2⟩:=ih (fun z hz=>hL z (List.mem_cons_of_mem _ hz)) (V ++ M) o1.ok;refine⟨M ++ M',vs ++ vs',pvs :: ls,?_,by simp [l2],fun j z x hz hx=>?_,?_⟩
  ·rw [← List.append_assoc,List.flatMap_cons,List.flatten_cons];exact⟨o2.ok,bu.append (VR.mono (ve _ _) o1.vr) o2.vr,Cs.append (o1.rc.mono (Jy _ _ _)) o2.rc⟩
  ·cases j with
   | zero=>simp at hz hx; subst hz; subst hx; exact t1
   | succ j=>exact t2 j z x (by simpa using hz) (by simpa using hx)
  ·rw [List.flatten_cons,iL,List.map_cons,B.cons]; omega
theorem Dm {cs:List Value} : ∀(fs:List Field) (k m:Nat),zu P fs k m=true→cs.length=m→(fs.flatMap fun f=>(cs.drop f.offset).take (P.cellsOf f.type))=cs.drop k:=by
 intro fs
 induction fs with
 | nil=>
  intro k m h hm;have:k=m:=Nat.eq_of_beq_eq_true h;rw [List.flatMap_nil,List.drop_of_length_le (by omega)]
 | cons f l ih=>
  intro k m h hm;simp only [zu,Bool.and_eq_true] at h;obtain⟨h1,h2,h3⟩:=h;have h1:=Nat.eq_of_beq_eq_true h1;have h2:=Nat.le_of_ble_eq_true h2;rw [List.flatMap_cons,ih _ _ h3 hm,h1,← List.drop_drop,List.take_append_drop]
theorem Dw {C:List Value}{es:Nat} : ∀(n o:Nat),((List.range n).flatMap fun i=>(C.drop (o + i * es)).take es)=(C.drop o).take (n * es):=by
 intro n
 induction n with
 | zero=>intro o; simp
 | succ n ih=>
  intro o;rw [List.range_succ,List.flatMap_append,ih,List.flatMap_cons,List.flatMap_nil,List.append_nil,Nat.succ_mul,List.take_add,List.drop_drop]
theorem Hz {fuel:Nat}{t:TypeId}{cs:List Value}{x:DataW D × List MemPlace} (hu:P.underlying t=some .bool) (h:DataW.trod enc P w 0 (fun _=>true) true (fuel + 1) t cs=some x):∃b,cs=[.bool b]:=by
 unfold DataW.trod at h;rw [hu] at h;split at h<;>simp_all
theorem Ls {fuel:Nat}{t:TypeId}{cs:List Value}{k:IntKind}{x:DataW D × List MemPlace} (hu:P.underlying t=some (.int k)) (h:DataW.trod enc P w 0 (fun _=>true) true (fuel + 1) t cs=some x):∃z,cs=[.int k z]∧(Lit.int k z).wf=true:=by
 unfold DataW.trod at h;rw [hu] at h;split at h<;>simp_all
theorem Df {fuel:Nat}{t:TypeId}{cs:List Value}{x:DataW D × List MemPlace} (hu:P.underlying t=some .string) (h:DataW.trod enc P w 0 (fun _=>true) true (fuel + 1) t cs=some x):∃s:ByteArray,cs=[.string s]∧s.size≤maxLen∧x.1=.lit (.string s.data.toList):=by
 unfold DataW.trod at h;rw [hu] at h;split at h<;>simp_all;rw [← h.2]
theorem Cz {fuel:Nat}{t:TypeId}{cs:List Value}{fs:Array Field}{x:DataW D × List MemPlace} (hu:P.underlying t=some (.struct fs)) (h:DataW.trod enc P w 0 (fun _=>true) true (fuel + 1) t cs=some x) :
  cs.length=P.cellsOf t∧∃xs,(fs.toList.mapM fun f=>DataW.trod enc P w 0 (fun _=>true) true fuel f.type ((cs.drop f.offset).take (P.cellsOf f.type)))=some xs∧x.1=.agg (xs.map (·.1)):=by
 unfold DataW.trod at h;rw [hu] at h;split at h<;>simp_all;obtain⟨_,xs,h1,h2⟩:=h;exact⟨xs,h1,by rw [← h2]⟩
theorem Hi {fuel:Nat}{t e:TypeId}{cs:List Value}{x:DataW D × List MemPlace} (hu:P.underlying t=some (.slice e)) (h:DataW.trod enc P w 0 (fun _=>true) true (fuel + 1) t cs=some x) :
  cs=[.slice none 0 0]∨∃a len cap elems rest,cs=[.slice (some a) len cap]∧len≤cap∧cap≤maxLen∧x.1=.slice (elems.map (·.1)) (rest.map (·.1))∧
   ((List.range len).mapM fun i=>(w.cells? 0 (a.add (i * P.cellsOf e)) (P.cellsOf e)).bind (DataW.trod enc P w 0 (fun _=>true) true fuel e))=some elems∧
   ((List.range (cap - len)).mapM fun j=>(w.cells? 0 (a.add ((len + j) * P.cellsOf e)) (P.cellsOf e)).bind (DataW.trod enc P w 0 (fun _=>true) true fuel e))=some rest:=by
 unfold DataW.trod at h;rw [hu] at h;split at h<;>simp_all;obtain⟨⟨h1,h2⟩,h3⟩:=h;rw [Option.bind_eq_some_iff] at h3;obtain⟨elems,e1,e2⟩:=h3;rw [Option.map_eq_some_iff] at e2;obtain⟨rest,e3,e4⟩:=e2;exact⟨_,_,_,⟨rfl,rfl,rfl⟩,h1,h2,elems,rest,by rw [← e4],e1,e3⟩
theorem oG (V:List jF) (v:jF):(V ++ [v])[V.length]?=some v:=by simp
theorem HW (S:List TypeId) (hS:∀t,S.contains t=true→Uv P S t=true) (B:Dx D) (hH:∀(b:Nat) (C:Array Value) (e:Nat) (fz:Nat × Nat),w.heap[b]?=some (.cells C e fz)→fz.2≤H) (h0:∃C e fz,w.heap[0]?=some (.cells C e fz)) :
  ∀(fuel:Nat) (t:TypeId) (cs:List Value) (d:DataW D) (ps:List MemPlace),S.contains t=true→DataW.trod enc P w 0 (fun _=>true) true fuel t cs=some (d,ps)→∀V,(∀v∈V,KG P w H V v)→∃M vs pvs,S6 P w H (V ++ M) vs cs pvs∧ik P fuel t pvs∧aM pvs≤B.b d:=by
 intro fuel
 induction fuel with
 | zero=>intro t cs d ps _ h; cases h
 | succ fuel IH=>
  intro t cs d ps ht h V hV;have hty:=hS t ht;unfold Uv at hty;unfold ik;have one:∀(v:Value),eR (pN P w V) v v→MQ v=true→S6 P w H (V ++ []) [v] [v] [.sc v]:=fun v h1 h2=>by
   rw [List.append_nil];exact⟨hV,.cons _ _ _ _ h1 .nil,.cons _ _ _ _ (.sc v h2) .nil⟩
  have b1:∀v:Value,BP v=1→aM [.sc v]≤B.b d:=fun v hv=>by
   have:=B.pos d;rw [ch,ck];show BP v + 0≤_;omega
  split at hty
  ·rename_i hu;obtain⟨b,rfl⟩:=Hz hu h;exact⟨[],_,_,one (.bool b) (.bool b) rfl,⟨b,rfl⟩,b1 _ rfl⟩
  ·rename_i k hu;obtain⟨z,rfl,hz⟩:=Ls hu h;exact⟨[],_,_,one (.int k z) (.int k z) rfl,⟨z,rfl,hz⟩,b1 _ rfl⟩
  ·rename_i hu;obtain⟨s,rfl,hs,hd⟩:=Df hu h;refine⟨[],_,_,one (.string s) (.string s) rfl,⟨s,rfl,hs⟩,?_⟩;have hd:d=.lit (.string s.data.toList):=hd;rw [ch,ck,hd,B.str];exact Nat.le_refl _
  ·rename_i e hu;rw [Bool.and_eq_true] at hty;have hes : 1≤P.cellsOf e:=Nat.le_of_ble_eq_true hty.2;rcases Hi hu h with rfl | ⟨a,len,cap,elems,rest,rfl,hlc,hcm,hd,he,hr⟩
   ·exact⟨[],_,_,one _ .nilSlice rfl,.inl rfl,b1 _ rfl⟩
   obtain⟨l1,l2⟩:=oM _ _ _ he;obtain⟨r1,r2⟩:=oM _ _ _ hr;rw [List.length_range] at l1 r1;have hd':d=.slice (elems.map (·.1)) (rest.map (·.1)):=hd;by_cases hcap:cap=0
   ·subst hcap;obtain rfl:len=0:=by omega
    obtain⟨C,e',fz,hC⟩:=h0;have hg:=rt (P:=P) (H:=H) (oG V ⟨[],e,0,0⟩);have hφ:=oJ (P:=P) (w:=w) (oG V ⟨[],e,0,0⟩);refine⟨[⟨[],e,0,0⟩],[.slice (some ⟨P.globals.size + 1 + V.length,0,none⟩) 0 0],[.lit e 0 []],⟨fun v hv=>?_,?_,?_⟩,.inr ⟨[],rfl,Nat.zero_le _,fun x hx=>by cases hx⟩,?_⟩
    ·rw [List.mem_append,List.mem_singleton] at hv;rcases hv with hv | rfl
     ·exact (hV v hv).mono _
     ·exact⟨C,e',fz,hC,hH _ _ _ _ hC,Nat.zero_le _,.nil⟩
    ·exact .cons _ _ _ _ (.slice _ 0 0 0 0 a _ hφ (Nat.le_refl _) (Nat.le_refl _) (.inl rfl) (by rw [Nat.zero_mul]; exact Nat.zero_le _)) .nil
    ·exact .cons _ _ _ _ (.lit _ 0 0 0 e [] [] _ _ hg ⟨(yd _).lt _ _ hg |>.2,fun k hk=>by omega⟩ (Nat.zero_le _) (Nat.le_refl _) .nil) .nil
    ·have:=B.pos d;rw [ch,ck];show aM [] + 1 + 0≤_;rw [ck];omega
   ·have hk:∀k,k < cap→∃row x,w.cells? 0 (a.add (k * P.cellsOf e)) (P.cellsOf e)=some row∧DataW.trod enc P w 0 (fun _=>true) true fuel e row=some x∧(k < len→elems[k]?=some x):=by
     intro k hk;by_cases hkl:k < len
     ·have hx:elems[k]?=some (elems[k]'(by omega)):=List.getElem?_eq_getElem (by omega);have:=l2 k k _ (by simp [hkl]) hx;rw [Option.bind_eq_some_iff] at this;obtain⟨row,g1,g2⟩:=this;exact⟨row,_,g1,g2,fun _=>hx⟩
     ·have hx:rest[k - len]?=some (rest[k - len]'(by omega)):=List.getElem?_eq_getElem (by omega);have:=r2 (k - len) (k - len) _ (List.getElem?_range (by omega)) hx;rw [Option.bind_eq_some_iff] at this;obtain⟨row,g1,g2⟩:=this;rw [show len + (k - len)=k by omega] at g1;exact⟨row,_,g1,g2,fun hh=>absurd hh hkl⟩
    obtain⟨row0,_,g1,_,_⟩:=hk 0 (by omega);rw [Nat.zero_mul,show a.add 0=a by simp [Addr.add]] at g1;obtain⟨C,e',fz,hsp,hC,_,_⟩:=xm g1 hes;obtain⟨g,o,sp⟩:=a;have hsp':sp=none:=hsp;subst hsp';have hrow:∀k,k < cap→o + k * P.cellsOf e + P.cellsOf e≤C.size∧∃x,DataW.trod enc P w 0 (fun _=>true) true fuel e ((C.toList.drop (o + k * P.cellsOf e)).take (P.cellsOf e))=some x∧(k < len→elems[k]?=some x):=by
     intro k hkc;obtain⟨row,x,g1,g2,g3⟩:=hk k hkc;rw [fA] at g1;obtain⟨C',_,_,_,hC',h4,h5⟩:=xm g1 hes;have:w.heap[g]?=_:=hC';rw [show w.heap[g]?=some (.cells C e' fz) from hC] at this;injection this with this;injection this with this;subst this;exact⟨h4,x,by rw [← h5]; exact g2,g3⟩
    have hsz:o + cap * P.cellsOf e≤C.size:=by
     have:=(hrow (cap - 1) (by omega)).1;have h2:(cap - 1) * P.cellsOf e + P.cellsOf e=cap * P.cellsOf e:=by
      rw [← Nat.succ_mul]; congr 1; omega
     omega
    have hle:len * P.cellsOf e≤cap * P.cellsOf e:=Nat.mul_le_mul_right _ hlc;obtain⟨M,vs,ls,o1,o2,o3,o4⟩:=xP S B fuel IH ((List.range len).map fun k=>(e,(C.toList.drop (o + k * P.cellsOf e)).take (P.cellsOf e),elems.getD k (.nil,[]))) (fun y hy=>by
     rw [List.mem_map] at hy;obtain⟨k,hk',rfl⟩:=hy;have hkl:=List.mem_range.1 hk';obtain⟨_,x,q1,q2⟩:=hrow k (by omega);refine⟨hty.1,?_⟩;rw [q1];simp only [List.getD_eq_getElem?_getD,q2 hkl,Option.getD_some]) V hV
    rw [List.flatMap_map,Dw] at o1;have hlen:vs.length=len * P.cellsOf e:=by
     have:=bu.length o1.vr;rw [this,List.length_take,List.length_drop,Array.length_toList];omega
    have hll:ls.flatten.length=vs.length:=(Cs.len o1.rc).symm;have hl3:ls.length=len:=by rw [o2]; simp
    have hg:=rt (P:=P) (H:=H) (oG (V ++ M) ⟨vs,e,g,o⟩);have hφ:=oJ (P:=P) (w:=w) (oG (V ++ M) ⟨vs,e,g,o⟩);refine⟨M ++ [⟨vs,e,g,o⟩],[.slice (some ⟨P.globals.size + 1 + (V ++ M).length,0,none⟩) len len],[.lit e len ls.flatten],?_,.inr ⟨ls,by rw [hl3],by omega,fun x hx=>?_⟩,?_⟩
    ·rw [← List.append_assoc];refine⟨fun v hv=>?_,.cons _ _ _ _ (.slice _ 0 len len cap ⟨g,o,none⟩ _ hφ (Nat.le_refl _) hlc (.inr rfl) ?_) .nil,.cons _ _ _ _ (.lit _ 0 len len e ls.flatten vs _ _ hg ⟨(yd _).lt _ _ hg |>.2,fun k hk=>by omega⟩ (by omega) (Nat.le_refl _) ?_) .nil⟩
     ·rw [List.mem_append,List.mem_singleton] at hv;rcases hv with hv | rfl
      ·exact (o1.ok v hv).mono _
      ·refine⟨C,e',fz,hC,hH _ _ _ _ hC,?_,?_⟩
       ·show o + vs.length≤C.size;omega
       ·show bu _ vs ((C.toList.drop o).take vs.length);rw [hlen];exact o1.vr.mono (ve _ _)
     ·show 0 + cap * P.cellsOf e≤rW w g - o;rw [ES hC];omega
     ·rw [List.drop_zero,hll,List.take_length];exact o1.rc.mono (Jy _ _ _)
    ·obtain⟨j,hj,rfl⟩:=List.getElem_of_mem hx;have:=o3 j (e,(C.toList.drop (o + j * P.cellsOf e)).take (P.cellsOf e),elems.getD j (.nil,[])) ls[j] (by
      rw [List.getElem?_map,List.getElem?_range (by omega)]; rfl) (List.getElem?_eq_getElem hj)
     exact this
    ·rw [ch,ck,hd',B.slice];show aM ls.flatten + 1 + 0≤_;have:(((List.range len).map fun k=>(e,(C.toList.drop (o + k * P.cellsOf e)).take (P.cellsOf e),elems.getD k (.nil,[]))).map fun y=>y.2.2.1)=elems.map (·.1):=by
      apply List.ext_getElem?;intro j;simp only [List.map_map,List.getElem?_map];by_cases hj:j < len
      ·rw [List.getElem?_range hj];have hx:elems[j]?=some (elems[j]'(by omega)):=List.getElem?_eq_getElem (by omega);simp [hx,List.getD_eq_getElem?_getD]
      ·rw [List.getElem?_eq_none (by simp; omega),List.getElem?_eq_none (by omega)];rfl
     rw [this] at o4;omega
  ·rename_i fs hu;rw [Bool.and_eq_true] at hty;obtain⟨hlen,xs,hm,hd⟩:=Cz hu h;have hd':d=.agg (xs.map (·.1)):=hd;obtain⟨m1,m2⟩:=oM _ _ _ hm;have hfl:=Dm (P:=P) (cs:=cs) fs.toList 0 _ hty.2 hlen;obtain⟨M,vs,ls,o1,o2,o3,o4⟩:=xP S B fuel IH ((List.range fs.toList.length).map fun k=>((fs.toList.getD k default).type,(cs.drop (fs.toList.getD k default).offset).take (P.cellsOf (fs.toList.getD k default).type),xs.getD k (.nil,[]))) (fun y hy=>by
    rw [List.mem_map] at hy;obtain⟨k,hk',rfl⟩:=hy;have hkl:=List.mem_range.1 hk';have hf:fs.toList[k]?=some (fs.toList[k]'hkl):=List.getElem?_eq_getElem hkl;have hx:xs[k]?=some (xs[k]'(by omega)):=List.getElem?_eq_getElem (by omega);have hfd:fs.toList.getD k default=fs.toList[k]'hkl:=by rw [List.getD_eq_getElem?_getD,hf]; rfl
    have hxd:xs.getD k (.nil,[])=xs[k]'(by omega):=by rw [List.getD_eq_getElem?_getD,hx]; rfl
    simp only [hfd,hxd];exact⟨List.all_eq_true.1 hty.1 _ (List.getElem_mem hkl),m2 k _ _ hf hx⟩) V hV
   have hrows:(((List.range fs.toList.length).map fun k=>((fs.toList.getD k default).type,(cs.drop (fs.toList.getD k default).offset).take (P.cellsOf (fs.toList.getD k default).type),xs.getD k (.nil,[]))).flatMap fun y=>y.2.1)=cs:=by
    rw [List.flatMap_map];have e1:((List.range fs.toList.length).flatMap fun k=>(cs.drop (fs.toList.getD k default).offset).take (P.cellsOf (fs.toList.getD k default).type))=fs.toList.flatMap fun f=>(cs.drop f.offset).take (P.cellsOf f.type):=by
     have e2:(List.range fs.toList.length).map (fun k=>fs.toList.getD k default)=fs.toList:=by
      apply List.ext_getElem?;intro j;rw [List.getElem?_map];by_cases hj:j < fs.toList.length
      ·rw [List.getElem?_range hj,List.getElem?_eq_getElem hj];show some (fs.toList.getD j default)=some fs.toList[j];rw [List.getD_eq_getElem?_getD,List.getElem?_eq_getElem hj];rfl
      ·rw [List.getElem?_eq_none (by simp; simpa using hj),List.getElem?_eq_none (by omega)];rfl
     conv=>rhs; rw [← e2,List.flatMap_map]
    rw [e1,hfl,List.drop_zero]
   rw [hrows] at o1;refine⟨M,vs,ls.flatten,o1,⟨ls,rfl,by rw [o2]; simp,fun j f x hf hx=>?_⟩,?_⟩
   ·have hj:=(List.getElem?_eq_some_iff.1 hf).1;have:=o3 j ((fs.toList.getD j default).type,(cs.drop (fs.toList.getD j default).offset).take (P.cellsOf (fs.toList.getD j default).type),xs.getD j (.nil,[])) x (by
     rw [List.getElem?_map,List.getElem?_range hj]; rfl) hx
    rw [List.getD_eq_getElem?_getD,hf] at this;exact this
   ·have e3:(((List.range fs.toList.length).map fun k=>((fs.toList.getD k default).type,(cs.drop (fs.toList.getD k default).offset).take (P.cellsOf (fs.toList.getD k default).type),xs.getD k (.nil,[]))).map fun y=>y.2.2.1)=xs.map (·.1):=by
     apply List.ext_getElem?;intro j;simp only [List.map_map,List.getElem?_map];by_cases hj:j < fs.toList.length
     ·rw [List.getElem?_range hj];have hx:xs[j]?=some (xs[j]'(by omega)):=List.getElem?_eq_getElem (by omega);simp [hx,List.getD_eq_getElem?_getD]
     ·rw [List.getElem?_eq_none (by simp; simpa using hj),List.getElem?_eq_none (by omega)];rfl
    rw [e3] at o4;rw [hd',B.agg];omega
  ·cases hty
end
end Go.PE
namespace Go.PE
open Go Go.EvL Go.RowKit
section
variable {P:Program}{Γ:Nat→Option fJ}{ext:aq}
def S9:PS:=⟨fun _=>⟨[],0,0⟩,0,0⟩
theorem Jn (hE:zE P) (hO:cQ P) (hm:P.follows .mixedOrders=true) (hP:tc P) (hΓ:xJ P Γ) (hX:ff P (ei Γ) ext) {g:Nat} (hpu:ei Γ g=true) {w:World}{H:Nat}{args:Array Value}{pvs:List PV}{V:List jF}{vs:List Value}
  (hG:P.globals.size≤w.heap.size) (hH : 1180591620717411303424≤H) (hV:∀v∈V,KG P w H V v) (hvr:bu (pN P w V) vs args.toList) (hrs:Rs (Is P H V) (fun _=>0) 0 vs pvs) {s':PS} (h:aD P Γ ext g pvs S9=some (.sc (.bool true),s')) :
  Calls P g args w fun e w'=>e=.returned (.bool true)∧Below w.heap.size w w':=by
 obtain⟨_,_,hh⟩:=Kl hE hO hm hP hΓ hX g pvs S9 _ _ h;obtain⟨u,A',β',cs,_,_,r1,hw⟩:=hh (Is P H V) (fun _=>0) vs (yd V) ⟨fun k hk=>absurd hk (Nat.not_lt_zero _),fun j k hj=>absurd hj (Nat.not_lt_zero _)⟩ hrs;obtain⟨rfl,_⟩:=r1.sc;refine (cs.run (pN P w V) (fun _=>True) w args hvr (NK hG hH hV _) (fun _ _ _=>trivial) fun b hb _=>?_).mono ?_
 ·have hb':P.globals.size + 1 + V.length≤b:=hb;unfold pN;rw [if_neg (by omega),if_neg (by omega),List.getElem?_eq_none (by omega)];rfl
 ·rintro e w' ⟨φ',hp,he⟩;refine⟨?_,hp.os,hp.tape,hp.output,hp.size,fun k hk=>hp.same k hk fun b i hb hi=>?_⟩
  ·cases he with
   | ret _ v' hv=>cases hv; rfl
  ·have hc:i.cls < (Is P H V).next:=by
    show i.cls < P.globals.size + 1 + V.length;rcases ol hb with ⟨h1,rfl⟩ | ⟨h1,v,h2,rfl⟩
    ·show b < _; omega
    ·have:=pA P v.blk;show mA P v.blk < _; omega
   cases hbit:A'.w.testBit i.cls with
   | false=>rfl
   | true=>
    have:=hw hpu _ hc hbit;have h0:(0:Nat).testBit i.cls=true:=this;rw [Nat.zero_testBit] at h0;cases h0
def B5 (gA:Nat):aq:=fun g args s=>if g=gA∧args.isEmpty=true then some (.sc (.bool true),s) else none
theorem Ms {gA:Nat} (hb:∃fn c,P.funcs[gA]?=some fn∧fn.body=some c) (hc:∀w:World,P.globals.size≤w.heap.size→Calls P gA #[] w fun e w'=>e=.returned (.bool true)∧Below w.heap.size w w') (pu:Nat→Bool):ff P pu (B5 gA):=by
 intro g args s q s' h;unfold B5 at h;split at h
 ·rename_i hg;obtain⟨rfl,ha⟩:=hg;injection h with h;injection h with h1 h2;subst h1;subst h2;have ha':args=[]:=List.isEmpty_iff.1 ha;subst ha';refine⟨hb,.refl _,fun A β vs hi hs hr=>?_⟩;have hvs:vs=[]:=by cases hr; rfl
  subst hvs;refine⟨.bool true,A,β,⟨.refl hi,fun φ T w args' hv hrel _ _=>?_⟩,.refl _ _ _ _,hs,.cl _ _ (.sc _ rfl),fun _ c _ h=>h⟩;have ha2:args' = #[]:=by
   cases args' with
   | mk l=>cases hv; rfl
  subst ha2;refine (hc w (GF hrel)).mono ?_;rintro e w' ⟨rfl,bel⟩;exact⟨φ,cK.below hrel rfl rfl rfl bel,.ret _ _ (.bool true)⟩
 ·cases h
theorem IT (w:World):∃H,1180591620717411303424≤H∧∀(b:Nat) (C:Array Value) (e:Nat) (fz:Nat × Nat),w.heap[b]?=some (.cells C e fz)→fz.2≤H:=by
 have key:∀l:List Obj,∃H,1180591620717411303424≤H∧∀C e (fz:Nat × Nat),Obj.cells C e fz∈l→fz.2≤H:=by
  intro l
  induction l with
  | nil=>exact⟨_,Nat.le_refl _,fun C e fz h=>by cases h⟩
  | cons o l ih=>
   obtain⟨H,h1,h2⟩:=ih;cases o with
   | cells C e fz=>
    refine⟨H + fz.2,by omega,fun C' e' fz' h=>?_⟩;rcases List.mem_cons.1 h with h | h
    ·injection h with _ _ h; subst h; omega
    ·have:=h2 _ _ _ h; omega
   | _=>
    refine⟨H,h1,fun C' e' fz' h=>?_⟩;rcases List.mem_cons.1 h with h | h
    ·cases h
    ·exact h2 _ _ _ h
 obtain⟨H,h1,h2⟩:=key w.heap.toList;exact⟨H,h1,fun b C e fz h=>h2 C e fz (by
  have:=Array.mem_of_getElem? h;simpa using this)⟩
end
end Go.PE
namespace Go.PE
open Go Go.EvL
section
variable {P:Program}
def zP (P:Program) (n:Nat):List Field→List (List PV)→Prop
 | [],[]=>True
 | f :: fs,x :: ls=>ik P n f.type x∧zP P n fs ls
 | _,_=>False
theorem MK {n:Nat} : ∀(fs:List Field) (ls:List (List PV)),ls.length=fs.length→(∀(j:Nat) f x,fs[j]?=some f→ls[j]?=some x→ik P n f.type x)→zP P n fs ls:=by
 intro fs
 induction fs with
 | nil=>intro ls h _; cases ls with | nil=>trivial | cons a l=>cases h
 | cons f fs ih=>
  intro ls h hh;cases ls with
  | nil=>cases h
  | cons x ls=>exact⟨hh 0 f x rfl rfl,ih ls (by simpa using h) fun j f x h1 h2=>hh (j + 1) f x (by simpa using h1) (by simpa using h2)⟩
theorem eS {n t:Nat}{fs:Array Field}{ps:List PV} (hu:P.underlying t=some (.struct fs)) (h:ik P n t ps):∃m ls,n=m + 1∧ps=ls.flatten∧zP P m fs.toList ls:=by
 cases n with
 | zero=>cases h
 | succ n=>
  unfold ik at h;rw [hu] at h;obtain⟨ls,h1,h2,h3⟩:=h;exact⟨n,ls,rfl,h1,MK _ _ h2 h3⟩
theorem xy {n:Nat}{f1 f2:Field}{ls:List (List PV)} (h:zP P n [f1,f2] ls):∃a1 a2,ls=[a1,a2]∧ik P n f1.type a1∧ik P n f2.type a2:=by
 match ls,h with
 | [a1,a2],⟨h1,h2,_⟩=>exact⟨a1,a2,rfl,h1,h2⟩
theorem Sv {n:Nat}{f1 f2 f3:Field}{ls:List (List PV)} (h:zP P n [f1,f2,f3] ls):∃a1 a2 a3,ls=[a1,a2,a3]∧ik P n f1.type a1∧ik P n f2.type a2∧ik P n f3.type a3:=by
 match ls,h with
 | [a1,a2,a3],⟨h1,h2,h3,_⟩=>exact⟨a1,a2,a3,rfl,h1,h2,h3⟩
theorem U6 {n:Nat}{f1 f2 f3 f4:Field}{ls:List (List PV)} (h:zP P n [f1,f2,f3,f4] ls):∃a1 a2 a3 a4,ls=[a1,a2,a3,a4]∧ik P n f1.type a1∧ik P n f2.type a2∧ik P n f3.type a3∧ik P n f4.type a4:=by
 match ls,h with
 | [a1,a2,a3,a4],⟨h1,h2,h3,h4,_⟩=>exact⟨a1,a2,a3,a4,rfl,h1,h2,h3,h4⟩
theorem OB {n:Nat}{f1 f2 f3 f4 f5:Field}{ls:List (List PV)} (h:zP P n [f1,f2,f3,f4,f5] ls):∃a1 a2 a3 a4 a5,ls=[a1,a2,a3,a4,a5]∧ik P n f1.type a1∧ik P n f2.type a2∧ik P n f3.type a3∧ik P n f4.type a4∧ik P n f5.type a5:=by
 match ls,h with
 | [a1,a2,a3,a4,a5],⟨h1,h2,h3,h4,h5,_⟩=>exact⟨a1,a2,a3,a4,a5,rfl,h1,h2,h3,h4,h5⟩
theorem Ut {n:Nat}{f1 f2 f3 f4 f5 f6 f7 f8 f9:Field}{ls:List (List PV)} (h:zP P n [f1,f2,f3,f4,f5,f6,f7,f8,f9] ls):∃a1 a2 a3 a4 a5 a6 a7 a8 a9,ls=[a1,a2,a3,a4,a5,a6,a7,a8,a9]∧ik P n f1.type a1∧ik P n f2.type a2∧ik P n f3.type a3∧ik P n f4.type a4∧ik P n f5.type a5∧ik P n f6.type a6∧ik P n f7.type a7∧ik P n f8.type a8∧ik P n f9.type a9:=by
 match ls,h with
 | [a1,a2,a3,a4,a5,a6,a7,a8,a9],⟨h1,h2,h3,h4,h5,h6,h7,h8,h9,_⟩=>exact⟨a1,a2,a3,a4,a5,a6,a7,a8,a9,rfl,h1,h2,h3,h4,h5,h6,h7,h8,h9⟩
theorem Q3 {n t:Nat}{ps:List PV} (h:ik P n t ps):∃k,n=k + 1:=by
 cases n with
 | zero=>cases h
 | succ n=>exact⟨n,rfl⟩
theorem gB {n t:Nat}{k:IntKind}{ps:List PV} (hu:P.underlying t=some (.int k)) (h:ik P n t ps):∃z,ps=[.sc (.int k z)]∧(Lit.int k z).wf=true:=by
 cases n with
 | zero=>cases h
 | succ n=>unfold ik at h; rw [hu] at h; exact h
theorem oP {n t:Nat}{ps:List PV} (hu:P.underlying t=some .bool) (h:ik P n t ps):∃z,ps=[.sc (.bool z)]:=by
 cases n with
 | zero=>cases h
 | succ n=>unfold ik at h; rw [hu] at h; exact h
theorem eV {n t:Nat}{ps:List PV} (hu:P.underlying t=some .string) (h:ik P n t ps):∃s:ByteArray,ps=[.sc (.string s)]∧s.size≤maxLen:=by
 cases n with
 | zero=>cases h
 | succ n=>unfold ik at h; rw [hu] at h; exact h
theorem KJ {α:Type}{c:α→List PV}{Q:α→Prop} : ∀(ls:List (List PV)),(∀x∈ls,∃d,x=c d∧Q d)→∃l:List α,ls.flatten=l.flatMap c∧l.length=ls.length∧∀d∈l,Q d:=by
 intro ls
 induction ls with
 | nil=>intro _; exact⟨[],rfl,rfl,fun d h=>by cases h⟩
 | cons x ls ih=>
  intro h;obtain⟨d,rfl,hd⟩:=h x List.mem_cons_self;obtain⟨l,e1,e2,e3⟩:=ih fun y hy=>h y (List.mem_cons_of_mem _ hy);exact⟨d :: l,by rw [List.flatten_cons,List.flatMap_cons,e1],by simp [e2],fun y hy=>by
   rcases List.mem_cons.1 hy with rfl | hy
   ·exact hd
   ·exact e3 y hy⟩
theorem cC {x:List PV}{ls:List (List PV)} (h:x∈ls):aM x≤aM ls.flatten:=by
 have:=gw (c:=id) h;simpa [List.flatMap_id] using this
theorem nT {α:Type}{c:α→List PV}{Q:α→Prop}{n t e N:Nat}{ps:List PV} (hu:P.underlying t=some (.slice e)) (h:ik P n t ps) (hc:∀d,1≤(c d).length) (hN:aM ps≤N) (hN':N < 4611686018427387904)
  (hel:∀m x,n=m + 1→ik P m e x→aM x≤N→∃d,x=c d∧Q d):∃(p:PV) (l:Option (List α)),ps=[p]∧p=aK e c l∧(l.getD []).length < 4611686018427387904∧∀d∈l.getD [],Q d:=by
 cases n with
 | zero=>cases h
 | succ n=>
  unfold ik at h;rw [hu] at h;rcases h with rfl | ⟨ls,rfl,h1,h2⟩
  ·exact⟨_,none,rfl,rfl,by simp,fun d hd=>by cases hd⟩
  ·rw [ch,ck] at hN;have hN2:aM ls.flatten + 1 + 0≤N:=hN;obtain⟨l,e1,e2,e3⟩:=KJ (c:=c) (Q:=Q) ls fun x hx=>hel n x rfl (h2 x hx) (by have:=cC hx; omega);refine⟨_,some l,rfl,by rw [e1,← e2]; rfl,?_,e3⟩;have h3:=gY (e:=e) (c:=c) hc (some l);have h4:=dB e c (some l);simp only [Option.getD_some] at h3 h4 ⊢;rw [← e1] at h4;omega
end
end Go.PE
namespace Go.Proofs.YtgkggocjoolciaaGreatDoor
open Go Go.EvL Go.PE
theorem aL.succ:∀{d:Nat}{p:PV},aL d p→aL (d + 1) p:=by
 intro d
 induction d with
 | zero=>intro p h; cases h
 | succ d ih=>
  rintro p ⟨l,h1,h2,h3⟩;exact⟨l,h1,h2,fun x hx=>ih (h3 x hx)⟩
theorem aL.mono {d d':Nat}{p:PV} (h:aL d p) (hd:d≤d'):aL d' p:=by
 obtain⟨k,rfl⟩ : ∃k,d'=d + k:=⟨d' - d,by omega⟩
 induction k with
 | zero=>exact h
 | succ k ih=>exact (ih (by omega)).succ
theorem gH.mono {α:Type}{e:Nat}{c:α→List PV}{Q Q':α→Prop}{p:PV} (h:gH e c Q p) (hq:∀x,Q x→Q' x):gH e c Q' p:=by
 obtain⟨l,h1,h2,h3⟩:=h;exact⟨l,h1,h2,fun x hx=>hq x (h3 x hx)⟩
theorem bC.succ {D:Nat} : ∀{d:Nat}{x:am},bC D d x→bC D (d + 1) x:=by
 intro d
 induction d with
 | zero=>intro x h; cases h
 | succ d ih=>
  rintro x ⟨h1,h2,h3,h4,h5⟩;exact⟨h1,h2,h3,h4.mono fun x=>ih,h5.mono fun x h=>⟨h.1,h.2.mono fun x=>ih⟩⟩
theorem bC.mono {D d d':Nat}{x:am} (h:bC D d x) (hd:d≤d'):bC D d' x:=by
 obtain⟨k,rfl⟩ : ∃k,d'=d + k:=⟨d' - d,by omega⟩
 induction k with
 | zero=>exact h
 | succ k ih=>exact (ih (by omega)).succ
theorem Kd {N:Nat} (hN:N < 4611686018427387904):∀(n:Nat) (ps:List PV),ik Tryz.prog n 95 ps→aM ps≤N→∃p,ps=[p]∧aL n p:=by
 intro n
 induction n using Nat.strongRecOn with
 | ind n ih=>
  intro ps h hb;obtain⟨j,hj⟩:=Q3 h;obtain⟨p,l,h1,h2,h3,h4⟩:=nT (c:=ar.cells) (Q:=fun x=>aL j x.parts) Tryz.underlying95 h (fun d=>by rw [ar.len]; omega) hb hN (fun m x hm hx hbx=>by
   obtain rfl:j=m:=by omega
   obtain⟨k,ls,hk,rfl,hf⟩:=eS Tryz.underlying150 hx;obtain⟨a,b,c,d,e,rfl,f1,f2,f3,f4,f5⟩:=OB hf;obtain⟨z1,rfl,_⟩:=gB Tryz.underlying3 f1;obtain⟨z2,rfl,_⟩:=eV Tryz.underlying9 f2;obtain⟨z3,rfl,_⟩:=gB Tryz.underlying3 f3;obtain⟨z4,rfl⟩:=oP Tryz.underlying4 f4;obtain⟨q,rfl,hq⟩:=ih k (by omega) e f5 (Nat.le_trans (cC (by simp)) hbx);exact⟨⟨z1,z2,z3,z4,q⟩,rfl,hq.mono (by omega)⟩)
  refine⟨p,h1,?_⟩;rw [hj];exact⟨l,h2,h3,h4⟩
theorem yu {N:Nat} (hN:N < 4611686018427387904) {n:Nat}{ps:List PV} (h:ik Tryz.prog n 97 ps) (hb:aM ps≤N):∃x:aw,ps=x.cells∧aL n x.parts:=by
 obtain⟨k,ls,rfl,rfl,hf⟩:=eS Tryz.underlying97 h;obtain⟨a,b,rfl,f1,f2⟩:=xy hf;obtain⟨z1,rfl,_⟩:=gB Tryz.underlying3 f1;obtain⟨q,rfl,hq⟩:=Kd hN k b f2 (Nat.le_trans (cC (by simp)) hb);exact⟨⟨z1,q⟩,rfl,hq.succ⟩
theorem Bn {N:Nat} (hN:N < 4611686018427387904) {n D:Nat} (hD:n≤D) {ps:List PV} (h:ik Tryz.prog n 64 ps) (hb:aM ps≤N):∃p,ps=[p]∧mz D p:=by
 obtain⟨p,l,h1,h2,h3,h4⟩:=nT (c:=aw.cells) (Q:=fun x=>aL D x.parts) Tryz.underlying64 h (fun d=>by rw [aw.len]; omega) hb hN (fun m x hm hx hbx=>by
  obtain⟨y,h1,h2⟩:=yu hN hx hbx;exact⟨y,h1,h2.mono (by omega)⟩)
 exact⟨p,h1,l,h2,h3,h4⟩
theorem Cd {N:Nat} (hN:N < 4611686018427387904) {n D:Nat} (hD:n≤D) {ps:List PV} (h:ik Tryz.prog n 63 ps) (hb:aM ps≤N):∃p,ps=[p]∧lV D p:=by
 obtain⟨p,l,h1,h2,h3,h4⟩:=nT (c:=ax.cells) (Q:=fun x=>aL D x.parts) Tryz.underlying63 h (fun d=>by rw [ax.len]; omega) hb hN (fun m x hm hx hbx=>by
  obtain⟨k,ls,rfl,rfl,hf⟩:=eS Tryz.underlying99 hx;obtain⟨a,b,c,rfl,f1,f2,f3⟩:=Sv hf;obtain⟨z1,rfl,_⟩:=gB Tryz.underlying3 f1;obtain⟨z2,rfl,_⟩:=eV Tryz.underlying9 f2;obtain⟨y,rfl,hy⟩:=yu hN f3 (Nat.le_trans (cC (by simp)) hbx);exact⟨⟨z1,z2,y.pos,y.parts⟩,rfl,hy.mono (by omega)⟩)
 exact⟨p,h1,l,h2,h3,h4⟩
theorem Ho {N:Nat} (hN:N < 4611686018427387904) {n D:Nat} (hD:n≤D) {ps:List PV} (h:ik Tryz.prog n 65 ps) (hb:aM ps≤N):∃p,ps=[p]∧nY D p:=by
 obtain⟨p,l,h1,h2,h3,h4⟩:=nT (c:=aA.cells) (Q:=fun x=>aL D x.parts) Tryz.underlying65 h (fun d=>by rw [aA.len]; omega) hb hN (fun m x hm hx hbx=>by
  obtain⟨k,ls,rfl,rfl,hf⟩:=eS Tryz.underlying124 hx;obtain⟨a,b,c,d,rfl,f1,f2,f3,f4⟩:=U6 hf;obtain⟨z1,rfl,_⟩:=gB Tryz.underlying3 f1;obtain⟨z2,rfl,_⟩:=gB Tryz.underlying3 f2;obtain⟨z3,rfl,_⟩:=gB Tryz.underlying3 f3;obtain⟨y,rfl,hy⟩:=yu hN f4 (Nat.le_trans (cC (by simp)) hbx);exact⟨⟨z1,z2,z3,y.pos,y.parts⟩,rfl,hy.mono (by omega)⟩)
 exact⟨p,h1,l,h2,h3,h4⟩
theorem NG {N:Nat} (hN:N < 4611686018427387904) {D:Nat} : ∀(n:Nat),n≤D→∀(ps:List PV),ik Tryz.prog n 69 ps→aM ps≤N→∃x:am,ps=x.cells∧bC D n x:=by
 intro n
 induction n using Nat.strongRecOn with
 | ind n ih=>
  intro hn ps h hb;have kids:∀(m:Nat),m < n→∀(ps:List PV),ik Tryz.prog m 66 ps→aM ps≤N→∃p,ps=[p]∧gH 69 am.cells (bC D m) p:=by
   intro m hm ps h hb;obtain⟨p,l,h1,h2,h3,h4⟩:=nT (c:=am.cells) (Q:=bC D m) Tryz.underlying66 h (fun d=>by rw [am.len]; omega) hb hN (fun k x hk hx hbx=>by
    obtain⟨y,e1,e2⟩:=ih k (by omega) (by omega) x hx hbx;exact⟨y,e1,e2.mono (by omega)⟩)
   exact⟨p,h1,l,h2,h3,h4⟩
  obtain⟨k,ls,hk,rfl,hf⟩:=eS Tryz.underlying69 h;clear h;obtain⟨a1,a2,a3,a4,a5,a6,a7,a8,a9,rfl,f1,f2,f3,f4,f5,f6,f7,f8,f9⟩:=Ut hf;obtain⟨z1,rfl,_⟩:=gB Tryz.underlying3 f1;obtain⟨z2,rfl,_⟩:=gB Tryz.underlying3 f2;obtain⟨z3,rfl,_⟩:=eV Tryz.underlying9 f3;obtain⟨z4,rfl⟩:=oP Tryz.underlying4 f4;obtain⟨p5,rfl,h5⟩:=Cd hN (D:=D) (by omega) f5 (Nat.le_trans (cC (by simp)) hb);obtain⟨p6,rfl,h6⟩:=Bn hN (D:=D) (by omega) f6 (Nat.le_trans (cC (by simp)) hb);obtain⟨p7,rfl,h7⟩:=Ho hN (D:=D) (by omega) f7 (Nat.le_trans (cC (by simp)) hb);obtain⟨p8,rfl,h8⟩:=kids k (by omega) a8 f8 (Nat.le_trans (cC (by simp)) hb);obtain⟨p,l,h1,h2,h3,h4⟩:=nT (c:=aF.cells) (Q:=fun it=>mz D it.pats∧gH 69 am.cells (bC D k) it.body) Tryz.underlying67 f9 (fun d=>by rw [aF.len]; omega) (Nat.le_trans (cC (by simp)) hb) hN (fun m x hm hx hbx=>by
   obtain⟨k',ls,rfl,rfl,hf⟩:=eS Tryz.underlying129 hx;obtain⟨a,b,rfl,f1,f2⟩:=xy hf;obtain⟨q1,rfl,g1⟩:=Bn hN (D:=D) (by omega) f1 (Nat.le_trans (cC (by simp)) hbx);obtain⟨q2,rfl,g2⟩:=kids k' (by omega) b f2 (Nat.le_trans (cC (by simp)) hbx);exact⟨⟨q1,q2⟩,rfl,g1,g2.mono fun x h=>h.mono (by omega)⟩)
  subst h1;refine⟨⟨z1,z2,z3,z4,p5,p6,p7,p8,p⟩,rfl,?_⟩;rw [hk];exact⟨h5,h6,h7,h8,⟨l,h2,h3,h4⟩⟩
end Go.Proofs.YtgkggocjoolciaaGreatDoor
namespace Go.Proofs.YtgkggocjoolciaaGreatDoor
open Go Go.EvL Go.PE Go.Mir
variable {ext:aq}
theorem yP {t:List UInt8}{p j:Nat}{ps:List aJ} (h:fN t p (.ok (ps,j))):ps.length≤16384∧∀q∈ps,Sm 16384 q:=by
 cases h with
 | wx h k=>
  have hb:=k.bound (Nat.zero_le _);have hs:=k.small (Nat.zero_le _) ⟨Nat.le_refl _,fun q hq=>by cases hq⟩;have up:∀q,Sm t.length q→Sm 16384 q:=fun q hq=>by
   induction hq with
   | mk h1 _ ih=>exact .mk (Nat.le_trans h1 h) ih
  exact⟨Nat.le_trans (Nat.le_trans hs.1 hb.2.1) h,fun q hq=>up q (hs.2 q hq)⟩
theorem Eq {l:List aJ} (h:∀q∈l,Sm 16384 q→∃d x,tH q x∧x.cells=dJ q∧aL d x.parts) (hs:∀q∈l,Sm 16384 q):∃d xs,lz l xs∧xs.flatMap ar.cells=nH l∧∀x∈xs,aL d x.parts:=by
 induction l with
 | nil=>exact⟨0,[],by rw [lz],by rw [nH]; rfl,fun x hx=>by cases hx⟩
 | cons p l ih=>
  obtain⟨d,x,h1,h2,h3⟩:=h p (List.mem_cons_self ..) (hs p (List.mem_cons_self ..));obtain⟨e,xs,g1,g2,g3⟩:=ih (fun q hq=>h q (List.mem_cons_of_mem _ hq)) fun q hq=>hs q (List.mem_cons_of_mem _ hq);refine⟨max d e,x :: xs,?_,?_,?_⟩
  ·rw [lz];exact⟨x,xs,rfl,h1,g1⟩
  ·rw [nH,List.flatMap_cons,h2,g2]
  ·intro z hz;cases hz with
   | head=>exact h3.mono (Nat.le_max_left ..)
   | tail _ hz=>exact (g3 z hz).mono (Nat.le_max_right ..)
theorem K9 {l:List aJ}{xs:List ar} (h:lz l xs) (hc:xs.flatMap ar.cells=nH l):cS l=aK 150 ar.cells (dx xs):=by
 have hl:=h.length;cases l with
 | nil=>
  rw [h.nil,cS];rfl
 | cons p ps=>
  cases xs with
  | nil=>cases hl
  | cons x xs=>
   rw [cS,← nH,← hc];show _=PV.lit 150 (xs.length + 1) ((x :: xs).flatMap ar.cells);simp only [List.length_cons] at hl;rw [show ps.length=xs.length by omega]
theorem uU {l:List aJ}{d:Nat}{xs:List ar} (hn:l.length≤16384) (h:lz l xs) (hc:xs.flatMap ar.cells=nH l) (hd:∀x∈xs,aL d x.parts):aL (d + 1) (cS l):=by
 refine⟨dx xs,K9 h hc,?_,?_⟩
 ·rw [bV,h.length];omega
 ·rw [bV];exact hd
theorem JR {q:aJ} (h:Sm 16384 q):∃d x,tH q x∧x.cells=dJ q∧aL d x.parts:=by
 induction h with
 | @mk k t o c ps h hs ih=>
  obtain⟨d,xs,h1,h2,h3⟩:=Eq (fun q hq _=>ih q hq) hs;refine⟨d + 1,⟨k,⟨⟨t⟩⟩,o,c,cS ps⟩,?_,?_,uU h h1 h2 h3⟩
  ·rw [tH];exact⟨rfl,rfl,rfl,rfl,dx xs,K9 h1 h2,by rw [bV]; exact h1⟩
  ·rw [dJ];rfl
theorem rp {t:List UInt8}{p j:Nat}{ps:List aJ} (h:fN t p (.ok (ps,j))):∃d,aL d (cS ps):=by
 obtain⟨h1,h2⟩:=yP h;obtain⟨d,xs,g1,g2,g3⟩:=Eq (fun q _ hq=>JR hq) h2;exact⟨d + 1,uU h1 g1 g2 g3⟩
theorem Fg {d:Nat}{v:PV} (h:aL d v) {t:List UInt8}{p:Nat}{r:R} (hp:fN t p r):∃same:List aJ→Bool,∀ps j,r=.ok (ps,j)→(∀s,Pc ext 141 [cS ps,v] (.sc (.bool (same ps))) s)∧∀s,Pc ext 149 [cS ps,v] (.sc (.bool (same ps))) s:=by
 cases r with
 | error x=>exact⟨fun _=>true,fun ps j h=>by cases h⟩
 | ok x=>
  obtain⟨ps,j⟩:=x;obtain⟨e,he⟩:=rp hp;obtain⟨b,h1,h2⟩:=mo (ext:=ext) (max d e) (cS ps) v (he.mono (Nat.le_max_right ..)) (h.mono (Nat.le_max_left ..));exact⟨fun _=>b,fun ps' j' h=>by cases h; exact⟨h1,h2⟩⟩
theorem tB {d:Nat}{v:PV} (h:aL d v) {l:List aJ} (hl:tA l v) (hsz:gK l < 1000000000000):∃r same,fN (dF 0 l) 0 r∧(∀ps j,r=.ok (ps,j)→∀s,Pc ext 141 [cS ps,v] (.sc (.bool (same ps))) s)∧
  (∀s,Pc ext 240 [v] (.sc (.int .i64 (if EC same r then 0 else 1))) s)∧
  ∀s,Pc ext 250 [v] (.tup [.sc (.string ⟨⟨if EC same r then dF 0 l else []⟩⟩),.sc (.int .i64 (if EC same r then 0 else 1))]) s:=by
 obtain⟨r,hr⟩:=fN.total (dF 0 l) 0;obtain⟨same,hs⟩:=Fg (ext:=ext) h hr;exact⟨r,same,hr,fun ps j e=>(hs ps j e).1,fun s=>yp hsz hl (fun ps j e=>(hs ps j e).2) hr s,fun s=>Iy hsz hl (fun ps j e=>(hs ps j e).2) hr s⟩
theorem DC {d:Nat}{v:PV} (h:aL d v) {l:List aJ} (hl:tA l v) (hsz:gK l < 1000000000000):∃r same,fN (dF 5 l) 5 r∧(∀ps j,r=.ok (ps,j)→∀s,Pc ext 141 [cS ps,v] (.sc (.bool (same ps))) s)∧
  ∀s,Pc ext 251 [v] (.tup [.sc (.string ⟨⟨dF 5 l⟩⟩),.sc (.bool (EC same r))]) s:=by
 obtain⟨r,hr⟩:=fN.total (dF 5 l) 5;obtain⟨same,hs⟩:=Fg (ext:=ext) h hr;exact⟨r,same,hr,fun ps j e=>(hs ps j e).1,fun s=>uJ hsz hl (fun ps j e=>(hs ps j e).2) hr s⟩
theorem Jk {u v:PV}{n:Nat} (hn:gq false v=some (iN n)) (hc:az v=[v]) {b:Bool}{T:List UInt8} (hs:∀s,Pc ext 250 [v] (.tup [.sc (.string ⟨⟨T⟩⟩),.sc (.int .i64 (if b then 0 else 1))]) s) (s:PS) :
  Pc ext 238 [.agg [u,v]] (.sc (.bool (b && decide (0 < n) && !T.isEmpty && !(bt T 0 == 35)))) s:=by
 have he:((ByteArray.mk ⟨T⟩).toList == (ByteArray.mk #[]).toList)=T.isEmpty:=by
  rw [ByteArray.toList_eq,ByteArray.toList_eq];cases T<;>rfl
 have z0:((0:Int) == 0)=true:=rfl;have z1:((1:Int) == 0)=false:=rfl;refine mq Po 2 ?_;unfold Po;cases b with
 | false=>
  simp only [Bool.false_eq_true,if_false] at hs;exact l9 hs z1
 | true=>
  simp only [if_true] at hs;cases c1:decide (0 < n) with
  | false=>exact lR hs hn c1
  | true=>
   cases c2:T.isEmpty with
   | true=>exact tg hs hn c1 he c2
   | false=>
    have hl0 : 0 < T.length:=by cases T with | nil=>cases c2 | cons a t=>exact Nat.succ_pos _
    cases c3:bt T 0 == 35 with
    | true=>exact tD hs hn c1 he c2 c3 hl0
    | false=>exact tD hs hn c1 he c2 c3 hl0
theorem Gj {xs:List aw}{ok:aw→Bool} (hx:xs.length < 1000000000000) (hw:∀x∈xs,∀s,Pc ext 238 [.agg x.cells] (.sc (.bool (ok x))) s) (s:PS):∀(k i:Nat) (f:aR),i + k=xs.length→(∀x∈xs.take i,ok x=true)→f 0=.lit 97 xs.length (xs.flatMap aw.cells)→f 3=iN i→
  Er (fun f' s'=>s'=s∧f' 2=.sc (.bool (xs.all ok))) (LP Tryz.prog Γ ext 0 qG wi f s):=by
 intro k
 induction k with
 | zero=>
  intro i f hk ha h0 h3;have e1:decide (i < xs.length)=false:=df;have hall:xs.all ok=true:=by
   rw [List.take_of_length_le om] at ha;exact List.all_eq_true.2 ha
  refine ad fun L hL=>?_;exact jK @qG.eq_1 @wi.eq_1 h0 h3 e1 hall
 | succ k ih=>
  intro i f hk ha h0 h3;have hl:i < xs.length:=om;have e1:decide (i < xs.length)=true:=decide_eq_true hl;have hj:xs[i]?=some xs[i]:=List.getElem?_eq_getElem hl;have hfl:=aB aw.len xs;have hk3:=kB aw.len hj;have hc:=hw _ (List.getElem_mem hl);simp only [aw.cells] at hk3 hc;refine ad fun L hL=>?_;cases c:ok xs[i] with
  | false=>
   rw [c] at hc;have hall:xs.all ok=false:=by
    rw [Bool.eq_false_iff];intro h;rw [List.all_eq_true.1 h _ (List.getElem_mem hl)] at c;cases c
   exact wF @qG.eq_1 @wi.eq_1 h0 h3 hl hfl hk3 hc hall
  | true=>
   rw [c] at hc;refine MS @qG.eq_1 h0 h3 hl hfl hk3 hc ?_;subst hL;refine ih (i + 1) _ om (fun x hx=>?_) (aX h0) aQ;rw [List.take_succ_eq_append_getElem hl] at hx;rcases List.mem_append.1 hx with hx | hx
   ·exact ha x hx
   ·cases hx with
    | head=>exact c
    | tail _ h=>cases h
theorem JF {y:Option (List aw)}{ok:aw→Bool} (hx:(y.getD []).length < 1000000000000) (hw:∀x∈y.getD [],∀s,Pc ext 238 [.agg x.cells] (.sc (.bool (ok x))) s) (s:PS):Pc ext 215 [aK 97 aw.cells y] (.sc (.bool ((y.getD []).all ok))) s:=by
 refine q1 Lk 2 ?_;cases y with
 | none=>
  have z0:decide ((0:Int) < 0)=false:=rfl;unfold Lk;refine pJ @cd ?_;refine ad fun L hL=>?_;refine P7 @qG.eq_1 @wi.eq_1 z0 ?_;rfl
 | some xs=>
  unfold Lk;refine pJ @cd ?_;exact Gj (xs:=xs) hx hw _ xs.length 0 _ (Nat.zero_add _) (fun x h=>by cases h) aQ aQ
end Go.Proofs.YtgkggocjoolciaaGreatDoor
namespace Go.Mir
def fV (t:List UInt8):Bool:=!t.isEmpty && decide (t.length≤32) && !bD (bt t 0) && t.all fun c=>eo c.toNat
def Qa (t:List UInt8):Nat:=if decide (dY t 0 < t.length) && bt t (dY t 0) == 61 && fV (t.take (dY t 0)) then dY t 0 + 1 else 0
def xA:List (List UInt8):=[[33],[123],[125],[99,97,115,101],[100,111],[100,111,110,101],[101,108,105,102],[101,108,115,101],[101,115,97,99],[102,105],[102,111,114],[105,102],[105,110],[116,104,101,110],[117,110,116,105,108],[119,104,105,108,101]]
def lG (t:List UInt8):Bool:=xA.any fun x=>t == x
def mU (k:Int):Bool:=decide (8≤k) && decide (k≤14)
def wy (k:Int):Bool:=k == 1 || mU k || k == 15
def uM (k:Int):Bool:=wy k || k == 2 || k == 3
def Et (k:Int):Bool:=uM k || k == 4 || k == 5
def iD (l:List Int) (lo hi:Nat):Bool:=l.all (· == 6) && (decide (lo≤l.length) && decide (l.length≤hi))
def eQ (k:Int) (l:List Int):Bool:=
 if k == 1 || k == 14 then l.length == 0
 else if k == 3 then l.length == 1 && (wy (l.getD 0 0) || l.getD 0 0 == 2)
 else if k == 4 || k == 5 then l.length == 2 && Et (l.getD 0 0) && uM (l.getD 1 0)
 else if k == 7 then l.length == 1 && Et (l.getD 0 0)
 else if k == 8 || k == 9 || k == 13 then iD l 1 1
 else if k == 10 then iD l 2 3
 else if k == 11 || k == 12 then iD l 2 2
 else if k == 15 then l.length == 1 && mU (l.getD 0 0)
 else if k == 2 then l.all wy && decide (2≤l.length)
 else if k == 6 then (l.all fun x=>Et x || x == 7) && decide (1≤l.length)
 else false
theorem FF {t:List UInt8} (h0:t.isEmpty=false) (h1:decide (t.length≤32)=true) (h2:bD (bt t 0)=false):fV t=t.all fun c=>eo c.toNat:=by
 simp only [fV,h0,h1,h2,Bool.not_false,Bool.and_self,Bool.true_and]
end Go.Mir
