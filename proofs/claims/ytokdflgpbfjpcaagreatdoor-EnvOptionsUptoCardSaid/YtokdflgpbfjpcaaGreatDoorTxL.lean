/- What functions of the program and of the reference compute, on values. No statement is proved here. -/
import Derived.Test.YtokdflgpbfjpcaaGreatDoorTxK
import Derived.Test.YtokdflgpbfjpcaaGreatDoorTxC
import Derived.Test.YtokdflgpbfjpcaaGreatDoorTxI
import Derived.Test.YtokdflgpbfjpcaaGreatDoorTxJ
import Derived.Test.YtokdflgpbfjpcaaGreatDoorTxH
set_option linter.all false
namespace Go.Proofs.YtokdflgpbfjpcaaGreatDoor
open Go Go.EvL Go.PE Go.Mir
variable {ext:ar}
theorem MA {x:dG}{la:List bN} (hx:la.length < 1000000000000) {b n0:Nat}{s:PS} (hn:n0≤s.w) (hb:s.h b=⟨x.cells,0,30⟩) (ha:x.aliases=aU 75 bN.cells (some la)) {z:Int} : ∀(k i:Nat) (f:aX),i + k=la.length→f 1=.ptr b 0 15→f 3=.sc (.int .i64 z)→f 5=iN i→
  Er (fun f' s'=>n0≤s'.w∧∃b:Bool,f' 2=.sc (.bool b)) (LP Tryz.prog Γ ext 2 tP yd f s):=by
 obtain⟨nm,vs,ps,fs,als,ts,o,st,pi,la',cw,gi,go,le,tk⟩:=x;simp only at ha;simp only [dG.cells] at hb;subst ha;intro k
 induction k with
 | zero=>
  intro i f hk h1 h3 h5;have e1:decide (i < la.length)=false:=df;refine ad fun L hL=>?_;refine Cc @tP.eq_1 @yd.eq_1 h1 h3 h5 hb @bU e1 ?_;exact⟨hn,_,rfl⟩
 | succ k ih=>
  intro i f hk h1 h3 h5;have hl:i < la.length:=om;have e1:decide (i < la.length)=true:=decide_eq_true hl;have hj:la[i]?=some la[i]:=List.getElem?_eq_getElem hl;have hfl:=aJ (c:=bN.cells) (es:=2) (fun _=>rfl) la;obtain⟨rr,hk3⟩:=cm (c:=bN.cells) (es:=2) (fun _=>rfl) hj;have hgo:=ih (i + 1);generalize la[i]=y at hk3;obtain⟨n,v⟩:=y;simp only [bN.cells,List.cons_append,List.nil_append] at hk3;refine ad fun L hL=>?_;cases c3:wd v.data.toList with
  | false=>
   refine sa @tP.eq_1 @yd.eq_1 h1 h3 h5 hb @bU e1 c3 hl hfl hk3 @aw @jm ?_;exact⟨hn,_,rfl⟩
  | true=>
   refine sa @tP.eq_1 h1 h3 h5 hb @bU e1 c3 hl hfl hk3 @aw @jm tv ?_;subst hL;exact hgo _ om (bm h1) (bm h3) bw
theorem Nl {x:dG}{la:Option (List bN)} (hx:(la.getD []).length < 1000000000000) {b n0:Nat}{s:PS} (hn:n0≤s.w) (hb:s.h b=⟨x.cells,0,30⟩) (ha:x.aliases=aU 75 bN.cells la) {z:Int} (f:aX) (h1:f 1=.ptr b 0 15) (h3:f 3=.sc (.int .i64 z)) :
  Er (fun f' s'=>n0≤s'.w∧∃b:Bool,f' 2=.sc (.bool b)) (aT Tryz.prog Γ ext xN f s):=by
 cases la with
 | some l=>
  have key:=fun f a b c=>MA (ext:=ext) hx hn hb ha (z:=z) l.length 0 f (Nat.zero_add _) a b c;unfold xN;refine Gq ?_;exact key _ (bm h1) (bm h3) bw
 | none=>
  have z0:decide ((0:Int) < 0)=false:=rfl;obtain⟨nm,vs,ps,fs,als,ts,o,st,pi,la',cw,gi,go,le,tk⟩:=x;simp only [aU] at ha;simp only [dG.cells] at hb;subst ha;unfold xN;refine uA h1 ?_;refine ad fun L hL=>?_;refine Ej @tP.eq_1 @yd.eq_1 h1 h3 hb z0 ?_;exact⟨hn,_,rfl⟩
theorem OX {x:dG}{lf:List aL} (hx:lf.length < 1000000000000) {b n0:Nat}{s:PS} (hn:n0≤s.w) (hb:s.h b=⟨x.cells,0,30⟩) (hf:x.funcs=aU 73 aL.cells (some lf)) (hw:∀y∈lf,∃z:Int,Pc ext 35 [.agg y.body.cells] (.sc (.int .i64 z)) s)
  (hR:∀f z,f 1=.ptr b 0 15→f 3=.sc (.int .i64 z)→Er (fun f' s'=>n0≤s'.w∧∃b:Bool,f' 2=.sc (.bool b)) (aT Tryz.prog Γ ext xN f s)):∀(k i:Nat) (z:Int) (f:aX),i + k=lf.length→f 1=.ptr b 0 15→f 3=.sc (.int .i64 z)→f 4=iN i→
  Er (fun f' s'=>n0≤s'.w∧∃b:Bool,f' 2=.sc (.bool b)) (LP Tryz.prog Γ ext 0 sn xN f s):=by
 obtain⟨nm,vs,ps,fs,als,ts,o,st,pi,la',cw,gi,go,le,tk⟩:=x;simp only at hf;simp only [dG.cells] at hb;subst hf;intro k
 induction k with
 | zero=>
  intro i z f hk h1 h3 h4;have e1:decide (i < lf.length)=false:=df;have hgo:=hR;refine ad fun L hL=>?_;refine Fy @sn.eq_1 h1 h3 h4 hb @bU e1 ?_;exact hgo _ z (bm h1) (bm h3)
 | succ k ih=>
  intro i z f hk h1 h3 h4;have hl:i < lf.length:=om;have e1:decide (i < lf.length)=true:=decide_eq_true hl;have hj:lf[i]?=some lf[i]:=List.getElem?_eq_getElem hl;have hfl:=aJ aL.len lf;obtain⟨rr,hk3⟩:=cm aL.len hj;obtain⟨z',hz⟩:=hw _ (List.getElem_mem hl);have hgo:=ih (i + 1);have hgo2:=hR;generalize lf[i]=y at hk3 hz;obtain⟨n,⟨k1,p,nm',al,aa,ws,rs,v,is⟩⟩:=y;simp only [aL.cells,am.cells,List.cons_append,List.nil_append] at hk3 hz;refine ad fun L hL=>?_;cases c2:decide (z≤2000) with
  | false=>
   refine Cc @sn.eq_1 h1 h3 h4 hb @bU e1 c2 ?_;exact hgo2 _ z (bm h1) (bm h3)
  | true=>
   refine sa @sn.eq_1 h1 h3 h4 hb @bU e1 c2 hl hfl hk3 @aw hz tv ?_;subst hL;exact hgo _ _ om (bm h1) bw bw
structure ju (D d:Nat) (x:dG) (lv:Option (List eD)) (lp:Option (List ByteArray)) (lf:Option (List aL)) (la:Option (List bN)) (lt:Option (List dk)):Prop where
 v:x.vars=aU 44 eD.cells lv
 p:x.params=aU 9 gq lp
 f:x.funcs=aU 73 aL.cells lf
 a:x.aliases=aU 75 bN.cells la
 t:x.traps=aU 46 dk.cells lt
 nv:(lv.getD []).length≤16777216
 np:(lp.getD []).length≤16777216
 nf:(lf.getD []).length≤16777216
 na:(la.getD []).length≤16777216
 nt:(lt.getD []).length≤16777216
 node:∀y∈lf.getD [],bB D d y.body∧aR y.body.cells≤16777216
 name:x.name.data.toList.length≤16777216
 cwd:x.cwd.data.toList.length≤16777216
theorem NK {D d:Nat}{x:dG}{lv:Option (List eD)}{lp:Option (List ByteArray)}{lf:Option (List aL)}{la:Option (List bN)}{lt:Option (List dk)} (h:ju D d x lv lp lf la lt) (s:PS):∃b:Bool,Pc ext 12 [.agg x.cells] (.sc (.bool b)) s:=by
 obtain⟨bv,hv⟩:=Classical.axiomOfChoice fun s=>Ko (ext:=ext) (y:=lv) (by have:=h.nv; omega) s;obtain⟨bp,hp⟩:=Classical.axiomOfChoice fun s=>N1 (ext:=ext) (y:=lp) (by have:=h.np; omega) s;have hw:=fun s (y:aL) (hy:y∈lf.getD [])=>HV (ext:=ext) d y.body (h.node y hy).1 (h.node y hy).2 s;have h1:=bT (e:=73) (c:=aL.cells) lf;have h2:=bT (e:=75) (c:=bN.cells) la;have h3:=bT (e:=46) (c:=dk.cells) lt;have c1:=cK (e:=44) (c:=eD.cells) lv;have c2:=cK (e:=9) (c:=gq) lp;have c3:=cK (e:=73) (c:=aL.cells) lf;have c4:=cK (e:=75) (c:=bN.cells) la;have c5:=cK (e:=46) (c:=dk.cells) lt;have hR:=fun (b n0:Nat) (s:PS) (hn:n0≤s.w) (hb:s.h b=_) z f a c=>Nl (ext:=ext) (la:=la) (by have:=h.na; omega) hn hb h.a (z:=z) f a c;have hL:=fun l (e:x.funcs=aU 73 aL.cells (some l)) hl (b n0:Nat) (s:PS) (hn:n0≤s.w) (hb:s.h b=_) hw hR=>OX (ext:=ext) (x:=x) (lf:=l) hl hn hb e hw hR;have hnode:=h.node;have hlf:=h.nf;have hhf:=h.f;have hhv:=h.v;have hhp:=h.p;have hha:=h.a;have hht:=h.t;clear h;refine wF (fn:=gL) (r:=2) (by rfl) (by simp [gL]) (by rfl) (by rfl) ?_;unfold gL;obtain⟨nm,vs,ps,fs,als,ts,o,st,pi,la',cw,gi,go,le,tk⟩:=x;simp only at hhf hhv hhp hha hht;rw [← hhv] at hv c1;rw [← hhp] at hp c2;rw [← hhf] at h1 c3;rw [← hha] at h2 c4;rw [← hht] at h3 c5;simp only [dG.cells] at hR hL ⊢;generalize hs1:((⟨s.h,s.n,s.n⟩ : PS).new ⟨[.sc (.string nm),vs,ps,fs,als,ts,.sc (.int .i64 o),.sc (.int .i64 st),.sc (.int .i64 pi),.sc (.int .i64 la'),.sc (.string cw),.sc (.int .i64 gi),.sc (.int .i64 go),.sc (.int .i64 le),.sc (.bool tk)],0,30⟩)=s1;have q1:s1.h s.n=⟨[.sc (.string nm),vs,ps,fs,als,ts,.sc (.int .i64 o),.sc (.int .i64 st),.sc (.int .i64 pi),.sc (.int .i64 la'),.sc (.string cw),.sc (.int .i64 gi),.sc (.int .i64 go),.sc (.int .i64 le),.sc (.bool tk)],0,30⟩:=by rw [← hs1]; simp only [PS.new,if_true]
 have q2:s1.w=s.n:=by rw [← hs1]; rfl
 have hw1:s.n≤s1.w:=by rw [q2]; exact Nat.le_refl _
 cases d1:bv s1 with
 | false=>
  have hv1:=hv s1;rw [d1] at hv1;refine CJ hs1 q1 c1 hv1 ?_;exact⟨hw1,_,rfl⟩
 | true=>
 have hv1:=hv s1;rw [d1] at hv1;cases d2:bp s1 with
 | false=>
  have hp1:=hp s1;rw [d2] at hp1;refine Ej hs1 q1 c1 hv1 c2 hp1 ?_;exact⟨hw1,_,rfl⟩
 | true=>
 have hp1:=hp s1;rw [d2] at hp1;cases d3:wd nm.data.toList with
 | false=>simp -implicitDefEqProofs (disch:=omega) only [ZS,seval,hs1,q1,c1,hv1,c2,hp1,jm,d3]; exact⟨hw1,_,rfl⟩
 | true=>
 cases d4:decide (66 < (lf.getD []).length) with
 | true=>simp -implicitDefEqProofs (disch:=omega) only [ZS,seval,hs1,q1,c1,hv1,c2,hp1,jm,d3,c3,h1,d4]; exact⟨hw1,_,rfl⟩
 | false=>
 cases d5:decide (66 < (la.getD []).length) with
 | true=>simp -implicitDefEqProofs (disch:=omega) only [ZS,seval,hs1,q1,c1,hv1,c2,hp1,jm,d3,c3,h1,d4,c4,h2,d5]; exact⟨hw1,_,rfl⟩
 | false=>
 cases d6:decide (25 < (lt.getD []).length) with
 | true=>simp -implicitDefEqProofs (disch:=omega) only [ZS,seval,hs1,q1,c1,hv1,c2,hp1,jm,d3,c3,h1,d4,c4,h2,d5,c5,h3,d6]; exact⟨hw1,_,rfl⟩
 | false=>
 cases d7:decide (300 < cw.data.toList.length) with
 | true=>simp -implicitDefEqProofs (disch:=omega) only [ZS,seval,hs1,q1,c1,hv1,c2,hp1,jm,d3,c3,h1,d4,c4,h2,d5,c5,h3,d6,d7]; exact⟨hw1,_,rfl⟩
 | false=>
  have hR1:=fun z f a c=>hR s.n s.n s1 hw1 q1 z f a c;cases lf with
  | none=>
   have z0:decide ((0:Int) < 0)=false:=rfl;simp only [aU] at hhf;subst hhf;refine rO hs1 q1 c1 hv1 c2 hp1 @jm d3 c3 h1 d4 c4 h2 d5 c5 h3 d6 d7 tv ?_;refine ad fun L hL=>?_;refine QY @sn.eq_1 q1 z0 ?_;exact hR1 0 _ bw bw
  | some l=>
   have hL1:=hL l hhf (by have:l.length≤16777216:=hlf; omega) s.n s.n s1 hw1 q1 (fun y hy=>hw s1 y hy) (fun f z a c=>hR1 z f a c) l.length 0 0;refine rO hs1 q1 c1 hv1 c2 hp1 @jm d3 c3 h1 d4 c4 h2 d5 c5 h3 d6 d7 tv ?_;exact hL1 _ (Nat.zero_add _) bw bw bw
theorem HU {kl:List am}{ok:am→Bool} (hx:kl.length < 1000000000000) (h:∀y∈kl,∀s,Pc ext 155 [.agg y.cells] (.sc (.bool (ok y))) s) {n0:Nat}{s:PS} (hn:n0≤s.w):∀(k i:Nat) (f:aX),i + k=kl.length→f 3=aU 71 am.cells (some kl)→f 4=iN i→
  Er (fun f' s'=>n0≤s'.w∧f' 2=.sc (.bool ((kl.drop i).all ok))) (LP Tryz.prog Γ ext 0 qZ wN f s):=by
 intro k
 induction k with
 | zero=>
  intro i f hk h3 h4;have e1:decide (i < kl.length)=false:=df;have ha:(kl.drop i).all ok=true:=by rw [List.drop_eq_nil_of_le om]; rfl
  refine ad fun L hL=>?_;simp only [aU] at h3;refine Ej @qZ.eq_1 @wN.eq_1 h3 h4 e1 ha ?_;exact hn
 | succ k ih=>
  intro i f hk h3 h4;have hl:i < kl.length:=om;have e1:decide (i < kl.length)=true:=decide_eq_true hl;have hj:kl[i]?=some kl[i]:=List.getElem?_eq_getElem hl;have hfl:=aJ am.len kl;have hk3:=kX am.len hj;have hc:=h _ (List.getElem_mem hl);have hgo:=ih (i + 1);rw [List.drop_eq_getElem_cons hl,List.all_cons];generalize kl[i]=y at hk3 hc ⊢;simp only [am.cells] at hk3 hc;simp only [aU] at h3;refine ad fun L hL=>?_;cases c:ok y with
  | false=>
   rw [c] at hc;refine DV @qZ.eq_1 @wN.eq_1 h3 h4 e1 hl hfl hk3 hc ?_;exact hn
  | true=>
   rw [c] at hc;refine Cc @qZ.eq_1 h3 h4 e1 hl hfl hk3 hc ?_;subst hL;exact hgo _ om (bm h3) bw
theorem Hm {x:am}{kl:List am}{o:Bool}{ok:am→Bool} (hx:kl.length < 1000000000000) (ho:∀s,Pc ext 181 [.agg x.cells] (.sc (.bool o)) s) (hk:∀s,Pc ext 68 [.agg x.cells] (aU 71 am.cells (eo kl)) s)
  (h:∀y∈kl,∀s,Pc ext 155 [.agg y.cells] (.sc (.bool (ok y))) s) (s:PS):Pc ext 155 [.agg x.cells] (.sc (.bool (o && kl.all ok))) s:=by
 refine lH Qe 2 ?_;unfold Qe;simp only [am.cells] at ho hk ⊢;cases o with
 | false=>
  exact bm ho
 | true=>
  rw [Bool.true_and];cases kl with
  | nil=>
   have z0:decide ((0:Int) < 0)=false:=rfl;simp only [eo,aU] at hk;refine vp ho hk ?_;refine ad fun L hL=>?_;exact jB @qZ.eq_1 @wN.eq_1 z0
  | cons y l=>
   simp only [eo,aU] at hk;refine vp ho hk ?_;exact HU (kl:=y :: l) hx h (n0:=s.n) bw (y :: l).length 0 _ (Nat.zero_add _) (bm @bU) bw
noncomputable def lJ (ext:ar) (x:am):Bool:=xq ext 155 [.agg x.cells] (.sc (.bool true))
noncomputable def vD (ext:ar) (x:am):Bool:=xq ext 181 [.agg x.cells] (.sc (.bool true))
theorem CV {D:Nat} : ∀(d:Nat) (x:am),bB D d x→aR x.cells≤16777216→(∀s,Pc ext 155 [.agg x.cells] (.sc (.bool (lJ ext x))) s)∧(∀s,Pc ext 181 [.agg x.cells] (.sc (.bool (vD ext x))) s)∧
  ∀kl,(∀s,Pc ext 68 [.agg x.cells] (aU 71 am.cells (eo kl)) s)→lJ ext x=(vD ext x && kl.all (lJ ext)):=by
 intro d
 induction d with
 | zero=>intro x h; cases h
 | succ d ih=>
  intro x hx hN;obtain⟨la,lw,lr,lk,li,pt,bd,hd⟩:=hx.dec;have ho:=fun s=>Db (ext:=ext) hd hN s;have hoo:∀s,Pc ext 181 [.agg x.cells] (.sc (.bool (vD ext x))) s:=fun s=>by
   rw [show vD ext x=_ from gN ho];exact ho s
  obtain⟨kl,hk,hy⟩:=Rw (ext:=ext) hx hN;have hf:=fun s=>Hm (ext:=ext) (ok:=lJ ext) (by have:=hk.len; omega) hoo hk.ref (fun y hm=>(ih y (hy y hm).1 (by have:=(hy y hm).2; omega)).1) s;have hb:lJ ext x=(vD ext x && kl.all (lJ ext)):=gN hf;refine⟨fun s=>by rw [hb]; exact hf s,hoo,fun kl' hk'=>?_⟩;have h1:=(hk.ref If).symm.trans (hk' If);injection h1 with h1;injection h1 with h1;have h2:eo kl=eo kl':=eV am.inj am.len h1;have h3:kl=kl':=by rw [← cE kl,← cE kl',h2]
  rw [hb,h3]
theorem NS (a b:Nat):K8 true (a:Int) (b:Int)=((max a b:Nat):Int):=by
 unfold K8;simp only [if_true];split<;>omega
open Classical in
noncomputable def Om (ext:ar) (g:Nat) (a:List PV):Nat:=if h:∃n:Nat,∀s,aH Tryz.prog Γ ext g a s=some (iN n,s) then Classical.choose h else 0
theorem G1 {g:Nat}{a:List PV}{n:Nat} (h:∀s,aH Tryz.prog Γ ext g a s=some (iN n,s)):Om ext g a=n:=by
 unfold Om;have hx:∃n:Nat,∀s,aH Tryz.prog Γ ext g a s=some (iN n,s):=⟨n,h⟩
 rw [dif_pos hx];have h1:=(Classical.choose_spec hx If).symm.trans (h If);injection h1 with h1;injection h1 with h1;injection h1 with h1;injection h1 with _ h1;omega
theorem GM {kl:List am}{g:am→Nat} (hx:kl.length < 1000000000000) (h:∀y∈kl,∀s,Pc ext 154 [.agg y.cells] (iN (g y)) s) {n0:Nat}{s:PS} (hn:n0≤s.w):∀(k i acc:Nat) (f:aX),i + k=kl.length→acc + ((kl.drop i).map g).sum < 1000000000000→f 3=aU 71 am.cells (some kl)→f 4=iN acc→f 5=iN i→
  Er (fun f' s'=>n0≤s'.w∧f' 2=.sc (.int .i64 ((acc + ((kl.drop i).map g).sum:Nat):Int))) (LP Tryz.prog Γ ext 0 sP Ay f s):=by
 intro k
 induction k with
 | zero=>
  intro i acc f hk hb h3 h4 h5;have e1:decide (i < kl.length)=false:=df;have ha:acc + ((kl.drop i).map g).sum=acc:=by rw [List.drop_eq_nil_of_le om]; rfl
  rw [ha];refine ad fun L hL=>?_;simp only [aU] at h3;refine Ej @sP.eq_1 @Ay.eq_1 h3 h4 h5 e1 ?_;exact hn
 | succ k ih=>
  intro i acc f hk hb h3 h4 h5;have hl:i < kl.length:=om;have e1:decide (i < kl.length)=true:=decide_eq_true hl;have hj:kl[i]?=some kl[i]:=List.getElem?_eq_getElem hl;have hfl:=aJ am.len kl;have hk3:=kX am.len hj;have hc:=h _ (List.getElem_mem hl);have hd:acc + ((kl.drop i).map g).sum=acc + g kl[i] + ((kl.drop (i + 1)).map g).sum:=by
   rw [List.drop_eq_getElem_cons hl,List.map_cons,List.sum_cons,Nat.add_assoc]
  have hgo:=ih (i + 1) (acc + g kl[i]);rw [hd] at hb ⊢;have hq:acc + g kl[i] < 1000000000000:=om;generalize kl[i]=y at *;simp only [am.cells] at hk3 hc;simp only [aU] at h3;refine ad fun L hL=>?_;refine DV @sP.eq_1 h3 h4 h5 e1 hl hfl hk3 hc ?_;subst hL;exact hgo _ om hb (bm h3) bw bw
def ut (l:List Nat) (a:Nat):Nat:=l.foldl max a
theorem EO {B:Nat} : ∀(l:List Nat) (a:Nat),a≤B→(∀x∈l,x≤B)→ut l a≤B
 | [],a,h,_=>h
 | x :: l,a,h,hl=>EO l (max a x) (Nat.max_le.2 ⟨h,hl x (List.mem_cons_self ..)⟩) fun y hy=>hl y (List.mem_cons_of_mem _ hy)
theorem Dc {kl:List am}{g:am→Nat} (hx:kl.length < 1000000000000) (h:∀y∈kl,∀s,Pc ext 153 [.agg y.cells] (iN (g y)) s) {n0:Nat}{s:PS} (hn:n0≤s.w):∀(k i acc:Nat) (f:aX),i + k=kl.length→ut ((kl.drop i).map g) acc < 1000000000000→f 3=aU 71 am.cells (some kl)→f 4=iN acc→f 5=iN i→
  Er (fun f' s'=>n0≤s'.w∧f' 2=.sc (.int .i64 ((ut ((kl.drop i).map g) acc + 1:Nat):Int))) (LP Tryz.prog Γ ext 0 tw Ap f s):=by
 intro k
 induction k with
 | zero=>
  intro i acc f hk hb h3 h4 h5;have e1:decide (i < kl.length)=false:=df;have ha:ut ((kl.drop i).map g) acc=acc:=by rw [List.drop_eq_nil_of_le om]; rfl
  rw [ha] at hb ⊢;refine ad fun L hL=>?_;simp only [aU] at h3;refine Ej @tw.eq_1 @Ap.eq_1 h3 h4 h5 e1 ?_;exact hn
 | succ k ih=>
  intro i acc f hk hb h3 h4 h5;have hl:i < kl.length:=om;have e1:decide (i < kl.length)=true:=decide_eq_true hl;have hj:kl[i]?=some kl[i]:=List.getElem?_eq_getElem hl;have hfl:=aJ am.len kl;have hk3:=kX am.len hj;have hc:=h _ (List.getElem_mem hl);have hd:ut ((kl.drop i).map g) acc=ut ((kl.drop (i + 1)).map g) (max acc (g kl[i])):=by
   rw [List.drop_eq_getElem_cons hl,List.map_cons];rfl
  have hgo:=ih (i + 1) (max acc (g kl[i]));rw [hd] at hb ⊢;generalize kl[i]=y at *;simp only [am.cells] at hk3 hc;simp only [aU] at h3;refine ad fun L hL=>?_;refine AZ @tw.eq_1 h3 h4 h5 e1 hl hfl hk3 hc @NS ?_;subst hL;exact hgo _ om hb (bm h3) bw bw
theorem Hf {x:am}{kl:List am}{g:am→Nat} (hx:kl.length < 1000000000000) (hb : 1 + (kl.map g).sum < 1000000000000) (hk:∀s,Pc ext 68 [.agg x.cells] (aU 71 am.cells (eo kl)) s)
  (h:∀y∈kl,∀s,Pc ext 154 [.agg y.cells] (iN (g y)) s) (s:PS):Pc ext 154 [.agg x.cells] (iN (1 + (kl.map g).sum:Nat)) s:=by
 refine lH Qq 2 ?_;unfold Qq;simp only [am.cells] at hk ⊢;cases kl with
 | nil=>
  have z0:decide ((0:Int) < 0)=false:=rfl;simp only [eo,aU] at hk;refine uA hk ?_;refine ad fun L hL=>?_;refine QY @sP.eq_1 @Ay.eq_1 z0 ?_
  first | rfl | exact⟨Nat.le_refl _,rfl⟩
 | cons y l=>
  simp only [eo,aU] at hk;refine uA hk ?_;exact GM (kl:=y :: l) hx h (n0:=s.n) bw (y :: l).length 0 1 _ (Nat.zero_add _) hb (bm @bU) bw bw
theorem EL {x:am}{kl:List am}{g:am→Nat} (hx:kl.length < 1000000000000) (hb:ut (kl.map g) 0 < 1000000000000) (hk:∀s,Pc ext 68 [.agg x.cells] (aU 71 am.cells (eo kl)) s)
  (h:∀y∈kl,∀s,Pc ext 153 [.agg y.cells] (iN (g y)) s) (s:PS):Pc ext 153 [.agg x.cells] (iN (ut (kl.map g) 0 + 1:Nat)) s:=by
 refine lH Q9 2 ?_;unfold Q9;simp only [am.cells] at hk ⊢;cases kl with
 | nil=>
  have z0:decide ((0:Int) < 0)=false:=rfl;have z1:IntKind.i64.wrap ((0:Int) + 1)=1:=rfl;simp only [eo,aU] at hk;refine uA hk ?_;refine ad fun L hL=>?_;refine CJ @tw.eq_1 @Ap.eq_1 z0 z1 ?_
  first | rfl | exact⟨Nat.le_refl _,rfl⟩
 | cons y l=>
  simp only [eo,aU] at hk;refine uA hk ?_;exact Dc (kl:=y :: l) hx h (n0:=s.n) bw (y :: l).length 0 0 _ (Nat.zero_add _) hb (bm @bU) bw bw
theorem xY {g:am→Nat} : ∀l:List am,(∀y∈l,g y≤aR y.cells)→(l.map g).sum≤aR (l.flatMap am.cells)
 | [],_=>Nat.zero_le _
 | y :: l,h=>by
  have h1:=h y (List.mem_cons_self ..);have h2:=xY l fun z hz=>h z (List.mem_cons_of_mem _ hz);rw [List.map_cons,List.sum_cons,xM];omega
noncomputable def lG (ext:ar) (x:am):Nat:=Om ext 154 [.agg x.cells]
noncomputable def iZ (ext:ar) (x:am):Nat:=Om ext 153 [.agg x.cells]
structure Wq (ext:ar) (x:am):Prop where
 r16:∀s,Pc ext 154 [.agg x.cells] (iN (lG ext x)) s
 r18:∀s,Pc ext 153 [.agg x.cells] (iN (iZ ext x)) s
 s1:lG ext x≤aR x.cells
 d1:iZ ext x≤aR x.cells
theorem CW {D:Nat} : ∀(d:Nat) (x:am),bB D d x→aR x.cells≤16777216→Wq ext x∧∀kl,(∀s,Pc ext 68 [.agg x.cells] (aU 71 am.cells (eo kl)) s)→lG ext x=1 + (kl.map (lG ext)).sum∧iZ ext x=ut (kl.map (iZ ext)) 0 + 1:=by
 intro d
 induction d with
 | zero=>intro x h; cases h
 | succ d ih=>
  intro x hx hN;obtain⟨la,lw,lr,lk,li,pt,bd,hd⟩:=hx.dec;have hkb:=hd.kidsBulk;obtain⟨n1,n2,n3,n4⟩:=hd.sizes hN;have hr:=fun s=>hd.kids_ok (ext:=ext) hN s;have hall:=hd.kids;generalize hkl:j9 (lk.getD []) (li.getD []) bd=kl at *;have hlen:kl.length≤16777216:=by
   have h1:=sY (kl.flatMap am.cells);have h2:=aJ am.len kl;omega
  have hY:=fun y hy=>(ih y (hall y hy) (n4 y hy)).1;have hs1:=xY (g:=lG ext) kl fun y hy=>(hY y hy).s1;have hm:ut (kl.map (iZ ext)) 0 + 1≤aR x.cells:=by
   have:ut (kl.map (iZ ext)) 0≤aR (kl.flatMap am.cells):=EO _ _ (Nat.zero_le _) fun z hz=>by
    obtain⟨y,hy,rfl⟩:=List.mem_map.1 hz;exact Nat.le_trans (hY y hy).d1 (gY hy)
   omega
  have a1:=fun s=>Hf (ext:=ext) (x:=x) (g:=lG ext) om om hr (fun y hy=>(hY y hy).r16) s;have a3:=fun s=>EL (ext:=ext) (x:=x) (g:=iZ ext) om om hr (fun y hy=>(hY y hy).r18) s;have e1:lG ext x=1 + (kl.map (lG ext)).sum:=G1 a1;have e2:iZ ext x=ut (kl.map (iZ ext)) 0 + 1:=G1 a3;refine⟨⟨fun s=>by rw [e1]; exact a1 s,fun s=>by rw [e2]; exact a3 s,om,om⟩,fun kl' hk'=>?_⟩;have h1:=(hr If).symm.trans (hk' If);injection h1 with h1;injection h1 with h1;have h2:eo kl=eo kl':=eV am.inj am.len h1;have h3:kl=kl':=by rw [← cE kl,← cE kl',h2]
  rw [← h3];exact⟨e1,e2⟩
noncomputable def rf (ext:ar) (x:am):Int:=if decide (32 < iZ ext x) then 5 else if decide (2048 < lG ext x) then 4 else if lJ ext x then 0 else 1
theorem Fo {D d:Nat}{x:am} (hx:bB D d x) (hN:aR x.cells≤16777216) (s:PS):Pc ext 110 [.agg x.cells] (.sc (.int .i64 (rf ext x))) s:=by
 have hz:=(CW (ext:=ext) d x hx hN).1;have h1:=hz.r16;have h2:=hz.r18;have h3:=(CV (ext:=ext) d x hx hN).1;have hs1:=hz.s1;have hs2:=hz.d1;refine lH Ss 2 ?_;unfold Ss rf;generalize lG ext x=m at *;generalize iZ ext x=n at *;simp only [am.cells] at h1 h2 h3 ⊢;cases c1:decide (32 < n) with
 | true=>simp -implicitDefEqProofs (disch:=omega) only [ZS,seval,h2,c1,if_true]; all_goals exact Nat.le_refl _
 | false=>
  cases c2:decide (2048 < m) with
  | true=>exact qN h1 h2 c1 c2
  | false=>
   cases c3:lJ ext x with
   | true=>rw [c3] at h3; simp -implicitDefEqProofs (disch:=omega) only [ZS,seval,ZX,h1,h2,h3,c1,c2]; all_goals exact Nat.le_refl _
   | false=>rw [c3] at h3; simp -implicitDefEqProofs (disch:=omega) only [ZS,seval,ZX,h1,h2,h3,c1,c2]; all_goals exact Nat.le_refl _
end Go.Proofs.YtokdflgpbfjpcaaGreatDoor
namespace Go.Mir
mutual
def MW:aS→aS→Bool
 | .mk k t o c ps,.mk k' t' o' c' qs=>(k == k' && (t == t' && (o == o' && c == c'))) && kZ ps qs
def kZ:List aS→List aS→Bool
 | [],[]=>true
 | p :: ps,q :: qs=>MW p q && kZ ps qs
 | [],_ :: _=>false
 | _ :: _,[]=>false
end
def kV:aS→List aS
 | .mk _ _ _ _ ps=>ps
theorem B6:∀{l m:List aS},l.length≠m.length→kZ l m=false
 | [],[],h=>absurd rfl h
 | [],_ :: _,_=>by rw [kZ]
 | _ :: _,[],_=>by rw [kZ]
 | p :: l,q :: m,h=>by
  rw [kZ,B6 (fun e=>h (by rw [List.length_cons,List.length_cons,e])),Bool.and_false]
end Go.Mir
namespace Go.Proofs.YtokdflgpbfjpcaaGreatDoor
open Go Go.EvL Go.PE Go.Mir
variable {ext:ar}
theorem au.inj (x y:au) (h:x.cells=y.cells):x=y:=by
 obtain⟨a,b,c,d,e⟩:=x;obtain⟨a',b',c',d',e'⟩:=y;simp only [au.cells] at h;injection h with h1 h;injection h with h2 h;injection h with h3 h;injection h with h4 h;injection h with h5 h;cases h1; cases h2; cases h3; cases h4; cases h5;rfl
theorem xP {R:Nat→Bool} : ∀(l m:List aS) (i0:Nat),l.length=m.length→(∀i p q,l[i]?=some p→m[i]?=some q→R (i0 + i)=MW p q)→iH R i0 l.length=kZ l m
 | [],[],i0,_,_=>by rw [kZ]; rfl
 | [],_ :: _,_,h,_=>by cases h
 | _ :: _,[],_,h,_=>by cases h
 | p :: l,q :: m,i0,h,hr=>by
  rw [kZ,← hr 0 p q rfl rfl,← xP l m (i0 + 1) (by simpa using h) fun i p q h1 h2=>by
   rw [← hr (i + 1) p q (by simpa using h1) (by simpa using h2)];congr 1;omega]
  rfl
theorem nL.at:∀{l:List aS}{xs:List au}{i:Nat}{x:au},nL l xs→xs[i]?=some x→∃p,l[i]?=some p∧uh p x
 | [],_,_,_,h,hx=>by rw [h.nil] at hx; simp at hx
 | p :: l,_,i,x,h,hx=>by
  obtain⟨y,xs',rfl,h1,h2⟩:=h.cons;cases i with
  | zero=>injection hx with hx; subst hx; exact⟨p,rfl,h1⟩
  | succ i=>exact nL.at (i:=i) h2 (by simpa using hx)
theorem uh.kids {p:aS}{x:au} (h:uh p x):tJ (kV p) x.parts:=by
 cases p with
 | mk k t o c ps=>
  rw [uh] at h;obtain⟨_,_,_,_,y,h1,h2⟩:=h;exact⟨y,h1,h2⟩
theorem RZ {p q:aS}{x y:au} (h:uh p x) (k:uh q y):(x.eqB y && kZ (kV p) (kV q))=MW p q:=by
 cases p with
 | mk k1 t1 o1 c1 ps=>
  cases q with
  | mk k2 t2 o2 c2 qs=>
   rw [uh] at h k;obtain⟨rfl,h2,rfl,rfl,_⟩:=h;obtain⟨rfl,k2,rfl,rfl,_⟩:=k;rw [MW,au.eqB,h2,k2,ByteArray.toList_eq,ByteArray.toList_eq];rfl
theorem LE:∀(d:Nat) (a b:PV) (l m:List aS),aN d a→aN d b→tJ l a→tJ m b→(∀s,aH Tryz.prog Γ ext 143 [a,b] s=some (.sc (.bool (kZ l m)),s))∧∀s,aH Tryz.prog Γ ext 151 [a,b] s=some (.sc (.bool (kZ l m)),s):=by
 intro d
 induction d with
 | zero=>intro a b l m h; cases h
 | succ d ih=>
  rintro a b L M ⟨l,rfl,hl,hl'⟩ ⟨m,rfl,hm,hm'⟩ ⟨l2,e1,hL⟩ ⟨m2,e2,hM⟩;obtain rfl:=eV au.inj au.len e1;obtain rfl:=eV au.inj au.len e2;have hr:∀(i:Nat) (x y:au) (p q:aS),(l.getD [])[i]?=some x→(m.getD [])[i]?=some y→L[i]?=some p→M[i]?=some q→(∀s,aH Tryz.prog Γ ext 143 [x.parts,y.parts] s=some (.sc (.bool (kZ (kV p) (kV q))),s))∧∀s,aH Tryz.prog Γ ext 151 [x.parts,y.parts] s=some (.sc (.bool (kZ (kV p) (kV q))),s):=by
   intro i x y p q h1 h2 h3 h4;obtain⟨p',g1,g2⟩:=hL.at h1;obtain⟨q',g3,g4⟩:=hM.at h2;rw [h3] at g1;rw [h4] at g3;injection g1 with g1;injection g3 with g3;subst g1;subst g3;exact ih _ _ _ _ (hl' x (List.mem_of_getElem? h1)) (hm' y (List.mem_of_getElem? h2)) g2.kids g4.kids
  have hln:=hL.length;have hmn:=hM.length;have hR:∃r:Nat→Bool,∀i p q,L[i]?=some p→M[i]?=some q→r i=kZ (kV p) (kV q):=⟨fun i=>match L[i]?,M[i]? with
   | some p,some q=>kZ (kV p) (kV q)
   | _,_=>true,fun i p q h1 h2=>by simp only [h1,h2]⟩
  obtain⟨r,hrr⟩:=hR;have hat:∀{i:Nat}{x:au},(l.getD [])[i]?=some x→∃p,L[i]?=some p∧uh p x:=fun h=>hL.at h;have hbt:∀{i:Nat}{y:au},(m.getD [])[i]?=some y→∃q,M[i]?=some q∧uh q y:=fun h=>hM.at h;have hfin:((l.getD []).length == (m.getD []).length && iH (fun i=>(match (l.getD [])[i]?,(m.getD [])[i]? with | some x,some y=>x.eqB y | _,_=>true) && r i) 0 (l.getD []).length)=kZ L M:=by
   rw [hln,hmn];cases hc:L.length == M.length with
   | false=>rw [Bool.false_and,B6 (aj hc)]
   | true=>
    rw [Bool.true_and];refine xP L M 0 (eq_of_beq hc) fun i p q h1 h2=>?_;have i1:=(List.getElem?_eq_some_iff.1 h1).1;have i2:=(List.getElem?_eq_some_iff.1 h2).1;obtain⟨p',g1,g2⟩:=hat (i:=i) (List.getElem?_eq_getElem om);obtain⟨q',g3,g4⟩:=hbt (i:=i) (List.getElem?_eq_getElem om);rw [h1] at g1;rw [h2] at g3;injection g1 with g1;injection g3 with g3;subst g1;subst g3;simp only [Nat.zero_add,List.getElem?_eq_getElem (show i < (l.getD []).length by omega),List.getElem?_eq_getElem (show i < (m.getD []).length by omega)];rw [hrr i p q h1 h2];exact RZ g2 g4
  have hpq:∀(i:Nat) (x y:au),(l.getD [])[i]?=some x→(m.getD [])[i]?=some y→(∀s,aH Tryz.prog Γ ext 143 [x.parts,y.parts] s=some (.sc (.bool (r i)),s))∧∀s,aH Tryz.prog Γ ext 151 [x.parts,y.parts] s=some (.sc (.bool (r i)),s):=fun i x y h1 h2=>by
   obtain⟨p,g1,_⟩:=hat h1;obtain⟨q,g2,_⟩:=hbt h2;rw [hrr i p q g1 g2];exact hr i x y p q h1 h2 g1 g2
  rw [← hfin];refine⟨fun s=>?_,fun s=>?_⟩
  ·have h132:=s9 (P:=Tryz.prog) (ext:=ext) (e:=155) (t:=155) au.len (by rfl) Qn (l:=l) (m:=m) (fun x hx=>hx.elim (fun h=>au.ones (hl' x h)) (fun h=>au.ones (hm' x h))) (g:=179) hl (r:=fun i=>(match (l.getD [])[i]?,(m.getD [])[i]? with | some x,some y=>x.eqB y | _,_=>true) && r i) (fun i x y h1 h2 s=>by
    simp only [h1,h2];exact Qi x y s (r i) (hpq i x y h1 h2).1)
   rw [ej (fn:=xG) (by rfl) _ _ (by simp [xG])];simp -implicitDefEqProofs only [ZS,seval,ZX,xG,bC,List.map_cons,List.map_nil,List.append_nil,h132]
  ·refine tj hl (G:=151) (nt:=61) (inner:=pH) (by rw [← Rf]; rfl) om (fun i x y h1 h2 f s hin=>?_) s;have h:=SB (ext:=ext) x y (hl' x (List.mem_of_getElem? h1)).one (hm' y (List.mem_of_getElem? h2)).one (r i) (hpq i x y h1 h2).2 h1 h2 f s hin;simp only [h1,h2];exact h
section
variable {ext:ar}
theorem kz {α:Type}{q:α→α→Bool} : ∀{l:List α},(∀x∈l,q x x=true)→iC q l l=true
 | [],_=>rfl
 | x :: l,h=>by rw [iC,h x (List.mem_cons_self ..),kz fun a ha=>h a (List.mem_cons_of_mem _ ha),Bool.and_self]
theorem jc (a:ByteArray):l9 a a=true:=by unfold l9; rw [beq_self_eq_true]
theorem Hx {D d:Nat}{x:aL} (hx:bB D d x.body):mp ext x x=true:=by
 unfold mp;have h:=HB (ext:=ext) d x.body hx;obtain⟨h1,_⟩:=Ez (ext:=ext) hx hx;have e:=(h If).symm.trans (h1 If);injection e with e;injection e with e;injection e with e;injection e with e;rw [← e,jc];rfl
theorem Q7 (n v p f a t o s i l c g e k:Bool):(n && (o && (s && (i && (l && (c && (g && (e && (k && (v && (p && (f && (a && t)))))))))))))=(n && (v && (p && (f && (a && (t && (o && (s && (i && (l && (c && (g && (e && k))))))))))))):=by
 cases n<;>cases v<;>cases p<;>cases f<;>cases a<;>cases t<;>simp
theorem OR {D d:Nat}{x y:dG}{lv lv':Option (List eD)}{lp lp':Option (List ByteArray)}{lf lf':Option (List aL)}{la la':Option (List bN)}{lt lt':Option (List dk)} (h:ju D d x lv lp lf la lt) (k:ju D d y lv' lp' lf' la' lt') :
  ∃Q:Bool,Q=(l9 x.name y.name && (iC Ks (lv.getD []) (lv'.getD []) && (iC l9 (lp.getD []) (lp'.getD []) && (iC (mp ext) (lf.getD []) (lf'.getD []) && (iC vO (la.getD []) (la'.getD []) && (iC BW (lt.getD []) (lt'.getD []) && (x.opts == y.opts && (x.stat == y.stat && (x.pid == y.pid && (x.last == y.last && (l9 x.cwd y.cwd && ((x.gi == y.gi && x.go == y.go) && (x.lev == y.lev && x.talks == y.talks)))))))))))))∧
   (∀s,Pc ext 16 [.agg x.cells,.agg y.cells] (.sc (.bool Q)) s)∧∀s,Pc ext 8 [.agg x.cells,.agg y.cells] (.sc (.bool Q)) s:=by
 have g1:=k.nv;have g2:=k.np;have g3:=k.nf;have g4:=k.na;have g5:=k.nt;have v1:=fun s=>yP (ext:=ext) Wb (la:=lv) (lb:=lv') (Ju _ _) (by have:=h.nv; omega) om s;have v2:=fun s=>Ag (ext:=ext) XH (la:=lv) (lb:=lv') (Ju _ _) (by have:=h.nv; omega) om s;have p1:=fun s=>yP (ext:=ext) Wp (la:=lp) (lb:=lp') (JQ _ _) (by have:=h.np; omega) om s;have p2:=fun s=>Ag (ext:=ext) XI (la:=lp) (lb:=lp') (JQ _ _) (by have:=h.np; omega) om s;have a1:=fun s=>yP (ext:=ext) Vy (la:=la) (lb:=la') (Bu _ _) (by have:=h.na; omega) om s;have a2:=fun s=>Ag (ext:=ext) XP (la:=la) (lb:=la') (Bu _ _) (by have:=h.na; omega) om s;have t1:=fun s=>yP (ext:=ext) VV (la:=lt) (lb:=lt') (G6 _ _) (by have:=h.nt; omega) om s;have t2:=fun s=>Ag (ext:=ext) XM (la:=lt) (lb:=lt') (G6 _ _) (by have:=h.nt; omega) om s;have f1:=fun s=>Ou (ext:=ext) (la:=lf) (lb:=lf') (fun z hz=>(h.node z hz).1) (fun z hz=>(k.node z hz).1) (by have:=h.nf; omega) s;have f2:=fun s=>Mi (ext:=ext) (la:=lf) (lb:=lf') (fun z hz=>(h.node z hz).1) (fun z hz=>(k.node z hz).1) (by have:=h.nf; omega) om s;have cv1:=cK (e:=44) (c:=eD.cells) lv;have cv2:=cK (e:=44) (c:=eD.cells) lv';have cp1:=cK (e:=9) (c:=gq) lp;have cp2:=cK (e:=9) (c:=gq) lp';have cf1:=cK (e:=73) (c:=aL.cells) lf;have cf2:=cK (e:=73) (c:=aL.cells) lf';have ca1:=cK (e:=75) (c:=bN.cells) la;have ca2:=cK (e:=75) (c:=bN.cells) la';have ct1:=cK (e:=46) (c:=dk.cells) lt;have ct2:=cK (e:=46) (c:=dk.cells) lt';rw [← h.v] at v1 v2 cv1;rw [← k.v] at v1 v2 cv2;rw [← h.p] at p1 p2 cp1;rw [← k.p] at p1 p2 cp2;rw [← h.f] at f1 f2 cf1;rw [← k.f] at f1 f2 cf2;rw [← h.a] at a1 a2 ca1;rw [← k.a] at a1 a2 ca2;rw [← h.t] at t1 t2 ct1;rw [← k.t] at t1 t2 ct2;refine⟨_,rfl,fun s=>?_,fun s=>?_⟩
 ·exact QW (ext:=ext) rfl rfl rfl rfl rfl rfl rfl rfl rfl cv1 cv2 cp1 cp2 cf1 cf2 ca1 ca2 ct1 ct2 v1 p1 f1 a1 t1 s
 ·rw [← Q7];exact Sb (ext:=ext) rfl rfl rfl rfl rfl rfl rfl rfl rfl cv1 cv2 cp1 cp2 cf1 cf2 ca1 ca2 ct1 ct2 v2 p2 f2 a2 t2 s
end
theorem OG (s:PS):aH Tryz.prog Γ (Bh 5) 5 [] s=some (.sc (.bool true),s):=by
 rw [GL (by rfl)];rfl
theorem VI:ek Γ 8=true:=(rfl)
theorem W8:ek Γ 5=true:=(rfl)
theorem Qc {P:Program}{n:Nat}{f1 f2 f3 f4 f5 f6 f7 f8 f9 f10 f11 f12 f13 f14:Field}{ls:List (List PV)} (h:zi P n [f1,f2,f3,f4,f5,f6,f7,f8,f9,f10,f11,f12,f13,f14] ls):∃a1 a2 a3 a4 a5 a6 a7 a8 a9 a10 a11 a12 a13 a14,ls=[a1,a2,a3,a4,a5,a6,a7,a8,a9,a10,a11,a12,a13,a14]∧iM P n f1.type a1∧iM P n f2.type a2∧iM P n f3.type a3∧iM P n f4.type a4∧iM P n f5.type a5∧iM P n f6.type a6∧iM P n f7.type a7∧iM P n f8.type a8∧iM P n f9.type a9∧iM P n f10.type a10∧iM P n f11.type a11∧iM P n f12.type a12∧iM P n f13.type a13∧iM P n f14.type a14:=by
 match ls,h with
 | [a1,a2,a3,a4,a5,a6,a7,a8,a9,a10,a11,a12,a13,a14],⟨h1,h2,h3,h4,h5,h6,h7,h8,h9,h10,h11,h12,h13,h14,_⟩=>exact⟨a1,a2,a3,a4,a5,a6,a7,a8,a9,a10,a11,a12,a13,a14,rfl,h1,h2,h3,h4,h5,h6,h7,h8,h9,h10,h11,h12,h13,h14⟩
theorem wW {α:Type}{e N:Nat}{c:α→List PV} (hc:∀d,1≤(c d).length) {l:Option (List α)}{p:PV} (h:p=aU e c l) (hb:aR [p]≤N):(l.getD []).length≤N:=by
 subst h;have h1:=ip (e:=e) hc l;rw [cx,cH] at hb;omega
theorem EK {N:Nat}{a:ByteArray} (hb:aR [.sc (.string a)]≤N):a.data.toList.length≤N:=by
 rw [cx,cH] at hb;have:PV.bulk (.sc (.string a))=a.data.toList.length + 1:=by simp [PV.bulk,Cv]
 omega
theorem env_of {D n:Nat}{ps:List PV} (hD:n≤D) (h:iM Tryz.prog n 30 ps) (hb:aR ps≤16777216):∃(x:dG) (lv:Option (List eD)) (lp:Option (List ByteArray)) (lf:Option (List aL)) (la:Option (List bN)) (lt:Option (List dk)),ps=x.cells∧ju D n x lv lp lf la lt:=by
 obtain⟨k,ls,hk,rfl,hf⟩:=fx Tryz.underlying30 h;clear h;obtain⟨a1,a2,a3,a4,a5,a6,a7,a8,a9,a10,a11,a12,a13,a14,rfl,f1,f2,f3,f4,f5,f6,f7,f8,f9,f10,f11,f12,f13,f14⟩:=Qc hf;have hN : 16777216 < 4611686018427387904:=by decide
 have hsub:∀{x:List PV},x∈[a1,a2,a3,a4,a5,a6,a7,a8,a9,a10,a11,a12,a13,a14]→aR x≤16777216:=fun hx=>Nat.le_trans (cR hx) hb;have b1:=hsub (x:=a1) (by simp);have b2:=hsub (x:=a2) (by simp);have b3:=hsub (x:=a3) (by simp);have b4:=hsub (x:=a4) (by simp);have b5:=hsub (x:=a5) (by simp);have b6:=hsub (x:=a6) (by simp);have b11:=hsub (x:=a11) (by simp);obtain⟨z1,rfl,_⟩:=fg Tryz.underlying9 f1;obtain⟨p2,l2,rfl,g2,_,_⟩:=ou (c:=eD.cells) (Q:=fun _=>True) Tryz.underlying22 f2 (fun d=>by simp [eD.cells]) b2 hN (fun m x hm hx hbx=>by
  obtain⟨k',ls,rfl,rfl,hf⟩:=fx Tryz.underlying44 hx;obtain⟨a,b,c,d,e,rfl,e1,e2,e3,e4,e5⟩:=PG hf;obtain⟨y1,rfl,_⟩:=fg Tryz.underlying9 e1;obtain⟨y2,rfl,_⟩:=fg Tryz.underlying9 e2;obtain⟨y3,rfl⟩:=mY Tryz.underlying4 e3;obtain⟨y4,rfl⟩:=mY Tryz.underlying4 e4;obtain⟨y5,rfl⟩:=mY Tryz.underlying4 e5;exact⟨⟨y1,y2,y3,y4,y5⟩,rfl,trivial⟩)
 obtain⟨p3,l3,rfl,g3,_,_⟩:=ou (c:=gq) (Q:=fun _=>True) Tryz.underlying23 f3 (fun d=>by simp [gq]) b3 hN (fun m x hm hx hbx=>by
  obtain⟨y1,rfl,_⟩:=fg Tryz.underlying9 hx;exact⟨y1,rfl,trivial⟩)
 obtain⟨p4,l4,rfl,g4,_,q4⟩:=ou (c:=aL.cells) (Q:=fun y=>bB D n y.body∧aR y.body.cells≤16777216) Tryz.underlying24 f4 (fun d=>by simp [aL.cells]) b4 hN (fun m x hm hx hbx=>by
  obtain⟨k',ls,rfl,rfl,hf⟩:=fx Tryz.underlying73 hx;obtain⟨a,b,rfl,e1,e2⟩:=xO hf;obtain⟨y1,rfl,_⟩:=fg Tryz.underlying9 e1;have hbb:aR b≤16777216:=Nat.le_trans (cR (by simp)) hbx;obtain⟨y2,rfl,hy⟩:=OV hN (D:=D) k' om b e2 hbb;exact⟨⟨y1,y2⟩,by simp [aL.cells],hy.mono om,hbb⟩)
 obtain⟨p5,l5,rfl,g5,_,_⟩:=ou (c:=bN.cells) (Q:=fun _=>True) Tryz.underlying25 f5 (fun d=>by simp [bN.cells]) b5 hN (fun m x hm hx hbx=>by
  obtain⟨k',ls,rfl,rfl,hf⟩:=fx Tryz.underlying75 hx;obtain⟨a,b,rfl,e1,e2⟩:=xO hf;obtain⟨y1,rfl,_⟩:=fg Tryz.underlying9 e1;obtain⟨y2,rfl,_⟩:=fg Tryz.underlying9 e2;exact⟨⟨y1,y2⟩,rfl,trivial⟩)
 obtain⟨p6,l6,rfl,g6,_,_⟩:=ou (c:=dk.cells) (Q:=fun _=>True) Tryz.underlying26 f6 (fun d=>by simp [dk.cells]) b6 hN (fun m x hm hx hbx=>by
  obtain⟨k',ls,rfl,rfl,hf⟩:=fx Tryz.underlying46 hx;obtain⟨a,b,rfl,e1,e2⟩:=xO hf;obtain⟨y1,rfl,_⟩:=hZ Tryz.underlying3 e1;obtain⟨y2,rfl,_⟩:=fg Tryz.underlying9 e2;exact⟨⟨y1,y2⟩,rfl,trivial⟩)
 obtain⟨z7,rfl,_⟩:=hZ Tryz.underlying3 f7;obtain⟨z8,rfl,_⟩:=hZ Tryz.underlying3 f8;obtain⟨z9,rfl,_⟩:=hZ Tryz.underlying3 f9;obtain⟨z10,rfl,_⟩:=hZ Tryz.underlying3 f10;obtain⟨z11,rfl,_⟩:=fg Tryz.underlying9 f11;obtain⟨k2,ls2,_,rfl,hf2⟩:=fx Tryz.underlying28 f12;obtain⟨c1,c2,rfl,e1,e2⟩:=xO hf2;obtain⟨y1,rfl,_⟩:=hZ Tryz.underlying3 e1;obtain⟨y2,rfl,_⟩:=hZ Tryz.underlying3 e2;obtain⟨z13,rfl,_⟩:=hZ Tryz.underlying3 f13;obtain⟨z14,rfl⟩:=mY Tryz.underlying4 f14;refine⟨⟨z1,p2,p3,p4,p5,p6,z7,z8,z9,z10,z11,y1,y2,z13,z14⟩,l2,l3,l4,l5,l6,rfl,⟨g2,g3,g4,g5,g6,wW (fun d=>by simp [eD.cells]) g2 b2,wW (fun d=>by simp [gq]) g3 b3,wW (fun d=>by simp [aL.cells]) g4 b4,wW (fun d=>by simp [bN.cells]) g5 b5,wW (fun d=>by simp [dk.cells]) g6 b6,q4,EK b1,EK b11⟩⟩
end Go.Proofs.YtokdflgpbfjpcaaGreatDoor
namespace Go.PE
open Go Go.EvL
section
variable {P:Program}{Γ:Nat→Option gk}{ext:ar}
def km (t es bytes:Nat) (z:List Value) (keep:Bool):gk:=⟨14,(sr [mk 2 (.slice none 0 0)]
 (.seq (tO [mt 4 0,ob 5 (.len false (tp 4)),ob 6 (bi .eql 5 0)] 6
 (sr [mk 2 (.slice none 0 0)]
 .ret)
 .skip)
 (sr [mt 7 0,ob 8 (.len false (tp 7)),ob 9 (.mks t es bytes z (tp 8) (tp 8)),mt 3 9]
 (sr [mt 10 3,mt 11 0,ob 12 (.cpy es (tp 10) (tp 11))]
 (sr [mt 13 3,mt 2 13]
 .ret))))),[.tmp 2],keep⟩
def BN (t es:Nat):bj:=(sr [ob 12 (bn .lss 3 11 10)]
 (.seq (.cond (tp 12)
 .skip
 (.exit 0))
 (.seq (.block 1 (sr [mt 13 11,mt 6 13]
 (.reg [mt 14 5,mt 15 6,mt 16 1,mt 17 5,mt 18 6,ob 19 (.iaddr es (tp 17) (tp 18)),ob 20 (.load t true es (tp 19)),ob 21 (.call (tp 16) [(tp 20)]),ob 22 (.iaddr es (tp 14) (tp 15)),o0 (.store t es (tp 22) (tp 21))])))
 (.reg [ob 23 (bi .add 11 1),mt 11 23]))))
def FN:bj:=(sr [mt 24 5,mt 4 24]
 .ret)
def lm (t es H:Nat):gk:=⟨25,(sr [mk 4 (.slice none 0 0)]
 (sr [mt 7 0,ob 8 (cl H [(tp 7)]),mt 5 8]
 (.seq (sr [mt 9 5,ob 10 (.len false (tp 9)),mk 11 (.int .i64 0)]
 (.block 0 (.loop (BN t es)))) FN))),[.tmp 4],false⟩
theorem HH (z:List Value) (es n:Nat):(tL z es n).length=n * es:=by simp [tL]
theorem Ft {α:Type}{t e es bytes G:Nat}{z:List Value}{keep:Bool}{c:α→List PV} (hc:∀x,(c x).length=es) (hby:bytes≤1024) {l:List α} (hl:l≠[]) (hbig:l.length≤16777216) (ho:∀x∈l,(c x).all db=true) (s:PS) :
  Er (fun f' s'=>f' 2=.own s.n 0 l.length (l.length * es)∧s'.n=s.n + 1∧s'.w=s.n∧s'.h s.n=⟨l.flatMap c,l.length * es,t⟩∧∀j,j < s.n→s'.h j=s.h j) (aT P Γ ext (km t es bytes z keep).body (bC [aU e c (some l)] 0) ⟨s.h,s.n,s.n⟩):=by
 have hn : 0 < l.length:=List.length_pos_iff.2 hl;have c0:(l.length == 0)=false:=by
  cases h:l.length with
  | zero=>omega
  | succ n=>rfl
 have hfl:=aJ hc l;have hone:(l.flatMap c).all db=true:=by rw [List.all_flatMap]; exact List.all_eq_true.2 ho
 have b1:bytes * l.length≤281474976710656:=Nat.le_trans (Nat.mul_le_mul hby hbig) (by decide);have b2:l.length≤1073741824:=om;have hlen:=HH z es l.length;have hel:∀s:PS,iy s es (.lit e l.length (l.flatMap c))=some (l.flatMap c,l.length):=fun s=>by
  unfold iy;simp only [hfl,if_true]
 have hst:∀s:PS,∀k,s.h k=⟨tL z es l.length,0,t⟩→Gb s (.ptr k 0 (l.length * es)) (l.flatMap c)=some (s.put k ⟨l.flatMap c,l.length * es,t⟩):=fun s k hk=>by
  unfold Gb;simp only [hk,hfl,hlen,hone,Nat.zero_add,Nat.le_refl,and_self,if_true,List.take_zero,List.nil_append];rw [List.drop_of_length_le (by rw [hlen]; exact Nat.le_refl _),List.append_nil]
 have hst':=hst ((⟨s.h,s.n,s.n⟩ : PS).new ⟨tL z es l.length,0,t⟩) s.n (if_pos rfl);have cn:(l.length=0)=False:=eq_false om;unfold km;refine DV @bU c0 b1 b2 hlen hel hst' cn hfl ?_;intro j hj;rw [if_neg om,if_neg om]
theorem FU {α:Type}{t e es bytes G:Nat}{z:List Value}{keep:Bool}{c:α→List PV}{y:Option (List α)} (hy:y.getD []=[]) (s:PS) :
  Er (fun f' s'=>f' 2=.sc (.slice none 0 0)∧s'=⟨s.h,s.n,s.n⟩) (aT P Γ ext (km t es bytes z keep).body (bC [aU e c y] 0) ⟨s.h,s.n,s.n⟩):=by
 have z0:((0:Int) == 0)=true:=rfl;have z1:(0 == 0)=true:=rfl;cases y with
 | none=>
  unfold km;exact qO @bU z0
 | some l=>
  simp only [Option.getD_some] at hy;subst hy;unfold km;exact qO @bU z1
theorem yV {α:Type}{t es bytes G:Nat}{z:List Value}{c:α→List PV} (hG:Γ G=some (km t es bytes z false)) (hc:∀x,(c x).length=es) (hby:bytes≤1024) {y:Option (List α)} (hbig:(y.getD []).length≤16777216) (ho:∀x∈y.getD [],(c x).all db=true∧(c x).all dj=true) (s:PS) :
  aH P Γ ext G [aU t c y] s=some (aU t c (eo (y.getD [])),s):=by
 by_cases hy:y.getD []=[]
 ·rw [hy];refine iQ hG (by simp [km]) (FU (G:=G) hy s) ?_;rintro f s' ⟨h1,rfl⟩;refine gx (vs:=[f 2]) (by rfl) (by rfl) (Nat.le_refl _) ?_;rw [h1];rfl
 ·obtain⟨l,rfl⟩ : ∃l,y=some l:=by cases y with | none=>exact absurd rfl hy | some l=>exact⟨l,rfl⟩
  simp only [Option.getD_some] at hy hbig ho ⊢;refine iQ hG (by simp [km]) (Ft (G:=G) hc hby hy hbig (fun x hx=>(ho x hx).1) s) ?_;rintro f s' ⟨h1,h2,h3,h4,_⟩;refine gx (vs:=[f 2]) (by rfl) (by rfl) om ?_;rw [h1];have hfl:=aJ hc l;have hcl:(l.flatMap c).all dj=true:=by rw [List.all_flatMap]; exact List.all_eq_true.2 fun x hx=>(ho x hx).2
  show cM s.n s' (.own s.n 0 l.length (l.length * es))=_;unfold cM;simp only [h4];rw [if_neg (Nat.lt_irrefl _),List.drop_zero,Nat.sub_zero,List.take_of_length_le om,if_pos ⟨Nat.le_refl _,om,Nat.zero_le _,hcl⟩];cases l with
  | nil=>exact absurd rfl hy
  | cons x l=>rfl
theorem Lb {α:Type}{t es bytes G:Nat}{z:List Value}{c:α→List PV} (hG:Γ G=some (km t es bytes z true)) (hc:∀x,(c x).length=es) (hby:bytes≤1024) {l:List α} (hl:l≠[]) (hbig:l.length≤16777216) (ho:∀x∈l,(c x).all db=true) (s:PS) :
  ∃s',aH P Γ ext G [aU t c (some l)] s=some (.own s.n 0 l.length (l.length * es),s')∧s'.n=s.n + 1∧s'.w=min s.w s.n∧s'.h s.n=⟨l.flatMap c,l.length * es,t⟩∧∀j,j < s.n→s'.h j=s.h j:=by
 obtain⟨f,s1,e1,h1,h2,h3,h4,h5⟩:=Ft (P:=P) (Γ:=Γ) (ext:=ext) (G:=G) (t:=t) (e:=t) (bytes:=bytes) (z:=z) (keep:=true) hc hby hl hbig ho s;refine⟨⟨s1.h,s1.n,min s.w s1.w⟩,?_,h2,by show min s.w s1.w=_; rw [h3],h4,h5⟩;rw [ej hG _ _ (by simp [km]),e1,ke];unfold b9;show (cV f s1 [.tmp 2]).bind _=_;simp only [cV,h1,Option.map_some,Option.bind_some];rfl
theorem Gr {α:Type}{t es bytes G:Nat}{z:List Value}{c:α→List PV} (hG:Γ G=some (km t es bytes z true)) {y:Option (List α)} (hy:y.getD []=[]) (s:PS) :
  aH P Γ ext G [aU t c y] s=some (.sc (.slice none 0 0),⟨s.h,s.n,min s.w s.n⟩):=by
 obtain⟨f,s1,e1,h1,rfl⟩:=FU (P:=P) (Γ:=Γ) (ext:=ext) (G:=G) (t:=t) (e:=t) (es:=es) (bytes:=bytes) (z:=z) (keep:=true) (c:=c) hy s;rw [ej hG _ _ (by simp [km]),e1,ke];unfold b9;show (cV f _ [.tmp 2]).bind _=_;simp only [cV,h1,Option.map_some,Option.bind_some];rfl
theorem Gd {α:Type}{t es g kb:Nat}{c:α→List PV} (hc:∀x,(c x).length=es) (hes:es≠0) {l:List α} (hbig:l.length≤16777216) (hes2:es≤1000) {cp:α→α} (hr:∀x∈l,∀s,aH P Γ ext g [.agg (c x)] s=some (.agg (c (cp x)),s)) (ho:∀x∈l,(c (cp x)).all db=true) {n0:Nat} (hk:n0≤kb) :
  ∀(j i:Nat) (f:aX) (s:PS),i + j=l.length→n0≤s.w→kb < s.n→f 1=.fn g [] []→f 5=.own kb 0 l.length (l.length * es)→f 10=.sc (.int .i64 (l.length:Int))→f 11=iN i→s.h kb=⟨((l.take i).map cp ++ l.drop i).flatMap c,l.length * es,t⟩→
  Er (fun f' s'=>n0≤s'.w∧f' 4=.own kb 0 l.length (l.length * es)∧s'.h kb=⟨(l.map cp).flatMap c,l.length * es,t⟩) (LP P Γ ext 0 (BN t es) FN f s):=by
 intro j
 induction j with
 | zero=>
  intro i f s hij hw hkn h1 h5 h10 h11 hh;have e1:decide (i < l.length)=false:=df;rw [List.take_of_length_le om,List.drop_of_length_le om,List.append_nil] at hh;refine ad fun L hL=>?_;unfold BN FN;refine He h1 h5 h10 h11 e1 ?_;exact⟨hw,hh⟩
 | succ j ih=>
  intro i f s hij hw hkn h1 h5 h10 h11 hh;have hl:i < l.length:=om;have e1:decide (i < l.length)=true:=decide_eq_true hl;have hx:l[i]?=some l[i]:=List.getElem?_eq_getElem hl;have hcall:=hr l[i] (List.getElem_mem ..);have hone:=ho l[i] (List.getElem_mem ..);have hdr:l.drop i=l[i] :: l.drop (i + 1):=List.drop_eq_getElem_cons hl;have htk:(l.take (i + 1)).map cp=(l.take i).map cp ++ [cp l[i]]:=by rw [List.take_add_one,hx,List.map_append]; rfl
  generalize l[i]=x at *;have hA:(((l.take i).map cp).flatMap c).length=i * es:=by rw [aJ hc,List.length_map,List.length_take,Nat.min_eq_left om]
  have hcx:=hc x;have hcy:=hc (cp x);have hB:=aJ hc (l.drop (i + 1));rw [List.length_drop] at hB;have hmul:i * es + es + (l.length - (i + 1)) * es=l.length * es:=by
   rw [show l.length=i + 1 + (l.length - (i + 1)) by omega,Nat.add_mul,Nat.add_mul,Nat.one_mul,show i + 1 + (l.length - (i + 1)) - (i + 1)=l.length - (i + 1) by omega]
  rw [hdr,List.flatMap_append,List.flatMap_cons] at hh;generalize hAA:((l.take i).map cp).flatMap c=A at *;generalize hBB:(l.drop (i + 1)).flatMap c=B at *;have hlen:(A ++ (c x ++ B)).length=l.length * es:=by rw [List.length_append,List.length_append,hA,hcx,hB]; omega
  have hld:xr s (.ptr kb (i * es) (l.length * es)) es=some (c x):=by
   unfold xr;simp only [hh];rw [if_pos ⟨om,Nat.le_refl _,om⟩,List.drop_append,List.drop_of_length_le om,List.nil_append,hA,Nat.sub_self,List.drop_zero,List.take_left' hcx]
  have hst:Gb s (.ptr kb (i * es) (l.length * es)) (c (cp x))=some (s.put kb ⟨A ++ (c (cp x) ++ B),l.length * es,t⟩):=by
   unfold Gb;simp only [hh];rw [if_pos ⟨om,om,hone⟩,List.take_left' hA,hcy,List.drop_append,List.drop_of_length_le om,List.nil_append,hA,show i * es + es - i * es=es by omega,List.drop_left' hcx]
  refine ad fun L hL=>?_;unfold BN;refine jU h1 h5 h10 h11 e1 hl hld hst hcall hcy and_self tv ?_;subst hL;refine ih (i + 1) _ _ om ?_ ?_ (bm h1) (bm h5) (bm h10) bw ?_
  ·rw [mo]; omega
  ·rw [eU]; exact hkn
  ·rw [eZ,if_pos rfl,htk,List.flatMap_append,List.flatMap_append,hAA,hBB];simp
theorem Oo {α:Type}{t es bytes G H g:Nat}{z:List Value}{c:α→List PV} (hG:Γ G=some (lm t es H)) (hH:Γ H=some (km t es bytes z true)) (hc:∀x,(c x).length=es) (hes:es≠0) (hes2:es≤1000) (hby:bytes≤1024) {y:Option (List α)} (hbig:(y.getD []).length≤16777216) {cp:α→α} (ho:∀x∈y.getD [],(c x).all db=true∧(c (cp x)).all db=true∧(c (cp x)).all dj=true)
  (hr:∀x∈y.getD [],∀s,aH P Γ ext g [.agg (c x)] s=some (.agg (c (cp x)),s)) (s:PS) :
  aH P Γ ext G [aU t c y,.fn g [] []] s=some (aU t c (eo ((y.getD []).map cp)),s):=by
 by_cases hy:y.getD []=[]
 ·rw [hy];refine fe (fn:=lm t es H) (r:=4) hG (by simp [lm]) (by rfl) (by rfl) ?_;have h0:=Gr (P:=P) (ext:=ext) (c:=c) hH hy;have z0:decide ((0:Int) < 0)=false:=rfl;unfold lm;refine uA h0 ?_;refine ad fun L hL=>?_;unfold BN FN;exact bm z0
 ·obtain⟨l,rfl⟩ : ∃l,y=some l:=by cases y with | none=>exact absurd rfl hy | some l=>exact⟨l,rfl⟩
  simp only [Option.getD_some] at hy hbig ho hr ⊢;obtain⟨s1,h1,h2,h3,h4,h5⟩:=Lb (P:=P) (ext:=ext) hH hc hby hy hbig (fun x hx=>(ho x hx).1) ⟨s.h,s.n,s.n⟩;have h3':s1.w=s.n:=by rw [h3]; exact Nat.min_self _
  simp only at h1 h2 h4 h5;refine iQ (V:=fun f' s'=>s.n≤s'.w∧f' 4=.own s.n 0 l.length (l.length * es)∧s'.h s.n=⟨(l.map cp).flatMap c,l.length * es,t⟩) hG (by simp [lm]) ?_ ?_
  ·unfold lm;refine uA h1 ?_;exact Gd hc hes hbig hes2 hr (fun x hx=>(ho x hx).2.1) (Nat.le_refl _) l.length 0 _ _ (Nat.zero_add _) om om bw bw bw bw (by rw [List.take_zero,List.drop_zero]; exact h4)
  ·rintro f s' ⟨hw,g1,g2⟩;refine gx (vs:=[f 4]) (by rfl) (by rfl) hw ?_;rw [g1];have hfl:=aJ hc (l.map cp);rw [List.length_map] at hfl;have hcl:((l.map cp).flatMap c).all dj=true:=by
    rw [List.all_flatMap];refine List.all_eq_true.2 fun x hx=>?_;obtain⟨w,hw,rfl⟩:=List.mem_map.1 hx;exact (ho w hw).2.2
   show cM s.n s' (.own s.n 0 l.length (l.length * es))=_;unfold cM;simp only [g2];rw [if_neg (Nat.lt_irrefl _),List.drop_zero,Nat.sub_zero,List.take_of_length_le om,if_pos ⟨Nat.le_refl _,om,Nat.zero_le _,hcl⟩];cases l with
   | nil=>exact absurd rfl hy
   | cons x l=>simp only [List.map_cons,eo,aU,List.length_cons,List.length_map]
end
end Go.PE
namespace Go.Proofs.YtokdflgpbfjpcaaGreatDoor
open Go Go.EvL Go.PE Go.Mir
variable {ext:ar}
theorem DW {t:List UInt8}{p:Nat}{r:R} (hp:gy t p r) {d:Nat}{v:PV}{l:List aS} (h:aN d v) (hl:tJ l v):∀ps j,r=.ok (ps,j)→(∀s,Pc ext 143 [dl ps,v] (.sc (.bool (kZ ps l))) s)∧∀s,Pc ext 151 [dl ps,v] (.sc (.bool (kZ ps l))) s:=by
 rintro ps j rfl;obtain⟨e,he⟩:=rU hp;exact LE (max d e) _ _ _ _ (he.mono (Nat.le_max_right ..)) (h.mono (Nat.le_max_left ..)) (NM ps) hl
theorem Fv {l:List aS} (hsz:gW l < 1000000000000):∃(b:Bool) (T:List UInt8) (b5:Bool) (T5:List UInt8),∀d v,aN d v→tJ l v→(∀s,Pc ext 242 [v] (.sc (.int .i64 (if b then 0 else 1))) s)∧
  (∀s,Pc ext 252 [v] (.tup [.sc (.string ⟨⟨T⟩⟩),.sc (.int .i64 (if b then 0 else 1))]) s)∧∀s,Pc ext 253 [v] (.tup [.sc (.string ⟨⟨T5⟩⟩),.sc (.bool b5)]) s:=by
 obtain⟨r,hr⟩:=gy.total (dS 0 l) 0;obtain⟨r5,hr5⟩:=gy.total (dS 5 l) 5;refine⟨Fi (fun ps=>kZ ps l) r,if Fi (fun ps=>kZ ps l) r then dS 0 l else [],Fi (fun ps=>kZ ps l) r5,dS 5 l,fun d v h hl=>⟨fun s=>?_,fun s=>?_,fun s=>?_⟩⟩
 ·exact yM hsz hl (fun ps j e=>(DW hr h hl ps j e).2) hr s
 ·exact Iq hsz hl (fun ps j e=>(DW hr h hl ps j e).2) hr s
 ·exact uQ hsz hl (fun ps j e=>(DW hr5 h hl ps j e).2) hr5 s
theorem tJ.len {l:List aS}{v:PV} (h:tJ l v):gB false v=some (.sc (.int .i64 (l.length:Int))):=by
 obtain⟨y,rfl,h⟩:=h;rw [bT,h.length]
theorem N7 {l:List aS} (hsz:gW l < 1000000000000):∃(b1 b2:Bool),∀d v,aN d v→tJ l v→okW ext v=b1∧okV ext v=b2:=by
 obtain⟨b,T,b5,T5,hall⟩:=Fv (ext:=ext) hsz;refine⟨b && decide (0 < l.length) && !T.isEmpty && !(bt T 0 == 35),b,fun d v h hl=>?_⟩;obtain⟨h1,h2,h3⟩:=hall d v h hl;exact⟨gN fun s=>Il (ext:=ext) hl.len h.one'.2 h2 s,y7 h1⟩
theorem nL.one {l:List aS}{xs xs':List au} (h:nL l xs) (h':nL l xs') (b:Bool):wS xs b=wS xs' b∧i3 xs=i3 xs':=by
 match l with
 | []=>rw [h.nil,h'.nil]; exact⟨rfl,rfl⟩
 | [p]=>
  obtain⟨x,r,rfl,h1,h2⟩:=h.cons;obtain⟨x',r',rfl,h1',h2'⟩:=h'.cons;rw [h2.nil,h2'.nil];cases p with
  | mk k t o c ps=>
   rw [uh] at h1 h1';obtain⟨e1,e2,e3,e4,y,e5,e6⟩:=h1;obtain⟨g1,g2,g3,g4,z,g5,g6⟩:=h1';have q:=e6.length;have q':=g6.length;simp only [wS,Ir,i3,Hl,DT,Dq,e1,e2,e3,e4,e5,g1,g2,g3,g4,g5,Fz,q,q',and_self]
 | p :: q :: l=>
  obtain⟨x,r,rfl,h1,h2⟩:=h.cons;obtain⟨x',r',rfl,h1',h2'⟩:=h'.cons;obtain⟨y,r,rfl,_,_⟩:=h2.cons;obtain⟨y',r',rfl,_,_⟩:=h2'.cons;cases p with
  | mk k t o c ps=>
   rw [uh] at h1 h1';obtain⟨e1,e2,_⟩:=h1;obtain⟨g1,g2,_⟩:=h1';simp only [wS,i3,Hl,DT,Dq,e1,e2,g1,g2,and_self]
theorem SC {l:List aS} (hsz:gW l < 1000000000000) {d d':Nat}{v v':PV} (h:aN d v) (h':aN d' v') (hl:tJ l v) (hl':tJ l v') (hb:v.bulk≤16777216) (hb':v'.bulk≤16777216):okH ext v=okH ext v':=by
 obtain⟨b,T,b5,T5,hall⟩:=Fv (ext:=ext) hsz;have key:∀d v,aN d v→tJ l v→v.bulk≤16777216→∃y,v=aU 155 au.cells y∧nL l (y.getD [])∧okH ext v=wS (y.getD []) b5:=by
  intro d v h hl hb;have h3:=(hall d v h hl).2.2;cases d with
  | zero=>cases h
  | succ d=>
   obtain⟨y,rfl,h1,h2⟩:=h;obtain⟨t1,t2⟩:=vU hb;obtain⟨y2,e2,hD⟩:=hl;obtain rfl:=eV au.inj au.len e2;exact⟨y,rfl,hD,gN fun s=>IC (ext:=ext) (y:=y) om (fun p hp=>⟨by have:=(t2 p hp).1; omega,(h2 p hp).sl⟩) h3 s⟩
 obtain⟨y,_,g1,g2⟩:=key d v h hl hb;obtain⟨y',_,g1',g2'⟩:=key d' v' h' hl' hb';rw [g2,g2',(g1.one g1' b5).1]
theorem OP {l:List aS}{v v':PV} (hl:tJ l v) (hl':tJ l v'):i3 (EV v)=i3 (EV v'):=by
 obtain⟨y,e,hD⟩:=hl;obtain⟨y',e',hD'⟩:=hl';obtain⟨z,g,gp⟩:=Ei ⟨y,e⟩;obtain⟨z',g',gp'⟩:=Ei ⟨y',e'⟩;obtain rfl:=eV au.inj au.len (e.symm.trans g);obtain rfl:=eV au.inj au.len (e'.symm.trans g');rw [← gp,← gp'];exact (hD.one hD' true).2
theorem j6 {α:Type}{c:α→List PV}{Q:α→α→Prop} (hq:∀y x,Q y x→aR (c y)≤aR (c x)) {l m:List α} (h:fk Q l m):aR (l.flatMap c)≤aR (m.flatMap c):=by
 induction h with
 | nil=>exact Nat.le_refl _
 | cons x y l m h _ ih=>
  rw [List.flatMap_cons,List.flatMap_cons,j7,j7];have:=hq _ _ h;omega
theorem fk.right {α β:Type}{Q:α→β→Prop}{R:β→Prop}{l:List α}{m:List β} (h:fk Q l m):(∀y∈m,R y)→fk (fun a b=>Q a b∧R b) l m:=by
 induction h with
 | nil=>exact fun _=>.nil
 | cons x y l m h _ ih=>exact fun hr=>.cons _ _ _ _ ⟨h,hr y (List.mem_cons_self ..)⟩ (ih fun z hz=>hr z (List.mem_cons_of_mem _ hz))
theorem fk.all_eq {α β:Type}{Q:α→β→Prop}{f:α→Bool}{g:β→Bool} (hq:∀x y,Q x y→f x=g y) {l:List α}{m:List β} (h:fk Q l m):l.all f=m.all g:=by
 induction h with
 | nil=>rfl
 | cons x y l m h _ ih=>rw [List.all_cons,List.all_cons,hq _ _ h,ih]
theorem qA.all:∀(d:Nat) (y x:PV),qA d y x→aN d x→aN d y∧y.bulk≤x.bulk∧∀l,tJ l x→tJ l y:=by
 intro d
 induction d with
 | zero=>intro y x _ h; cases h
 | succ d ih=>
  rintro y x h ⟨m,rfl,hm,hm'⟩;obtain⟨l,rfl,h2⟩:=io.lists (c:=au.cells) au.inj au.len (show io 155 au.cells _ y _ from h) rfl;have h3:=h2.right hm';have hlen:=h2.len;refine⟨⟨l,rfl,om,fun z hz=>?_⟩,?_,?_⟩
  ·obtain⟨w,hw,hq,hp⟩:=h3.mem z hz;exact (ih _ _ hq.2 hp).1
  ·rw [← dO,← dO];have:=j6 (c:=au.cells) (fun z w hq=>by
    have h1:=(ih _ _ hq.1.2 hq.2).2.1;simp only [au.cells,cx,cH,hq.1.1.2.1];have e1:(PV.sc (.int .i64 z.kind)).bulk=(PV.sc (.int .i64 w.kind)).bulk:=by simp only [PV.bulk,Cv]
    have e2:(PV.sc (.int .i64 z.op)).bulk=(PV.sc (.int .i64 w.op)).bulk:=by simp only [PV.bulk,Cv]
    have e3:(PV.sc (.bool z.colon)).bulk=(PV.sc (.bool w.colon)).bulk:=by simp only [PV.bulk,Cv]
    omega) h3
   omega
  ·rintro L ⟨m2,e2,hD⟩;obtain rfl:=eV au.inj au.len e2;refine⟨l,rfl,?_⟩;generalize m.getD []=M at *;generalize l.getD []=N at *;clear hm hlen h2 h e2
   induction h3 generalizing L with
   | nil=>exact hD
   | cons z w N M hq _ ih2=>
    cases L with
    | nil=>rw [nL] at hD; cases hD
    | cons p L=>
     obtain⟨w',M',e,k1,k2⟩:=hD.cons;cases e;rw [nL];refine⟨z,N,rfl,?_,ih2 _ (fun v hv=>hm' v (List.mem_cons_of_mem _ hv)) k2⟩;cases p with
     | mk k t o c ps=>
      rw [uh] at k1 ⊢;obtain⟨q1,q2,q3,q4,q5⟩:=k1;obtain⟨⟨a1,a2,a3,a4⟩,a5⟩:=hq.1;have hk:=(ih _ _ a5 hq.2).2.2 ps q5;exact⟨a1.trans q1,a2.trans q2,a3.trans q3,a4.trans q4,hk⟩
theorem oe (k:IntKind) (a:Int):(PV.sc (.int k a)).bulk=1:=by simp only [PV.bulk,Cv]
theorem GK (b:Bool):(PV.sc (.bool b)).bulk=1:=by simp only [PV.bulk,Cv]
theorem iv {D:Nat}{y x:PV} (h:qA D y x) (hx:aN D x) (hb:x.bulk≤16777216):aN D y∧y.bulk≤x.bulk∧okW ext y=okW ext x∧okV ext y=okV ext x∧okH ext y=okH ext x∧i3 (EV y)=i3 (EV x):=by
 obtain⟨h1,h2,h3⟩:=qA.all D y x h hx;obtain⟨l,hl⟩:=hx.read;have hs:=mI hl;obtain⟨b1,b2,hw⟩:=N7 (ext:=ext) (l:=l) om;obtain⟨e1,e2⟩:=hw _ _ hx hl;obtain⟨g1,g2⟩:=hw _ _ h1 (h3 l hl);exact⟨h1,h2,g1.trans e1.symm,g2.trans e2.symm,SC om h1 hx (h3 l hl) hl om hb,OP (h3 l hl) hl⟩
theorem Ho {Q:ay→ay→Prop}{f g:ay→Bool} (hq:∀y x,Q y x→f y=g x) {l m:List ay} (h:fk Q l m):oS l f=oS m g:=by
 cases h with
 | nil=>rfl
 | cons y x l m h _=>exact hq y x h
theorem sU {D:Nat} : ∀(d:Nat) (y x:am),nG D d y x→bB D d x→aR x.cells≤16777216→bB D d y∧aR y.cells≤aR x.cells∧vD ext y=vD ext x∧lJ ext y=lJ ext x∧lG ext y=lG ext x∧iZ ext y=iZ ext x:=by
 intro d
 induction d with
 | zero=>intro y x h; cases h
 | succ d ih=>
  intro y x h hx hN;obtain⟨la,lw,lr,lk,li,pt,bd,la',lw',lr',lk',li',pt',bd',hd,a1,w1,r1,k1,i1,hpt',hbd',a2,w2,r2,k2,i2⟩:=KA hx h;obtain⟨n1,n2,n3,n4⟩:=hd.sizes hN;have hmem:∀p∈x.cells,p.bulk≤16777216:=fun p hp=>Nat.le_trans (gQ hp) hN;have hba:=hmem x.assigns (by simp [am.cells]);have hbw:=hmem x.words (by simp [am.cells]);have hbr:=hmem x.redirs (by simp [am.cells]);have hbk:=hmem x.kids (by simp [am.cells]);have hbi:=hmem x.items (by simp [am.cells]);have hA:=fun a (ha:a∈la.getD [])=>hd.words a.val (by
   simp only [eT,List.mem_append,List.mem_map];exact .inl (.inl (.inl ⟨a,ha,rfl⟩)))
  have hW:=fun w (hw:w∈lw.getD [])=>hd.words w (by
   simp only [eT,List.mem_append];exact .inl (.inl (.inr hw)))
  have hR:=fun r (hr:r∈lr.getD [])=>hd.words r.tgt (by
   simp only [eT,List.mem_append,List.mem_map];exact .inl (.inr ⟨r,hr,rfl⟩))
  have hI:=fun it (hi:it∈li.getD []) w (hw:w∈(pt it).getD [])=>hd.words w (by
   simp only [eT,List.mem_append,List.mem_flatMap];exact .inr ⟨it,hi,hw⟩)
  have hK:=fun k (hk:k∈lk.getD [])=>hd.kids k (by
   simp only [j9,List.mem_append];exact .inl hk)
  have hB:=fun it (hi:it∈li.getD []) k (hk:k∈(bd it).getD [])=>hd.kids k (by
   simp only [j9,List.mem_append,List.mem_flatMap];exact .inr ⟨it,hi,hk⟩)
  have hpb:∀it∈li.getD [],it.pats.bulk≤16777216∧it.body.bulk≤16777216:=fun it hi=>
   ⟨(dL hd.i hi (p:=it.pats) (by simp [aK.cells]) hbi).1,(dL hd.i hi (p:=it.body) (by simp [aK.cells]) hbi).1⟩
  have A:=a2.right (R:=fun a=>aN D a.parts∧a.parts.bulk≤16777216) fun a ha=>⟨hA a ha,(dL hd.a ha (p:=a.parts) (by simp [aB.cells]) hba).1⟩
  have W:=w2.right (R:=fun w=>aN D w.parts∧w.parts.bulk≤16777216) fun w hw=>⟨hW w hw,(dL hd.w hw (p:=w.parts) (by simp [ay.cells]) hbw).1⟩
  have R:=r2.right (R:=fun r=>aN D r.parts∧r.parts.bulk≤16777216) fun r hr=>⟨hR r hr,(dL hd.r hr (p:=r.parts) (by simp [aD.cells]) hbr).1⟩
  have K:=k2.right (R:=fun k=>bB D d k∧aR k.cells≤16777216) fun k hk=>⟨hK k hk,(dL hd.k hk (p:=.sc (.int .i64 k.kind)) (by simp [am.cells]) hbk).2⟩
  have I:fk (fun j i=>(fk (fun (b a:ay)=>wB D b a∧aN D a.parts∧a.parts.bulk≤16777216) ((pt' j).getD []) ((pt i).getD [])∧fk (fun b a=>nG D d b a∧bB D d a∧aR a.cells≤16777216) ((bd' j).getD []) ((bd i).getD []))∧(i.pats=aU 102 ay.cells (pt i)∧i.body=aU 71 am.cells (bd i))∧j.pats=aU 102 ay.cells (pt' j)∧j.body=aU 71 am.cells (bd' j)) (li'.getD []) (li.getD []):=by
   refine .of_get i2.len fun n j i hj hi=>?_;obtain⟨q1,q2⟩:=i2.get n j i hj hi;have mj:=List.mem_of_getElem? hj;have mi:=List.mem_of_getElem? hi;refine⟨⟨q1.right fun w hw=>⟨hI i mi w hw,(dL (hd.hpt i mi) hw (p:=w.parts) (by simp [ay.cells]) (hpb i mi).1).1⟩,q2.right fun k hk=>⟨hB i mi k hk,(dL (hd.hbd i mi) hk (p:=.sc (.int .i64 k.kind)) (by simp [am.cells]) (hpb i mi).2).2⟩⟩,⟨hd.hpt i mi,hd.hbd i mi⟩,hpt' j mj,hbd' j mj⟩
  have lens:∀{j i:aK},i∈li.getD []→((pt i).getD []).length≤16777216∧((bd i).getD []).length≤16777216:=fun {j i} hi=>
   ⟨lP (hd.hpt i hi) (fun x=>by rw [ay.len]; omega) (hpb i hi).1,lP (hd.hbd i hi) (fun x=>by rw [am.len]; omega) (hpb i hi).2⟩
  have hy:bB D (d + 1) y:=by
   refine⟨⟨la',a1,by rw [A.len]; omega,fun z hz=>?_⟩,⟨lw',w1,by rw [W.len]; omega,fun z hz=>?_⟩,⟨lr',r1,by rw [R.len]; omega,fun z hz=>?_⟩,⟨lk',k1,by rw [K.len]; omega,fun z hz=>?_⟩,⟨li',i1,by rw [I.len]; omega,fun z hz=>?_⟩⟩
   ·obtain⟨w,hw,hq,hp⟩:=A.mem z hz;exact (iv (ext:=ext) hq.2 hp.1 hp.2).1
   ·obtain⟨w,hw,hq,hp⟩:=W.mem z hz;exact (iv (ext:=ext) hq.2 hp.1 hp.2).1
   ·obtain⟨w,hw,hq,hp⟩:=R.mem z hz;exact (iv (ext:=ext) hq.2 hp.1 hp.2).1
   ·obtain⟨w,hw,hq,hp⟩:=K.mem z hz;exact (ih z w hq hp.1 hp.2).1
   ·obtain⟨i,hi,⟨q1,q2⟩,_,p1,p2⟩:=I.mem z hz;obtain⟨l1,l2⟩:=lens (j:=z) hi;refine⟨⟨pt' z,p1,by rw [q1.len]; omega,fun v hv=>?_⟩,⟨bd' z,p2,by rw [q2.len]; omega,fun v hv=>?_⟩⟩
    ·obtain⟨w,hw,hq,hp⟩:=q1.mem v hv;exact (iv (ext:=ext) hq.2 hp.1 hp.2).1
    ·obtain⟨w,hw,hq,hp⟩:=q2.mem v hv;exact (ih v w hq hp.1 hp.2).1
  have bA:aR ((la'.getD []).flatMap aB.cells)≤aR ((la.getD []).flatMap aB.cells):=j6 (fun v w hq=>by
   have h1:=(iv (ext:=ext) hq.1.2 hq.2.1 hq.2.2).2.1;simp only [aB.cells,cx,cH,hq.1.1.2.1,oe];omega) A
  have bW:aR ((lw'.getD []).flatMap ay.cells)≤aR ((lw.getD []).flatMap ay.cells):=j6 (fun v w hq=>by
   have h1:=(iv (ext:=ext) hq.1.2 hq.2.1 hq.2.2).2.1;simp only [ay.cells,cx,cH,oe];omega) W
  have bR:aR ((lr'.getD []).flatMap aD.cells)≤aR ((lr.getD []).flatMap aD.cells):=j6 (fun v w hq=>by
   have h1:=(iv (ext:=ext) hq.1.2 hq.2.1 hq.2.2).2.1;simp only [aD.cells,cx,cH,oe];omega) R
  have bK:aR ((lk'.getD []).flatMap am.cells)≤aR ((lk.getD []).flatMap am.cells):=j6 (fun v w hq=>(ih v w hq.1 hq.2.1 hq.2.2).2.1) K;have bI:aR ((li'.getD []).flatMap aK.cells)≤aR ((li.getD []).flatMap aK.cells):=j6 (fun j i hq=>by
   obtain⟨⟨q1,q2⟩,⟨e1,e2⟩,p1,p2⟩:=hq;have c1:=j6 (c:=ay.cells) (fun v w hq=>by
    have h1:=(iv (ext:=ext) hq.1.2 hq.2.1 hq.2.2).2.1;simp only [ay.cells,cx,cH,oe];omega) q1
   have c2:=j6 (c:=am.cells) (fun v w hq=>(ih v w hq.1 hq.2.1 hq.2.2).2.1) q2;simp only [aK.cells,cx,cH,e1,e2,p1,p2,← dO];omega) I
  obtain⟨⟨f1,f2,f3,f4⟩,_⟩:=h;have hbulk:aR y.cells≤aR x.cells:=by
   simp only [am.cells,cx,cH,a1,w1,r1,k1,i1,hd.a,hd.w,hd.r,hd.k,hd.i,← dO,f3,oe,GK];omega
  obtain⟨la2,lw2,lr2,lk2,li2,pt2,bd2,hd'⟩:=hy.dec;obtain rfl:=eV aB.inj aB.len (a1.symm.trans hd'.a);obtain rfl:=eV ay.inj ay.len (w1.symm.trans hd'.w);obtain rfl:=eV aD.inj aD.len (r1.symm.trans hd'.r);obtain rfl:=eV am.inj am.len (k1.symm.trans hd'.k);obtain rfl:=eV aK.inj aK.len (i1.symm.trans hd'.i);have hN':aR y.cells≤16777216:=Nat.le_trans hbulk hN;have ep:∀j∈li'.getD [],pt2 j=pt' j∧bd2 j=bd' j:=fun j hj=>
   ⟨eV ay.inj ay.len ((hd'.hpt j hj).symm.trans (hpt' j hj)),eV am.inj am.len ((hd'.hbd j hj).symm.trans (hbd' j hj))⟩
  have I2:fk (fun j i=>((fk (fun (b a:ay)=>wB D b a∧aN D a.parts∧a.parts.bulk≤16777216) ((pt2 j).getD []) ((pt i).getD [])∧fk (fun b a=>nG D d b a∧bB D d a∧aR a.cells≤16777216) ((bd2 j).getD []) ((bd i).getD [])))) (li'.getD []) (li.getD []):=by
   refine .of_get I.len fun n j i hj hi=>?_;obtain⟨q,_⟩:=I.get n j i hj hi;obtain⟨g1,g2⟩:=ep j (List.mem_of_getElem? hj);rw [g1,g2];exact q
  have KK:fk (fun b a=>nG D d b a∧bB D d a∧aR a.cells≤16777216) (j9 (lk'.getD []) (li'.getD []) bd2) (j9 (lk.getD []) (li.getD []) bd):=by
   unfold j9;exact K.append (I2.flat fun x y _ _ h=>h.2)
  have hr:=fun s=>hd.kids_ok (ext:=ext) hN s;have hr':=fun s=>hd'.kids_ok (ext:=ext) hN' s;have kk:kinds (lk'.getD [])=kinds (lk.getD []):=K.map_eq fun v w hq=>by
   have hq:=hq.1;cases d with
   | zero=>cases hq
   | succ d=>exact hq.1.1
  have hown:vD ext y=vD ext x:=by
   rw [show vD ext y=_ from gN fun s=>Db hd' hN' s,show vD ext x=_ from gN fun s=>Db hd hN s];unfold Up;rw [f1,kk];rw [W.all_eq (f:=fun w=>okW ext w.parts) (g:=fun w=>okW ext w.parts) fun v w hq=>(iv hq.1.2 hq.2.1 hq.2.2).2.2.1];rw [R.all_eq (f:=Cg (okW ext) (okH ext)) (g:=Cg (okW ext) (okH ext)) fun v w hq=>by
    obtain⟨_,_,g1,_,g2,_⟩:=iv (ext:=ext) hq.1.2 hq.2.1 hq.2.2;unfold Cg;rw [hq.1.1.2.1,hq.1.1.2.2.1,g1,g2]]
   rw [I2.all_eq (f:=sd (okW ext) pt2 bd2) (g:=sd (okW ext) pt bd) fun j i hq=>by
    unfold sd;have e1:=hq.1.len;have e2:kinds ((bd2 j).getD [])=kinds ((bd i).getD []):=hq.2.map_eq fun v w hq=>by
     have hq:=hq.1;cases d with
     | zero=>cases hq
     | succ d=>exact hq.1.1
    have e3:((pt2 j).getD []).isEmpty=((pt i).getD []).isEmpty:=by
     cases h1:(pt2 j).getD []<;>cases h2:(pt i).getD []<;>rw [h1,h2] at e1<;>first | rfl | cases e1
    rw [e2,e3,hq.1.all_eq (f:=fun w=>okW ext w.parts) (g:=fun w=>okW ext w.parts) fun v w hq=>(iv hq.1.2 hq.2.1 hq.2.2).2.2.1]]
   have hsb:pX (okV ext) EV y (la'.getD []) (lw'.getD []) (lr'.getD []).length (li'.getD []).length=pX (okV ext) EV x (la.getD []) (lw.getD []) (lr.getD []).length (li.getD []).length:=by
    unfold pX;rw [f3,f4,A.len,W.len,R.len,I.len,A.all_eq (f:=fun a=>gK a.name.data.toList && okV ext a.parts) (g:=fun a=>gK a.name.data.toList && okV ext a.parts) fun v w hq=>by
     rw [hq.1.1.2.1,(iv (ext:=ext) hq.1.2 hq.2.1 hq.2.2).2.2.2.1]]
    rw [Ho (f:=fun w=>i3 (EV w.parts)) (g:=fun w=>i3 (EV w.parts)) (fun v w hq=>(iv (ext:=ext) hq.1.2 hq.2.1 hq.2.2).2.2.2.2.2) W]
   rw [hsb,f3,f4,A.len,W.len,R.len,I.len]
  have hform:lJ ext y=lJ ext x:=by
   rw [(CV (d + 1) y hy hN').2.2 _ hr',(CV (d + 1) x hx hN).2.2 _ hr,hown,KK.all_eq (f:=lJ ext) (g:=lJ ext) fun v w hq=>(ih v w hq.1 hq.2.1 hq.2.2).2.2.2.1]
  obtain⟨s1,s2⟩:=(CW (ext:=ext) (d + 1) y hy hN').2 _ hr';obtain⟨s3,s4⟩:=(CW (ext:=ext) (d + 1) x hx hN).2 _ hr;refine⟨hy,hbulk,hown,hform,?_,?_⟩
  ·rw [s1,s3,KK.map_eq (f:=lG ext) (g:=lG ext) fun v w hq=>(ih v w hq.1 hq.2.1 hq.2.2).2.2.2.2.1]
  ·rw [s2,s4,KK.map_eq (f:=iZ ext) (g:=iZ ext) fun v w hq=>(ih v w hq.1 hq.2.1 hq.2.2).2.2.2.2.2]
theorem B1 {D d:Nat}{y x:am} (h:nG D d y x) (hx:bB D d x) (hN:aR x.cells≤16777216):rf ext y=rf ext x:=by
 obtain⟨_,_,_,h1,h2,h3⟩:=sU (ext:=ext) d y x h hx hN;unfold rf;rw [h1,h2,h3]
end Go.Proofs.YtokdflgpbfjpcaaGreatDoor
namespace Go.Proofs.YtokdflgpbfjpcaaGreatDoor
open Go Go.EvL Go.PE
variable {ext:ar}
theorem iV {α:Type}{t es bytes:Nat}{z:List Value}{c:α→List PV} (hc:∀x,(c x).length=es) (hes:es≠0) (hes2:es≤1000) (hby:bytes≤1024) {G H g:Nat} (hG:Γ G=some (lm t es H)) (hH:Γ H=some (km t es bytes z true)) {R:α→α→Prop}{a:PV}{l:Option (List α)} (ha:a=aU t c l) (hbig:(l.getD []).length≤16777216)
  (ho:∀x∈l.getD [],(c x).all db=true) (hR:∀x y,R y x→(c y).all db=true∧(c y).all dj=true)
  (h:∀x∈l.getD [],∃y,(∀s,aH Tryz.prog Γ ext g [.agg (c x)] s=some (.agg (c y),s))∧R y x):∃b,(∀s,aH Tryz.prog Γ ext G [a,.fn g [] []] s=some (b,s))∧io t c R b a:=by
 subst ha;obtain⟨cp,hcp⟩:=NV h;refine⟨aU t c (eo ((l.getD []).map cp)),fun s=>Oo hG hH hc hes hes2 hby hbig (cp:=cp) (fun x hx=>⟨ho x hx,(hR _ _ (hcp x hx).2).1,(hR _ _ (hcp x hx).2).2⟩) (fun x hx=>(hcp x hx).1) s,_,l,rfl,rfl,?_,?_,fun i x y hx hy=>?_⟩
 ·rw [cE,List.length_map]
 ·rw [cE,List.length_map]; omega
 ·rw [cE,List.getElem?_map,hy] at hx;have hx':cp y=x:=by simpa using hx
  rw [← hx'];exact (hcp y (List.mem_of_getElem? hy)).2
theorem TY:Γ 93=some (lm 104 4 144):=(rfl)
theorem UJ:Γ 144=some (km 104 4 56 [(.int .i64 0),(.string ⟨#[]⟩),(.int .i64 0),(.slice none 0 0)] true):=(rfl)
theorem Tm:Γ 145=some (lm 155 5 180):=(rfl)
theorem U2:Γ 180=some (km 155 5 64 [(.int .i64 0),(.string ⟨#[]⟩),(.int .i64 0),(.bool false),(.slice none 0 0)] true):=(rfl)
theorem V0:Γ 96=some (lm 102 2 147):=(rfl)
theorem TI:Γ 147=some (km 102 2 32 [(.int .i64 0),(.slice none 0 0)] true):=(rfl)
theorem Vb:Γ 97=some (lm 129 5 148):=(rfl)
theorem Vf:Γ 148=some (km 129 5 56 [(.int .i64 0),(.int .i64 0),(.int .i64 0),(.int .i64 0),(.slice none 0 0)] true):=(rfl)
theorem Un:Γ 99=some (lm 71 9 149):=(rfl)
theorem TK:Γ 149=some (km 71 9 160 [(.int .i64 0),(.int .i64 0),(.string ⟨#[]⟩),(.bool false),(.slice none 0 0),(.slice none 0 0),(.slice none 0 0),(.slice none 0 0),(.slice none 0 0)] true):=(rfl)
theorem Tw:Γ 100=some (lm 134 2 150):=(rfl)
theorem UK:Γ 150=some (km 134 2 48 [(.slice none 0 0),(.slice none 0 0)] true):=(rfl)
theorem UV:Γ 58=some (lm 73 10 92):=(rfl)
theorem Uu:Γ 92=some (km 73 10 176 [(.string ⟨#[]⟩),(.int .i64 0),(.int .i64 0),(.string ⟨#[]⟩),(.bool false),(.slice none 0 0),(.slice none 0 0),(.slice none 0 0),(.slice none 0 0),(.slice none 0 0)] true):=(rfl)
theorem Uz (x:au) (m:Option (List au)) (h:∀s,Pc ext 145 [x.parts,.fn 146 [] []] (aU 155 au.cells m) s) (s:PS) :
  Pc ext 146 [.agg x.cells] (.agg (au.cells ⟨x.kind,x.text,x.op,x.colon,aU 155 au.cells m⟩)) s:=by
 refine qC (s.n + 1) SG 2 5 ?_;unfold SG
 skip
 simp only [au.cells];refine Cc h @aY @eN @eL @dP @dC @dD @cY ?_;exact⟨_,_,_,rfl,rfl,Nat.le_refl _,by simp only [iI,gv,fX,Option.bind_some,Option.map_some]⟩
theorem nO:∀(d:Nat) (a:PV),aN d a→a.bulk≤16777216→∃b,(∀s,Pc ext 145 [a,.fn 146 [] []] b s)∧qA d b a:=by
 intro d
 induction d with
 | zero=>intro a h; cases h
 | succ d ih=>
  rintro a ⟨l,ha,hl,hl'⟩ hb;have hn:=ip (e:=155) (c:=au.cells) (fun y=>by rw [au.len]; omega) l;have hbl:=dO 155 au.cells l;rw [← ha] at hn hbl;refine iV (R:=fun y x=>(y.kind=x.kind∧y.text=x.text∧y.op=x.op∧y.colon=x.colon)∧qA d y.parts x.parts) au.len (by decide) (by decide) (by decide) Tm U2 ha om (fun x hx=>au.ones (hl' x hx)) (fun x y h=>Hj h.2) (fun x hx=>?_);have hbx:x.parts.bulk≤16777216:=by
   have h1:=gY (c:=au.cells) hx;have h2:=gQ (p:=x.parts) (l:=x.cells) (by simp [au.cells]);omega
  obtain⟨q,q1,q2⟩:=ih x.parts (hl' x hx) hbx;obtain⟨m,hm⟩ : ∃m,q=aU 155 au.cells m:=by
   cases d with
   | zero=>cases q2
   | succ d=>obtain⟨m,_,h,_⟩:=q2; exact⟨m,h⟩
  subst hm;exact⟨⟨x.kind,x.text,x.op,x.colon,aU 155 au.cells m⟩,Uz x m q1,⟨rfl,rfl,rfl,rfl⟩,q2⟩
theorem SV (x:ay) (m:Option (List au)) (h:∀s,Pc ext 145 [x.parts,.fn 146 [] []] (aU 155 au.cells m) s) (s:PS) :
  Pc ext 95 [.agg x.cells] (.agg (ay.cells ⟨x.pos,aU 155 au.cells m⟩)) s:=by
 refine qC (s.n + 1) VO 2 2 ?_;unfold VO
 skip
 simp only [ay.cells];refine Cc h @aY @eN @eL @dP @dC @dD @cY ?_;exact⟨_,_,_,rfl,rfl,Nat.le_refl _,by simp only [iI,gv,fX,Option.bind_some,Option.map_some]⟩
theorem W6 (x:aB) (m:Option (List au)) (h:∀s,Pc ext 95 [.agg (ay.cells ⟨x.vpos,x.parts⟩)] (.agg (ay.cells ⟨x.vpos,aU 155 au.cells m⟩)) s) (s:PS) :
  Pc ext 94 [.agg x.cells] (.agg (aB.cells ⟨x.pos,x.name,x.vpos,aU 155 au.cells m⟩)) s:=by
 refine qC (s.n + 1) VU 2 4 ?_;unfold VU;simp only [ay.cells] at h;simp only [aB.cells];refine Cc h @aY @eN @eL @dP @dC @dD @cY ?_;exact⟨_,_,_,rfl,rfl,Nat.le_refl _,by simp only [iI,gv,fX,Option.bind_some,Option.map_some]⟩
theorem W9 (x:aD) (m:Option (List au)) (h:∀s,Pc ext 95 [.agg (ay.cells ⟨x.tpos,x.parts⟩)] (.agg (ay.cells ⟨x.tpos,aU 155 au.cells m⟩)) s) (s:PS) :
  Pc ext 98 [.agg x.cells] (.agg (aD.cells ⟨x.pos,x.fd,x.op,x.tpos,aU 155 au.cells m⟩)) s:=by
 refine qC (s.n + 1) Wg 2 5 ?_;unfold Wg;simp only [ay.cells] at h;simp only [aD.cells];refine Cc h @aY @eN @eL @dP @dC @dD @cY ?_;exact⟨_,_,_,rfl,rfl,Nat.le_refl _,by simp only [iI,gv,fX,Option.bind_some,Option.map_some]⟩
theorem VF (x:aK) (m:Option (List ay)) (k:Option (List am)) (h:∀s,Pc ext 96 [x.pats,.fn 95 [] []] (aU 102 ay.cells m) s) (h':∀s,Pc ext 99 [x.body,.fn 60 [] []] (aU 71 am.cells k) s) (s:PS) :
  Pc ext 101 [.agg x.cells] (.agg (aK.cells ⟨aU 102 ay.cells m,aU 71 am.cells k⟩)) s:=by
 refine qC (s.n + 1) QG 2 2 ?_;unfold QG
 skip
 simp only [aK.cells];refine DV h h' @aY @eN @eL @dP @dC @dD @cY ?_;exact⟨_,_,_,rfl,rfl,Nat.le_refl _,by simp only [iI,gv,fX,Option.bind_some,Option.map_some]⟩
theorem VX (x:am) (ma:Option (List aB)) (mw:Option (List ay)) (mr:Option (List aD)) (mk:Option (List am)) (mi:Option (List aK))
  (h1:∀s,Pc ext 93 [x.assigns,.fn 94 [] []] (aU 104 aB.cells ma) s) (h2:∀s,Pc ext 96 [x.words,.fn 95 [] []] (aU 102 ay.cells mw) s) (h3:∀s,Pc ext 97 [x.redirs,.fn 98 [] []] (aU 129 aD.cells mr) s)
  (h4:∀s,Pc ext 99 [x.kids,.fn 60 [] []] (aU 71 am.cells mk) s) (h5:∀s,Pc ext 100 [x.items,.fn 101 [] []] (aU 134 aK.cells mi) s) (s:PS) :
  Pc ext 60 [.agg x.cells] (.agg (am.cells ⟨x.kind,x.pos,x.name,x.all,aU 104 aB.cells ma,aU 102 ay.cells mw,aU 129 aD.cells mr,aU 71 am.cells mk,aU 134 aK.cells mi⟩)) s:=by
 refine qC (s.n + 1) VG 2 9 ?_;unfold VG;simp only [am.cells];refine jU h1 h2 h3 h4 h5 @aY @eN @eL @dP @dC @dD @cY ?_;exact⟨_,_,_,rfl,rfl,Nat.le_refl _,by simp only [iI,gv,fX,Option.bind_some,Option.map_some]⟩
theorem EF {D:Nat}{x:ay} (h:aN D x.parts) (hb:x.parts.bulk≤16777216):∃y,(∀s,Pc ext 95 [.agg x.cells] (.agg (ay.cells y)) s)∧wB D y x:=by
 obtain⟨q,q1,q2⟩:=nO (ext:=ext) D x.parts h hb;obtain⟨m,rfl⟩:=q2.sl;exact⟨⟨x.pos,aU 155 au.cells m⟩,SV x m q1,rfl,q2⟩
theorem tR {D:Nat}{a:PV} (h:lA D a) (hb:a.bulk≤16777216):∃b,(∀s,Pc ext 96 [a,.fn 95 [] []] b s)∧io 102 ay.cells (wB D) b a:=by
 obtain⟨l,ha,hl,hl'⟩:=h;refine iV ay.len (by decide) (by decide) (by decide) V0 TI ha (lP ha (fun x=>by rw [ay.len]; omega) hb) (fun x hx=>ay.one (hl' x hx).one) GF (fun x hx=>?_);exact EF (hl' x hx) (dL ha hx (p:=x.parts) (by simp [ay.cells]) hb).1
theorem xH {D:Nat}{a:PV} (h:ky D a) (hb:a.bulk≤16777216):∃b,(∀s,Pc ext 93 [a,.fn 94 [] []] b s)∧io 104 aB.cells (Og D) b a:=by
 obtain⟨l,ha,hl,hl'⟩:=h;refine iV aB.len (by decide) (by decide) (by decide) TY UJ ha (lP ha (fun x=>by rw [aB.len]; omega) hb) (fun x hx=>?_) (fun x y h=>?_) (fun x hx=>?_)
 ·simp only [aB.cells,List.all_cons,List.all_nil,(hl' x hx).one,Bool.and_true]; rfl
 ·obtain⟨h1,_,h3⟩:=h.2.one;simp only [aB.cells,List.all_cons,List.all_nil,h1,h3,Bool.and_true]; exact⟨rfl,rfl⟩
 ·obtain⟨q,q1,q2⟩:=nO (ext:=ext) D x.parts (hl' x hx) (dL ha hx (p:=x.parts) (by simp [aB.cells]) hb).1;obtain⟨m,rfl⟩:=q2.sl;exact⟨⟨x.pos,x.name,x.vpos,aU 155 au.cells m⟩,W6 x m (SV ⟨x.vpos,x.parts⟩ m q1),⟨rfl,rfl,rfl⟩,q2⟩
theorem zE {D:Nat}{a:PV} (h:m7 D a) (hb:a.bulk≤16777216):∃b,(∀s,Pc ext 97 [a,.fn 98 [] []] b s)∧io 129 aD.cells (O5 D) b a:=by
 obtain⟨l,ha,hl,hl'⟩:=h;refine iV aD.len (by decide) (by decide) (by decide) Vb Vf ha (lP ha (fun x=>by rw [aD.len]; omega) hb) (fun x hx=>?_) (fun x y h=>?_) (fun x hx=>?_)
 ·simp only [aD.cells,List.all_cons,List.all_nil,(hl' x hx).one,Bool.and_true]; rfl
 ·obtain⟨h1,_,h3⟩:=h.2.one;simp only [aD.cells,List.all_cons,List.all_nil,h1,h3,Bool.and_true]; exact⟨rfl,rfl⟩
 ·obtain⟨q,q1,q2⟩:=nO (ext:=ext) D x.parts (hl' x hx) (dL ha hx (p:=x.parts) (by simp [aD.cells]) hb).1;obtain⟨m,rfl⟩:=q2.sl;exact⟨⟨x.pos,x.fd,x.op,x.tpos,aU 155 au.cells m⟩,W9 x m (SV ⟨x.tpos,x.parts⟩ m q1),⟨rfl,rfl,rfl,rfl⟩,q2⟩
theorem uS {D d:Nat} (ih:∀x,bB D d x→aR x.cells≤16777216→∃y,(∀s,Pc ext 60 [.agg x.cells] (.agg (am.cells y)) s)∧nG D d y x) {a:PV} (h:gI 71 am.cells (bB D d) a) (hb:a.bulk≤16777216) :
  ∃b,(∀s,Pc ext 99 [a,.fn 60 [] []] b s)∧io 71 am.cells (nG D d) b a:=by
 obtain⟨l,ha,hl,hl'⟩:=h;refine iV am.len (by decide) (by decide) (by decide) Un TK ha (lP ha (fun x=>by rw [am.len]; omega) hb) (fun x hx=>(hl' x hx).ones) t8 (fun x hx=>?_);exact ih x (hl' x hx) (dL ha hx (p:=x.kids) (by simp [am.cells]) hb).2
theorem CC {D:Nat} : ∀(d:Nat) (x:am),bB D d x→aR x.cells≤16777216→∃y,(∀s,Pc ext 60 [.agg x.cells] (.agg (am.cells y)) s)∧nG D d y x:=by
 intro d
 induction d with
 | zero=>intro x h; cases h
 | succ d ih=>
  rintro x ⟨h1,h2,h3,h4,h5⟩ hb;have hbm:∀p∈x.cells,p.bulk≤16777216:=fun p hp=>Nat.le_trans (gQ hp) hb;obtain⟨qa,a1,a2⟩:=xH (ext:=ext) h1 (hbm _ (by simp [am.cells]));obtain⟨qw,w1,w2⟩:=tR (ext:=ext) h2 (hbm _ (by simp [am.cells]));obtain⟨qr,r1,r2⟩:=zE (ext:=ext) h3 (hbm _ (by simp [am.cells]));obtain⟨qk,k1,k2⟩:=uS ih h4 (hbm _ (by simp [am.cells]));obtain⟨qi,i1,i2⟩ : ∃b,(∀s,Pc ext 100 [x.items,.fn 101 [] []] b s)∧io 134 aK.cells (fun j i=>io 102 ay.cells (wB D) j.pats i.pats∧io 71 am.cells (nG D d) j.body i.body) b x.items:=by
   have hbi:x.items.bulk≤16777216:=hbm _ (by simp [am.cells]);obtain⟨l,ha,hl,hl'⟩:=h5;refine iV aK.len (by decide) (by decide) (by decide) Tw UK ha (lP ha (fun x=>by rw [aK.len]; omega) hbi) (fun z hz=>?_) (fun z y h=>?_) (fun z hz=>?_)
   ·have h:=hl' z hz;have w1:db z.pats=true:=gI.one h.1;simp only [aK.cells,List.all_cons,List.all_nil,w1,h.2.one,Bool.and_true]
   ·obtain⟨u1,_,u3⟩:=h.1.one;obtain⟨v1,_,v3⟩:=h.2.one;simp only [aK.cells,List.all_cons,List.all_nil,u1,u3,v1,v3,Bool.and_true,and_self]
   ·obtain⟨p1,e1,e2⟩:=tR (ext:=ext) (hl' z hz).1 (dL ha hz (p:=z.pats) (by simp [aK.cells]) hbi).1;obtain⟨p2,e3,e4⟩:=uS ih (hl' z hz).2 (dL ha hz (p:=z.body) (by simp [aK.cells]) hbi).1;obtain⟨m1,rfl⟩:=e2.sl;obtain⟨m2,rfl⟩:=e4.sl;exact⟨⟨aU 102 ay.cells m1,aU 71 am.cells m2⟩,VF z m1 m2 e1 e3,e2,e4⟩
  obtain⟨ma,rfl⟩:=a2.sl;obtain⟨mw,rfl⟩:=w2.sl;obtain⟨mr,rfl⟩:=r2.sl;obtain⟨mk,rfl⟩:=k2.sl;obtain⟨mi,rfl⟩:=i2.sl;exact⟨_,VX x ma mw mr mk mi a1 w1 r1 k1 i1,⟨rfl,rfl,rfl,rfl⟩,a2,w2,r2,k2,i2⟩
end Go.Proofs.YtokdflgpbfjpcaaGreatDoor
