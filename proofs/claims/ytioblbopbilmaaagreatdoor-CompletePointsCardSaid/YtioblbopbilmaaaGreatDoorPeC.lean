/- A run on values, and its soundness. No statement is proved here. -/
import Derived.Test.YtioblbopbilmaaaGreatDoorPeB
set_option linter.unusedSimpArgs false
set_option linter.unusedVariables false
set_option linter.defProp false
namespace Go.PE
open Go Go.EvL
structure So where
 nt:Nat
 l1:List PI
 l2:List PI
 x:Operand
 rest:aR
 res:List kR
 nt2:Nat
 d2:Nat
 l3:List PI
 c3:aR
noncomputable def sn (P:Program) (nt:Nat) (all:List Oper):List Oper→Option (List PI × Operand)
 | []=>none
 | [o]=>match o.op,o.dst,o.guard with
  | .defer ⟨.value x,args,_⟩,none,none=>if cE x && args.toList.isEmpty then some ([],x) else none
  | _,_,_=>none
 | o :: o2 :: l=>match jb P nt all o,sn P nt all (o2 :: l) with
  | some i,some (r,x)=>some (i :: r,x)
  | _,_=>none
noncomputable def BR (P:Program) (fn2:Func):Option (Nat × Nat × List PI × aR):=match fn2.body with
 | some (.seq (.region _ ops false) c)=>match ops.toList with
  | ⟨some d,.call ⟨.builtin .recover,_,_⟩,_,_,_,none⟩ :: lo=>match dU P fn2.ntmps ops.toList lo,comp P fn2.ntmps c with
   | some l3,some p3=>if Nat.ble fn2.ntmps 1000000 && (fn2.results.toList.isEmpty && Nat.ble (Nat.succ d) fn2.ntmps) then some (fn2.ntmps,d,l3,p3) else none
   | _,_=>none
  | _=>none
 | _=>none
noncomputable def Fj (P:Program) (fn fn2:Func):Option So:=match fn.body with
 | some (.seq (.region _ ops1 false) (.seq (.region _ ops2 false) rest))=>match dU P fn.ntmps ops1.toList ops1.toList,sn P fn.ntmps ops2.toList ops2.toList,comp P fn.ntmps rest,fn.results.toList.mapM (nS P),BR P fn2 with
  | some l1,some (l2,x),some pr,some rs,some (nt2,d2,l3,c3)=>if Nat.ble fn.ntmps 1000000 then some ⟨fn.ntmps,l1,l2,x,pr,rs,nt2,d2,l3,c3⟩ else none
  | _,_,_,_,_=>none
 | _=>none
def s5 (P:Program) (Γ:Nat→Option fe) (ext:aw) (d:So) (caps:List PV) (n:Nat) (v:PV) (u:Value) (f2:aE) (s2:PS):Prop:=
 caps.length≤d.nt2∧∃fd1 s3 x3 fd2 s4 vs,uf P Γ ext d.l3 (aE.set (ej caps 0) d.d2 (.sc u)) s2=some (fd1,s3)∧io P Γ ext d.c3 fd1 s3=some (x3,fd2,s4)∧(x3=.normal∨x3=.ret)∧gj f2 s4 d.res=some vs∧n≤s4.w∧frz n s4 (ae vs)=some v
def SK (P:Program) (Γ:Nat→Option fe) (ext:aw) (d:So) (g2:Nat) (args:List PV) (s:PS) (v:PV):Prop:=
 args.length≤d.nt∧∃f0 s0 f1 s1 caps,uf P Γ ext d.l1 (ej args 0) ⟨s.h,s.n,s.n⟩=some (f0,s0)∧uf P Γ ext d.l2 f0 s0=some (f1,s1)∧aA f1 d.x=.fn g2 [] caps∧
  ((∃x f2 s2,io P Γ ext d.rest f1 s1=some (x,f2,s2)∧(x=.normal∨x=.ret)∧s5 P Γ ext d caps s.n v .nilIface f2 s2)∨XC P Γ ext (XK P Γ ext) d.rest f1 s1 (s5 P Γ ext d caps s.n v))
section
variable {P:Program}
theorem BD {ops:Array Oper}{Q:Exit→Act→World→Prop}{QS:Exit→Act→List Frame→World→Prop}{cs:List Frame} (hno:∀a w,¬ Q .outgrown a w) (hQ:∀e a w,Q e a w→QS e a cs w):∀(l:List Oper) (a:Act) (w:World),wpList P ops Q l a w→gm P ops QS l a cs w:=by
 intro l
 induction l with
 | nil=>intro a w h; exact hQ _ _ _ h
 | cons o l ih=>
  intro a w h;unfold wpList at h;refine Hy ?_;unfold gQ;split at h
  ·rename_i hw;rw [if_pos hw];rcases h with h | ⟨_,a',w',h⟩
   ·exact xW ih (fun e a w _=>hQ e a w) h
   ·exact absurd h (hno _ _)
  ·rename_i hw;rw [if_neg hw];exact ih _ _ h
inductive Uq:Option Value→Value→Prop
 | none:Uq none .nilIface
 | some (v:Value) (h:Ax v):Uq (some v) v
theorem FK (hE:lW P) (hO:be P) (hm:P.follows .mixedOrders=true) (hP:hZ P) {Γ:Nat→Option fe} (hΓ:gx P Γ) {ext:aw} (hX:bM P (cz Γ) ext) {g2:Nat}{fn2:Func}{nt2 d2:Nat}{l3:List PI}{c3:aR} (hfn2:P.funcs[g2]?=some fn2) (hc:BR P fn2=some (nt2,d2,l3,c3))
  {caps:List PV} (hcap:caps.length≤nt2) {u:Value}{uo:Option Value} (hu:Uq uo u) {s2 s3 s4:PS}{fd1 fd2:aE}{x3:E9} (h1:uf P Γ ext l3 (aE.set (ej caps 0) d2 (.sc u)) s2=some (fd1,s3)) (h2:io P Γ ext c3 fd1 s3=some (x3,fd2,s4)) (hx3:x3=.normal∨x3=.ret) :
  Kp s2 s4∧∀(A:AS) (β:Nat→Nat) (ys:Array Value),bE A→RS A β s2→Rs A β s2.n ys.toList caps→∃A' β',kW A A'∧Fw A A' β β' s2.n s4.n s4.w∧RS A' β' s4∧
   ∀(φ:cK) (T:Nat→Prop) (w:World) (d':Deferred) (m:FrameMode),yx φ ⟨.fn (.func g2) ys,#[]⟩ d'→nC φ uo m→gz P φ T A w→fU A A' T→fu A A' φ→
    ∃fv cap g args,d'.target=.fn fv cap∧(invoke d'.target d'.args).run P w=.ok (.enter g args) w∧CallsD P g args m w fun e m' w'=>∃v φ',e=.returned v∧bG P φ T A A' w w' φ'∧nC φ' none (settle m'):=by
 have hC:=oJ hE hO hm hP hΓ hX;unfold BR at hc;split at hc
 case h_2=>cases hc
 rename_i rid ops c hbody;split at hc
 case h_2=>cases hc
 rename_i d q1 q2 q3 q4 q5 lo hops;split at hc
 case h_2=>cases hc
 rename_i l3' p3 hl3 hp3;split at hc
 case isFalse=>cases hc
 rename_i hb;simp only [Bool.and_eq_true,List.isEmpty_iff] at hb;obtain⟨b1,b3,b4⟩:=hb;have b1:=Nat.le_of_ble_eq_true b1;injection hc with hc;injection hc with e1 hc;injection hc with e2 hc;injection hc with e3 e4;subst e1; subst e2; subst e3; subst e4;have kp1:Kp s2 s3:=Ip hC l3' h1;have kp2:Kp s3 s4:=u7 hE hO hm hP hΓ hX h2;refine⟨kp1.trans kp2,fun A β ys hi hs hys=>?_⟩;have hf0:RF [] A β s2.n fn2.ntmps (kX fn2 ys.toList.toArray) (ej caps 0):=rz hys b1 hcap;have hur:R1 A β s2.n u (.sc u):=by
  cases hu with
  | none=>exact .cl _ _ (.sc _ rfl)
  | some v h=>exact .cl _ _ (.sc _ h.2)
 obtain⟨f0,hput,hf1⟩:=hf0.set (d:=some d) b4 hur;obtain⟨_,f1,A1,β1,k1,k2,k3,k4⟩:=AC hE hO hC lo l3' hl3 hi hs hf1 h1;obtain⟨_,f2,A2,β2,m1,m2,m3,m4⟩:=nT hE hO hm hP hΓ hX hp3 k1.fr.inv k3 k4 h2;refine⟨A2,β2,k1.fr.trans m1.fr,k2.trans m2 kp2.w,m3,fun φ T w d' m hdr hu' hr hT hfr=>?_⟩;cases hdr with
 | mk g' cap0 cap' args0 args' hc' ha=>
  refine⟨.func g2,cap',g2,args' ++ cap',rfl,pR hE hfn2 hbody (args' ++ cap') w,?_⟩;refine callsD_of_wpS hfn2 hbody fun c₀ cs hm'=>wpS_seq (wpS_region ?_);have hargs:b8 φ ys.toList.toArray.toList (args' ++ cap').toList:=by
   have h0:args'.toList=[]:=by
    generalize hq:args'.toList=q at ha;cases ha;rfl
   rw [Array.toList_append,h0];simpa using hc'
  have hc0:c₀ = { c₀ with mode:=m }:=by rw [← hm']
  rw [List.range_eq_range',← Array.length_toList];refine lO ops.toList 0 _ _ w rfl ?_;rw [hc0,hops];have hir:=iS hargs b1 (by rw [List.toList_toArray,hys.len]; exact hcap);show JJ P ops _ _ (gm P ops _ lo) _ _ w;unfold JJ;rw [if_pos (by rfl)];have hev:aU P (kX fn2 ys.toList.toArray) ⟨some d,.call ⟨.builtin .recover,q1,q2⟩,q3,q4,q5,none⟩ A=some (.recover,A):=rfl;have hsd:=hO _ _ A _ _ hi (Nat.le_refl _) hev;obtain⟨φ1,w1,hp,hnr⟩:=hsd.run φ T w _ hir hr (fun c hc hh=>hT c hc (hh.elim (fun h=>.inl ((k1.fr.trans m1.fr).r c h)) fun h=>.inr ((k1.fr.trans m1.fr).w c h))) (fun b h3 h4=>by omega);generalize hres:(execOp (Act.eval { tmps:=args' ++ cap' ++ Array.replicate (fn2.ntmps - (args' ++ cap').size) undef,defers:=[] }) (⟨some d,.call ⟨.builtin .recover,q1,q2⟩,q3,q4,q5,none⟩ : Oper)).run P w=res at hnr;cases hnr;simp only;have go:∀(QQ:Exit→Act→List Frame→World→Prop),(∀φ' w' a' m',bG P φ T A A1 w w' φ'→dm φ' f1 a'→zz φ' none m'→QQ .normal a' ({ c₀ with mode:=m' } :: cs) w')→∀v' m',dE φ1 u v'→zz φ1 none m'→
    gm P ops QQ lo (({ tmps:=args' ++ cap' ++ Array.replicate (fn2.ntmps - (args' ++ cap').size) undef,defers:=[] } : Act).put (some d) v') ({ c₀ with mode:=m' } :: cs) w1:=by
   intro QQ hQQ v' m' hv hm2;have hfr1:=(hir.mono hp.ext).put hput hv;refine BD (Q:=fun e a' w'=>e=.normal∧∃φ',bG P φ T A A1 w w' φ'∧dm φ' f1 a'∧zz φ' none m') (fun a w h=>by cases h.1) (fun e a' w' h=>?_) lo _ _ (k1.run φ1 _ w1 _ hfr1 hp.rel (bh (hT.left m1.fr)) (ba (bz hfr m1.fr.next) (Nat.le_refl _) hp) _ fun φ' w' a' e hp' hf' hx'=>?_)
   ·obtain⟨rfl,φ',g1,g2,g3⟩:=h;exact hQQ φ' w' a' m' g1 g2 g3
   ·cases hx';exact⟨rfl,φ',hp.trans (Nat.le_refl _) k1.fr hp',hf',hm2.mono hp'.ext⟩
  have fin:∀v' m',dE φ1 u v'→zz φ1 none m'→gm P ops (Exit.thenS (c.wpS P (bodyPostS P fn2 { c₀ with mode:=m } cs fun e m' w'=>∃v φ',e=.returned v∧bG P φ T A A2 w w' φ'∧nC φ' none (settle m'))) (bodyPostS P fn2 { c₀ with mode:=m } cs fun e m' w'=>∃v φ',e=.returned v∧bG P φ T A A2 w w' φ'∧nC φ' none (settle m'))) lo (({ tmps:=args' ++ cap' ++ Array.replicate (fn2.ntmps - (args' ++ cap').size) undef,defers:=[] } : Act).put (some d) v') ({ c₀ with mode:=m' } :: cs) w1:=by
   refine go _ fun φ2 w2 a2 m2 hp2 hf2 hu2=>?_;refine wpS_of_wp (m1.run φ2 _ w2 a2 hf2 hp2.rel (bh hT) (ba hfr k1.fr.next hp2) _ fun φ3 w3 a3 e hp3 hf3 hx2=>?_);have hdef:a3.defers=[]:=by
    have:=hf3.defers;rw [m4.df] at this;cases hh:a3.defers with
    | nil=>rfl
    | cons y l=>rw [hh] at this; cases this
   have hres:(results fn2 a3.tmps).run P w3=.ok (pF []) w3:=by
    refine ja ?_;rw [b3];rfl
   have hend:bodyPostS P fn2 { c₀ with mode:=m } cs (fun e m' w'=>∃v φ',e=.returned v∧bG P φ T A A2 w w' φ'∧nC φ' none (settle m')) .ret a3 ({ c₀ with mode:=m2 } :: cs) w3:=
    ⟨hdef,m2,rfl,_,hres,_,φ3,rfl,hp2.trans k1.fr.next m1.fr hp3,(hu2.mono hp3.ext).settle⟩
   rcases hx3 with rfl | rfl
   ·cases hx2; exact hend
   ·cases hx2; exact hend
  cases hu' with
  | ret=>
   cases hu;exact fin _ _ .nilIface .ret
  | panic v v' hv=>
   cases hu;exact fin _ _ (hv.mono hp.ext) (.done v')
theorem TO (hE:lW P) (hO:be P) {Γ:Nat→Option fe}{ext:aw} (hC:bM P (cz Γ) (gp P Γ ext)) {ops:Array Oper}{nt:Nat} : ∀(lo:List Oper) (l:List PI) (x:Operand),sn P nt ops.toList lo=some (l,x)→∀{A:AS}{β:Nat→Nat}{f:Fr}{p p':aE}{s s':PS}{g2:Nat}{caps:List PV},bE A→RS A β s→RF [] A β s.n nt f p→
  uf P Γ ext l p s=some (p',s')→aA p' x=.fn g2 [] caps→Kp s s'∧∃f' A' β' ys,iT P ops lo f A .normal f' A'∧Fw A A' β β' s.n s'.n s'.w∧RS A' β' s'∧RF [⟨.fn (.func g2) ys,#[]⟩] A' β' s'.n nt f' p'∧Rs A' β' s'.n ys.toList caps:=by
 intro lo
 induction lo with
 | nil=>intro l x h; cases h
 | cons o lo ih=>
  intro l x hl A β f p p' s s' g2 caps hi hs hf h hx;cases lo with
  | nil=>
   simp only [sn] at hl;split at hl
   ·rename_i y args tys hop hdst hgd;split at hl
    ·rename_i hok;rw [Bool.and_eq_true,List.isEmpty_iff] at hok;obtain⟨hok,hargs⟩:=hok;injection hl with hl; injection hl with e1 e2; subst e1; subst e2;have h':some (p,s)=some (p',s'):=h;injection h' with h'; injection h' with e1 e2; subst e1; subst e2;obtain⟨vx,x1,x2⟩:=aL hf hok;rw [hx] at x2;obtain⟨xs,ys,rfl,r1,r2⟩ : ∃xs ys,vx=.func (.func g2) xs ys∧Rs A β s.n xs.toList []∧Rs A β s.n ys.toList caps:=by
      cases x2 with
      | cl _ _ h=>cases h with | fn g=>exact⟨_,_,rfl,.nil,.nil⟩
      | fn _ xs ys _ _ h h'=>exact⟨xs,ys,rfl,h,h'⟩
     have hxs:xs = #[]:=by
      generalize hq:xs.toList=q at r1;cases r1;cases xs; simp only at hq; rw [hq]
     subst hxs;obtain⟨od,oop,ty,pos,af,gu⟩:=o;simp only at hop hdst hgd;subst hop; subst hdst; subst hgd;have ha:args = #[]:=by cases args; simp only at hargs; rw [hargs]
     subst ha;have hon:jJ P ops ⟨none,.defer ⟨.value y,#[],tys⟩,ty,pos,af,none⟩ f A ⟨f.tmps,f.n,⟨.fn (.func g2) ys,#[]⟩ :: f.defers⟩ A:=by
      refine kZ (call:=fun _ _ _=>none) hO rW nr hi (Nat.le_refl _) ?_;have hev:aU P f ⟨none,.defer ⟨.value y,#[],tys⟩,ty,pos,af,none⟩ A=some (.dfr ⟨.fn (.func g2) ys,#[]⟩,A):=by
       show nO f ⟨.value y,#[],tys⟩ A=_;unfold nO;simp only [x1];rfl
      show rx _ f none (aU P f _ A)=_;rw [hev];rfl
     refine⟨.refl s,(⟨f.tmps,f.n,⟨.fn (.func g2) ys,#[]⟩ :: f.defers⟩ : Fr),A,β,ys,⟨hon.fr,fun φ T w a hfr hr hT hfs Q hQ=>eu ?_⟩,.refl A β s.n _,hs,⟨hf.num,hf.few,by show _ :: f.defers=_; rw [hf.df],hf.tmp⟩,r2⟩;exact hon.run φ T w a hfr hr hT hfs _ Q fun φ' w' a' hp hf'=>hQ φ' w' a' _ hp hf' .normal
    ·cases hl
   ·cases hl
  | cons o2 lo=>
   simp only [sn] at hl;split at hl
   ·rename_i i r y hi' hr';injection hl with hl; injection hl with e1 e2; subst e1; subst e2;have h':(vg P Γ ext i p s).bind (fun q=>uf P Γ ext r q.1 q.2)=some (p',s'):=h;rw [Option.bind_eq_some_iff] at h';obtain⟨⟨p1,s1⟩,h1,h2⟩:=h';obtain⟨kp1,f1,A1,β1,k1,k2,k3,k4,_⟩:=rG hE hO hC hi' hi hs hf h1;obtain⟨kp2,f2,A2,β2,ys,m1,m2,m3,m4,m5⟩:=ih r y hr' k1.fr.inv k3 k4 h2 hx;refine⟨kp1.trans kp2,f2,A2,β2,ys,⟨k1.fr.trans m1.fr,fun φ T w a hfr hr hT hfs Q hQ=>eu ?_⟩,k2.trans m2 kp2.w,m3,m4,m5⟩;refine k1.run φ T w a hfr hr (hT.left m1.fr) (bz hfs m1.fr.next) _ Q fun φ' w' a' hp hf'=>?_;refine m1.run φ' _ w' a' hf' hp.rel (bh hT) (ba hfs k1.fr.next hp) Q fun φ2 w2 a2 e hp2 hf2 hx2=>?_;exact hQ φ2 w2 a2 e (hp.trans k1.fr.next m1.fr hp2) hf2 hx2
   ·cases hl
theorem O6 (hE:lW P) (hO:be P) (hm:P.follows .mixedOrders=true) (hP:hZ P) {Γ:Nat→Option fe} (hΓ:gx P Γ) {ext:aw} (hX:bM P (cz Γ) ext) {g g2:Nat}{fn fn2:Func}{d:So} (hfn:P.funcs[g]?=some fn) (hfn2:P.funcs[g2]?=some fn2) (hc:Fj P fn fn2=some d)
  {args:List PV}{s:PS}{v:PV} (h:SK P Γ ext d g2 args s v):(∃fn c,P.funcs[g]?=some fn∧fn.body=some c)∧∀(A:AS) (β:Nat→Nat) (vs:List Value),bE A→RS A β s→Rs A β s.n vs args→
   ∃u A' β',cQ P g vs.toArray A (.ret u) A'∧Fw A A' β β' s.n s.n s.w∧RS A' β' s∧R1 A' β' s.n u v∧∀c,c < A.next→A'.w.testBit c=true→A.w.testBit c=true:=by
 have hC:=oJ hE hO hm hP hΓ hX;have hK:=Tq hE hO hm hP hΓ hX;unfold Fj at hc;split at hc
 case h_2=>cases hc
 rename_i i1 ops1 i2 ops2 rest hbody;split at hc
 case h_2=>cases hc
 rename_i l1 l2 x pr rs nt2 d2 l3 c3 hl1 hl2 hpr hrs hd2;split at hc
 case isFalse=>cases hc
 rename_i hnt;have b1:=Nat.le_of_ble_eq_true hnt;injection hc with hc;subst hc;obtain⟨hlen,f0,s0,f1,s1,caps,r1,r2,r3,hrun⟩:=h;simp only at hlen r1 r2 r3 hrun;refine⟨⟨fn,_,hfn,hbody⟩,fun A β vs hi hs hvs=>?_⟩;have hs':RS A β ⟨s.h,s.n,s.n⟩:=⟨hs.blk,hs.inj,hs.lay⟩
 obtain⟨kp0,F0,A0,β0,a1,a2,a3,a4⟩:=AC (ds:=[]) hE hO hC ops1.toList l1 hl1 hi hs' (rz hvs b1 hlen) r1;obtain⟨kp1,F1,A1,β1,ys,c1,c2,c3',c4,c5⟩:=TO hE hO hC ops2.toList l2 x hl2 a1.fr.inv a3 a4 r2 r3;have key:∃(X:dF) (uo:Option Value) (u:Value) (f2:aE) (s2:PS),((X=.normal∨X=.ret)∧uo=none∨∃w,X=.panic w∧uo=some w)∧Uq uo u∧s5 P Γ ext ⟨fn.ntmps,l1,l2,x,pr,rs,nt2,d2,l3,c3⟩ caps s.n v u f2 s2∧Kp s1 s2∧
   ∃F2 A2 β2,gE P rest F1 A1 X F2 A2∧Fw A1 A2 β1 β2 s1.n s2.n s2.w∧RS A2 β2 s2∧RF [⟨.fn (.func g2) ys,#[]⟩] A2 β2 s2.n fn.ntmps F2 f2:=by
  rcases hrun with ⟨X,f2,s2,e1,e2,e3⟩ | hx
  ·obtain⟨kp,F2,A2,β2,k1,k2,k3,k4⟩:=nT hE hO hm hP hΓ hX hpr c1.fr.inv c3' c4 e1;exact⟨xt X,none,_,f2,s2,.inl ⟨by rcases e2 with rfl | rfl<;>simp [xt],rfl⟩,.none,e3,kp,F2,A2,β2,k1,k2,k3,k4⟩
  ·obtain⟨w,f2,s2,hu,hpv,hkp,hk⟩:=LE (ds:=[⟨.fn (.func g2) ys,#[]⟩]) hE hO hm hP hΓ hX hK rest pr hpr hx;obtain⟨F2,A2,β2,k1,k2,k3,k4⟩:=hk A1 β1 F1 c1.fr.inv c3' c4;exact⟨.panic w,some w,w,f2,s2,.inr ⟨w,rfl,rfl⟩,.some w hpv,hu,hkp,F2,A2,β2,k1,k2,k3,k4⟩
 obtain⟨X,uo,u,f2,s2,hX2,hUO,⟨hcap,fd1,s3,x3,fd2,s4,us,t1,t2,t3,t4,t5,t6⟩,kp2,F2,A2,β2,k1,k2,k3,k4⟩:=key;simp only at hcap t1 t2 t4;obtain⟨kp3,hd⟩:=FK hE hO hm hP hΓ hX hfn2 hd2 hcap hUO t1 t2 t3;obtain⟨A3,β3,d1,d2',d3,drun⟩:=hd A2 β2 ys k1.fr.inv k3 (c5.mono k2);have k4':=k4.mono d2';obtain⟨us',A4,n1,n2,n3,n4,n5,n6⟩:=Hf d1.inv d3 k4' fn.results.toList rs us hrs t4;obtain⟨frs,rrun⟩:=pq F2 fn.results.toList d1.inv n1;have hbodyC:gE P (.seq (.region i1 ops1 false) (.seq (.region i2 ops2 false) rest)) (kX fn vs.toArray) A X F2 A2:=by
  refine⟨a1.fr.trans (c1.fr.trans k1.fr),fun φ T w a hfr hr hT hfs Q hQ=>wp_seq (wp_region_list ?_)⟩;have fr2:=c1.fr.trans k1.fr;refine a1.run φ T w a hfr hr (hT.left fr2) (bz hfs fr2.next) _ fun φ1 w1 a1' e hp hf1 he=>?_;cases he;refine wp_seq (wp_region_list ?_);have hT1:=bh (A:=A) (B:=A0) hT;have hfs1:=ba hfs a1.fr.next hp;refine c1.run φ1 _ w1 a1' hf1 hp.rel (hT1.left k1.fr) (bz hfs1 k1.fr.next) _ fun φ2 w2 a2' e hp2 hf2 he2=>?_;cases he2;refine k1.run φ2 _ w2 a2' hf2 hp2.rel (bh hT1) (ba hfs1 c1.fr.next hp2) _ fun φ3 w3 a3' e hp3 hf3 he3=>?_;exact hQ φ3 w3 a3' e (hp.trans a1.fr.next fr2 (hp2.trans c1.fr.next k1.fr hp3)) hf3 he3
 have kpAll:Kp ⟨s.h,s.n,s.n⟩ s4:=kp0.trans (kp1.trans (kp2.trans kp3));have hfw:Fw A A4 β β3 s.n s4.n s4.w:=(a2.trans (c2.trans (k2.trans d2' kp3.w) (kp2.trans kp3).w) (kp1.trans (kp2.trans kp3)).w).trans (.heap β3 s4.n n2 n3 n4) (Nat.le_refl _);have hs4:RS A4 β3 s4:=d3.same n2 n3 n4 n5;have hw:∀c,c < A.next→A4.w.testBit c=true→A.w.testBit c=true:=fun c hc hb=>by
  rcases hfw.w c hc hb with h | ⟨k,q1,q2,_⟩
  ·exact h
  ·omega
 have hsame:Kd s s4:=fun k hk=>kpAll.h k hk (by omega);refine⟨pF us',A4,β3,?_,⟨Nat.le_refl _,hfw.next,hfw.eq,fun k a b=>by omega,hfw.prot,hfw.keep,fun c hc hb=>.inl (hw c hc hb)⟩,hs4.cut hs hfw.le hsame,F8 hs4 hfw.le (uU (RV.mono (.heap (lo:=0) β3 s4.n n2 n3 n4) (show Rs A3 β3 s4.n us' us from n6))) t6,hw⟩;refine⟨hbodyC.fr.trans (d1.trans frs),fun φ T w args' hargs hr hT hfs=>calls_of_wp_defers hfn hbody ?_⟩;have frt:=d1.trans frs;have b2:vs.toArray.toList.length≤fn.ntmps:=by rw [List.toList_toArray,hvs.len]; exact hlen
 refine hbodyC.run φ T w _ (iS hargs b1 b2) hr (hT.left frt) (bz hfs frt.next) _ fun φ1 w1 a1' e hp hf1 he=>?_;have jp:∀m,m≠.run→nC φ1 uo m→Leaves P fn a1'.tmps (fun e w'=>∃φ',bG P φ T A A4 w w' φ'∧jG φ' (.ret (pF us')) e) a1'.defers m w1:=by
  intro m hm1 hum;have hdf:=hf1.defers;rw [k4.df] at hdf;generalize hq:a1'.defers=ds' at hdf;cases hdf with
  | cons _ d' _ ds'' hdd hdl=>
   cases hdl;have hT1:=bh (A:=A) (B:=A2) hT;have hfs1:=ba hfs hbodyC.fr.next hp;obtain⟨fv,cap,g',args2,e1,e2,e3⟩:=drun φ1 _ w1 d' m hdd hum hp.rel (hT1.left frs) (bz hfs1 frs.next);refine⟨hm1,fv,cap,g',args2,e1,e2,e3.mono ?_⟩;rintro e m' w' ⟨v',φ',rfl,hp',hu'⟩;have hf2:=hf1.mono hp'.ext;obtain⟨vs',g1,g2',g3⟩:=rrun φ' _ w' a1' hf2 hp'.rel (bh hT1);generalize hq2:settle m'=m2 at hu';cases hu';show Leaves P fn a1'.tmps _ [] (settle m') w';rw [hq2];refine⟨pF vs',ja g2',φ',hp.trans hbodyC.fr.next frt (hp'.trans d1.next frs g3),.ret _ _ ?_⟩;cases g1 with
   | nil=>exact .tuple _ _ .nil
   | cons v v' l l' hv hs2=>
    cases hs2 with
    | nil=>exact hv
    | cons u u' m m' hu hm=>exact .tuple _ _ (.cons _ _ _ _ hv (.cons _ _ _ _ hu hm))
 rcases hX2 with ⟨hX2,rfl⟩ | ⟨w2,rfl,rfl⟩
 ·rcases hX2 with rfl | rfl
  ·cases he; exact jp _ (by simp) .ret
  ·cases he; exact jp _ (by simp) .ret
 ·cases he with
  | panic _ v' hv=>exact jp _ (by simp) (.panic _ _ hv)
end
end Go.PE
