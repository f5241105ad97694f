/- A run on values, and its soundness. No statement is proved here. -/
import Derived.Test.YtgkggocjoolciaaGreatDoorPeB
set_option linter.unusedSimpArgs false
set_option linter.unusedVariables false
set_option linter.defProp false
namespace Go.PE
open Go Go.EvL
section
variable {P:Program}
theorem Qc (hE:zE P) (hO:cQ P) {pu:Nat→Bool}{call:aq} (hC:ff P pu call) {ops:Array Oper}{nt:Nat} : ∀(l:List Oper) (r:List PI),pU P nt ops.toList l=some r→∀{A:AS}{β:Nat→Nat}{f:Fr}{p p':aR}{s s':PS},cT A→RS A β s→RF A β s.n nt f p→
  qQ P call r p s=some (p',s')→Kp s s'∧∃f' A' β',nV P ops l f A .normal f' A'∧Fw A A' β β' s.n s'.n s'.w∧RS A' β' s'∧RF A' β' s'.n nt f' p':=by
 intro l
 induction l with
 | nil=>
  intro r hr A β f p p' s s' hi hs hf h;simp only [pU] at hr;injection hr with hr; subst hr;simp only [qQ] at h;injection h with h; injection h with e1 e2; subst e1; subst e2;exact⟨.refl s,f,A,β,⟨.refl hi,fun φ T w a hf hr _ _ Q hQ=>hQ φ w a .normal (.refl hr rfl rfl rfl rfl rfl rfl rfl) hf .normal⟩,.refl A β s.n _,hs,hf⟩
 | cons o l ih=>
  intro r hr A β f p p' s s' hi hs hf h;simp only [pU] at hr;split at hr
  ·rename_i i r' hi' hr';injection hr with hr; subst hr;simp only [qQ,Option.bind_eq_some_iff] at h;obtain⟨⟨p1,s1⟩,h1,h2⟩:=h;obtain⟨kp1,f1,A1,β1,k1,k2,k3,k4,_⟩:=Fb hE hO hC hi' hi hs hf h1;obtain⟨kp2,f2,A2,β2,m1,m2,m3,m4⟩:=ih r' hr' k1.fr.inv k3 k4 h2;refine⟨kp1.trans kp2,f2,A2,β2,⟨k1.fr.trans m1.fr,fun φ T w a hf hr hT hfr Q hQ=>mD ?_⟩,k2.trans m2 kp2.w,m3,m4⟩;refine k1.run φ T w a hf hr (hT.left m1.fr) (ec hfr m1.fr.next) _ Q fun φ' w' a' hp hf'=>?_;refine m1.run φ' _ w' a' hf' hp.rel (dK hT) (dA hfr k1.fr.next hp) Q fun φ2 w2 a2 e hp2 hf2 hx2=>?_;exact hQ φ2 w2 a2 e (hp.trans k1.fr.next m1.fr hp2) hf2 hx2
  ·cases hr
def xt:xf→eZ
 | .normal=>.normal
 | .exit id=>.exit id
 | .ret=>.ret
def l8 (P:Program) (nt:Nat) (c:Code) (r:aR→PS→kD):Prop:=∀{A:AS}{β:Nat→Nat}{f:Fr}{p p':aR}{s s':PS}{x:xf},cT A→RS A β s→RF A β s.n nt f p→r p s=some (x,p',s')→
 Kp s s'∧∃f' A' β',oC P c f A (xt x) f' A'∧Fw A A' β β' s.n s'.n s'.w∧RS A' β' s'∧RF A' β' s'.n nt f' p'
theorem Qw {nt:Nat}{a b:Code}{ra rb:aR→PS→kD} (ha:l8 P nt a ra) (hb:l8 P nt b rb):l8 P nt (.seq a b) (fun f s=>gR (ra f s) rb):=by
 intro A β f p p' s s' x hi hs hf h;simp only [gR,Option.bind_eq_some_iff] at h;obtain⟨⟨x1,p1,s1⟩,h1,h2⟩:=h;obtain⟨kp1,f1,A1,β1,k1,k2,k3,k4⟩:=ha hi hs hf h1;simp only at h2;split at h2
 ·obtain⟨kp2,f2,A2,β2,m1,m2,m3,m4⟩:=hb k1.fr.inv k3 k4 h2;refine⟨kp1.trans kp2,f2,A2,β2,⟨k1.fr.trans m1.fr,fun φ T w a hf hr hT hfr Q hQ=>wp_seq ?_⟩,k2.trans m2 kp2.w,m3,m4⟩;refine k1.run φ T w a hf hr (hT.left m1.fr) (ec hfr m1.fr.next) _ fun φ' w' a' e hp hf' he=>?_;cases he;exact m1.run φ' _ w' a' hf' hp.rel (dK hT) (dA hfr k1.fr.next hp) Q fun φ2 w2 a2 e hp2 hf2 hx2=>hQ φ2 w2 a2 e (hp.trans k1.fr.next m1.fr hp2) hf2 hx2
 ·rename_i hne;injection h2 with h2; injection h2 with e1 e2; injection e2 with e2 e3;subst e1; subst e2; subst e3;refine⟨kp1,f1,A1,β1,⟨k1.fr,fun φ T w a hf hr hT hfr Q hQ=>wp_seq ?_⟩,k2,k3,k4⟩;refine k1.run φ T w a hf hr hT hfr _ fun φ' w' a' e hp hf' he=>?_;have:=hQ φ' w' a' e hp hf' he;cases x1 with
  | normal=>exact absurd rfl hne
  | exit id=>cases he; exact this
  | ret=>cases he; exact this
theorem Ox {nt:Nat}{o:Operand} (ho:fi o=true) {a b:Code}{ra rb:aR→PS→kD} (ha:l8 P nt a ra) (hb:l8 P nt b rb):l8 P nt (.cond o a b) (fun f s=>nW (jM (cg f o)) (ra f s) (rb f s)):=by
 intro A β f p p' s s' x hi hs hf h;obtain⟨v,v1,v2⟩:=bJ hf ho;have h:nW (jM (cg p o)) (ra p s) (rb p s)=some (x,p',s'):=h;unfold nW at h;split at h
 ·rename_i hb';have:=pd v2 hb';subst this;obtain⟨kp1,f1,A1,β1,k1,k2⟩:=ha hi hs hf h;refine⟨kp1,f1,A1,β1,⟨k1.fr,fun φ T w a hf hr hT hfr Q hQ=>?_⟩,k2⟩;have hv:=hf.eval v1;generalize hq:a.eval o=q at hv;cases hv;exact wp_cond_true hq (k1.run φ T w a hf hr hT hfr Q hQ)
 ·rename_i hb';have:=pd v2 hb';subst this;obtain⟨kp1,f1,A1,β1,k1,k2⟩:=hb hi hs hf h;refine⟨kp1,f1,A1,β1,⟨k1.fr,fun φ T w a hf hr hT hfr Q hQ=>?_⟩,k2⟩;have hv:=hf.eval v1;generalize hq:a.eval o=q at hv;cases hv;exact wp_cond_false hq (k1.run φ T w a hf hr hT hfr Q hQ)
 ·cases h
theorem Hv {nt id:Nat}{b:Code}{rb:aR→PS→kD} (hb:l8 P nt b rb):l8 P nt (.block id b) (fun f s=>jm id (rb f s)):=by
 intro A β f p p' s s' x hi hs hf h;simp only [jm,Option.map_eq_some_iff] at h;obtain⟨⟨x1,p1,s1⟩,h1,h2⟩:=h;obtain⟨kp1,f1,A1,β1,k1,k2⟩:=hb hi hs hf h1;cases x1 with
 | exit i=>
  simp only at h2;split at h2
  ·rename_i hid;subst hid;injection h2 with e1 e2; injection e2 with e2 e3;subst e1; subst e2; subst e3;refine⟨kp1,f1,A1,β1,⟨k1.fr,fun φ T w a hf hr hT hfr Q hQ=>wp_block ?_⟩,k2⟩;refine k1.run φ T w a hf hr hT hfr _ fun φ' w' a' e hp hf' he=>?_;cases he;show (if i=i then Q .normal a' w' else _);rw [if_pos rfl];exact hQ φ' w' a' _ hp hf' .normal
  ·rename_i hid;injection h2 with e1 e2; injection e2 with e2 e3;subst e1; subst e2; subst e3;refine⟨kp1,f1,A1,β1,⟨k1.fr,fun φ T w a hf hr hT hfr Q hQ=>wp_block ?_⟩,k2⟩;refine k1.run φ T w a hf hr hT hfr _ fun φ' w' a' e hp hf' he=>?_;have:=hQ φ' w' a' e hp hf' he;cases he;show (if i=id then _ else Q (.exit i) a' w');rw [if_neg hid];exact this
 | normal=>
  injection h2 with e1 e2; injection e2 with e2 e3;subst e1; subst e2; subst e3;refine⟨kp1,f1,A1,β1,⟨k1.fr,fun φ T w a hf hr hT hfr Q hQ=>wp_block ?_⟩,k2⟩;refine k1.run φ T w a hf hr hT hfr _ fun φ' w' a' e hp hf' he=>?_;have:=hQ φ' w' a' e hp hf' he;cases he;exact this
 | ret=>
  injection h2 with e1 e2; injection e2 with e2 e3;subst e1; subst e2; subst e3;refine⟨kp1,f1,A1,β1,⟨k1.fr,fun φ T w a hf hr hT hfr Q hQ=>wp_block ?_⟩,k2⟩;refine k1.run φ T w a hf hr hT hfr _ fun φ' w' a' e hp hf' he=>?_;have:=hQ φ' w' a' e hp hf' he;cases he;exact this
theorem MO {nt:Nat}{b:Code}{rb:aR→PS→kD} (hb:l8 P nt b rb):∀(L:Nat) {A:AS}{β:Nat→Nat}{f:Fr}{p p':aR}{s s':PS}{x:xf},cT A→RS A β s→RF A β s.n nt f p→mQ rb L p s=some (x,p',s')→
  Kp s s'∧∃f' A' β',(mR A A'∧∀(φ:dI) (T:Nat→Prop) (w:World) (a:Act),fe φ f a→je P φ T A w→jd A A' T→ja A A' φ→∀(Q:Exit→Act→World→Prop),
    (∀φ' w' a' e,cK P φ T A A' w w' φ'→fe φ' f' a'→zT φ' (xt x) e→Q e a' w')→Code.rounds P b Q L a w)∧Fw A A' β β' s.n s'.n s'.w∧RS A' β' s'∧RF A' β' s'.n nt f' p':=by
 intro L
 induction L with
 | zero=>intro A β f p p' s s' x _ _ _ h; cases h
 | succ L ih=>
  intro A β f p p' s s' x hi hs hf h;simp only [mQ,gR,Option.bind_eq_some_iff] at h;obtain⟨⟨x1,p1,s1⟩,h1,h2⟩:=h;obtain⟨kp1,f1,A1,β1,k1,k2,k3,k4⟩:=hb hi hs hf h1;simp only at h2;split at h2
  ·obtain⟨kp2,f2,A2,β2,⟨m0,m1⟩,m2,m3,m4⟩:=ih k1.fr.inv k3 k4 h2;refine⟨kp1.trans kp2,f2,A2,β2,⟨k1.fr.trans m0,fun φ T w a hf hr hT hfr Q hQ=>?_⟩,k2.trans m2 kp2.w,m3,m4⟩;rw [rounds_succ];refine k1.run φ T w a hf hr (hT.left m0) (ec hfr m0.next) _ fun φ' w' a' e hp hf' he=>?_;cases he;exact m1 φ' _ w' a' hf' hp.rel (dK hT) (dA hfr k1.fr.next hp) Q fun φ2 w2 a2 e hp2 hf2 hx2=>hQ φ2 w2 a2 e (hp.trans k1.fr.next m0 hp2) hf2 hx2
  ·rename_i hne;injection h2 with h2; injection h2 with e1 e2; injection e2 with e2 e3;subst e1; subst e2; subst e3;refine⟨kp1,f1,A1,β1,⟨k1.fr,fun φ T w a hf hr hT hfr Q hQ=>?_⟩,k2,k3,k4⟩;rw [rounds_succ];refine k1.run φ T w a hf hr hT hfr _ fun φ' w' a' e hp hf' he=>?_;have:=hQ φ' w' a' e hp hf' he;cases x1 with
   | normal=>exact absurd rfl hne
   | exit id=>cases he; exact this
   | ret=>cases he; exact this
theorem dR {l:List Tmp}{t:Nat} (h:(bP l).testBit t=true):t∈l:=by
 induction l with
 | nil=>rw [show bP []=0 from rfl,Nat.zero_testBit] at h; cases h
 | cons x l ih=>
  have h':(bP l ||| (1 <<< x)).testBit t=true:=h;rcases iF h' with h | rfl
  ·exact List.mem_cons_of_mem _ (ih h)
  ·exact List.mem_cons_self
theorem wd (n c l x:Nat):(eO n c l).testBit x=true↔(n≤x∧c.testBit (x - n)=true)∨l.testBit x=true:=by
 have e:eO n c l=(c <<< n) ||| l:=rfl
 rw [e,Nat.testBit_or,Nat.testBit_shiftLeft,Bool.or_eq_true,Bool.and_eq_true,decide_eq_true_iff]
theorem x9 {a b:Nat} (h:∀x,a.testBit x=true→b.testBit x=true→False):Nat.beq (Nat.land a b) 0=true:=by
 have:Nat.land a b=0:=by
  apply Nat.eq_of_testBit_eq;intro x;show (a &&& b).testBit x=_;rw [Nat.testBit_and,Nat.zero_testBit];cases h1:a.testBit x with
  | false=>rfl
  | true=>cases h2:b.testBit x with
   | false=>rfl
   | true=>exact (h x h1 h2).elim
 rw [this]; rfl
theorem IW {r w r' w':Nat} (h1:∀x,w.testBit x=true→r'.testBit x=true→False) (h2:∀x,w.testBit x=true→w'.testBit x=true→False) (h3:∀x,w'.testBit x=true→r.testBit x=true→False):uz r w r' w'=true:=by
 unfold uz;rw [Bool.and_eq_true];refine⟨x9 fun x a b=>?_,x9 h3⟩;have b':(r' ||| w').testBit x=true:=b;rw [Nat.testBit_or,Bool.or_eq_true] at b';exact b'.elim (h1 x a) (h2 x a)
structure Ub (β:Nat→Nat) (n next:Nat) (E:jc) (a b lo hi cr cw:Nat):Prop where
 ab:a≤b
 bn:b≤n
 lh:lo≤hi
 hn:hi≤next
 r:∀c,cr.testBit c=true→(∃k∈E.rd,k < a∧β k=c)∨(E.li=true∧c < lo∧∀k,k < a→β k≠c)∨(lo≤c∧c < hi)∨(E.ca=true∧c < hi)
 w:∀c,cw.testBit c=true→(∃k∈E.wr,k < a∧β k=c)∨(lo≤c∧c < hi)
 new:E.ca=false→∀c,lo≤c→c < hi→cr.testBit c=true∨cw.testBit c=true→∃k,a≤k∧k < b∧β k=c
 low:∀k,k < a→β k < lo
 mid:∀k,a≤k→k < b→lo≤β k∧β k < hi
 top:∀k,b≤k→k < n→hi≤β k
theorem Ub.mono {β β':Nat→Nat}{n n' next next':Nat}{E:jc}{a b lo hi cr cw:Nat} (h:Ub β n next E a b lo hi cr cw) (he:∀k,k < n→β' k=β k) (hn:n≤n') (hx:next≤next') (hnew:∀k,n≤k→k < n'→next≤β' k):Ub β' n' next' E a b lo hi cr cw:=by
 have hab:=h.ab;have hbn:=h.bn;have hhn:=h.hn;refine⟨h.ab,by omega,h.lh,by omega,fun c hc=>?_,fun c hc=>?_,fun hca c c1 c2 hc=>?_,fun k hk=>?_,fun k h1 h2=>?_,fun k h1 h2=>?_⟩
 ·rcases h.r c hc with ⟨k,k1,k2,k3⟩ | ⟨h1,h2,h3⟩ | h1
  ·exact .inl ⟨k,k1,k2,by rw [he k (by omega)]; exact k3⟩
  ·exact .inr (.inl ⟨h1,h2,fun k hk=>by rw [he k (by omega)]; exact h3 k hk⟩)
  ·exact .inr (.inr h1)
 ·rcases h.w c hc with ⟨k,k1,k2,k3⟩ | h1
  ·exact .inl ⟨k,k1,k2,by rw [he k (by omega)]; exact k3⟩
  ·exact .inr h1
 ·obtain⟨k,k1,k2,k3⟩:=h.new hca c c1 c2 hc;exact⟨k,k1,k2,by rw [he k (by omega)]; exact k3⟩
 ·rw [he k (by omega)]; exact h.low k hk
 ·rw [he k (by omega)]; exact h.mid k h1 h2
 ·by_cases hk:k < n
  ·rw [he k hk]; exact h.top k h1 hk
  ·have:=hnew k (by omega) h2; omega
theorem FH {A B:AS}{β β':Nat→Nat}{n n':Nat}{E F:jc}{a b lo hi cr cw:Nat} (h:Ub β n A.next E a b lo hi cr cw) (m:BS (cU A) B β β' n n' F) (hlt:∀k,k < n→β k < A.next) (hinj:∀j k,j < n→k < n→β j=β k→j=k) (hp:bZ E a b F) (c:Nat) :
  (cw.testBit c=true→B.r.testBit c=true→False)∧(cw.testBit c=true→B.w.testBit c=true→False)∧(B.w.testBit c=true→cr.testBit c=true→False):=by
 obtain⟨p1,p2,p3,p4,p5,p6,p7⟩:=hp;have hab:=h.ab;have hbn:=h.bn;have hhn:=h.hn;have hnx:(cU A).next=A.next:=eY A;have hr0:(cU A).r=0:=by rw [dc]
 have hw0:(cU A).w=0:=by rw [dc]
 have Br:∀c,B.r.testBit c=true→(∃k∈F.rd,k < n∧β k=c)∨(F.li=true∧c < A.next∧∀k,k < n→β k≠c)∨A.next≤c∨F.ca=true:=fun c hc=>by
  rcases m.r c hc with h | h | ⟨h1,h2⟩ | ⟨h1,_⟩ | ⟨h1,_⟩
  ·rw [hr0,Nat.zero_testBit] at h; cases h
  ·exact .inl h
  ·exact .inr (.inl ⟨h1,by rw [← hnx]; exact h2.1,h2.2⟩)
  ·exact .inr (.inr (.inl (by omega)))
  ·exact .inr (.inr (.inr h1))
 have Bw:∀c,B.w.testBit c=true→(∃k∈F.wr,k < n∧β k=c)∨A.next≤c:=fun c hc=>by
  rcases m.w c hc with h | h | ⟨h1,_⟩
  ·rw [hw0,Nat.zero_testBit] at h; cases h
  ·exact .inl h
  ·exact .inr (by omega)
 have off:∀k,k < n→(k < a∨b≤k)→¬ (lo≤β k∧β k < hi):=fun k hk hh hc=>by
  rcases hh with h1 | h1
  ·have:=h.low k h1; omega
  ·have:=h.top k h1 hk; omega
 refine⟨fun hc hr=>?_,fun hc hw=>?_,fun hw hc=>?_⟩
 ·rcases h.w c hc with ⟨k,k1,k2,rfl⟩ | ⟨c1,c2⟩
  ·rcases Br _ hr with ⟨k',j1,j2,j3⟩ | ⟨_,_,j⟩ | j | j
   ·have:=hinj k' k j2 (by omega) j3; subst this; exact (p1 _ k1).1 j1
   ·exact j k (by omega) rfl
   ·have:=hlt k (by omega); omega
   ·rw [(p6 j).1] at k1; cases k1
  ·rcases Br _ hr with ⟨k',j1,j2,rfl⟩ | ⟨j0,_,j⟩ | j | j
   ·exact off k' j2 (p2 _ j1) ⟨c1,c2⟩
   ·cases hca:E.ca with
    | true=>exact p4 ⟨hca,j0⟩
    | false=>
     obtain⟨k,k1,k2,k3⟩:=h.new hca c c1 c2 (.inr hc);exact j k (by omega) k3
   ·omega
   ·obtain⟨_,q2,q3⟩:=p6 j;obtain⟨k,k1,k2,_⟩:=h.new q3 c c1 c2 (.inr hc);omega
 ·rcases h.w c hc with ⟨k,k1,k2,rfl⟩ | ⟨c1,c2⟩
  ·rcases Bw _ hw with ⟨k',j1,j2,j3⟩ | j
   ·have:=hinj k' k j2 (by omega) j3; subst this; exact (p1 _ k1).2 j1
   ·have:=hlt k (by omega); omega
  ·rcases Bw _ hw with ⟨k',j1,j2,rfl⟩ | j
   ·exact off k' j2 (p3 _ j1) ⟨c1,c2⟩
   ·omega
 ·rcases Bw _ hw with ⟨k',j1,j2,rfl⟩ | j
  ·rcases h.r _ hc with ⟨k,k1,k2,k3⟩ | ⟨_,q1,q2⟩ | ⟨c1,c2⟩ | ⟨q1,q2⟩
   ·have:=hinj k k' (by omega) j2 k3; subst this; exact p5 _ j1 k1
   ·rcases Nat.lt_or_ge k' a with hk | hk
    ·exact q2 k' hk rfl
    ·rcases Nat.lt_or_ge k' b with hk2 | hk2
     ·have:=(h.mid k' hk hk2).1; omega
     ·have h1:=h.top k' hk2 j2;have h2:=h.lh;omega
   ·exact off k' j2 (p3 _ j1) ⟨c1,c2⟩
   ·have:=h.top k' (p7 q1 k' j1) j2; omega
  ·rcases h.r _ hc with ⟨k,k1,k2,k3⟩ | ⟨_,q1,q2⟩ | ⟨c1,c2⟩ | ⟨q1,q2⟩
   ·have:=hlt k (by omega); omega
   ·have:=h.lh; omega
   ·omega
   ·omega
theorem CP {f:Fr}{ls:List Nat} (t:Nat):((hZ ls f).tmps.get t)=if t∈ls then f.tmps.get t else none:=by
 obtain⟨tm,n,ds⟩:=f;have:(hZ ls ⟨tm,n,ds⟩).tmps=mP tm ls:=by
  show (dO (mP tm ls) fun t=>(⟨t,n,[]⟩ : Fr)).tmps=_;rw [dh]
 rw [this];exact xl tm ls (fun _ _=>.inl trivial) t
theorem Oh {A:AS}{β:Nat→Nat}{n nt:Nat}{f:Fr}{p:aR} (h:RF A β n nt f p) (ls:List Nat):RF A β n nt (hZ ls f) (dl ls p):=by
 have hn:(hZ ls f).n=f.n∧(hZ ls f).defers=[]:=by
  obtain⟨tm,n,ds⟩:=f;show (dO (mP tm ls) fun t=>(⟨t,n,[]⟩ : Fr)).n=n∧(dO (mP tm ls) fun t=>(⟨t,n,[]⟩ : Fr)).defers=[]
  rw [dh]; exact⟨rfl,rfl⟩
 refine⟨hn.1.trans h.num,h.few,hn.2,fun j=>?_⟩;rw [CP];unfold dl;by_cases hj:j∈ls
 ·rw [if_pos hj,if_pos hj]; exact h.tmp j
 ·rw [if_neg hj,if_neg hj]; exact .cl _ _ (.sc _ rfl)
theorem RC.hp {A A':AS}{β:Nat→Nat}{n:Nat} (h1:A'.heap=A.heap) (h2:A'.next=A.next) {x:Value × PV ⊕ List Value × List PV} (h:RC A β n x):RC A' β n x:=by
 have hp:∀c,jA A β n c→jA A' β n c:=fun c hc=>⟨by rw [h2]; exact hc.1,hc.2⟩
 induction h with
 | sc v h=>exact .sc v h
 | fn g=>exact .fn g
 | lit b off m' cap e cs cells c st hg hpr hl hm' _ ih=>exact .lit b off m' cap e cs cells c st (by rw [h1]; exact hg) (hp _ hpr) hl hm' ih
 | litp b off e cs cells c st hg hpr hl _ ih=>exact .litp b off e cs cells c st (by rw [h1]; exact hg) (hp _ hpr) hl ih
 | litx b off m' e cs cells c st hg hpr hl _ ih=>exact .litx b off m' e cs cells c st (by rw [h1]; exact hg) (hp _ hpr) hl ih
 | agg xs cs _ ih=>exact .agg xs cs ih
 | nil=>exact .nil
 | cons v p l r _ _ ih ihs=>exact .cons v p l r ih ihs
theorem RV.hp {A A':AS}{β:Nat→Nat}{n:Nat} (h1:A'.heap=A.heap) (h2:A'.next=A.next) {x:Value × PV ⊕ List Value × List PV} (h:RV A β n x):RV A' β n x:=by
 induction h with
 | cl v p h=>exact .cl v p (h.hp h1 h2)
 | fn g xs ys as bs _ _ h h'=>exact .fn g xs ys as bs h h'
 | agg xs cs _ ih=>exact .agg xs cs ih
 | tup xs cs _ ih=>exact .tup xs cs ih
 | own b o k off m fin cap e cells st ok hk hg ho hf hm=>exact .own b o k off m fin cap e cells st ok hk (by rw [h1]; exact hg) ho hf hm
 | ptr b o k off fin e cells st ok hk hg ho hf=>exact .ptr b o k off fin e cells st ok hk (by rw [h1]; exact hg) ho hf
 | nil=>exact .nil
 | cons v p l r _ _ ih ihs=>exact .cons v p l r ih ihs
theorem RS.hp {A A':AS}{β:Nat→Nat}{s:PS} (h1:A'.heap=A.heap) (h2:A'.next=A.next) (h3:A'.fz=A.fz) (h:RS A β s):RS A' β s:=by
 refine⟨fun k hk=>?_,h.inj⟩;have hb:=h.blk k hk;exact⟨by rw [h1]; exact hb.cur,fun x cells e st ok hg=>by
  rw [h1] at hg;obtain⟨a1,a2,a3⟩:=hb.all x cells e st ok hg;exact⟨a1,a2,fun hl=>⟨(a3 hl).1,(a3 hl).2.hp h1 h2⟩⟩,by rw [h1]; exact hb.uni,hb.low,by rw [h3]; exact hb.fz,by rw [h2]; exact hb.lt,by rw [h1]; exact hb.z⟩
theorem RF.hp {A A':AS}{β:Nat→Nat}{n nt:Nat}{f:Fr}{p:aR} (h1:A'.heap=A.heap) (h2:A'.next=A.next) (h:RF A β n nt f p):RF A' β n nt f p:=⟨h.num,h.few,h.df,fun j=>(h.tmp j).hp h1 h2⟩
theorem Jp {A:AS}{β:Nat→Nat}{s:PS} (h:RS A β s):RS (cU A) β s:=h.hp (by rw [dc]) (by rw [dc]) (by rw [dc])
theorem Nz {A B:AS}{β β':Nat→Nat}{n n' lo:Nat} (h:Fw (cU A) B β β' n n' lo):Fw A (j6 A B) β β' n n' lo:=by
 rw [dc] at h;rw [iI];refine⟨h.le,h.next,h.eq,h.new,h.prot,h.keep,fun c hc hw=>?_⟩;rw [Nat.testBit_or,Bool.or_eq_true] at hw;rcases hw with hw | hw
 ·rcases h.w c hc hw with h1 | h1
  ·simp only [Nat.zero_testBit] at h1; cases h1
  ·exact .inr h1
 ·exact .inl hw
theorem Ns {A B:AS}{β:Nat→Nat}{s:PS} (h:RS B β s):RS (j6 A B) β s:=h.hp (by rw [iI]) (by rw [iI]) (by rw [iI])
def I3 (nt:Nat) (sacc:List (Nat × List Nat × Option Nat)) (pacc:List (Nat × jc × Nat × Nat)) (β:Nat→Nat) (n next:Nat) (acc:List Fp):Prop:=
 ∀e∈acc,∃ls d E a b lo hi cr cw,(e.j,ls,d)∈sacc∧(e.j,E,a,b)∈pacc∧e.r=eO nt cr (bP ls)∧e.w=eO nt cw (bP d.toList)∧(∀t∈ls,t < nt)∧(∀t∈d.toList,t < nt)∧Ub β n next E a b lo hi cr cw
theorem Ck (hE:zE P) (hO:cQ P) {pu:Nat→Bool}{call:aq} (hC:ff P pu call) {ops:Array Oper}{nt:Nat} : ∀(lo:List Oper) (l:List PI) (r:List (List Nat × List Nat)) (j:Nat) (bs:Tr Nat) (sacc:List (Nat × List Nat × Option Nat)) (pacc:List (Nat × jc × Nat × Nat)) (acc:List Fp) {f:Fr}{A:AS}{β:Nat→Nat}{p p':aR}{s s':PS},
  pU P nt ops.toList lo=some l→sD nt ops lo j bs sacc=some r→ky P pu call (GV l r) j pacc p s=some (p',s')→cT A→RS A β s→RF A β s.n nt f p→I3 nt sacc pacc β s.n A.next acc→
  Kp s s'∧∃X:Nat→Gw,(X j).f=f∧(X j).s=A∧(X j).bs=bs∧(X j).acc=acc∧(∀i o,lo[i]?=some o→EvL.Qy P (fun _ _ _=>none) ops X (j + i) o∧m8 P ops o (hZ (o.looksAt ops) (X (j + i)).f) (cU (X (j + i)).s) (X (j + i)).g (X (j + i)).B)∧
   ∃β',Fw A (X (j + lo.length)).s β β' s.n s'.n s'.w∧RS (X (j + lo.length)).s β' s'∧RF (X (j + lo.length)).s β' s'.n nt (X (j + lo.length)).f p':=by
 intro lo
 induction lo with
 | nil=>
  intro l r j bs sacc pacc acc f A β p p' s s' hl hr h hi hs hf hacc;simp only [pU] at hl;injection hl with hl; subst hl;simp only [sD] at hr;injection hr with hr; subst hr;simp only [GV,ky] at h;injection h with h; injection h with e1 e2; subst e1; subst e2;exact⟨.refl s,fun _=>⟨f,A,f,A,bs,acc⟩,rfl,rfl,rfl,rfl,fun i o hh=>by simp at hh,β,.refl A β s.n _,hs,hf⟩
 | cons o lo ih=>
  intro l r j bs sacc pacc acc f A β p p' s s' hl hr h hi hs hf hacc;simp only [pU] at hl;split at hl
  ·rename_i i l' hi' hl';injection hl with hl; subst hl;simp only [sD] at hr;split at hr
   ·rename_i hst;simp only [Bool.and_eq_true] at hst;obtain⟨t1,t2,t3,t4,t5⟩:=hst;split at hr
    ·rename_i r' hr';injection hr with hr; subst hr;simp only [GV,ky,Option.bind_eq_some_iff] at h;obtain⟨⟨g,s1⟩,h1,h2⟩:=h;simp only at h2;split at h2
     ·rename_i hok;obtain⟨hpu,hall⟩:=hok;obtain⟨kp1,gf,B,β1,k1,k2,k3,k4,k5,k6⟩:=Fb hE hO hC hi' (sM hi) (Jp hs) ((Oh hf (o.looksAt ops)).hp (A':=cU A) (by rw [dc]) (by rw [dc])) h1;have k5':=k5 hpu;have hdst:i.dst=o.dst:=by
       unfold Av at hi';split at hi'
       ·split at hi'
        ·injection hi' with hi'; rw [← hi']
        ·cases hi'
       ·cases hi'
      have hdn:J1 nt o.dst=true:=by
       unfold Av at hi';split at hi'
       ·split at hi'
        ·assumption
        ·cases hi'
       ·cases hi'
      have hfB:RF B β1 s1.n nt f p:=((hf.hp (A':=cU A) (by rw [dc]) (by rw [dc])).mono k2)
      obtain⟨f1,m1,m2⟩ : ∃f1,jw f o.dst gf=some f1∧RF B β1 s1.n nt f1 (I0 p i.dst g):=by
       unfold jw;rw [k4.df];simp only;cases hd:o.dst with
       | none=>
        refine⟨f,rfl,?_⟩;rw [hdst,hd];exact hfB
       | some d=>
        rw [hd] at hdn;obtain⟨f1,q1,q2⟩:=hfB.set (d:=some d) hdn (k4.tmp d);refine⟨f1,q1,?_⟩;rw [hdst,hd];exact q2
      have hnx:(cU A).next=A.next:=eY A;have hjn:(j6 A B).next=B.next:=jD A B;have hlt:∀k,k < s.n→β k < A.next:=fun k hk=>(hs.blk k hk).lt;have t4':∀t∈o.looksAt ops,t < nt:=fun t ht=>by
       rw [List.all_eq_true] at t4;exact Nat.lt_of_succ_le (Nat.le_of_ble_eq_true (t4 t ht))
      have hdt:∀t∈o.dst.toList,t < nt:=fun t ht=>by
       cases hd:o.dst with
       | none=>rw [hd] at ht; cases ht
       | some d=>
        rw [hd] at ht hdn;simp only [Option.toList_some,List.mem_singleton] at ht;subst ht;exact Nat.lt_of_succ_le (Nat.le_of_ble_eq_true hdn)
      have hclear:my (j7 bs o.after.toList) (eO f1.n B.r (bP (o.looksAt ops))) (eO f1.n B.w (bP o.dst.toList)) acc=true:=by
       unfold my;rw [List.all_eq_true];intro e he;rw [Bool.or_eq_true];cases hb:(j7 bs o.after.toList).testBit e.j with
       | true=>exact .inr rfl
       | false=>
        left;obtain⟨ls,dd,E,a,b,lo',hi2,cr,cw,x1,x2,x3,x4,x5,x6,x7⟩:=hacc e he;have hmem:(e.j,ls,dd)∈sacc.filter fun p=>!((j7 bs o.after.toList).testBit p.1):=List.mem_filter.2 ⟨x1,by simp only [hb]; rfl⟩;have hsl:=(List.all_eq_true.1 t5) _ hmem;unfold vM at hsl;simp only [Bool.and_eq_true,List.all_eq_true,Bool.not_eq_true',List.contains_eq_mem,decide_eq_false_iff_not] at hsl;have hop:bZ E a b (pX (dl (o.looksAt ops) p) i):=hall _ x2 (List.mem_map.2 ⟨_,hmem,rfl⟩);have hap:=FH x7 k5' hlt hs.inj hop;rw [x3,x4,m2.num];refine IW (fun x a1 a2=>?_) (fun x a1 a2=>?_) (fun x a1 a2=>?_)
        ·rw [wd] at a1 a2;rcases a1 with ⟨b1,b2⟩ | b1<;>rcases a2 with ⟨c1,c2⟩ | c1
         ·exact (hap (x - nt)).1 b2 c2
         ·exact Nat.lt_irrefl _ (Nat.lt_of_lt_of_le (t4' x (dR c1)) b1)
         ·exact Nat.lt_irrefl _ (Nat.lt_of_lt_of_le (x6 x (dR b1)) c1)
         ·exact (hsl.1 x (dR b1)).1 (dR c1)
        ·rw [wd] at a1 a2;rcases a1 with ⟨b1,b2⟩ | b1<;>rcases a2 with ⟨c1,c2⟩ | c1
         ·exact (hap (x - nt)).2.1 b2 c2
         ·exact Nat.lt_irrefl _ (Nat.lt_of_lt_of_le (hdt x (dR c1)) b1)
         ·exact Nat.lt_irrefl _ (Nat.lt_of_lt_of_le (x6 x (dR b1)) c1)
         ·exact (hsl.1 x (dR b1)).2 (dR c1)
        ·rw [wd] at a1 a2;rcases a1 with ⟨b1,b2⟩ | b1<;>rcases a2 with ⟨c1,c2⟩ | c1
         ·exact (hap (x - nt)).2.2 b2 c2
         ·exact Nat.lt_irrefl _ (Nat.lt_of_lt_of_le (x5 x (dR c1)) b1)
         ·exact Nat.lt_irrefl _ (Nat.lt_of_lt_of_le (hdt x (dR b1)) c1)
         ·exact hsl.2 x (dR b1) (dR c1)
      have hacc':I3 nt ((j,o.looksAt ops,o.dst) :: sacc) ((j,pX (dl (o.looksAt ops) p) i,s.n,s1.n) :: pacc) β1 s1.n (j6 A B).next (⟨j,eO f1.n B.r (bP (o.looksAt ops)),eO f1.n B.w (bP o.dst.toList)⟩ :: acc):=by
       intro e he;rcases List.mem_cons.1 he with rfl | he
       ·refine⟨o.looksAt ops,o.dst,_,s.n,s1.n,A.next,B.next,B.r,B.w,List.mem_cons_self,List.mem_cons_self,by rw [m2.num],by rw [m2.num],t4',hdt,?_⟩;have hr0:(cU A).r=0:=by rw [dc]
        have hw0:(cU A).w=0:=by rw [dc]
        refine⟨k2.le,Nat.le_refl _,by have:=k2.next; omega,by omega,fun c hc=>?_,fun c hc=>?_,fun hca c c1 c2 hc=>?_,fun k hk=>?_,fun k b1 b2=>⟨?_,?_⟩,fun k b1 b2=>by omega⟩
        ·rcases k5'.r c hc with h | ⟨k,y1,y2,y3⟩ | ⟨y1,y2⟩ | ⟨y1,y2⟩ | ⟨y1,y2⟩
         ·rw [hr0,Nat.zero_testBit] at h; cases h
         ·exact .inl ⟨k,y1,y2,by rw [k2.eq k y2]; exact y3⟩
         ·exact .inr (.inl ⟨y1,by have:=y2.1; omega,fun k hk=>by rw [k2.eq k hk]; exact y2.2 k hk⟩)
         ·exact .inr (.inr (.inl ⟨by omega,y2⟩))
         ·exact .inr (.inr (.inr ⟨y1,y2⟩))
        ·rcases k5'.w c hc with h | ⟨k,y1,y2,y3⟩ | ⟨y1,y2⟩
         ·rw [hw0,Nat.zero_testBit] at h; cases h
         ·exact .inl ⟨k,y1,y2,by rw [k2.eq k y2]; exact y3⟩
         ·exact .inr ⟨by omega,y2⟩
        ·obtain⟨n1,n2⟩:=k5'.new hca c (by omega) c2;rcases hc with hc | hc
         ·rcases n1 hc with h | h
          ·rw [hr0,Nat.zero_testBit] at h; cases h
          ·exact h
         ·rcases n2 hc with h | h
          ·rw [hw0,Nat.zero_testBit] at h; cases h
          ·exact h
        ·rw [k2.eq k hk]; exact hlt k hk
        ·have:=k2.new k b1 b2; omega
        ·exact (k3.blk k b2).lt
       ·obtain⟨ls,dd,E,a,b,lo',hi2,cr,cw,x1,x2,x3,x4,x5,x6,x7⟩:=hacc e he;exact⟨ls,dd,E,a,b,lo',hi2,cr,cw,List.mem_cons_of_mem _ x1,List.mem_cons_of_mem _ x2,x3,x4,x5,x6,x7.mono k2.eq k2.le (by have:=k2.next; omega) (fun k b1 b2=>by have:=k2.new k b1 b2; omega)⟩
      have hinvJ:cT (j6 A B):=(yv k1.fr).inv;have hfJ:RF (j6 A B) β1 s1.n nt f1 (I0 p i.dst g):=m2.hp (by rw [iI]) (by rw [iI]);obtain⟨kp2,X,e1,e2,e3,e4,e7,β',w1,w2,w3⟩:=ih l' r' (j + 1) _ _ _ (⟨j,eO f1.n B.r (bP (o.looksAt ops)),eO f1.n B.w (bP o.dst.toList)⟩ :: acc) hl' hr' h2 hinvJ (Ns k3) hfJ hacc';obtain⟨Y,hYj,hY⟩ : ∃Y:Nat→Gw,Y j=⟨f,A,gf,B,bs,acc⟩∧∀i,Y (j + 1 + i)=X (j + 1 + i):=
       ⟨fun n=>if n=j then ⟨f,A,gf,B,bs,acc⟩ else X n,if_pos rfl,fun i=>if_neg (by omega)⟩
      have hlast:Y (j + (o :: lo).length)=X (j + 1 + lo.length):=by rw [List.length_cons,show j + (lo.length + 1)=j + 1 + lo.length by omega,hY]
      refine⟨kp1.trans kp2,Y,by rw [hYj],by rw [hYj],by rw [hYj],by rw [hYj],fun i' o' hi''=>?_,β',?_,?_,?_⟩
      ·cases i' with
       | zero=>
        simp at hi'';subst hi'';have h0:Y (j + 1)=X (j + 1):=hY 0;rw [Nat.add_zero];refine⟨⟨?_,?_,?_,t1,Nat.lt_of_succ_le (Nat.le_of_ble_eq_true t2),t3,?_,?_,?_⟩,?_⟩
        ·rw [hYj]; exact .inr ⟨k1,k6⟩
        ·rw [hYj,h0,e1]; exact m1
        ·rw [hYj,h0,e2]
        ·rw [hYj,h0,e3]
        ·rw [hYj,h0,e4,e1]
        ·rw [hYj,h0,e1]; exact hclear
        ·rw [hYj]; exact k1
       | succ i'=>
        obtain⟨hg,hso⟩:=e7 i' o' (by simpa using hi'');have h0:=hY i';have h1:=hY (i' + 1);rw [show j + (i' + 1)=j + 1 + i' by omega];obtain⟨a1,a2,a3,a4,a5,a9,a6,a7,a8⟩:=hg;rw [show j + 1 + (i' + 1)=j + 1 + i' + 1 by omega] at h1;refine⟨⟨?_,?_,?_,a4,a5,a9,?_,?_,?_⟩,?_⟩<;>simp only [h0,h1]<;>assumption
      ·rw [hlast]; exact (Nz k2).trans w1 kp2.w
      ·rw [hlast]; exact w2
      ·rw [hlast]; exact w3
     ·cases h2
    ·cases hr
   ·cases hr
  ·cases hl
theorem MN (hE:zE P) (hO:cQ P) (hm:P.follows .mixedOrders=true) {pu:Nat→Bool}{call:aq} (hC:ff P pu call) {ops:Array Oper}{nt:Nat} (id:Nat) {l:List PI}{r:List (List Nat × List Nat)} (hl:pU P nt ops.toList ops.toList=some l) (hr:sD nt ops ops.toList 0 .nil []=some r)
  {f:Fr}{A:AS}{β:Nat→Nat}{p p':aR}{s s':PS} (hi:cT A) (hs:RS A β s) (hf:RF A β s.n nt f p) (h:ky P pu call (GV l r) 0 [] p s=some (p',s')) :
  Kp s s'∧∃f' A' β',oC P (.region id ops true) f A (xt .normal) f' A'∧Fw A A' β β' s.n s'.n s'.w∧RS A' β' s'∧RF A' β' s'.n nt f' p':=by
 obtain⟨kp,X,e1,e2,e3,e4,e7,β',w1,w2,w3⟩:=Ck hE hO hC ops.toList l r 0 .nil [] [] [] hl hr h hi hs hf (fun e he=>by cases he);simp only [Nat.zero_add,Array.length_toList] at e7 w1 w2 w3;have W:EvL.pR P (fun _ _ _=>none) ops X:=⟨e3,e4,fun i o ho=>(e7 i o (by simpa using ho)).1⟩
 have H:EvL.kE P ops X:=⟨fun i hi=>by
  obtain⟨o,ho⟩:=lP hi;exact (e7 i o (by simpa using ho)).2.fr,fun i o ho=>(e7 i o (by simpa using ho)).2⟩
 have hc:=Su hm W H (by rw [e2]; exact hi) id;rw [e1,e2] at hc;exact⟨kp,_,_,β',hc,w1,w2,w3⟩
theorem Mw (hE:zE P) (hO:cQ P) (hm:P.follows .mixedOrders=true) {pu:Nat→Bool}{call:aq} (hC:ff P pu call) {L nt:Nat} : ∀(c:Code) (pc:aW),comp P nt c=some pc→l8 P nt c (dD P pu call L pc):=by
 intro c
 induction c with
 | skip=>
  intro pc h A β f p p' s s' x hi hs hf hr;simp only [comp] at h;injection h with h; subst h;simp only [dD] at hr;injection hr with hr; injection hr with e1 e2; injection e2 with e2 e3; subst e1; subst e2; subst e3;exact⟨.refl s,f,A,β,gv hi fun φ a w Q hQ=>wp_skip (hQ _ .normal),.refl A β s.n _,hs,hf⟩
 | region id ops draw=>
  intro pc h A β f p p' s s' x hi hs hf hr;cases draw with
  | true=>
   simp only [comp] at h;split at h
   ·rename_i l r h1 h2;injection h with h; subst h;simp only [dD,Option.map_eq_some_iff] at hr;obtain⟨⟨p1,s1⟩,h3,he⟩:=hr;injection he with e1 e2; injection e2 with e2 e3; subst e1; subst e2; subst e3;exact MN hE hO hm hC id h1 h2 hi hs hf h3
   ·cases h
  | false=>
   simp only [comp,Option.map_eq_some_iff] at h;obtain⟨r,h1,rfl⟩:=h;simp only [dD,Option.map_eq_some_iff] at hr;obtain⟨⟨p1,s1⟩,h2,he⟩:=hr;injection he with e1 e2; injection e2 with e2 e3; subst e1; subst e2; subst e3;obtain⟨kp,f',A',β',k1,k2⟩:=Qc hE hO hC _ _ h1 hi hs hf h2;exact⟨kp,f',A',β',⟨k1.fr,fun φ T w a hf hr hT hfr Q hQ=>wp_region_list (k1.run φ T w a hf hr hT hfr Q hQ)⟩,k2⟩
 | seq a b iha ihb=>
  intro pc h;simp only [comp] at h;split at h
  ·rename_i pa pb ha hb;injection h with h; subst h;exact Qw (iha pa ha) (ihb pb hb)
  ·cases h
 | cond o a b iha ihb=>
  intro pc h;simp only [comp] at h;split at h
  ·rename_i pa pb ho ha hb;injection h with h; subst h;exact Ox ho (iha pa ha) (ihb pb hb)
  ·cases h
 | block id b ih=>
  intro pc h;simp only [comp,Option.map_eq_some_iff] at h;obtain⟨pb,hb,rfl⟩:=h;exact Hv (ih pb hb)
 | loop b ih=>
  intro pc h A β f p p' s s' x hi hs hf hr;simp only [comp,Option.map_eq_some_iff] at h;obtain⟨pb,hb,rfl⟩:=h;simp only [dD] at hr;obtain⟨kp,f',A',β',⟨k0,k1⟩,k2⟩:=MO (ih pb hb) L hi hs hf hr;exact⟨kp,f',A',β',⟨k0,fun φ T w a hf hr hT hfr Q hQ=>wp_loop_rounds L (k1 φ T w a hf hr hT hfr Q hQ)⟩,k2⟩
 | exit id=>
  intro pc h A β f p p' s s' x hi hs hf hr;simp only [comp] at h;injection h with h; subst h;simp only [dD] at hr;injection hr with hr; injection hr with e1 e2; injection e2 with e2 e3; subst e1; subst e2; subst e3;exact⟨.refl s,f,A,β,gv hi fun φ a w Q hQ=>wp_exit (hQ _ (.exit id)),.refl A β s.n _,hs,hf⟩
 | ret=>
  intro pc h A β f p p' s s' x hi hs hf hr;simp only [comp] at h;injection h with h; subst h;simp only [dD] at hr;injection hr with hr; injection hr with e1 e2; injection e2 with e2 e3; subst e1; subst e2; subst e3;exact⟨.refl s,f,A,β,gv hi fun φ a w Q hQ=>wp_ret (hQ _ .ret),.refl A β s.n _,hs,hf⟩
 | _=>intro pc h; cases h
end
section
variable {P:Program}
theorem J4:∀(l:List PV) (i j:Nat),br l i j=if i≤j∧j < i + l.length then l.getD (j - i) (.sc undef) else .sc undef:=by
 intro l
 induction l with
 | nil=>intro i j; rw [if_neg (by simp)]; rfl
 | cons v l ih=>
  intro i j;show (if j=i then v else br l (i + 1) j)=_;simp only [List.length_cons];by_cases hj:j=i
  ·subst hj;rw [if_pos rfl,if_pos (by omega),Nat.sub_self];rfl
  ·rw [if_neg hj,ih];by_cases h1:i + 1≤j∧j < i + 1 + l.length
   ·rw [if_pos h1,if_pos (by omega),show j - i=(j - (i + 1)) + 1 by omega];rfl
   ·rw [if_neg h1,if_neg (by omega)]
theorem LY {A:AS}{β:Nat→Nat}{n:Nat}{fn:Func}{vs:List Value}{args:List PV} (h:Rs A β n vs args) (h1:fn.ntmps≤1000000) (h2:args.length≤fn.ntmps):RF A β n fn.ntmps (wz fn vs.toArray) (br args 0):=by
 refine⟨rfl,h1,rfl,fun j=>?_⟩;have hl:=h.len;show R1 A β n (((pZ vs.toArray.toList 0 .nil).get j).getD undef) _;rw [wh _ _ _ (by simp; omega),J4];simp only [List.toList_toArray,Nat.zero_le,true_and,Nat.zero_add,Nat.sub_zero];by_cases hj:j < vs.length
 ·rw [if_pos hj,if_pos (by omega)];have hr:args[j]?=some (args[j]'(by omega)):=List.getElem?_eq_getElem (by omega);obtain⟨u,k1,k2⟩:=h.get hr;rw [k1,Option.getD_some,List.getD_eq_getElem?_getD,hr,Option.getD_some];exact k2
 ·rw [if_neg hj,if_neg (by omega),Tr.get_nil];exact .cl _ _ (.sc _ rfl)
theorem RC.cut {A:AS}{β:Nat→Nat}{n m:Nat} (hm:m≤n) {x:Value × PV ⊕ List Value × List PV} (h:RC A β n x):RC A β m x:=by
 have hp:∀c,jA A β n c→jA A β m c:=fun c hc=>⟨hc.1,fun k hk=>hc.2 k (Nat.lt_of_lt_of_le hk hm)⟩
 induction h with
 | sc v h=>exact .sc v h
 | fn g=>exact .fn g
 | lit b off m' cap e cs cells c st hg hpr hl hm' _ ih=>exact .lit b off m' cap e cs cells c st hg (hp _ hpr) hl hm' ih
 | litp b off e cs cells c st hg hpr hl _ ih=>exact .litp b off e cs cells c st hg (hp _ hpr) hl ih
 | litx b off m' e cs cells c st hg hpr hl _ ih=>exact .litx b off m' e cs cells c st hg (hp _ hpr) hl ih
 | agg xs cs _ ih=>exact .agg xs cs ih
 | nil=>exact .nil
 | cons v p l r _ _ ih ihs=>exact .cons v p l r ih ihs
theorem RV.cut {A A₀:AS}{β β₀:Nat→Nat}{n m:Nat} (hm:m≤n) {x:Value × PV ⊕ List Value × List PV} (h:RV A β n x) :
  (∀v p,x=.inl (v,p)→(∃u,R1 A₀ β₀ m u p)→R1 A β m v p)∧(∀l r,x=.inr (l,r)→(∃us,Rs A₀ β₀ m us r)→Rs A β m l r):=by
 induction h with
 | cl v p h=>exact⟨fun v' p' e _=>by injection e with e; injection e with e1 e2; subst e1; subst e2; exact .cl _ _ (h.cut hm),fun l r e=>by cases e⟩
 | fn g xs ys as bs _ _ ih ih'=>
  refine⟨fun v' p' e hu=>?_,fun l r e=>by cases e⟩;injection e with e; injection e with e1 e2; subst e1; subst e2;obtain⟨u,hu⟩:=hu;have key:(∃us,Rs A₀ β₀ m us as)∧∃us,Rs A₀ β₀ m us bs:=by
   cases hu with
   | cl _ _ h=>cases h; exact⟨⟨[],.nil⟩,⟨[],.nil⟩⟩
   | fn _ xs' ys' _ _ h h'=>exact⟨⟨_,h⟩,⟨_,h'⟩⟩
  exact .fn g xs ys as bs (ih.2 _ _ rfl key.1) (ih'.2 _ _ rfl key.2)
 | agg xs cs _ ih=>
  refine⟨fun v' p' e hu=>?_,fun l r e=>by cases e⟩;injection e with e; injection e with e1 e2; subst e1; subst e2;obtain⟨u,hu⟩:=hu;have key:∃us,Rs A₀ β₀ m us cs:=by
   cases hu with
   | cl _ _ h=>cases h with | agg xs _ h=>exact⟨_,Cs.up h⟩
   | agg xs _ h=>exact⟨_,h⟩
  exact .agg xs cs (ih.2 _ _ rfl key)
 | tup xs cs _ ih=>
  refine⟨fun v' p' e hu=>?_,fun l r e=>by cases e⟩;injection e with e; injection e with e1 e2; subst e1; subst e2;obtain⟨u,hu⟩:=hu;have key:∃us,Rs A₀ β₀ m us cs:=by
   cases hu with
   | cl _ _ h=>cases h
   | tup xs _ h=>exact⟨_,h⟩
  exact .tup xs cs (ih.2 _ _ rfl key)
 | own b o k off m' fin cap e cells st ok hk hg ho hf hm'=>
  refine⟨fun v' p' e hu=>?_,fun l r e=>by cases e⟩;injection e with e; injection e with e1 e2; subst e1; subst e2;obtain⟨u,hu⟩:=hu;have hkm:k < m:=by
   cases hu with
   | cl _ _ h=>cases h
   | own _ _ _ _ _ _ _ _ _ _ _ hk'=>exact hk'
  exact .own b o k off m' fin cap _ cells st ok hkm hg ho hf hm'
 | ptr b o k off fin e cells st ok hk hg ho hf=>
  refine⟨fun v' p' e hu=>?_,fun l r e=>by cases e⟩;injection e with e; injection e with e1 e2; subst e1; subst e2;obtain⟨u,hu⟩:=hu;have hkm:k < m:=by
   cases hu with
   | cl _ _ h=>cases h
   | ptr _ _ _ _ _ _ _ _ _ hk'=>exact hk'
  exact .ptr b o k off fin _ cells st ok hkm hg ho hf
 | nil=>exact⟨fun v p e=>(by cases e),fun l r e _=>by injection e with e; injection e with e1 e2; subst e1; subst e2; exact .nil⟩
 | cons v p l r _ _ ih ihs=>
  refine⟨fun v' p' e=>(by cases e),fun l' r' e hu=>?_⟩;injection e with e; injection e with e1 e2; subst e1; subst e2;obtain⟨us,hu⟩:=hu;cases hu with
  | cons u _ us _ h hs=>exact .cons _ _ _ _ (ih.1 _ _ rfl ⟨_,h⟩) (ihs.2 _ _ rfl ⟨_,hs⟩)
def Tt (s s':PS):Prop:=∀k,k < s.n→s'.h k=s.h k
theorem RS.cut {A A₀:AS}{β β₀:Nat→Nat}{s s':PS} (h:RS A β s') (h0:RS A₀ β₀ s) (hn:s.n≤s'.n) (he:Tt s s'):RS A β s:=by
 refine⟨fun k hk=>?_,fun j k hj hk e=>h.inj j k (by omega) (by omega) e⟩;have hb:=h.blk k (by omega);rw [he k hk] at hb;refine⟨hb.cur,fun x cells e st ok hg=>?_,hb.uni,hb.low,hb.fz,hb.lt,hb.z⟩;obtain⟨h1,h2,h3⟩:=hb.all x cells e st ok hg;refine⟨h1,h2,fun hl=>⟨(h3 hl).1,((h3 hl).2.cut (A₀:=A₀) (β₀:=β₀) hn).2 _ _ rfl ?_⟩⟩;obtain⟨x0,cells0,st0,g1,g2⟩:=(h0.blk k hk).cur;have hz:=(h0.blk k hk).z _ _ _ _ _ g1;subst hz;obtain⟨_,_,g3⟩:=(h0.blk k hk).all _ _ _ _ _ g1;have hlow:=(h0.blk k hk).low;have h4:=(g3 (by omega)).2;rw [List.drop_zero,List.take_of_length_le (by omega)] at h4;exact⟨_,(h4.drop st).take cells.length⟩
theorem A4 {A:AS}{β:Nat→Nat}{n:Nat}{v:Value}{p:PV} (h:R1 A β n v p) (hc:cP p=true):C1 A β n v p:=by
 cases h with
 | cl _ _ h=>exact h
 | fn g xs ys as bs h h'=>
  simp only [cP,Bool.and_eq_true,List.isEmpty_iff] at hc;obtain⟨rfl,rfl⟩:=hc;have e1:xs = #[]:=by generalize hx:xs.toList=l at h; cases h; cases xs; simp only at hx; rw [hx]
  have e2:ys = #[]:=by generalize hx:ys.toList=l at h'; cases h'; cases ys; simp only at hx; rw [hx]
  subst e1; subst e2;exact .fn g
 | agg=>cases hc
 | tup=>cases hc
 | own=>cases hc
 | ptr=>cases hc
theorem Gz {A:AS}{β:Nat→Nat}{n:Nat}{l:List Value}{r:List PV} (h:Rs A β n l r) (hc:r.all cP=true):Cs A β n l r:=by
 induction r generalizing l with
 | nil=>cases h; exact .nil
 | cons p r ih=>
  rw [List.all_cons,Bool.and_eq_true] at hc;cases h with
  | cons v _ l _ h hs=>exact .cons _ _ _ _ (A4 h hc.1) (ih hs hc.2)
theorem Eg {A:AS}{β:Nat→Nat}{m:Nat}{s:PS} (hs:RS A β s) (hm:m≤s.n) {v:Value}{p p':PV} (h:R1 A β s.n v p) (hf:fx m s p=some p'):R1 A β m v p':=by
 have hcl:∀{v p},R1 A β s.n v p→cP p=true→R1 A β m v p:=fun h hc=>.cl _ _ ((A4 h hc).cut hm);unfold fx at hf;split at hf
 ·rename_i k off n fin;split at hf
  ·rename_i hk;injection hf with hf; subst hf;cases h with
   | cl _ _ h=>cases h
   | own b o _ _ _ _ cap e cells st ok hk' hg ho hf hm'=>exact .own b o k off n fin cap e cells st ok hk hg ho hf hm'
  ·rename_i hk;split at hf
   ·rename_i hc;injection hf with hf; subst hf;obtain⟨c1,c2,c3,c4⟩:=hc;cases h with
    | cl _ _ h=>cases h
    | own b o _ _ _ _ cap e cells st ok hk' hg ho hf hm'=>
     have hb:=hs.blk k hk';obtain⟨g1,g2,g3⟩:=hb.all _ _ _ _ _ hg;obtain⟨rfl,hr⟩:=g3 (by omega);have hlen:((((s.h k).cells.drop off).take (fin - off))).length=fin - off:=by rw [List.length_take,List.length_drop]; omega
     refine .cl _ _ ?_;rw [← g1];refine .lit b o n cap e _ cells (β k) st hg ⟨hb.lt,fun j hj=>fun he=>?_⟩ (by rw [hlen]; omega) hm' ?_
     ·have:=hs.inj j k (by omega) hk' he; omega
     ·rw [hlen];have h1:=(hr.drop o).take (fin - off);rw [List.drop_take,List.take_take,List.drop_drop,ho,Nat.min_eq_left (by omega)] at h1;exact (Gz h1 c4).cut hm
   ·cases hf
 ·rename_i k off fin;split at hf
  ·rename_i hk;injection hf with hf; subst hf;cases h with
   | cl _ _ h=>cases h
   | ptr b o _ _ _ e cells st ok hk' hg ho hf=>exact .ptr b o k off fin e cells st ok hk hg ho hf
  ·cases hf
 ·injection hf with hf; subst hf; exact hcl h rfl
 ·injection hf with hf; subst hf; exact hcl h rfl
 ·injection hf with hf; subst hf; exact hcl h rfl
 ·injection hf with hf; subst hf; exact hcl h rfl
 ·injection hf with hf; subst hf; exact hcl h rfl
 ·cases hf
theorem Fa {A:AS}{β:Nat→Nat}{m:Nat}{s:PS} (hs:RS A β s) (hm:m≤s.n):∀{l:List Value}{r r':List PV},Rs A β s.n l r→iT m s r=some r'→Rs A β m l r':=by
 intro l r
 induction r generalizing l with
 | nil=>intro r' h hf; cases h; simp only [iT] at hf; injection hf with hf; subst hf; exact .nil
 | cons p r ih=>
  intro r' h hf;simp only [iT,Option.bind_eq_some_iff,Option.map_eq_some_iff] at hf;obtain⟨p',h1,r1,h2,rfl⟩:=hf;cases h with
  | cons v _ l _ h hn=>exact .cons _ _ _ _ (Eg hs hm h h1) (ih hn h2)
theorem Eo {A:AS}{β:Nat→Nat}{m:Nat}{s:PS} (hs:RS A β s) (hm:m≤s.n) {v:Value}{p p':PV} (h:R1 A β s.n v p) (hf:il m s p=some p'):R1 A β m v p':=by
 unfold il at hf;split at hf
 ·rename_i cs;simp only [Option.map_eq_some_iff] at hf;obtain⟨r,h1,rfl⟩:=hf;cases h with
  | cl _ _ h=>cases h with | agg xs _ h=>exact .agg xs _ (Fa hs hm (Cs.up h) h1)
  | agg xs _ h=>exact .agg xs _ (Fa hs hm h h1)
 ·exact Eg hs hm h hf
theorem LJ {A:AS}{β:Nat→Nat}{m:Nat}{s:PS} (hs:RS A β s) (hm:m≤s.n):∀{l:List Value}{r r':List PV},Rs A β s.n l r→yt m s r=some r'→Rs A β m l r':=by
 intro l r
 induction r generalizing l with
 | nil=>intro r' h hf; cases h; simp only [yt] at hf; injection hf with hf; subst hf; exact .nil
 | cons p r ih=>
  intro r' h hf;simp only [yt,Option.bind_eq_some_iff,Option.map_eq_some_iff] at hf;obtain⟨p',h1,r1,h2,rfl⟩:=hf;cases h with
  | cons v _ l _ h hn=>exact .cons _ _ _ _ (Eo hs hm h h1) (ih hn h2)
theorem Q5 {A:AS}{β:Nat→Nat}{m:Nat}{s:PS} (hs:RS A β s) (hm:m≤s.n) {v:Value}{p p':PV} (h:R1 A β s.n v p) (hf:frz m s p=some p'):R1 A β m v p':=by
 unfold frz at hf;split at hf
 ·rename_i cs;simp only [Option.map_eq_some_iff] at hf;obtain⟨r,h1,rfl⟩:=hf;cases h with
  | cl _ _ h=>cases h
  | tup xs _ h=>exact .tup xs _ (LJ hs hm h h1)
 ·exact Eo hs hm h hf
theorem Qz {A:AS}{β:Nat→Nat}{s:PS}{nt:Nat}{f:Fr}{p:aR} (hi:cT A) (hs:RS A β s) (hf:RF A β s.n nt f p):∀(l:List ResultVar) (l':List Lp) (vs:List PV),l.mapM (u5 P)=some l'→ii p s l'=some vs→
  ∃us A',jE P f l A=some (us,A')∧A'.heap=A.heap∧A'.next=A.next∧A'.w=A.w∧A'.fz=A.fz∧Rs A β s.n us vs:=by
 intro l
 induction l generalizing A with
 | nil=>
  intro l' vs h1 h2;simp only [List.mapM_nil] at h1;injection h1 with h1; subst h1;simp only [ii] at h2;injection h2 with h2; subst h2;exact⟨[],A,rfl,rfl,rfl,rfl,rfl,.nil⟩
 | cons rv l ih=>
  intro l' vs h1 h2;simp only [List.mapM_cons,Option.bind_eq_bind,Option.bind_eq_some_iff,Option.pure_def,Option.some.injEq] at h1;obtain⟨r,hr,l1,hl1,rfl⟩:=h1;cases rv with
  | tmp t=>
   simp only [u5] at hr;injection hr with hr; subst hr;simp only [ii,Option.map_eq_some_iff] at h2;obtain⟨vs',hv,rfl⟩:=h2;obtain⟨us,A',k1,k2,k3,k4,k5,k6⟩:=ih hi hs hf l1 vs' hl1 hv;refine⟨(f.tmps.get t).getD undef :: us,A',?_,k2,k3,k4,k5,.cons _ _ _ _ (hf.tmp t) k6⟩;rw [jr];simp only [k1]
  | cell a t=>
   have hcr:∃dd ag sz,P.underlying t=some dd∧jl (some dd)=ag∧(if ag then dM P t=some sz else sz=1)∧r=.cell a ag sz:=by
    simp only [u5] at hr;split at hr
    ·rename_i dd hd;split at hr
     ·rename_i hag;split at hr
      ·rename_i n hn;injection hr with hr;exact⟨dd,true,n,hd,hag,by simpa using hn,hr.symm⟩
      ·cases hr
     ·rename_i hag;injection hr with hr;exact⟨dd,false,1,hd,by simpa using hag,by simp,hr.symm⟩
    ·cases hr
   obtain⟨dd,ag,sz,hd,hag,hsz,rfl⟩:=hcr;simp only [ii,Option.bind_eq_some_iff,Option.map_eq_some_iff] at h2;obtain⟨cs,hcs,v,hv,vs',hvs,rfl⟩:=h2;obtain⟨b,o,xs,c,e1,hl,hrs,_,_⟩:=K3 hs (hf.tmp a) hcs;obtain⟨u,m1,m2⟩:=xh (P:=P) hag hsz hl hrs hv;have hget:f.tmps.get a=some (.pointer (some ⟨b,o,none⟩)):=by
    cases hg:f.tmps.get a with
    | none=>rw [hg] at e1; cases e1
    | some z=>rw [hg] at e1; exact congrArg some e1
   have hw:Fw A (cE A c) β β s.n s.n 0:=by rw [aH]; exact .heap β s.n rfl rfl rfl
   have hs':RS (cE A c) β s:=by rw [aH]; exact hs.same rfl rfl rfl rfl
   have hi':cT (cE A c):=by rw [aH]; exact⟨hi.lt,hi.mem,hi.memc,hi.root,hi.ml,hi.old,hi.fz⟩
   obtain⟨us,A',k1,k2,k3,k4,k5,k6⟩:=ih hi' hs' (hf.mono hw) l1 vs' hl1 hvs;have hback:Rs A β s.n us vs':=k6.mono (lo:=0) (by rw [aH]; exact .heap β s.n rfl rfl rfl);refine⟨u :: us,A',?_,?_,?_,?_,?_,.cons _ _ _ _ m2 hback⟩
   ·rw [jr];have:lX P (f.tmps.get a) t A=some (u,cE A c):=by
     unfold lX;rw [hget];show (match (match P.underlying t with | some d=>mn P t d b o A | none=>none) with | some (.val v,s)=>some (v,s) | _=>none)=_;rw [hd];simp only [m1]
    simp only [this,k1]
   ·rw [k2,aH]
   ·rw [k3,aH]
   ·rw [k4,aH]
   ·rw [k5,aH]
end
section
variable {P:Program}
theorem I7:jn P (fun _ _ _=>none):=fun _ _ _ _ _ _ _ h=>by cases h
theorem BX:dQ (fun _ _ _=>none):=fun _ _ _ _ _ h=>by cases h
theorem LV (hP:tc P) {g:FuncId}{fn:Func}{c:Code} (hfn:P.funcs[g]?=some fn) (hc:fn.body=some c) {args:Array Value}{A B A':AS}{f:Fr}{x:eZ}{v:Value} (b1:fn.ntmps≤1000000) (b2:args.toList.length≤fn.ntmps)
  (s1:oC P c (wz fn args) A x f B) (hx:x=.normal∨x=.ret) (hd:f.defers=[]) (hfin:finish P fn f B=some (.ret v,A')):eU P g args A (.ret v) A':=by
 obtain⟨_,_,hF,hFm⟩:=hP _ I7 BX;have h2:rz P (fun _ _ _=>none) fn f f.defers B none=some (.ret v,A'):=by rw [hd]; exact hfin
 obtain⟨f2,r2⟩:=oj hF hFm _ s1.fr.inv (Nat.le_refl _) h2;refine⟨s1.fr.trans f2,fun φ T w args' hargs hr hT hfr=>calls_of_wp_defers hfn hc ?_⟩;refine s1.run φ T w _ (rI hargs b1 b2) hr (hT.left f2) (ec hfr f2.next) _ fun φ' w' a' e hp hf' he=>?_;have key:=r2 φ' _ w' a' a'.defers .returning hf' hf'.defers .ret hp.rel (dK hT) (dA hfr s1.fr.next hp) (fun e w'=>∃φ',cK P φ T A A' w w' φ'∧oc φ' (.ret v) e) fun φ2 w2 e hp2 he=>⟨φ2,hp.trans s1.fr.next f2 hp2,he⟩
 rcases hx with rfl | rfl
 ·cases he; exact key
 ·cases he; exact key
theorem Gx {A:AS}{β:Nat→Nat}{n:Nat}{us:List Value}{vs:List PV} (h:Rs A β n us vs):R1 A β n (zm us) (gD vs):=by
 cases h with
 | nil=>exact .tup _ _ .nil
 | cons u p l r h hs=>
  cases hs with
  | nil=>exact h
  | cons u' p' l' r' h' hs'=>exact .tup _ _ (.cons _ _ _ _ h (.cons _ _ _ _ h' hs'))
theorem Fw.low {A A':AS}{β β':Nat→Nat}{n n' lo lo':Nat} (h:Fw A A' β β' n n' lo) (hl:lo'≤lo):Fw A A' β β' n n' lo':=
 ⟨h.le,h.next,h.eq,h.new,h.prot,h.keep,fun c hc hw=>(h.w c hc hw).imp id fun ⟨k,a,b⟩=>⟨k,by omega,b⟩⟩
theorem EN {pu:Nat→Bool}{call:aq} (hC:ff P pu call) {i:PI}{p p':aR}{s s':PS} (h:gZ P call i p s=some (p',s')):Kp s s':=by
 unfold gZ at h;split at h
 ·simp only [Option.map_eq_some_iff] at h;obtain⟨⟨q,s1⟩,hact,he⟩:=h;injection he with e1 e2; subst e2;unfold aY at hact;split at hact
  ·unfold dH at hact;split at hact
   ·exact (hC _ _ _ _ _ hact).2.1
   ·cases hact
  ·exact OY hact
 ·injection h with h; injection h with _ e2; subst e2; exact .refl s
 ·cases h
theorem Rb {pu:Nat→Bool}{call:aq} (hC:ff P pu call):∀(l:List PI) {p p':aR}{s s':PS},qQ P call l p s=some (p',s')→Kp s s':=by
 intro l
 induction l with
 | nil=>intro p p' s s' h; simp only [qQ] at h; injection h with h; injection h with _ e2; subst e2; exact .refl s
 | cons i l ih=>
  intro p p' s s' h;simp only [qQ,Option.bind_eq_some_iff] at h;obtain⟨⟨p1,s1⟩,h1,h2⟩:=h;exact (EN hC h1).trans (ih h2)
theorem LD {pu:Nat→Bool}{call:aq} (hC:ff P pu call):∀(l:List (PI × List Nat × List Nat)) (j:Nat) (acc:List (Nat × jc × Nat × Nat)) {p p':aR}{s s':PS},ky P pu call l j acc p s=some (p',s')→Kp s s':=by
 intro l
 induction l with
 | nil=>intro j acc p p' s s' h; simp only [ky] at h; injection h with h; injection h with _ e2; subst e2; exact .refl s
 | cons i l ih=>
  intro j acc p p' s s' h;obtain⟨i,ls,un⟩:=i;simp only [ky,Option.bind_eq_some_iff] at h;obtain⟨⟨p1,s1⟩,h1,h2⟩:=h;simp only at h2;split at h2
  ·exact (EN hC h1).trans (ih _ _ h2)
  ·cases h2
theorem Mv {pu:Nat→Bool}{call:aq} (hC:ff P pu call) {L:Nat} : ∀{c:aW}{p p':aR}{s s':PS}{x:xf},dD P pu call L c p s=some (x,p',s')→Kp s s':=by
 have hloop:∀{b:aR→PS→kD},(∀{p p':aR}{s s':PS}{x:xf},b p s=some (x,p',s')→Kp s s')→∀(n:Nat) {p p':aR}{s s':PS}{x:xf},mQ b n p s=some (x,p',s')→Kp s s':=by
  intro b hb n
  induction n with
  | zero=>intro p p' s s' x h; cases h
  | succ n ih=>
   intro p p' s s' x h;simp only [mQ,gR,Option.bind_eq_some_iff] at h;obtain⟨⟨x1,p1,s1⟩,h1,h2⟩:=h;simp only at h2;split at h2
   ·exact (hb h1).trans (ih h2)
   ·injection h2 with h2; injection h2 with _ e2; injection e2 with _ e3; subst e3; exact hb h1
 intro c
 induction c with
 | skip=>intro p p' s s' x h; simp only [dD] at h; injection h with h; injection h with _ e2; injection e2 with _ e3; subst e3; exact .refl s
 | reg l=>
  intro p p' s s' x h;simp only [dD,Option.map_eq_some_iff] at h;obtain⟨⟨p1,s1⟩,h1,he⟩:=h;injection he with _ e2; injection e2 with _ e3; subst e3;exact Rb hC l h1
 | draw l=>
  intro p p' s s' x h;simp only [dD,Option.map_eq_some_iff] at h;obtain⟨⟨p1,s1⟩,h1,he⟩:=h;injection he with _ e2; injection e2 with _ e3; subst e3;exact LD hC l 0 [] h1
 | seq a b iha ihb=>
  intro p p' s s' x h;simp only [dD,gR,Option.bind_eq_some_iff] at h;obtain⟨⟨x1,p1,s1⟩,h1,h2⟩:=h;simp only at h2;split at h2
  ·exact (iha h1).trans (ihb h2)
  ·injection h2 with h2; injection h2 with _ e2; injection e2 with _ e3; subst e3; exact iha h1
 | cond o a b iha ihb=>
  intro p p' s s' x h;simp only [dD] at h;unfold nW at h;split at h
  ·exact iha h
  ·exact ihb h
  ·cases h
 | block id b ih=>
  intro p p' s s' x h;simp only [dD,jm,Option.map_eq_some_iff] at h;obtain⟨⟨x1,p1,s1⟩,h1,h2⟩:=h;have:s1=s':=by
   simp only at h2;split at h2
   ·split at h2<;>(injection h2 with _ e2; injection e2)
   ·injection h2 with _ e2; injection e2
  subst this;exact ih h1
 | loop b ih=>intro p p' s s' x h; simp only [dD] at h; exact hloop ih L h
 | exit id=>intro p p' s s' x h; simp only [dD] at h; injection h with h; injection h with _ e2; injection e2 with _ e3; subst e3; exact .refl s
 | ret=>intro p p' s s' x h; simp only [dD] at h; injection h with h; injection h with _ e2; injection e2 with _ e3; subst e3; exact .refl s
def xJ (P:Program) (Γ:Nat→Option fJ):Prop:=∀g pf,Γ g=some pf→∃fn keep,P.funcs[g]?=some fn∧sX P fn keep=some pf
theorem I8 (hE:zE P) (hO:cQ P) (hm:P.follows .mixedOrders=true) (hP:tc P) {pu:Nat→Bool}{call:aq} (hC:ff P pu call) {L g:Nat}{fn:Func}{pf:fJ}{keep:Bool} (hfn:P.funcs[g]?=some fn) (hpf:sX P fn keep=some pf) {args:List PV}{s s':PS}{q:PV} (h:oh P pu call L pf args s=some (q,s')) :
  (∃fn c,P.funcs[g]?=some fn∧fn.body=some c)∧Kp s s'∧
  ∀(A:AS) (β:Nat→Nat) (vs:List Value),cT A→RS A β s→Rs A β s.n vs args→∃u A' β',eU P g vs.toArray A (.ret u) A'∧Fw A A' β β' s.n s'.n s'.w∧RS A' β' s'∧R1 A' β' s'.n u q∧(pf.keep=false→∀c,c < A.next→A'.w.testBit c=true→A.w.testBit c=true):=by
 unfold sX at hpf;split at hpf
 ·rename_i c hc;refine⟨⟨fn,c,hfn,hc⟩,?_⟩;split at hpf
  ·rename_i b r hb hr;split at hpf
   ·rename_i hnt;injection hpf with hpf; subst hpf;have b1:=Nat.le_of_ble_eq_true hnt;unfold oh at h;split at h
    ·rename_i hlen;simp only [Option.bind_eq_some_iff] at h;obtain⟨⟨x,p1,s1⟩,h1,h2⟩:=h;have hx:(x=.normal∨x=.ret)∧ek ⟨fn.ntmps,b,r,keep⟩ s p1 s1=some (q,s'):=by
      unfold Ov at h2;split at h2
      ·rename_i hx; exact⟨.inl hx,h2⟩
      ·rename_i hx; exact⟨.inr hx,h2⟩
      ·cases h2
     obtain⟨hx,hl⟩:=hx;unfold ek at hl;simp only [Option.bind_eq_some_iff] at hl;obtain⟨us',hres,hl⟩:=hl;have key:∀(A:AS) (β:Nat→Nat) (vs:List Value),cT A→RS A β s→Rs A β s.n vs args→Kp ⟨s.h,s.n,s.n⟩ s1∧∃us A' β1,eU P g vs.toArray A (.ret (zm us)) A'∧Fw A A' β β1 s.n s1.n s1.w∧RS A' β1 s1∧R1 A' β1 s1.n (zm us) (gD us'):=by
      intro A β vs hi hs hvs;obtain⟨kp,f1,A1,β1,k1,k2,k3,k4⟩:=Mw hE hO hm hC c b hb hi (s:=⟨s.h,s.n,s.n⟩) ⟨hs.blk,hs.inj⟩ (LY hvs b1 hlen) h1;obtain⟨us,A',m1,m2,m3,m4,m5,m6⟩:=Qz k1.fr.inv k3 k4 fn.results.toList r us' hr hres;have hfin:finish P fn f1 A1=some (.ret (zm us),A'):=by
       unfold finish;rw [m1];cases us with
       | nil=>rfl
       | cons u us=>cases us<;>rfl
      have hcall:eU P g vs.toArray A (.ret (zm us)) A':=by
       refine LV hP hfn hc b1 ?_ k1 ?_ k4.df hfin
       ·rw [List.toList_toArray,hvs.len]; exact hlen
       ·rcases hx with rfl | rfl
        ·exact .inl rfl
        ·exact .inr rfl
      have hw:Fw A1 A' β1 β1 s1.n s1.n s1.w:=.heap β1 s1.n m2 m3 m4;exact⟨kp,us,A',β1,hcall,k2.trans hw (Nat.le_refl _),k3.same m2 m3 m4 m5,(Gx m6).mono hw⟩
     split at hl
     ·rename_i hkeep;injection hl with hl; injection hl with e1 e2; subst e1; subst e2;have hkp:∀(_:Kp ⟨s.h,s.n,s.n⟩ s1),Kp s ⟨s1.h,s1.n,min s.w s1.w⟩:=fun kp=>⟨Nat.min_le_left _ _,kp.n,fun k a b=>kp.h k a (by
       have:k < min s.w s1.w:=b;omega)⟩
      refine⟨hkp (Mv hC h1),fun A β vs hi hs hvs=>?_⟩;obtain⟨kp,us,A',β1,q1,q2,q3,q4⟩:=key A β vs hi hs hvs;exact⟨_,A',β1,q1,q2.low (Nat.min_le_right _ _),⟨q3.blk,q3.inj⟩,q4,fun hk=>by rw [hkeep] at hk; cases hk⟩
     ·split at hl
      ·rename_i hsame;simp only [Option.map_eq_some_iff] at hl;obtain⟨v,hv,he⟩:=hl;injection he with e1 e2; subst e1; subst e2;refine⟨.refl s,fun A β vs hi hs hvs=>?_⟩;obtain⟨kp,us,A',β1,q1,q2,q3,q4⟩:=key A β vs hi hs hvs;have hs':Tt s s1:=fun k hk=>kp.h k hk (by omega);have hw:∀c,c < A.next→A'.w.testBit c=true→A.w.testBit c=true:=fun c hc hb=>by
        rcases q2.w c hc hb with h | ⟨k,a1,a2,_⟩
        ·exact h
        ·omega
       exact⟨_,A',β1,q1,⟨Nat.le_refl _,q2.next,q2.eq,fun k a b=>by omega,q2.prot,q2.keep,fun c hc hb=>.inl (hw c hc hb)⟩,q3.cut hs q2.le hs',Q5 q3 q2.le q4 hv,fun _=>hw⟩
      ·cases hl
    ·cases h
   ·cases hpf
  ·cases hpf
 ·cases hpf
theorem HO (hE:zE P) (hO:cQ P) (hm:P.follows .mixedOrders=true) (hP:tc P) {Γ:Nat→Option fJ} (hΓ:xJ P Γ) {ext:aq} (hX:ff P (ei Γ) ext):∀n,ff P (ei Γ) (dP P Γ ext n):=by
 intro n
 induction n with
 | zero=>intro g args s q s' h; cases h
 | succ n ih=>
  intro g args s q s' h;simp only [dP] at h;split at h
  ·rename_i pf hpf;obtain⟨fn,keep,h1,h2⟩:=hΓ g pf hpf;obtain⟨a1,a2,a3⟩:=I8 hE hO hm hP ih h1 h2 h;refine⟨a1,a2,fun A β vs hi hs hvs=>?_⟩;obtain⟨u,A',β',b1,b2,b3,b4,b5⟩:=a3 A β vs hi hs hvs;refine⟨u,A',β',b1,b2,b3,b4,fun hp=>b5 ?_⟩;unfold ei at hp;rw [hpf] at hp;simpa using hp
  ·exact hX g args s q s' h
end
def Le {α:Type} (a b:Option α):Prop:=∀x,a=some x→b=some x
theorem Le.refl {α:Type} (a:Option α):Le a a:=fun _ h=>h
theorem Le.bind {α β:Type}{a b:Option α}{k l:α→Option β} (h:Le a b) (hk:∀x,Le (k x) (l x)):Le (a.bind k) (b.bind l):=by
 intro x hx;rw [Option.bind_eq_some_iff] at hx ⊢;obtain⟨y,h1,h2⟩:=hx;exact⟨y,h y h1,hk y x h2⟩
theorem Le.map {α β:Type}{a b:Option α}{k:α→β} (h:Le a b):Le (a.map k) (b.map k):=by
 intro x hx;rw [Option.map_eq_some_iff] at hx ⊢;obtain⟨y,h1,h2⟩:=hx;exact⟨y,h y h1,h2⟩
def QF (c d:aq):Prop:=∀g args s,Le (c g args s) (d g args s)
section
variable {P:Program}{c d:aq}
theorem zX (h:QF c d) (i:PI) (f:aR) (s:PS):Le (gZ P c i f s) (gZ P d i f s):=by
 unfold gZ;cases bw f i.gd with
 | none=>exact .refl _
 | some b=>
  cases b with
  | false=>exact .refl _
  | true=>
   refine Le.map ?_;unfold aY;split
   ·unfold dH;split
    ·exact h _ _ _
    ·exact .refl _
   ·exact .refl _
theorem Ju (h:QF c d):∀(l:List PI) (f:aR) (s:PS),Le (qQ P c l f s) (qQ P d l f s):=by
 intro l
 induction l with
 | nil=>intro f s; exact .refl _
 | cons i l ih=>intro f s; exact Le.bind (zX h i f s) fun q=>ih q.1 q.2
theorem Ib {a b:kD}{k l:aR→PS→kD} (h:Le a b) (hk:∀f s,Le (k f s) (l f s)):Le (gR a k) (gR b l):=by
 refine Le.bind h fun q=>?_;cases q.1 with
 | normal=>exact hk _ _
 | _=>exact .refl _
theorem yY {a b:aR→PS→kD} (h:∀f s,Le (a f s) (b f s)):∀(n m:Nat),n≤m→∀f s,Le (mQ a n f s) (mQ b m f s):=by
 intro n
 induction n with
 | zero=>intro m _ f s x hx; cases hx
 | succ n ih=>
  intro m hm f s;obtain⟨m',rfl⟩ : ∃m',m=m' + 1:=⟨m - 1,by omega⟩
  exact Ib (h f s) (ih m' (by omega))
theorem EP {pu:Nat→Bool} (h:QF c d):∀(l:List (PI × List Nat × List Nat)) (j:Nat) (acc:List (Nat × jc × Nat × Nat)) (f:aR) (s:PS),Le (ky P pu c l j acc f s) (ky P pu d l j acc f s):=by
 intro l
 induction l with
 | nil=>intro j acc f s; exact .refl _
 | cons i l ih=>
  intro j acc f s;obtain⟨i,ls,un⟩:=i;refine Le.bind (zX h i _ s) fun q=>?_;split
  ·exact ih _ _ _ _
  ·exact .refl _
theorem Ei {pu:Nat→Bool} (h:QF c d) {n m:Nat} (hn:n≤m):∀(pc:aW) (f:aR) (s:PS),Le (dD P pu c n pc f s) (dD P pu d m pc f s):=by
 intro pc
 induction pc with
 | skip=>intro f s; exact .refl _
 | reg l=>intro f s; exact Le.map (Ju h l f s)
 | draw l=>intro f s; exact Le.map (EP h l 0 [] f s)
 | seq a b iha ihb=>intro f s; exact Ib (iha f s) ihb
 | cond o a b iha ihb=>
  intro f s;simp only [dD];unfold nW;cases jM (cg f o) with
  | none=>exact .refl _
  | some t=>cases t; exact ihb f s; exact iha f s
 | block id b ih=>intro f s; exact Le.map (ih f s)
 | loop b ih=>intro f s; exact yY ih n m hn f s
 | exit id=>intro f s; exact .refl _
 | ret=>intro f s; exact .refl _
theorem Kh {pu:Nat→Bool} (h:QF c d) {n m:Nat} (hn:n≤m) (fn:fJ) (args:List PV) (s:PS):Le (oh P pu c n fn args s) (oh P pu d m fn args s):=by
 unfold oh;split
 ·exact Le.bind (Ei h hn _ _ _) fun q=>.refl _
 ·exact .refl _
variable {Γ:Nat→Option fJ}{ext:aq}
theorem O2:∀n,QF (dP P Γ ext n) (dP P Γ ext (n + 1)):=by
 intro n
 induction n with
 | zero=>intro g args s x hx; cases hx
 | succ n ih=>
  intro g args s;simp only [dP];split
  ·exact Kh ih (Nat.le_succ n) _ _ _
  ·exact .refl _
theorem lL {n m:Nat} (h:n≤m):QF (dP P Γ ext n) (dP P Γ ext m):=by
 induction m with
 | zero=>rw [show n=0 by omega]; exact fun _ _ _=>.refl _
 | succ m ih=>
  by_cases he:n=m + 1
  ·rw [he]; exact fun _ _ _=>.refl _
  ·exact fun g args s x hx=>O2 m g args s x (ih (by omega) g args s x hx)
end
open Classical in
noncomputable def BQ {α:Type} (F:Nat→Option α):Option α:=if h:∃a n,F n=some a then some h.choose else none
def w8 {α:Type} (F:Nat→Option α):Prop:=∀n m,n≤m→Le (F n) (F m)
theorem fc {α:Type}{F:Nat→Option α} (hF:w8 F) (a:α):BQ F=some a↔∃n,F n=some a:=by
 unfold BQ;constructor
 ·intro h;split at h
  ·rename_i hh;injection h with h;obtain⟨n,hn⟩:=hh.choose_spec;exact⟨n,by rw [← h]; exact hn⟩
  ·cases h
 ·rintro⟨n,hn⟩;have hh:∃a n,F n=some a:=⟨a,n,hn⟩
  rw [dif_pos hh];obtain⟨m,hm⟩:=hh.choose_spec;have h1:=hF n (max n m) (by omega) _ hn;have h2:=hF m (max n m) (by omega) _ hm;rw [h1] at h2;injection h2 with h2;rw [← h2]
theorem ef {α:Type} (a:Option α):BQ (fun _=>a)=a:=by
 apply Option.ext;intro x;rw [fc (fun _ _ _=>.refl _)];exact⟨fun ⟨_,h⟩=>h,fun h=>⟨0,h⟩⟩
theorem rY {α β:Type}{F:Nat→Option α}{G:Nat→α→Option β} (hF:w8 F) (hG:∀x,w8 fun n=>G n x):BQ (fun n=>(F n).bind (G n))=(BQ F).bind fun x=>BQ fun n=>G n x:=by
 apply Option.ext;intro x;rw [fc (fun n m h=>Le.bind (hF n m h) fun y=>hG y n m h),Option.bind_eq_some_iff];constructor
 ·rintro⟨n,h⟩;rw [Option.bind_eq_some_iff] at h;obtain⟨y,h1,h2⟩:=h;exact⟨y,(fc hF y).2 ⟨n,h1⟩,(fc (hG y) x).2 ⟨n,h2⟩⟩
 ·rintro⟨y,h1,h2⟩;obtain⟨n,h1⟩:=(fc hF y).1 h1;obtain⟨m,h2⟩:=(fc (hG y) x).1 h2;refine⟨max n m,?_⟩;rw [Option.bind_eq_some_iff];exact⟨y,hF n _ (by omega) _ h1,hG y m _ (by omega) _ h2⟩
theorem u6 {α β:Type}{F:Nat→Option α} (hF:w8 F) (k:α→β):BQ (fun n=>(F n).map k)=(BQ F).map k:=by
 apply Option.ext;intro x;rw [fc (fun n m h=>Le.map (hF n m h)),Option.map_eq_some_iff];constructor
 ·rintro⟨n,h⟩;rw [Option.map_eq_some_iff] at h;obtain⟨y,h1,h2⟩:=h;exact⟨y,(fc hF y).2 ⟨n,h1⟩,h2⟩
 ·rintro⟨y,h1,h2⟩;obtain⟨n,h1⟩:=(fc hF y).1 h1;exact⟨n,by rw [Option.map_eq_some_iff]; exact⟨y,h1,h2⟩⟩
theorem BD {α:Type}{F:Nat→Option α} (hF:w8 F):BQ (fun n=>F (n + 1))=BQ F:=by
 apply Option.ext;intro x;rw [fc (fun n m h=>hF _ _ (by omega)),fc hF];exact⟨fun ⟨n,h⟩=>⟨n + 1,h⟩,fun ⟨n,h⟩=>⟨n,hF n _ (by omega) _ h⟩⟩
section
variable (P:Program) (Γ:Nat→Option fJ) (ext:aq)
noncomputable def aD:aq:=fun g args s=>BQ fun n=>dP P Γ ext n g args s
noncomputable def vV (i:PI) (f:aR) (s:PS):Option (aR × PS):=gZ P (aD P Γ ext) i f s
noncomputable def ng (l:List (PI × List Nat × List Nat)) (j:Nat) (acc:List (Nat × jc × Nat × Nat)) (f:aR) (s:PS):Option (aR × PS):=ky P (ei Γ) (aD P Γ ext) l j acc f s
noncomputable def ke (l:List PI) (f:aR) (s:PS):Option (aR × PS):=qQ P (aD P Γ ext) l f s
noncomputable def aN (c:aW) (f:aR) (s:PS):kD:=BQ fun n=>dD P (ei Γ) (dP P Γ ext n) n c f s
end
section
variable {P:Program}{Γ:Nat→Option fJ}{ext:aq}
theorem sQ (g:Nat) (args:List PV) (s:PS):w8 fun n=>dP P Γ ext n g args s:=fun _ _ h=>lL h g args s
theorem eW (c:aW) (f:aR) (s:PS):w8 fun n=>dD P (ei Γ) (dP P Γ ext n) n c f s:=fun _ _ h=>Ei (lL h) h c f s
theorem xQ (i:PI) (f:aR) (s:PS):w8 fun n=>gZ P (dP P Γ ext n) i f s:=fun _ _ h=>zX (lL h) i f s
theorem BC (l:List PI) (f:aR) (s:PS):w8 fun n=>qQ P (dP P Γ ext n) l f s:=fun _ _ h=>Ju (lL h) l f s
theorem Aj (i:PI) (f:aR) (s:PS):BQ (fun n=>gZ P (dP P Γ ext n) i f s)=vV P Γ ext i f s:=by
 unfold vV gZ;cases bw f i.gd with
 | none=>exact ef _
 | some b=>
  cases b with
  | false=>exact ef _
  | true=>
   simp only;rw [u6]
   ·congr 1;unfold aY;split
    ·unfold dH;split
     ·rfl
     ·exact ef _
    ·exact ef _
   ·intro n m h;unfold aY;split
    ·unfold dH;split
     ·exact lL h _ _ _
     ·exact .refl _
    ·exact .refl _
theorem N8:∀(l:List PI) (f:aR) (s:PS),BQ (fun n=>qQ P (dP P Γ ext n) l f s)=ke P Γ ext l f s:=by
 intro l
 induction l with
 | nil=>intro f s; exact ef _
 | cons i l ih=>
  intro f s;have h:=rY (F:=fun n=>gZ P (dP P Γ ext n) i f s) (G:=fun n q=>qQ P (dP P Γ ext n) l q.1 q.2) (xQ i f s) (fun q=>BC l q.1 q.2);rw [Aj] at h;show BQ (fun n=>(gZ P (dP P Γ ext n) i f s).bind fun q=>qQ P (dP P Γ ext n) l q.1 q.2)=(vV P Γ ext i f s).bind fun q=>ke P Γ ext l q.1 q.2;rw [h];congr 1;funext q;exact ih q.1 q.2
theorem xn (l:List (PI × List Nat × List Nat)) (j:Nat) (acc:List (Nat × jc × Nat × Nat)) (f:aR) (s:PS):w8 fun n=>ky P (ei Γ) (dP P Γ ext n) l j acc f s:=fun _ _ h=>EP (lL h) l j acc f s
theorem Ir:∀(l:List (PI × List Nat × List Nat)) (j:Nat) (acc:List (Nat × jc × Nat × Nat)) (f:aR) (s:PS),BQ (fun n=>ky P (ei Γ) (dP P Γ ext n) l j acc f s)=ng P Γ ext l j acc f s:=by
 intro l
 induction l with
 | nil=>intro j acc f s; exact ef _
 | cons i l ih=>
  intro j acc f s;obtain⟨i,ls,un⟩:=i;have h:=rY (F:=fun n=>gZ P (dP P Γ ext n) i (dl ls f) s) (G:=fun n q=>if fR (ei Γ) (dl ls f) i=true∧cO un (pX (dl ls f) i) acc then ky P (ei Γ) (dP P Γ ext n) l (j + 1) ((j,pX (dl ls f) i,s.n,q.2.n) :: acc) (I0 f i.dst q.1) q.2 else none) (xQ i _ s) (fun q=>by
   split
   ·exact xn l _ _ _ _
   ·exact fun _ _ _=>.refl _)
  rw [Aj] at h;refine h.trans ?_;show _=(vV P Γ ext i (dl ls f) s).bind _;congr 1;funext q;split
  ·exact ih _ _ _ _
  ·exact ef _
theorem C4 (l:List (PI × List Nat × List Nat)) (f:aR) (s:PS):aN P Γ ext (.draw l) f s=(ng P Γ ext l 0 [] f s).map fun q=>(.normal,q.1,q.2):=by
 rw [← Ir];exact u6 (xn l 0 [] f s) _
theorem cX (f:aR) (s:PS):aN P Γ ext .skip f s=some (.normal,f,s):=ef _
theorem gF (id:Nat) (f:aR) (s:PS):aN P Γ ext (.exit id) f s=some (.exit id,f,s):=ef _
theorem eJ (f:aR) (s:PS):aN P Γ ext .ret f s=some (.ret,f,s):=ef _
theorem Hk (l:List PI) (f:aR) (s:PS):aN P Γ ext (.reg l) f s=(ke P Γ ext l f s).map fun q=>(.normal,q.1,q.2):=by
 rw [← N8];exact u6 (BC l f s) _
theorem bN (a b:aW) (f:aR) (s:PS):aN P Γ ext (.seq a b) f s=gR (aN P Γ ext a f s) (aN P Γ ext b):=by
 have h:=rY (F:=fun n=>dD P (ei Γ) (dP P Γ ext n) n a f s) (G:=fun n (q:xf × aR × PS)=>match q.1 with | .normal=>dD P (ei Γ) (dP P Γ ext n) n b q.2.1 q.2.2 | x=>some (x,q.2.1,q.2.2)) (eW a f s) (fun q n m h=>by
  cases q.1 with
  | normal=>exact eW b _ _ n m h
  | _=>exact .refl _)
 refine h.trans ?_;unfold gR aN;congr 1;funext q;cases q.1 with
 | normal=>rfl
 | _=>exact ef _
theorem db (o:Operand) (a b:aW) (f:aR) (s:PS):aN P Γ ext (.cond o a b) f s=nW (jM (cg f o)) (aN P Γ ext a f s) (aN P Γ ext b f s):=by
 unfold aN nW;simp only [dD,nW];cases jM (cg f o) with
 | none=>exact ef _
 | some t=>cases t<;>rfl
theorem eA (id:Nat) (b:aW) (f:aR) (s:PS):aN P Γ ext (.block id b) f s=jm id (aN P Γ ext b f s):=u6 (eW b f s) _
theorem fO (b:aW) (f:aR) (s:PS):aN P Γ ext (.loop b) f s=gR (aN P Γ ext b f s) (aN P Γ ext (.loop b)):=by
 apply Option.ext;intro x;have hm:w8 fun n=>dD P (ei Γ) (dP P Γ ext n) n (.loop b) f s:=eW _ f s;unfold aN;rw [fc hm];unfold gR;rw [Option.bind_eq_some_iff];constructor
 ·rintro⟨n,h⟩;cases n with
  | zero=>cases h
  | succ n=>
   have h':gR (dD P (ei Γ) (dP P Γ ext (n + 1)) (n + 1) b f s) (mQ (dD P (ei Γ) (dP P Γ ext (n + 1)) (n + 1) b) n)=some x:=h;unfold gR at h';rw [Option.bind_eq_some_iff] at h';obtain⟨q,h1,h2⟩:=h';refine⟨q,(fc (eW b f s) q).2 ⟨n + 1,h1⟩,?_⟩;cases hq:q.1 with
   | normal=>
    rw [hq] at h2;simp only at h2 ⊢;refine (fc (eW (.loop b) _ _) x).2 ⟨n + 1,?_⟩;exact yY (fun _ _=>.refl _) n (n + 1) (by omega) _ _ _ h2
   | _=>rw [hq] at h2; exact h2
 ·rintro⟨q,h1,h2⟩;obtain⟨n,h1⟩:=(fc (eW b f s) q).1 h1;cases hq:q.1 with
  | normal=>
   rw [hq] at h2;simp only at h2;obtain⟨m,h2⟩:=(fc (eW (.loop b) _ _) x).1 h2;refine⟨max n m + 1,?_⟩;show gR (dD P (ei Γ) (dP P Γ ext (max n m + 1)) (max n m + 1) b f s) (mQ (dD P (ei Γ) (dP P Γ ext (max n m + 1)) (max n m + 1) b) (max n m))=some x;unfold gR;rw [Option.bind_eq_some_iff];refine⟨q,eW b f s n _ (by omega) _ h1,?_⟩;rw [hq];simp only;have h3:mQ (dD P (ei Γ) (dP P Γ ext m) m b) m q.2.1 q.2.2=some x:=h2;exact yY (fun f s=>eW b f s m _ (by omega)) m (max n m) (by omega) _ _ _ h3
  | _=>
   rw [hq] at h2;refine⟨n + 1,?_⟩;show gR (dD P (ei Γ) (dP P Γ ext (n + 1)) (n + 1) b f s) (mQ (dD P (ei Γ) (dP P Γ ext (n + 1)) (n + 1) b) n)=some x;unfold gR;rw [Option.bind_eq_some_iff];refine⟨q,eW b f s n _ (by omega) _ h1,?_⟩;rw [hq];exact h2
theorem I1 {g:Nat}{fn:fJ} (h:Γ g=some fn) (args:List PV) (s:PS):aD P Γ ext g args s=if args.length≤fn.nt then (aN P Γ ext fn.body (br args 0) ⟨s.h,s.n,s.n⟩).bind fun q=>Ov q (ek fn s) else none:=by
 unfold aD;rw [← BD (sQ g args s)];have e:(fun n=>dP P Γ ext (n + 1) g args s)=fun n=>oh P (ei Γ) (dP P Γ ext n) n fn args s:=by
  funext n;simp only [dP,h]
 rw [e];unfold oh;split
 ·exact rY (eW fn.body (br args 0) ⟨s.h,s.n,s.n⟩) (fun q=>fun _ _ _=>.refl _) |>.trans (by
   unfold aN;congr 1;funext q;exact ef _)
 ·exact ef _
theorem G5 {g:Nat} (h:Γ g=none) (args:List PV) (s:PS):aD P Γ ext g args s=ext g args s:=by
 unfold aD;rw [← BD (sQ g args s)];have e:(fun n=>dP P Γ ext (n + 1) g args s)=fun _=>ext g args s:=by
  funext n;simp only [dP,h]
 rw [e];exact ef _
theorem Kl (hE:zE P) (hO:cQ P) (hm:P.follows .mixedOrders=true) (hP:tc P) (hΓ:xJ P Γ) (hX:ff P (ei Γ) ext):ff P (ei Γ) (aD P Γ ext):=by
 intro g args s q s' h;obtain⟨n,hn⟩:=(fc (sQ g args s) (q,s')).1 h;exact HO hE hO hm hP hΓ hX n g args s q s' hn
end
end Go.PE
