/- A run on values, and its soundness. No statement is proved here. -/
import Derived.Test.YtgkggocjoolciaaGreatDoorPeA
set_option linter.unusedSimpArgs false
set_option linter.unusedVariables false
set_option linter.defProp false
namespace Go.PE
open Go Go.EvL
section
variable {P:Program}{A:AS}{β:Nat→Nat}{nt:Nat}{f:Fr}{p:aR}{s s':PS}{q:PV}{E:jc}{d:Option Tmp}{ty:TypeId}{pos:String}{af:Array Edge}{gu:Option (Nat × Bool)}
theorem eG {v:Value} (h:i9 v=true):plain 50 v=true∧MQ v=true:=by
 cases v<;>first | (cases h; done) | exact⟨rfl,rfl⟩
theorem pq {o:Oper} (hs:RS A β s) {u:Value} (h:dp P f A o (.val u) A) (hq:R1 A β s.n u q):gx P A β s f o q s E:=
 ⟨u,A,β,h,.refl A β s.n _,hs,hq,.same A β s.n E⟩
theorem Q1 {l:List Value} : ∀{cs:List PV}{a:List Value},KH cs=some a→Rs A β s.n l cs→l=a∧a.all i9=true:=by
 intro cs
 induction cs generalizing l with
 | nil=>intro a h hr; injection h with h; subst h; cases hr; exact⟨rfl,rfl⟩
 | cons c cs ih=>
  intro a h hr;cases c with
  | sc v=>
   simp only [KH] at h;split at h
   ·rename_i hv;rw [Option.map_eq_some_iff] at h;obtain⟨b,hb,rfl⟩:=h;cases hr with
    | cons u _ l' _ hu hs'=>
     obtain⟨rfl,h2⟩:=ih hb hs';obtain⟨rfl,_⟩:=R1.sc hu;exact⟨rfl,by simp [hv,h2]⟩
   ·cases h
  | _=>cases h
theorem EX {v:Value}{cs:List PV}{a:List Value} (h:KH cs=some a) (hr:R1 A β s.n v (.agg cs)):v=.agg a.toArray∧plain 50 v=true:=by
 have key:∀xs:Array Value,Rs A β s.n xs.toList cs→xs=a.toArray∧plain 50 (.agg xs)=true:=by
  intro xs hx;obtain⟨h1,h2⟩:=Q1 h hx;refine⟨by rw [← h1],?_⟩;show xs.toList.all (plain 49)=true;rw [h1];rw [List.all_eq_true] at h2 ⊢;intro x hx;have:=h2 x hx;cases x<;>first | (cases this; done) | rfl
 cases hr with
 | cl _ _ h'=>cases h' with | agg xs _ h'=>obtain⟨e1,e2⟩:=key xs (Cs.up h'); exact⟨by rw [e1],e2⟩
 | agg xs _ h'=>obtain⟨e1,e2⟩:=key xs h'; exact⟨by rw [e1],e2⟩
theorem Rl (hi:cT A) (hs:RS A β s) (hf:RF A β s.n nt f p) {t u:Nat}{op:BinOp}{x y:Operand} (hx:fi x=true) (hy:fi y=true) (h:bM P p s (.bin op t x y)=some (q,s')):gx P A β s f ⟨d,.binOp op t x y u,ty,pos,af,gu⟩ q s' E:=by
 obtain⟨vx,x1,x2⟩:=bJ hf hx;obtain⟨vy,y1,y2⟩:=bJ hf hy;simp only [bM,Option.map_eq_some_iff] at h;obtain⟨v',hv,he⟩:=h;injection he with e1 e2; subst e1; subst e2;unfold fw at hv;split at hv
 ·rename_i a b hpx hpy;split at hv
  ·rename_i hsc;rw [Bool.and_eq_true] at hsc;split at hv
   ·rename_i r hr;split at hv
    ·rename_i hrs;injection hv with hv; subst hv;rw [hpx] at x2;rw [hpy] at y2;obtain⟨rfl,_⟩:=x2.sc;obtain⟨rfl,_⟩:=y2.sc;refine pq hs (bB hi fun φ w a hf'=>?_) (.cl _ _ (.sc _ (eG hrs).2));have ex:a.eval x=vx:=ij φ 50 _ _ (eG hsc.1).1 (hf'.eval x1);have ey:a.eval y=vy:=ij φ 50 _ _ (eG hsc.2).1 (hf'.eval y1);have hrun:=kq P _ hr w;have e:(execOp a.eval ⟨d,.binOp op t x y u,ty,pos,af,gu⟩).run P w=.ok (.value r) w:=by
      refine ez (s:=do eqGuard op t x y (a.eval x) (a.eval y); binOp op t (a.eval x) (a.eval y)) ?_;rw [ex,ey]; exact hrun
     rw [e];exact .val _ _ (dN φ 50 _ (eG hrs).1)
    ·cases hv
   ·cases hv
  ·cases hv
 ·rename_i cs ds hpx hpy;split at hv
  ·rename_i a b ha hb;split at hv
   ·rename_i r hr;split at hv
    ·rename_i hrs;injection hv with hv; subst hv;rw [hpx] at x2;rw [hpy] at y2;obtain⟨rfl,px⟩:=EX ha x2;obtain⟨rfl,py⟩:=EX hb y2;refine pq hs (bB hi fun φ w a hf'=>?_) (.cl _ _ (.sc _ (eG hrs).2));have ex:=ij φ 50 _ _ px (hf'.eval x1);have ey:=ij φ 50 _ _ py (hf'.eval y1);have hrun:=kq P _ hr w;have e:(execOp a.eval ⟨d,.binOp op t x y u,ty,pos,af,gu⟩).run P w=.ok (.value r) w:=by
      refine ez (s:=do eqGuard op t x y (a.eval x) (a.eval y); binOp op t (a.eval x) (a.eval y)) ?_;rw [ex,ey]; exact hrun
     rw [e];exact .val _ _ (dN φ 50 _ (eG hrs).1)
    ·cases hv
   ·cases hv
  ·cases hv
 ·cases hv
theorem SE (hi:cT A) (hs:RS A β s) (hf:RF A β s.n nt f p) {t:Nat}{op:UnOp}{x:Operand} (hx:fi x=true) (h:bM P p s (.un op x)=some (q,s')):gx P A β s f ⟨d,.unOp op t x,ty,pos,af,gu⟩ q s' E:=by
 obtain⟨vx,x1,x2⟩:=bJ hf hx;simp only [bM,Option.map_eq_some_iff] at h;obtain⟨v',hv,he⟩:=h;injection he with e1 e2; subst e1; subst e2;unfold Vb at hv;split at hv
 ·rename_i a hpx;split at hv
  ·rename_i hsc;split at hv
   ·rename_i r hr;split at hv
    ·rename_i hrs;injection hv with hv; subst hv;rw [hpx] at x2;obtain⟨rfl,_⟩:=x2.sc;refine pq hs (bB hi fun φ w a hf'=>?_) (.cl _ _ (.sc _ (eG hrs).2));have ex:a.eval x=vx:=ij φ 50 _ _ (eG hsc).1 (hf'.eval x1);have e:(execOp a.eval ⟨d,.unOp op t x,ty,pos,af,gu⟩).run P w=.ok (.value r) w:=by
      refine ez (s:=Op.unary op (a.eval x)) ?_;rw [ex]; exact kq P _ hr w
     rw [e];exact .val _ _ (dN φ 50 _ (eG hrs).1)
    ·cases hv
   ·cases hv
  ·cases hv
 ·cases hv
theorem O4 (hi:cT A) (hs:RS A β s) (hf:RF A β s.n nt f p) {t u:Nat}{k k':IntKind}{x:Operand} (hx:fi x=true) (ht:P.underlying t=some (.int k')) (hu:P.underlying u=some (.int k)) (h:bM P p s (.conv k x)=some (q,s')):gx P A β s f ⟨d,.convert t u x,ty,pos,af,gu⟩ q s' E:=by
 obtain⟨vx,x1,x2⟩:=bJ hf hx;simp only [bM,Option.map_eq_some_iff] at h;obtain⟨v',hv,he⟩:=h;injection he with e1 e2; subst e1; subst e2;unfold IE at hv;split at hv
 ·rename_i k2 z hpx;injection hv with hv; subst hv;rw [hpx] at x2;obtain⟨rfl,_⟩:=x2.sc;refine pq hs (bB hi fun φ w a hf'=>?_) (.cl _ _ (.sc _ rfl));have ex:a.eval x=.int k2 z:=ij φ 50 _ _ rfl (hf'.eval x1);have e:(execOp a.eval ⟨d,.convert t u x,ty,pos,af,gu⟩).run P w=.ok (.value (.int k (k.wrap z))) w:=by
   refine ez (s:=convert t u (a.eval x)) ?_;rw [ex];simp only [convert,Sem.run_bind,run_underlying ht,run_underlying hu,Result.andThen];rfl
  rw [e];exact .val _ _ (.int _ _)
 ·cases hv
theorem Kb (hO:cQ P) (hi:cT A) (hs:RS A β s) (hf:RF A β s.n nt f p) {t:Nat}{str:Bool}{x:Operand}{dd:TypeDesc} (hx:fi x=true) (hu:P.underlying t=some dd) (hd:(str=false∧∃e,dd=.slice e)∨(str=true∧dd=.string))
  (h:bM P p s (.len str x)=some (q,s')):gx P A β s f ⟨d,.call ⟨.builtin .len,#[x],#[t]⟩,ty,pos,af,gu⟩ q s' E:=by
 obtain⟨vx,x1,x2⟩:=bJ hf hx;simp only [bM,Option.map_eq_some_iff] at h;obtain⟨v',hv,he⟩:=h;injection he with e1 e2; subst e1; subst e2;have key:∀m:Nat,CX P f ⟨d,.call ⟨.builtin .len,#[x],#[t]⟩,ty,pos,af,gu⟩ (some dd) (some vx) A=some (.val (.int .i64 (m:Int)),A)→bQ P f ⟨d,.call ⟨.builtin .len,#[x],#[t]⟩,ty,pos,af,gu⟩ A=some (.val (.int .i64 (m:Int)),A):=fun m hm=>by
  show CX P f _ (P.underlying t) (f.eval x) A=_;rw [hu,x1]; exact hm
 unfold gq at hv;split at hv
 ·rename_i hpx;injection hv with hv; subst hv;rw [hpx] at x2;obtain⟨rfl,_⟩:=x2.sc;rcases hd with ⟨_,e,rfl⟩ | ⟨h,_⟩
  ·exact cF hO hi hs (key 0 rfl) (.cl _ _ (.sc _ rfl))
  ·cases h
 ·rename_i b hpx;injection hv with hv; subst hv;rw [hpx] at x2;obtain⟨rfl,_⟩:=x2.sc;rcases hd with ⟨h,_⟩ | ⟨_,rfl⟩
  ·cases h
  ·exact cF hO hi hs (key _ (by unfold CX; simp only [ci]; rfl)) (.cl _ _ (.sc _ rfl))
 ·rename_i e m cs hpx;injection hv with hv; subst hv;rw [hpx] at x2;have x3:=x2.lit;rcases hd with ⟨_,e',rfl⟩ | ⟨h,_⟩
  ·cases x3;exact cF hO hi hs (key _ rfl) (.cl _ _ (.sc _ rfl))
  ·cases h
 ·rename_i e m cs hpx;injection hv with hv; subst hv;rw [hpx] at x2;have x3:=x2.litx;rcases hd with ⟨_,e',rfl⟩ | ⟨h,_⟩
  ·cases x3;exact cF hO hi hs (key _ rfl) (.cl _ _ (.sc _ rfl))
  ·cases h
 ·rename_i k off m fin hpx;injection hv with hv; subst hv;rw [hpx] at x2;rcases hd with ⟨_,e',rfl⟩ | ⟨h,_⟩
  ·cases x2 with
   | cl _ _ h=>cases h
   | own=>exact cF hO hi hs (key _ rfl) (.cl _ _ (.sc _ rfl))
  ·cases h
 ·cases hv
theorem we {n:Nat} (hf:RF A β n nt f p):∀(l:List Operand),l.all fi=true→∃vs,qW f l=some vs∧Rs A β n vs (l.map (cg p)):=by
 intro l
 induction l with
 | nil=>intro _; exact⟨[],rfl,.nil⟩
 | cons x l ih=>
  intro h;rw [List.all_cons,Bool.and_eq_true] at h;obtain⟨v,h1,h2⟩:=bJ hf h.1;obtain⟨vs,h3,h4⟩:=ih h.2;refine⟨v :: vs,?_,.cons _ _ _ _ h2 h4⟩;show (match f.eval x with | some v=>(match qW f l with | some vs=>some (v :: vs) | none=>none) | none=>none)=_;rw [h1,h3]
theorem Oy (hO:cQ P) (hi:cT A) (hs:RS A β s) (hf:RF A β s.n nt f p) {g:Nat}{a b:Array Operand} (ha:a.toList.all fi=true) (hb:b.toList.all fi=true) :
  gx P A β s f ⟨d,.makeFunc (.func g) a b,ty,pos,af,gu⟩ (.fn g (a.toList.map (cg p)) (b.toList.map (cg p))) s E:=by
 obtain⟨vs,a1,a2⟩:=we hf _ ha;obtain⟨us,b1,b2⟩:=we hf _ hb;refine cF hO hi hs (u:=.func (.func g) vs.toArray us.toArray) ?_ (.fn g _ _ _ _ (by simpa using a2) (by simpa using b2));show uB f (.func g) a b A=_;unfold uB;simp only [a1,b1]
theorem Rs.get {n:Nat}{l:List Value}{r:List PV} (h:Rs A β n l r) {i:Nat}{v:PV} (hv:r[i]?=some v):∃u,l[i]?=some u∧R1 A β n u v:=by
 induction r generalizing l i with
 | nil=>simp at hv
 | cons x r ih=>
  cases h with
  | cons u _ l _ h hn=>
   cases i with
   | zero=>simp at hv; subst hv; exact⟨u,by simp,h⟩
   | succ i=>simp only [List.getElem?_cons_succ] at hv ⊢; exact ih hn hv
theorem ext_ok (hO:cQ P) (hi:cT A) (hs:RS A β s) (hf:RF A β s.n nt f p) {i:Nat}{x:Operand} (hx:fi x=true) (h:bM P p s (.ext x i)=some (q,s')):gx P A β s f ⟨d,.extract x i,ty,pos,af,gu⟩ q s' E:=by
 obtain⟨vx,x1,x2⟩:=bJ hf hx;simp only [bM] at h;split at h
 ·rename_i vs hp;simp only [Option.map_eq_some_iff] at h;obtain⟨v,hv,he⟩:=h;injection he with e1 e2; subst e1; subst e2;rw [hp] at x2;cases x2 with
  | cl _ _ h=>cases h
  | tup xs _ h=>
   obtain⟨u,h1,h2⟩:=Rs.get h hv;refine cF hO hi hs (u:=u) ?_ h2;show lN (f.eval x) i A=_;rw [x1];show ou A xs.toList[i]?=_;rw [h1]; rfl
 ·cases h
theorem oQ {n:Nat} (hf:RF A β n nt f p) {x:Option Operand} (hx:yx x=true) {dflt m:Nat} (h:lF p x dflt=some m):iE f x dflt=some m:=by
 cases x with
 | none=>exact h
 | some x=>
  obtain⟨v,h1,h2⟩:=bJ hf (x:=x) hx;show (match f.eval x with | some v=>jg v | none=>none)=_;rw [h1];exact (mH h2 h).1
theorem Oq (hO:cQ P) (hi:cT A) (hs:RS A β s) (hf:RF A β s.n nt f p) {t e es:Nat}{x y z:Operand} (hx:fi x=true) (hy:fi y=true) (hz:fi z=true) (hu:P.underlying t=some (.slice e)) (hsz:dM P e=some es)
  (h:bM P p s (.slc3 e es x y z)=some (q,s')):gx P A β s f ⟨d,.slice t x none (some y) (some z),ty,pos,af,gu⟩ q s' (eE (cg p x)):=by
 obtain⟨vx,x1,x2⟩:=bJ hf hx;have oy:∀m dflt,kH (cg p y)=some m→iE f (some y) dflt=some m:=fun m dflt hm=>oQ hf (x:=some y) hy (show lF p (some y) dflt=some m from hm);have oz:∀m dflt,kH (cg p z)=some m→iE f (some z) dflt=some m:=fun m dflt hm=>oQ hf (x:=some z) hz (show lF p (some z) dflt=some m from hm);simp only [bM] at h;split at h
 ·rename_i e' n cs hh m hp h1 h2;split at h
  ·rename_i hc;injection h with h; injection h with e1 e2; subst e1; subst e2;obtain⟨rfl,c2,c3,rfl⟩:=hc;rw [hp] at x2 ⊢;have x3:=x2.lit;cases x3 with
   | lit b off _ cap _ _ cells c st hg hpr hl hm hh'=>
    have hmul:hh * es≤n * es:=Nat.mul_le_mul_right _ c2;have hev:bQ P f ⟨d,.slice t x none (some y) (some z),ty,pos,af,gu⟩ A=some (.val (.slice (some ⟨b,off,some 0⟩) hh hh),cE A c):=by
     show qm (some z) (some y) (fy P f _ t (f.eval x) none (some y) (some z) A)=_;have:fy P f ⟨d,.slice t x none (some y) (some z),ty,pos,af,gu⟩ t (f.eval x) none (some y) (some z) A=some (.val (.slice (some ⟨b,off,some 0⟩) hh hh),cE A c):=by
      rw [x1];unfold fy;simp only [hu,oy hh n h1,oz hh cap h2,hsz];show kj P b off 0 hh hh cap es A=_;unfold kj te;rw [hg];simp only [hsz,Nat.beq_refl];unfold sliceX;rw [Nat.ble_eq_true_of_le (Nat.zero_le hh),Nat.ble_eq_true_of_le (Nat.le_trans c2 hm),Nat.beq_refl];simp only [Bool.and_self];show some (dX.val (.slice (some ⟨b,off + 0 * es,some 0⟩) hh hh),cE A c)=_;rw [Nat.zero_mul,Nat.add_zero]
     rw [this];rfl
    refine nJ hO hi hs hev (.cl _ _ (.litx b off hh e' _ cells c st hg hpr ?_ ?_)) hpr.1 (.inr ⟨rfl,hpr⟩)
    ·rw [List.length_take]; omega
    ·have:=Cs.take hh' (hh * es);rw [List.take_take,Nat.min_eq_left (by omega)] at this;rw [List.length_take,Nat.min_eq_left (by omega)];exact this
  ·cases h
 ·rename_i hp h1 h2;injection h with h; injection h with e1 e2; subst e1; subst e2;rw [hp] at x2;obtain⟨rfl,_⟩:=x2.sc;refine cF hO hi hs (u:=.slice none 0 0) ?_ (.cl _ _ (.sc _ rfl));show qm (some z) (some y) (fy P f _ t (f.eval x) none (some y) (some z) A)=_;have:fy P f ⟨d,.slice t x none (some y) (some z),ty,pos,af,gu⟩ t (f.eval x) none (some y) (some z) A=some (.val (.slice none 0 0),A):=by
   rw [x1];unfold fy;have o0:iE f none 0=some 0:=rfl;simp only [hu,oy 0 0 h1,oz 0 0 h2,o0,hsz]
  rw [this];rfl
 ·cases h
theorem Qi (hO:cQ P) (hi:cT A) (hs:RS A β s) (hf:RF A β s.n nt f p) {t e es:Nat}{x:Operand}{lo hi':Option Operand} (hx:fi x=true) (hlo:yx lo=true) (hhi:yx hi'=true) (hu:P.underlying t=some (.slice e)) (hsz:dM P e=some es)
  (h:bM P p s (.slc e es x lo hi')=some (q,s')):gx P A β s f ⟨d,.slice t x lo hi' none,ty,pos,af,gu⟩ q s' (eE (cg p x)):=by
 obtain⟨vx,x1,x2⟩:=bJ hf hx;simp only [bM] at h;split at h
 ·rename_i l hh h1 h2;simp only [Option.map_eq_some_iff] at h;obtain⟨v,hv,he⟩:=h;injection he with e1 e2; subst e1; subst e2;have key:∀b o m cap cells c st,vx=.slice (some ⟨b,o,none⟩) m cap→C6 (cg p x)=m→A.heap.get b=some (.row cells e c st true)→l≤hh→hh≤m→m≤cap→
    bQ P f ⟨d,.slice t x lo hi' none,ty,pos,af,gu⟩ A=some (.val (.slice (some ⟨b,o + l * es,none⟩) (hh - l) (cap - l)),cE A c):=by
   rintro b o m cap cells c st rfl hm hg hle1 hle2 hle3;rw [hm] at h2;show qm none hi' (fy P f _ t (f.eval x) lo hi' none A)=_;have:fy P f ⟨d,.slice t x lo hi' none,ty,pos,af,gu⟩ t (f.eval x) lo hi' none A=some (.val (.slice (some ⟨b,o + l * es,none⟩) (hh - l) (cap - l)),cE A c):=by
    rw [x1];unfold fy;simp only [hu,oQ hf hlo h1,oQ hf hhi h2,hsz];show sliceAt P b o l hh cap cap es A=_;unfold sliceAt te;rw [hg];simp only [hsz,Nat.beq_refl];unfold mC;rw [Nat.ble_eq_true_of_le hle1,Nat.ble_eq_true_of_le (Nat.le_trans hle2 hle3),Nat.ble_eq_true_of_le (Nat.le_refl cap)];rfl
   rw [this];cases hi'<;>rfl
  unfold Jd at hv;split at hv
  ·rename_i e' m cs hp;split at hv
   ·rename_i hc;injection hv with hv; subst hv;rw [hp] at x2 key;have x3:=x2.lit;obtain⟨c1,c2,c3,rfl⟩:=hc;cases x3 with
    | lit b off _ cap _ _ cells c st hg hpr hl hm hh'=>
     have hmul:hh * es≤m * es:=Nat.mul_le_mul_right _ c2;have hmul2:l * es≤hh * es:=Nat.mul_le_mul_right _ c1;have hsub:(hh - l) * es=hh * es - l * es:=Nat.sub_mul _ _ _;refine nJ hO hi hs (key b off m cap cells c st rfl rfl hg c1 c2 hm) (.cl _ _ (.lit b (off + l * es) (hh - l) (cap - l) e' _ cells c st hg hpr ?_ (by omega) ?_)) hpr.1 (.inr ⟨by rw [hp]; rfl,hpr⟩)
     ·rw [List.length_take,List.length_drop]; omega
     ·have:=Cs.take (Cs.drop hh' (l * es)) ((hh - l) * es);rw [List.drop_take,List.drop_drop,List.take_take,Nat.min_eq_left (by omega)] at this;rw [List.length_take,List.length_drop,Nat.min_eq_left (by omega)];exact this
   ·cases hv
  ·rename_i k off m fin hp;split at hv
   ·rename_i hc;injection hv with hv; subst hv;rw [hp] at x2 key;obtain⟨c1,c2,c3,c4,c5⟩:=hc;cases x2 with
    | cl _ _ h=>cases h
    | own b o _ _ _ _ cap e' cells st ok hk hg ho hf' hm=>
     obtain⟨rfl,g2,g3⟩:=(hs.blk k hk).all _ _ _ _ _ hg;obtain⟨rfl,_⟩:=g3 (by omega);rw [c5] at hg;have hmul:hh * es≤m * es:=Nat.mul_le_mul_right _ c2;refine nJ hO hi hs (key b o m cap cells _ st rfl rfl hg c1 c2 hm) (.own b (o + l * es) k _ (hh - l) _ (cap - l) e cells st true hk hg (by omega) (by omega) (by omega)) (hs.blk k hk).lt (.inl ⟨k,by rw [hp]; simp [eE],hk,rfl⟩)
   ·cases hv
  ·cases hv
 ·cases h
theorem Oz (hO:cQ P) (hi:cT A) (hs:RS A β s) (hf:RF A β s.n nt f p) {t:Nat}{x:Operand}{lo hi':Option Operand} (hx:fi x=true) (hlo:yx lo=true) (hhi:yx hi'=true) (hu:P.underlying t=some .string)
  (h:bM P p s (.sslc x lo hi')=some (q,s')):gx P A β s f ⟨d,.slice t x lo hi' none,ty,pos,af,gu⟩ q s' E:=by
 obtain⟨vx,x1,x2⟩:=bJ hf hx;simp only [bM] at h;split at h
 ·rename_i l hh h1 h2;simp only [Option.map_eq_some_iff] at h;obtain⟨v,hv,he⟩:=h;injection he with e1 e2; subst e1; subst e2;unfold km at hv;split at hv
  ·rename_i b hp;split at hv
   ·rename_i hc;injection hv with hv; subst hv;rw [hp] at x2 h2;obtain⟨rfl,_⟩:=x2.sc;refine cF hO hi hs (u:=.string ⟨⟨(b.data.toList.drop l).take (hh - l)⟩⟩) ?_ (.cl _ _ (.sc _ rfl));show qm none hi' (fy P f _ t (f.eval x) lo hi' none A)=_;have:fy P f ⟨d,.slice t x lo hi' none,ty,pos,af,gu⟩ t (f.eval x) lo hi' none A=some (.val (.string ⟨⟨(b.data.toList.drop l).take (hh - l)⟩⟩),A):=by
     rw [x1];unfold fy;have h2':iE f hi' b.data.toList.length=some hh:=oQ hf hhi h2;simp only [hu,oQ hf hlo h1,h2'];unfold qZ;rw [Nat.ble_eq_true_of_le hc.1,Nat.ble_eq_true_of_le hc.2,cA];rfl
    rw [this];cases hi'<;>rfl
   ·cases hv
  ·cases hv
 ·cases h
end
section
variable {P:Program}{A:AS}{β:Nat→Nat}{nt:Nat}{f:Fr}{p:aR}{s s':PS}{q:PV}{d:Option Tmp}{ty:TypeId}{pos:String}{af:Array Edge}{gu:Option (Nat × Bool)}
theorem PC {n:Nat}{v:Value}{x:PV} (h:R1 A β n v x) (ho:cL x=true):nE v=true:=by
 cases h with
 | cl v p h=>
  cases h with
  | sc v h=>exact ho
  | agg=>cases ho
  | _=>rfl
 | agg=>cases ho
 | tup=>cases ho
 | _=>rfl
theorem rV {n:Nat}{l:List Value}{r:List PV} (h:Rs A β n l r) (ho:r.all cL=true):l.all nE=true:=by
 induction r generalizing l with
 | nil=>cases h; rfl
 | cons x r ih=>
  rw [List.all_cons,Bool.and_eq_true] at ho;cases h with
  | cons v _ l _ h hn=>rw [List.all_cons,PC h ho.1,ih hn ho.2]; rfl
theorem vX {y:fW}{cells:List Value}{e c st:Nat}{ok:Bool} (h:fW.row cells e c st ok=jx y):ok=false∧∃ok',y=.row cells e c st ok':=by
 cases y with
 | row cells' e' c' st' ok'=>simp only [jx] at h; injection h with h1 h2 h3 h4 h5; subst h1 h2 h3 h4; exact⟨h5,ok',rfl⟩
 | map es k=>simp only [jx] at h; cases h
 | iter a b=>simp only [jx] at h; cases h
theorem HH {b o:Nat}{vs cells:List Value}{e c st:Nat} (hg:A.heap.get b=some (.row cells e c st true)) (hl:o + vs.length≤cells.length) (hz:A.fz.get c=none) (h1:vs.all nE=true):∃A',FQ A b o vs=some A':=by
 refine⟨wS ((mX A b c).put b (.row (cells.take o ++ (vs ++ cells.drop (o + vs.length))) e c st true)) c,?_⟩;unfold FQ;rw [hg];show FI A b o vs cells e c st=_;unfold FI;have hfz:wJ A c (Nat.add st o)=true:=by unfold wJ; rw [hz]
 rw [cA,show Nat.ble (Nat.add o vs.length) cells.length=true from Nat.ble_eq_true_of_le hl,hfz,h1];rfl
theorem O6 {C:List PV}{st o l:Nat}{ys:List PV} (hl:ys.length=l) (hC:st + o + l≤C.length):(C.take (st + o) ++ (ys ++ C.drop (st + o + l))).drop st=(C.drop st).take o ++ (ys ++ (C.drop st).drop (o + l)):=by
 have h1:st≤(C.take (st + o)).length:=by rw [List.length_take]; omega
 rw [List.drop_append_of_le_length h1,List.drop_take,List.drop_drop,show st + o - st=o by omega,show st + (o + l)=st + o + l by omega]
theorem Kv {E:jc} (hi:cT A) (hs:RS A β s) {k off fin b o e st:Nat}{cells vs:List Value}{ok:Bool}{yc:List PV} (hk:k < s.n) (hg:A.heap.get b=some (.row cells e (β k) st ok)) (ho:st + o=off) (hf':fin≤st + cells.length) (hyc:Rs A β s.n vs yc)
  (c1:off + yc.length≤fin) (c2:fin=(s.h k).cells.length) (c3:yc.all cL=true) (he1:k∈E.rd) (he2:k∈E.wr):∃A',FQ A b o vs=some A'∧Fw A A' β β s.n s.n (min s.w k)∧
   RS A' β (s.put k ⟨(s.h k).cells.take off ++ (yc ++ (s.h k).cells.drop (off + yc.length)),fin,(s.h k).e⟩)∧BS A A' β β s.n s.n E:=by
 have hb:=hs.blk k hk;obtain⟨g1,g2,g3⟩:=hb.all _ _ _ _ _ hg;have hlow:=hb.low;obtain⟨rfl,hrs⟩:=g3 (by omega);have hyl:=hyc.len;obtain⟨A',hA'⟩:=HH hg (o:=o) (vs:=vs) (by rw [hyl]; omega) hb.fz (rV hyc c3);obtain⟨cells2,e2,c2',st2,K,sp⟩:=wu hi (Nat.le_refl _) hA';have hrow:=sp.row;rw [hg] at hrow;injection hrow with hrow;injection hrow with r1 r2 r3 r4;subst r1 r2 r3 r4;have W:=sp.wr;have hend:st + cells.length=(s.h k).cells.length:=by omega
 have hnext:A'.next=A.next:=by
  rcases W.next with ⟨h1,_⟩ | ⟨h1,_⟩
  ·have:=(hi.lt _ _ hg).1; omega
  ·exact h1
 have hroot:=W.root;have hkill:∀z∈K,∀cells' e' c' st' ok',A.heap.get z=some (.row cells' e' c' st' ok')→c'=β k:=fun z hz cells' e' c' st' ok' hg'=>hi.memr hroot (W.kill z hz) hg';have hnew:((cells.take o ++ (vs ++ cells.drop (o + vs.length)))).length=cells.length:=by
  have:=sp.len;simp only [List.length_append,List.length_take,List.length_drop];omega
 have hget:∀z,A'.heap.get z=if z=b then some (.row (cells.take o ++ (vs ++ cells.drop (o + vs.length))) e (β k) st true) else if z∈K then (A.heap.get z).map jx else A.heap.get z:=W.heap;have hfw:Fw A A' β β s.n s.n (min s.w k):=by
  refine⟨Nat.le_refl _,by omega,fun _ _=>rfl,fun _ _ _=>by omega,fun z cells' e' c' st' hg' hp'=>?_,fun z cells' e' st' ok' j hj hg'=>?_,fun c hc hw=>?_⟩
  ·rw [hget];have hne:c'≠β k:=fun e=>hp'.2 k hk e.symm;rw [if_neg (by rintro rfl; rw [hg] at hg'; injection hg' with hg'; injection hg' with _ _ h3; exact hne h3.symm),if_neg (fun hz=>hne (hkill z hz _ _ _ _ _ hg'))];exact hg'
  ·rw [hget];by_cases hz:z=b
   ·subst hz;rw [hg] at hg';injection hg' with hg';injection hg' with h1 h2 h3 h4 h5;subst h1 h2 h4;rw [if_pos rfl];exact⟨_,true,by rw [h3],hnew⟩
   ·rw [if_neg hz];by_cases hzK:z∈K
    ·rw [if_pos hzK,hg'];exact⟨cells',false,rfl,rfl⟩
    ·rw [if_neg hzK];exact⟨cells',ok',hg',rfl⟩
  ·rw [W.w] at hw;rcases iF hw with h | h
   ·exact .inl h
   ·exact .inr ⟨k,Nat.min_le_right _ _,hk,h⟩
 refine⟨A',hA',hfw,?_,?_⟩
 ·constructor
  ·intro j hj;have hj':j < s.n:=hj;by_cases hjk:j=k
   ·subst hjk;show RB A' β s.n (β j) (if j=j then _ else s.h j);rw [if_pos rfl];have hCl:((s.h j).cells.take off ++ (yc ++ (s.h j).cells.drop (off + (yc).length))).length=(s.h j).cells.length:=by
     simp only [List.length_append,List.length_take,List.length_drop]; omega
    have hrows:∀z cells' e' st' ok',A'.heap.get z=some (.row cells' e' (β j) st' ok')→(z=b∧cells'=cells.take o ++ (vs ++ cells.drop (o + vs.length))∧e'=e∧st'=st∧ok'=true)∨(z≠b∧∃ok2,A.heap.get z=some (.row cells' e' (β j) st' ok2)):=by
     intro z cells' e' st' ok' hz;rw [hget] at hz;split at hz
     ·rename_i hzb;injection hz with hz;injection hz with h1 h2 h3 h4 h5;exact .inl ⟨hzb,h1.symm,h2.symm,h4.symm,h5.symm⟩
     ·rename_i hzb;split at hz
      ·obtain⟨y',k1,k2⟩:=fQ hz;obtain⟨_,ok2,rfl⟩:=vX k2;exact .inr ⟨hzb,ok2,k1⟩
      ·exact .inr ⟨hzb,ok',hz⟩
    refine⟨⟨b,_,st,by rw [hget,if_pos rfl,g1],by rw [hnew,hend]; exact hCl.symm⟩,fun z cells' e' st' ok' hz=>?_,fun z1 z2 cells1 e1 st1 ok1 cells2 e2 st2 ok2 h1 h2 l1 l2=>?_,by show fin≤_; rw [hCl]; omega,by rw [sp.fze]; exact hb.fz,by rw [hnext]; exact hb.lt,fun z cells' e' st' ok' hz=>by
     rcases hrows _ _ _ _ _ hz with ⟨_,_,_,rfl,_⟩ | ⟨_,ok2,hz'⟩
     ·exact hb.z _ _ _ _ _ hg
     ·exact hb.z _ _ _ _ _ hz'⟩
    ·show e'=(s.h j).e∧st' + cells'.length≤_∧(fin≤st' + cells'.length→_)
     rw [hCl];rcases hrows _ _ _ _ _ hz with ⟨rfl,rfl,rfl,rfl,rfl⟩ | ⟨hzb,ok2,hz'⟩
     ·refine⟨g1,by rw [hnew]; omega,fun _=>⟨rfl,?_⟩⟩;have hR:((List.drop st' (s.h j).cells).take o ++ (yc ++ (List.drop st' (s.h j).cells).drop (o + (yc).length))).length≤cells.length:=by
       simp only [List.length_append,List.length_take,List.length_drop]; omega
      rw [hnew,← ho,O6 rfl (by omega),List.take_of_length_le hR];rw [hyl];have h0:=hrs;rw [List.take_of_length_le (by rw [List.length_drop]; omega)] at h0;exact ((h0.take o).app (hyc.app (h0.drop _))).mono hfw
     ·obtain⟨k1,k2,k3⟩:=hb.all _ _ _ _ _ hz';refine⟨k1,k2,fun hle=>absurd (hb.uni _ _ _ _ _ _ _ _ _ _ hz' hg (by omega) hend) hzb⟩
    ·rw [hCl] at l1 l2;have q1:∃cells' e' st' ok',A.heap.get z1=some (.row cells' e' (β j) st' ok')∧st' + cells'.length=(s.h j).cells.length:=by
      rcases hrows _ _ _ _ _ h1 with ⟨rfl,rfl,rfl,rfl,rfl⟩ | ⟨_,ok2,hz'⟩
      ·exact⟨_,_,_,_,hg,hend⟩
      ·exact⟨_,_,_,_,hz',l1⟩
     have q2:∃cells' e' st' ok',A.heap.get z2=some (.row cells' e' (β j) st' ok')∧st' + cells'.length=(s.h j).cells.length:=by
      rcases hrows _ _ _ _ _ h2 with ⟨rfl,rfl,rfl,rfl,rfl⟩ | ⟨_,ok2,hz'⟩
      ·exact⟨_,_,_,_,hg,hend⟩
      ·exact⟨_,_,_,_,hz',l2⟩
     obtain⟨_,_,_,_,a1,a2⟩:=q1;obtain⟨_,_,_,_,b1,b2⟩:=q2;exact hb.uni _ _ _ _ _ _ _ _ _ _ a1 b1 a2 b2
   ·show RB A' β s.n (β j) (if j=k then _ else s.h j);rw [if_neg hjk];have hne:β j≠β k:=fun e=>hjk (hs.inj j k hj' hk e);refine (hs.blk j hj').mono hfw (fun z cells' e' st' ok'=>?_) (by rw [sp.fze]);rw [hget];constructor
    ·intro hz;split at hz
     ·injection hz with hz; injection hz with _ _ h3; exact absurd h3.symm hne
     ·split at hz
      ·rename_i hzK;obtain⟨y',k1,k2⟩:=fQ hz;obtain⟨_,ok2,rfl⟩:=vX k2;exact absurd (hkill _ hzK _ _ _ _ _ k1) hne
      ·exact hz
    ·intro hz;rw [if_neg (by rintro rfl; rw [hg] at hz; injection hz with hz; injection hz with _ _ h3; exact hne h3.symm),if_neg (fun hzK=>hne (hkill _ hzK _ _ _ _ _ hz))];exact hz
  ·exact hs.inj
 ·refine⟨fun c hc=>?_,fun c hc=>?_,fun _ c h1 h2=>by omega⟩
  ·rcases W.r with h | h
   ·rw [h] at hc; exact .inl hc
   ·rw [h] at hc;rcases iF hc with h | h
    ·exact .inl h
    ·exact .inr (.inl ⟨k,he1,hk,h⟩)
  ·rw [W.w] at hc;rcases iF hc with h | h
   ·exact .inl h
   ·exact .inr (.inl ⟨k,he2,hk,h⟩)
theorem JL (hO:cQ P) (hi:cT A) (hs:RS A β s) (hf:RF A β s.n nt f p) {t sz:Nat}{x y:Operand} (hx:fi x=true) (hy:fi y=true) (hsz:dM P t=some sz)
  (h:bM P p s (.store t sz x y)=some (q,s')):gx P A β s f ⟨d,.store t x y,ty,pos,af,gu⟩ q s' (cI p (.store t sz x y)):=by
 obtain⟨vx,x1,x2⟩:=bJ hf hx;obtain⟨vy,y1,y2⟩:=bJ hf hy;simp only [bM] at h;split at h
 ·rename_i hlen;simp only [Option.map_eq_some_iff] at h;obtain⟨s1,hst,he⟩:=h;injection he with e1 e2; subst e1; subst e2;unfold FA at hst;split at hst
  ·rename_i k off fin hp;split at hst
   ·rename_i hc;injection hst with hst;obtain⟨c1,c2,c3⟩:=hc;rw [hp] at x2;cases x2 with
    | cl _ _ h=>cases h
    | ptr b o _ _ _ e cells st ok hk hg ho hf'=>
     have hyc:=y2.cells;have hyl:=hyc.len;have he:cI p (.store t sz x y)=⟨[k],[k],false,false⟩:=by simp only [cI,hp]
     rw [he,← hst];obtain⟨A',hA',k1,k2,k3⟩:=Kv (E:=⟨[k],[k],false,false⟩) hi hs hk hg ho hf' hyc c1 c2 c3 (by simp) (by simp);have hev:bQ P f ⟨d,.store t x y,ty,pos,af,gu⟩ A=some (.val undef,A'):=by
      show nP P t (f.eval x) (f.eval y) A=_;rw [x1,y1];unfold nP;simp only [hsz];rw [show Nat.beq vy.cells.size sz=true by rw [← Array.length_toList,hyl,hlen]; exact Nat.beq_refl _,hA'];rfl
     exact⟨undef,A',β,hO f _ A _ _ hi (Nat.le_refl _) hev,k1,k2,.cl _ _ (.sc _ rfl),k3⟩
   ·cases hst
  ·cases hst
 ·cases h
end
section
variable {P:Program}{A:AS}{β:Nat→Nat}{nt:Nat}{f:Fr}{p:aR}{s s':PS}{q:PV}{E:jc}{d:Option Tmp}{ty:TypeId}{pos:String}{af:Array Edge}{gu:Option (Nat × Bool)}
theorem Ag (hs:RS A β s) {v:Value}{x:PV} (hv:R1 A β s.n v x) {e e2 es n:Nat}{cs:List PV} (hsz:dM P e=some es) (h:i5 s es x=some (cs,n)) :
  ∃xs A1,gC P e (some (.slice e2)) A v=some (xs,n,A1)∧Rs A β s.n xs cs∧(A1=A∨∃c,A1=cE A c∧c < A.next∧((∃k∈(eE x).rd,k < s.n∧β k=c)∨((eE x).li=true∧jA A β s.n c))):=by
 have key:∀b o m cap cells e' c st,v=.slice (some ⟨b,o,none⟩) m cap→A.heap.get b=some (.row cells e' c st true)→o + m * es≤cells.length→Rs A β s.n ((cells.drop o).take (m * es)) cs→m=n→((∃k∈(eE x).rd,k < s.n∧β k=c)∨((eE x).li=true∧jA A β s.n c))→
   ∃xs A1,gC P e (some (.slice e2)) A v=some (xs,n,A1)∧Rs A β s.n xs cs∧(A1=A∨∃c,A1=cE A c∧c < A.next∧((∃k∈(eE x).rd,k < s.n∧β k=c)∨((eE x).li=true∧jA A β s.n c))):=by
  rintro b o m cap cells e' c st rfl hg hl hr rfl hef;cases m with
  | zero=>
   rw [Nat.zero_mul,List.take_zero] at hr;exact⟨[],A,by unfold gC; simp only [hsz]; rfl,hr,.inl rfl⟩
  | succ m=>
   refine⟨_,cE A c,?_,hr,.inr ⟨c,rfl,by
    rcases hef with ⟨k,_,hk,rfl⟩ | ⟨_,hp⟩
    ·exact (hs.blk k hk).lt
    ·exact hp.1,hef⟩⟩
   unfold gC;simp only [hsz];show (ld A b o (Nat.mul (m + 1) es)).map _=_;rw [show Nat.mul (m + 1) es=(m + 1) * es from rfl,CL hg hl];rfl
 unfold i5 at h;split at h
 ·injection h with h; injection h with h1 h2; subst h1; subst h2;obtain⟨rfl,_⟩:=hv.sc;exact⟨[],A,rfl,.nil,.inl rfl⟩
 ·rename_i e' m cs';split at h
  ·rename_i hc;injection h with h; injection h with h1 h2; subst h1;have hl:=hv.lit;cases hl with
   | lit b off _ cap _ _ cells c st hg hp hl hm hh=>
    exact key b off m cap cells e' c st rfl hg (by omega) (by rw [← hc]; exact Cs.up hh) h2 (.inr ⟨rfl,hp⟩)
  ·cases h
 ·rename_i k off m fin;split at h
  ·rename_i hc;injection h with h; injection h with h1 h2; subst h1;obtain⟨c1,c2,c3⟩:=hc;cases hv with
   | cl _ _ h=>cases h
   | own b o _ _ _ _ cap e' cells st ok hk hg ho hf' hm=>
    obtain⟨g1,g2,g3⟩:=(hs.blk k hk).all _ _ _ _ _ hg;obtain⟨rfl,hr⟩:=g3 (by omega);refine key b o m cap cells e' (β k) st rfl hg (by omega) ?_ h2 (.inl ⟨k,by simp [eE],hk,rfl⟩);have:=(hr.drop o).take (m * es);rw [List.drop_take,List.take_take,List.drop_drop,ho,Nat.min_eq_left (by omega)] at this;exact this
  ·cases h
 ·cases h
theorem BS.comp {B C:AS}{γ:Nat→Nat}{n m:Nat} (hB:B=A∨∃c,B=cE A c∧c < A.next∧((∃k∈E.rd,k < n∧β k=c)∨(E.li=true∧jA A β n c))) (h2:BS B C β γ n m E):BS A C β γ n m E:=by
 rcases hB with rfl | ⟨c0,rfl,h0,hef⟩
 ·exact h2
 ·have hn:(cE A c0).next=A.next:=by rw [aH]
  have hw:(cE A c0).w=A.w:=by rw [aH]
  have hr:∀c,(cE A c0).r.testBit c=true→A.r.testBit c=true∨c0=c:=fun c hc=>by rw [aH] at hc; exact iF hc
  have hp:∀c,jA (cE A c0) β n c→jA A β n c:=fun c hc=>⟨by rw [← hn]; exact hc.1,hc.2⟩
  refine⟨fun c hc=>?_,fun c hc=>?_,fun hca c c1 c2=>⟨fun hc=>?_,fun hc=>?_⟩⟩
  ·rcases h2.r c hc with h | h | ⟨h,h'⟩ | ⟨h,h'⟩ | h
   ·rcases hr c h with h | rfl
    ·exact .inl h
    ·exact .inr (hef.imp id .inl)
   ·exact .inr (.inl h)
   ·exact .inr (.inr (.inl ⟨h,hp c h'⟩))
   ·exact .inr (.inr (.inr (.inl ⟨by omega,h'⟩)))
   ·exact .inr (.inr (.inr (.inr h)))
  ·rcases h2.w c hc with h | h | ⟨h,h'⟩
   ·exact .inl (by rw [← hw]; exact h)
   ·exact .inr (.inl h)
   ·exact .inr (.inr ⟨by omega,h'⟩)
  ·rcases (h2.new hca c (by omega) c2).1 hc with h | h
   ·rcases hr c h with h | rfl
    ·exact .inl h
    ·omega
   ·exact .inr h
  ·rcases (h2.new hca c (by omega) c2).2 hc with h | h
   ·exact .inl (by rw [← hw]; exact h)
   ·exact .inr h
theorem GX (s:AS) (cells:List Value) (e cls st:Nat) (ms:List Nat) (n:Nat):∃r,pm s cells e cls st ms n=some r:=by
 cases s;unfold pm;simp only [cA,dh,ci];exact⟨_,rfl⟩
theorem qP {i:TypeInfo}{z:Value}{len n:Nat}{xs:List Value} (hz:i.zero=some z) (hzs:Nat.beq z.cells.size i.size=true) (h1:i.size≠0) (h2:xs.length=n * i.size) (h3:(len + n) * i.bytes≤140737488355328) (h4:len + n≤1073741824) (h5:xs.all nE=true):xd i i.size len n xs=true:=by
 unfold xd;rw [hz];simp only;have e1:Nat.beq i.size 0=false:=by cases h:Nat.beq i.size 0 with | false=>rfl | true=>exact absurd (Nat.eq_of_beq_eq_true h) h1
 rw [e1,show Nat.beq xs.length (Nat.mul n i.size)=true by rw [h2]; exact Nat.beq_refl _,show Nat.ble (Nat.mul (Nat.add len n) i.bytes) 140737488355328=true from Nat.ble_eq_true_of_le h3,hzs,show Nat.ble (Nat.add len n) 1073741824=true from Nat.ble_eq_true_of_le h4,h5];rfl
theorem Ql (hO:cQ P) (hi:cT A) (hs:RS A β s) (hf:RF A β s.n nt f p) {t u e e2:Nat}{i:TypeInfo}{z:Value}{x y:Operand} (hx:fi x=true) (hy:fi y=true) (ht:P.underlying t=some (.slice e)) (hu:P.underlying u=some (.slice e2)) (hin:P.info? e=some i) (hz:i.zero=some z) (hzs:Nat.beq z.cells.size i.size=true)
  (h:bM P p s (.app e i.size i.bytes x y)=some (q,s')):gx P A β s f ⟨d,.call ⟨.builtin .append,#[x,y],#[t,u]⟩,ty,pos,af,gu⟩ q s' (cI p (.app e i.size i.bytes x y)):=by
 obtain⟨vx,x1,x2⟩:=bJ hf hx;obtain⟨vy,y1,y2⟩:=bJ hf hy;simp only [bM,Option.bind_eq_some_iff] at h;obtain⟨⟨ys,n⟩,hel,h⟩:=h;have hsz:dM P e=some i.size:=by unfold dM; rw [hin]; rfl
 obtain⟨xs,A1,hca,hxs,hA1⟩:=Ag (e2:=e2) hs y2 hsz hel;have hh1:A1.heap=A.heap∧A1.next=A.next∧A1.w=A.w∧A1.fz=A.fz:=by
  rcases hA1 with rfl | ⟨c,rfl,_⟩
  ·exact⟨rfl,rfl,rfl,rfl⟩
  ·rw [aH]; exact⟨rfl,rfl,rfl,rfl⟩
 have hi1:cT A1:=by
  rcases hA1 with rfl | ⟨c,rfl,_⟩
  ·exact hi
  ·rw [aH]; exact⟨hi.lt,hi.mem,hi.memc,hi.root,hi.ml,hi.old,hi.fz⟩
 have hw1:∀lo,Fw A A1 β β s.n s.n lo:=fun lo=>.heap β s.n hh1.1 hh1.2.1 hh1.2.2.1;have hs1:RS A1 β s:=hs.same hh1.1 hh1.2.1 hh1.2.2.1 hh1.2.2.2;have x3:=x2.mono (hw1 0);have xs1:=hxs.mono (hw1 0);have hev:∀r,jq P e A1 vx xs n=some r→bQ P f ⟨d,.call ⟨.builtin .append,#[x,y],#[t,u]⟩,ty,pos,af,gu⟩ A=some r:=fun r hr=>by
  show FP P (P.underlying t) (P.underlying u) (f.eval x) (f.eval y) A=_;rw [ht,hu,x1,y1];unfold FP;simp only [hca];exact hr
 have hsub:∀c,((∃k∈(eE (cg p y)).rd,k < s.n∧β k=c)∨((eE (cg p y)).li=true∧jA A β s.n c))→((∃k∈(cI p (.app e i.size i.bytes x y)).rd,k < s.n∧β k=c)∨((cI p (.app e i.size i.bytes x y)).li=true∧jA A β s.n c)):=by
  intro c hc;have e1:∀k∈(eE (cg p y)).rd,k∈(cI p (.app e i.size i.bytes x y)).rd:=fun k hk=>by
   simp only [cI]; split
   ·exact List.mem_cons_of_mem _ hk
   ·exact hk
   ·exact hk
  have e2:(eE (cg p y)).li=true→(cI p (.app e i.size i.bytes x y)).li=true:=fun hl=>by
   simp only [cI]; split
   ·exact hl
   ·rfl
   ·exact hl
  rcases hc with ⟨k,h1,h2⟩ | h
  ·exact .inl ⟨k,e1 k h1,h2⟩
  ·exact .inr ⟨e2 h.1,h.2⟩
 have hA1':A1=A∨∃c,A1=cE A c∧c < A.next∧((∃k∈(cI p (.app e i.size i.bytes x y)).rd,k < s.n∧β k=c)∨((cI p (.app e i.size i.bytes x y)).li=true∧jA A β s.n c)):=
  hA1.imp id fun ⟨c,h1,h2,h3⟩=>⟨c,h1,h2,hsub c h3⟩
 have mk:∀(uv:Value) (A':AS) (β':Nat→Nat),jq P e A1 vx xs n=some (.val uv,A')→Fw A1 A' β β' s.n s'.n s'.w→RS A' β' s'→R1 A' β' s'.n uv q→BS A1 A' β β' s.n s'.n (cI p (.app e i.size i.bytes x y))→gx P A β s f ⟨d,.call ⟨.builtin .append,#[x,y],#[t,u]⟩,ty,pos,af,gu⟩ q s' (cI p (.app e i.size i.bytes x y)):=
  fun uv A' β' h1 h2 h3 h4 h5=>⟨uv,A',β',hO f _ A _ _ hi (Nat.le_refl _) (hev _ h1),(hw1 s'.w).trans h2 (Nat.le_refl _),h3,h4,BS.comp hA1' h5⟩
 have h':tO s e i.size i.bytes (cg p x) ys n=some (q,s'):=h;unfold tO at h';split at h'
 ·rename_i hn0;subst hn0;split at h'
  ·rename_i hsl;injection h' with h'; injection h' with e1 e2; subst e1; subst e2;refine mk vx A1 β ?_ (.refl A1 β s.n _) hs1 x3 (.same A1 β s.n _);have:∃b l c,vx=.slice b l c:=by
    unfold TE at hsl;split at hsl
    ·rename_i hp; rw [hp] at x2; obtain⟨rfl,_⟩:=x2.sc; exact⟨_,_,_,rfl⟩
    ·rename_i hp; rw [hp] at x2; have x4:=x2.lit; cases x4; exact⟨_,_,_,rfl⟩
    ·rename_i hp; rw [hp] at x2;cases x2 with
     | cl _ _ h=>cases h
     | own=>exact⟨_,_,_,rfl⟩
    ·rename_i hp; rw [hp] at x2; have x4:=x2.litx; cases x4; exact⟨_,_,_,rfl⟩
    ·cases hsl
   obtain⟨b,l,c,rfl⟩:=this;unfold jq;simp only [hin];rfl
  ·cases h'
 ·rename_i hn0;obtain⟨m',rfl⟩ : ∃m',n=m' + 1:=⟨n - 1,by omega⟩
  split at h'
  case h_3=>
   rename_i ex m cs hp;split at h'
   ·rename_i hr;injection h' with h'; injection h' with e1 e2; subst e1; subst e2;obtain⟨⟨r1,r2,r3,r4,r5⟩,c1⟩:=hr;rw [hp] at x3;have hone:=rV xs1 r5;have x4:=R1.litx x3;cases x4 with
    | litx b off _ _ _ cells c st hg hpr hl hh=>
     have hcn:c < A1.next:=hpr.1;have hold:((cells.drop off).take (m * i.size)).length=m * i.size:=by rw [List.length_take,List.length_drop]; omega
     have hnL:(cE A1 c).next=A1.next:=by rw [aH]
     have hwL:Fw A1 (cE A1 c) β β s.n s.n (s.new ⟨cs ++ ys,0,e⟩).w:=by rw [aH]; exact .heap β s.n rfl rfl rfl
     have hsL:RS (cE A1 c) β s:=by rw [aH]; exact hs1.same rfl rfl rfl rfl
     have hiL:cT (cE A1 c):=(iZ hi1 hcn).inv;have hold2:Rs A1 β s.n ((cells.drop off).take (m * i.size)) cs:=by rw [← c1]; exact Cs.up hh
     have hallL:Rs (cE A1 c) β s.n ((cells.drop off).take (m * i.size) ++ xs) (cs ++ ys):=RV.mono hwL (Rs.app hold2 xs1);refine mk (.slice (some ⟨A1.next,0,none⟩) (m + (m' + 1)) (m + (m' + 1))) (EvL.newRow (cE A1 c) ((cells.drop off).take (m * i.size) ++ xs) e) _ ?_ (hwL.trans (vo hiL β s.n _ e _) (Nat.le_refl _)) (zI hiL hsL e hallL) ?_ (BS.comp (.inr ⟨c,rfl,hcn,.inr ⟨by simp only [cI,hp],hpr⟩⟩) (tX β s.n _ e _))
     ·unfold jq;simp only [hin];rw [qP hz hzs r1 (by rw [hxs.len]; exact r2) r3 r4 hone];show qX e A1 (some ⟨b,off,some 0⟩) m (m' + 1) i.size xs=_;unfold qX;simp only [hg];unfold Nr;rw [cA];rw [show ((cells.drop off).take (Nat.mul m i.size)).length=m * i.size from hold,show Nat.beq (m * i.size) (Nat.mul m i.size)=true from Nat.beq_refl _];rfl
     ·refine .own A1.next 0 s.n 0 (m + (m' + 1)) (cs ++ ys).length (m + (m' + 1)) e ((cells.drop off).take (m * i.size) ++ xs) 0 true (by show s.n < s.n + 1; omega) ?_ rfl (by simp [hold,hxs.len,c1]) (Nat.le_refl _);rw [jQ,hnL,if_pos rfl,if_pos rfl]
   ·cases h'
  ·rename_i hp;split at h'
   ·rename_i hr;injection h' with h'; injection h' with e1 e2; subst e1; subst e2;obtain⟨r1,r2,r3,r4,r5⟩:=hr;rw [hp] at x2;obtain⟨rfl,_⟩:=x2.sc;have hone:=rV hxs r5;refine mk (.slice (some ⟨A1.next,0,none⟩) (m' + 1) (m' + 1)) (EvL.newRow A1 xs e) _ ?_ (vo hi1 β s.n xs e _) (zI hi1 hs1 e xs1) ?_ (tX β s.n xs e _)
    ·unfold jq;simp only [hin];rw [qP hz hzs r1 (by rw [hxs.len]; exact r2) r3 r4 hone];rfl
    ·refine .own A1.next 0 s.n 0 (m' + 1) ys.length (m' + 1) e xs 0 true (by show s.n < s.n + 1; omega) ?_ rfl (by simp [hxs.len]) (Nat.le_refl _);rw [jQ,if_pos rfl,if_pos rfl]
   ·cases h'
  ·rename_i k off m fin hp;split at h'
   ·rename_i hr;injection h' with h'; injection h' with e1 e2;obtain⟨⟨r1,r2,r3,r4,r5⟩,c1,c2,c3,c4,c5⟩:=hr;rw [hp] at x3;have hone:=rV xs1 r5;cases x3 with
    | cl _ _ h=>cases h
    | own b o _ _ _ _ cap e' cells st ok hk hg ho hf' hm=>
     have hb:=hs1.blk k hk;obtain⟨g1,g2,g3⟩:=hb.all _ _ _ _ _ hg;obtain⟨rfl,hrs⟩:=g3 (by omega);have he':e'=e:=by rw [g1]; exact c5
     subst he';have hend:st + cells.length=(s.h k).cells.length:=by omega
     obtain⟨rfl,rfl⟩ : o=0∧st=0:=by omega
     subst c4;have hold:((cells.drop 0).take (m * i.size)).length=m * i.size:=by rw [List.length_take,List.length_drop]; omega
     obtain⟨r,hr⟩ : ∃r,uE A1 0 m (m' + 1) i.size e' (β k) 0 cells xs=some r:=by
      unfold uE;rw [cA,ci,cA];have h1:Nat.beq ((cells.drop 0).take (Nat.mul m i.size)).length (Nat.mul m i.size)=true:=by
       rw [show Nat.mul m i.size=m * i.size from rfl,hold]; exact Nat.beq_refl _
      have h2:wJ A1 (β k) (Nat.add (Nat.add 0 0) (Nat.mul m i.size))=true:=by unfold wJ; rw [hb.fz]
      rw [h1,h2,show Nat.beq (Nat.mod 0 i.size) 0=true by rw [show Nat.mod 0 i.size=0 from Nat.zero_mod _]; rfl,hone];exact GX _ _ _ _ _ _ _
     obtain⟨nx,A'⟩:=r;obtain⟨rfl,K,sp⟩:=B9 hi1 (Nat.le_refl _) hg hr;have W:=sp.wr;have hroot:=W.root;have hnext:A'.next=A1.next + 1:=by
      rcases W.next with ⟨_,h1⟩ | ⟨h1,cs',e2',st',ok',h2⟩
      ·exact h1
      ·have:=(hi1.lt _ _ h2).1; omega
     have hkr:∀z cells' e2' c' st' ok',A1.heap.get z=some (.row cells' e2' c' st' ok')→z ∉ K:=by
      intro z cells' e2' c' st' ok' hz hzK;have hc:c'=β k:=hi1.memr hroot (W.kill z hzK) hz;subst hc;have h1:=sp.only z hzK _ _ _ _ _ hz;have h2:=(hb.all _ _ _ _ _ hz).2.1;omega
     have hget:∀z,A'.heap.get z=if z=A1.next then some (.row ((cells.drop 0).take (m * i.size) ++ xs) e' (β k) (0 + 0) true) else if z∈K then (A1.heap.get z).map jx else A1.heap.get z:=W.heap;have hkeep:∀z cells' e2' c' st' ok',A1.heap.get z=some (.row cells' e2' c' st' ok')→A'.heap.get z=some (.row cells' e2' c' st' ok'):=by
      intro z cells' e2' c' st' ok' hz;rw [hget,if_neg (by have:=(hi1.lt _ _ hz).1; omega),if_neg (hkr _ _ _ _ _ _ hz)];exact hz
     have hback:∀z cells' e2' c' st' ok',A'.heap.get z=some (.row cells' e2' c' st' ok')→(z=A1.next∧cells'=(cells.drop 0).take (m * i.size) ++ xs∧e2'=e'∧c'=β k∧st'=0∧ok'=true)∨A1.heap.get z=some (.row cells' e2' c' st' ok'):=by
      intro z cells' e2' c' st' ok' hz;rw [hget] at hz;split at hz
      ·rename_i hzn;injection hz with hz;injection hz with h1 h2 h3 h4 h5;exact .inl ⟨hzn,h1.symm,h2.symm,h3.symm,h4.symm,h5.symm⟩
      ·split at hz
       ·rename_i hzK;obtain⟨y',k1,k2⟩:=fQ hz;obtain⟨_,ok2,rfl⟩:=vX k2;exact absurd hzK (hkr _ _ _ _ _ _ k1)
       ·exact .inr hz
     have hfw:Fw A1 A' β β s.n s.n (min s.w k):=by
      refine⟨Nat.le_refl _,by omega,fun _ _=>rfl,fun _ _ _=>by omega,fun z cells' e2' c' st' hg' _=>hkeep _ _ _ _ _ _ hg',fun z cells' e2' st' ok' j _ hg'=>⟨cells',ok',hkeep _ _ _ _ _ _ hg',rfl⟩,fun c hc hw=>?_⟩;rw [W.w] at hw;rcases iF hw with h | h
      ·exact .inl h
      ·exact .inr ⟨k,Nat.min_le_right _ _,hk,h⟩
     have hnl:((cells.drop 0).take (m * i.size) ++ xs).length=m * i.size + ys.length:=by rw [List.length_append,hold,(Rs.len xs1)]
     have hyl:ys.length=(m' + 1) * i.size:=r2;have hpos : 0 < ys.length:=by rw [hyl]; exact Nat.mul_pos (by omega) (Nat.pos_of_ne_zero r1)
     refine mk (.slice (some ⟨A1.next,0,none⟩) (m + (m' + 1)) (m + (m' + 1))) A' β ?_ (by rw [← e2]; exact hfw) ?_ ?_ ?_
     ·unfold jq;simp only [hin];rw [qP hz hzs r1 (by rw [(Rs.len xs1)]; exact r2) r3 r4 hone];show qX e' A1 (some ⟨b,0,none⟩) m (m' + 1) i.size xs=_;unfold qX;simp only [hg];rw [Nat.beq_refl];exact hr
     ·rw [← e2];constructor
      ·intro j hj;have hj':j < s.n:=hj;by_cases hjk:j=k
       ·subst hjk;show RB A' β s.n (β j) (if j=j then _ else s.h j);rw [if_pos rfl];have hCl:((s.h j).cells ++ ys).length=(s.h j).cells.length + ys.length:=List.length_append;refine⟨⟨A1.next,_,0,by rw [hget,if_pos rfl],by rw [hnl,hCl]; omega⟩,fun z cells' e2' st' ok' hz=>?_,fun z1 z2 cells1 e1' st1 ok1 cells2 e2' st2 ok2 h1 h2 l1 l2=>?_,by show (s.h j).low≤_; rw [hCl]; have:=hb.low; omega,by rw [sp.fze]; exact hb.fz,by rw [hnext]; have:=hb.lt; omega,fun z cells' e2' st' ok' hz=>by
         rcases hback _ _ _ _ _ _ hz with ⟨_,_,_,_,rfl,_⟩ | hz'
         ·rfl
         ·exact hb.z _ _ _ _ _ hz'⟩
        ·show e2'=e'∧st' + cells'.length≤_∧((s.h j).low≤st' + cells'.length→_)
         rw [hCl];rcases hback _ _ _ _ _ _ hz with ⟨rfl,rfl,rfl,_,rfl,rfl⟩ | hz'
         ·refine⟨rfl,by rw [hnl]; omega,fun _=>⟨rfl,?_⟩⟩;rw [hnl,List.drop_zero,List.drop_zero];have h0:=hrs;rw [List.drop_zero,List.take_of_length_le (by omega)] at h0;have h1:(cells.take (m * i.size))=cells:=List.take_of_length_le (by omega);rw [h1,List.take_of_length_le (by rw [hCl]; omega)];exact (h0.app xs1).mono hfw
         ·obtain⟨k1,k2,k3⟩:=hb.all _ _ _ _ _ hz';refine⟨by rw [k1]; exact g1.symm,by omega,fun hle=>⟨(k3 hle).1,?_⟩⟩;rw [List.drop_append_of_le_length (by omega),List.take_append_of_le_length (by rw [List.length_drop]; omega)];exact (k3 hle).2.mono hfw
        ·rw [hCl] at l1 l2;rcases hback _ _ _ _ _ _ h1 with ⟨rfl,_⟩ | hz1
         ·rcases hback _ _ _ _ _ _ h2 with ⟨rfl,_⟩ | hz2
          ·rfl
          ·have:=(hb.all _ _ _ _ _ hz2).2.1; omega
         ·have:=(hb.all _ _ _ _ _ hz1).2.1; omega
       ·show RB A' β s.n (β j) (if j=k then _ else s.h j);rw [if_neg hjk];have hne:β j≠β k:=fun e=>hjk (hs.inj j k hj' hk e);refine (hs1.blk j hj').mono hfw (fun z cells' e2' st' ok'=>⟨fun hz=>?_,fun hz=>hkeep _ _ _ _ _ _ hz⟩) (by rw [sp.fze]);rcases hback _ _ _ _ _ _ hz with ⟨_,_,_,h4,_⟩ | hz'
        ·exact absurd h4 hne
        ·exact hz'
      ·exact hs.inj
     ·rw [← e1,← e2];refine .own A1.next 0 k 0 (m + (m' + 1)) _ (m + (m' + 1)) e' _ 0 true hk ?_ rfl (by rw [hnl]; omega) (Nat.le_refl _);rw [hget,if_pos rfl]
     ·have he:k∈(cI p (.app e' i.size i.bytes x y)).rd∧k∈(cI p (.app e' i.size i.bytes x y)).wr:=by
       simp only [cI,hp]; exact⟨List.mem_cons_self,List.mem_cons_self⟩
      have hkl:=hb.lt;rw [← e2];refine⟨fun c hc=>?_,fun c hc=>?_,fun _ c h1 h2=>⟨fun hc=>?_,fun hc=>?_⟩⟩
      ·rw [sp.bit] at hc;rcases iF hc with h | h
       ·exact .inl h
       ·exact .inr (.inl ⟨k,he.1,hk,h⟩)
      ·rw [W.w] at hc;rcases iF hc with h | h
       ·exact .inl h
       ·exact .inr (.inl ⟨k,he.2,hk,h⟩)
      ·rw [sp.bit] at hc;rcases iF hc with h | h
       ·exact .inl h
       ·omega
      ·rw [W.w] at hc;rcases iF hc with h | h
       ·exact .inl h
       ·omega
   ·cases h'
  ·cases h'
end
section
variable {P:Program}{A:AS}{β:Nat→Nat}{nt:Nat}{f:Fr}{p:aR}{s s':PS}{q:PV}{E:jc}{d:Option Tmp}{ty:TypeId}{pos:String}{af:Array Edge}{gu:Option (Nat × Bool)}
theorem Kf (hO:cQ P) (hi:cT A) (hs:RS A β s) (hf:RF A β s.n nt f p) {mx:Bool}{x y:Operand}{tys:Array TypeId} (hx:fi x=true) (hy:fi y=true) (h:bM P p s (.mnx mx x y)=some (q,s')) :
  gx P A β s f ⟨d,.call ⟨.builtin (if mx then .max else .min),#[x,y],tys⟩,ty,pos,af,gu⟩ q s' E:=by
 obtain⟨vx,x1,x2⟩:=bJ hf hx;obtain⟨vy,y1,y2⟩:=bJ hf hy;simp only [bM] at h;split at h
 ·rename_i k a k' b h1 h2;injection h with h; injection h with e1 e2; subst e1; subst e2;rw [h1] at x2;rw [h2] at y2;obtain⟨rfl,_⟩:=x2.sc;obtain⟨rfl,_⟩:=y2.sc;refine cF hO hi hs ?_ (.cl _ _ (.sc _ rfl));cases mx with
  | true=>
   show fG P f ⟨d,.call ⟨.builtin .max,#[x,y],tys⟩,ty,pos,af,gu⟩ A=_;unfold fG;have hp:((⟨d,.call ⟨.builtin .max,#[x,y],tys⟩,ty,pos,af,gu⟩ : Oper).op.operands.toList.all (kR f))=true:=by
    show (([x,y]:List Operand).all (kR f))=true;simp only [List.all_cons,List.all_nil,kR,x1,y1];rfl
   rw [hp];have he:bx P (execOp (fun z=>(f.eval z).getD undef) ⟨d,.call ⟨.builtin .max,#[x,y],tys⟩,ty,pos,af,gu⟩)=some (.value (.int k (Ik true a b))):=by
    show bx P (do let d ← resolve (fun z=>(f.eval z).getD undef) ⟨.builtin .max,#[x,y],tys⟩ ty; invoke d.target d.args)=_;simp only [resolve,x1,y1,Option.getD_some,List.map_toArray,List.map_cons,List.map_nil];rfl
   rw [he];rfl
  | false=>
   show fG P f ⟨d,.call ⟨.builtin .min,#[x,y],tys⟩,ty,pos,af,gu⟩ A=_;unfold fG;have hp:((⟨d,.call ⟨.builtin .min,#[x,y],tys⟩,ty,pos,af,gu⟩ : Oper).op.operands.toList.all (kR f))=true:=by
    show (([x,y]:List Operand).all (kR f))=true;simp only [List.all_cons,List.all_nil,kR,x1,y1];rfl
   rw [hp];have he:bx P (execOp (fun z=>(f.eval z).getD undef) ⟨d,.call ⟨.builtin .min,#[x,y],tys⟩,ty,pos,af,gu⟩)=some (.value (.int k (Ik false a b))):=by
    show bx P (do let d ← resolve (fun z=>(f.eval z).getD undef) ⟨.builtin .min,#[x,y],tys⟩ ty; invoke d.target d.args)=_;simp only [resolve,x1,y1,Option.getD_some,List.map_toArray,List.map_cons,List.map_nil];rfl
   rw [he];rfl
 ·cases h
theorem QE (hO:cQ P) (hi:cT A) (hs:RS A β s) (hf:RF A β s.n nt f p) {x:Operand} (hx:fi x=true) (h:bM P p s (.nck x)=some (q,s')):gx P A β s f ⟨d,.nilCheck x,ty,pos,af,gu⟩ q s' E:=by
 obtain⟨vx,x1,x2⟩:=bJ hf hx;simp only [bM] at h;have ev:∀a,vx=.pointer (some a)→bQ P f ⟨d,.nilCheck x,ty,pos,af,gu⟩ A=some (.val vx,A):=fun a ha=>by
  show jY P f _ (f.eval x) A=_;rw [x1,ha];rfl
 split at h
 ·rename_i k o fin hp;injection h with h; injection h with e1 e2; subst e1; subst e2;rw [hp] at x2;refine cF hO hi hs (u:=vx) ?_ x2;cases x2 with
  | cl _ _ h=>cases h
  | ptr=>exact ev _ rfl
 ·rename_i cs hp;injection h with h; injection h with e1 e2; subst e1; subst e2;rw [hp] at x2;refine cF hO hi hs (u:=vx) ?_ x2;have x3:=x2.litp;cases x3 with
  | litp=>exact ev _ rfl
 ·cases h
theorem Mm {n:Nat}{z:Value} (hz:KA z=true) (hp:plain 50 z=true) (es m:Nat) (hl:z.cells.toList.length=es):Rs A β n (mO z.cells.toList es (m * es)) (t8 z.cells.toList es m):=by
 have h0:=y9 (A:=A) (β:=β) (n:=n) hz;unfold mO t8;have key:∀l:List Nat,(∀k∈l,0 < es)→Rs A β n (l.map fun k=>z.cells.toList.getD (Nat.mod k es) undef) (l.map fun k=>PV.sc (z.cells.toList.getD (k % es) undef)):=by
  intro l
  induction l with
  | nil=>intro _; exact .nil
  | cons k l ih=>
   intro hk;refine .cons _ _ _ _ ?_ (ih fun j hj=>hk j (List.mem_cons_of_mem _ hj));have hm:k % es < z.cells.toList.length:=by rw [hl]; exact Nat.mod_lt _ (hk k (List.mem_cons_self ..))
   obtain⟨u,h1,h2⟩:=Rs.get h0 (i:=k % es) (v:=.sc (z.cells.toList[k % es])) (by rw [List.getElem?_map,List.getElem?_eq_getElem hm]; rfl);have e1:z.cells.toList.getD (k % es) undef=z.cells.toList[k % es]:=by rw [List.getD_eq_getElem?_getD,List.getElem?_eq_getElem hm]; rfl
   rw [List.getElem?_eq_getElem hm] at h1;injection h1 with h1;show R1 A β n (z.cells.toList.getD (k % es) undef) (.sc (z.cells.toList.getD (k % es) undef));rw [e1];rw [← h1] at h2;exact h2
 refine key _ fun k hk=>?_;have:=List.mem_range.1 hk;cases es with
 | zero=>simp at this
 | succ es=>exact Nat.succ_pos _
theorem RI (hO:cQ P) (hi:cT A) (hs:RS A β s) (hf:RF A β s.n nt f p) {t e:Nat}{i:TypeInfo}{z:Value}{l c:Operand} (hl:fi l=true) (hc:fi c=true) (hz1:KA z=true) (hz2:plain 50 z=true) (hz3:Nat.beq z.cells.toList.length i.size=true) (ht:P.underlying t=some (.slice e)) (hin:P.info? e=some i) (hz:i.zero=some z)
  (h:bM P p s (.mks e i.size i.bytes z.cells.toList l c)=some (q,s')):gx P A β s f ⟨d,.makeSlice t l c,ty,pos,af,gu⟩ q s' E:=by
 obtain⟨vl,l1,l2⟩:=bJ hf hl;obtain⟨vc,c1,c2⟩:=bJ hf hc;simp only [bM] at h;split at h
 ·rename_i a b ha hb;split at h
  ·rename_i hh;obtain⟨rfl,k1,k2⟩:=hh;injection h with h; injection h with e1 e2; subst e1; subst e2;obtain⟨n1,_⟩:=mH l2 ha;obtain⟨n2,_⟩:=mH c2 hb;refine EE hO hi hs (cells:=mO z.cells.toList i.size (a * i.size)) ?_ (Mm hz1 hz2 i.size a (Nat.eq_of_beq_eq_true hz3));show wg P t (f.eval l) (f.eval c) A=_;unfold wg;rw [l1,c1,ht];simp only [Option.bind_some,n1,n2,hin,hz];unfold zz;rw [show Nat.ble a a=true from Nat.ble_eq_true_of_le (Nat.le_refl _),show Nat.ble (Nat.mul i.bytes a) 281474976710656=true from Nat.ble_eq_true_of_le k1,show Nat.ble a 1073741824=true from Nat.ble_eq_true_of_le k2,hz2,hz3];rfl
  ·cases h
 ·cases h
theorem PU (hO:cQ P) (hi:cT A) (hs:RS A β s) (hf:RF A β s.n nt f p) {t u e e2 es:Nat}{x y:Operand} (hx:fi x=true) (hy:fi y=true) (ht:P.underlying t=some (.slice e)) (hu:P.underlying u=some (.slice e2)) (hsz:dM P e=some es)
  (h:bM P p s (.cpy es x y)=some (q,s')):gx P A β s f ⟨d,.call ⟨.builtin .copy,#[x,y],#[t,u]⟩,ty,pos,af,gu⟩ q s' (cI p (.cpy es x y)):=by
 obtain⟨vx,x1,x2⟩:=bJ hf hx;obtain⟨vy,y1,y2⟩:=bJ hf hy;simp only [bM,Option.bind_eq_some_iff] at h;obtain⟨⟨ys,n⟩,hel,h⟩:=h;obtain⟨i,hin,hsi⟩ : ∃i,P.info? e=some i∧i.size=es:=by
  unfold dM at hsz;cases hq:P.info? e with
  | none=>rw [hq] at hsz; cases hsz
  | some i=>rw [hq] at hsz; injection hsz with hsz; exact⟨i,rfl,hsz⟩
 obtain⟨xs,A1,hca,hxs,hA1⟩:=Ag (e2:=e2) hs y2 hsz hel;have hh1:A1.heap=A.heap∧A1.next=A.next∧A1.w=A.w∧A1.fz=A.fz:=by
  rcases hA1 with rfl | ⟨c,rfl,_⟩
  ·exact⟨rfl,rfl,rfl,rfl⟩
  ·rw [aH]; exact⟨rfl,rfl,rfl,rfl⟩
 have hi1:cT A1:=by
  rcases hA1 with rfl | ⟨c,rfl,_⟩
  ·exact hi
  ·rw [aH]; exact⟨hi.lt,hi.mem,hi.memc,hi.root,hi.ml,hi.old,hi.fz⟩
 have hw1:∀lo,Fw A A1 β β s.n s.n lo:=fun lo=>.heap β s.n hh1.1 hh1.2.1 hh1.2.2.1;have hs1:RS A1 β s:=hs.same hh1.1 hh1.2.1 hh1.2.2.1 hh1.2.2.2;have hsub:∀c,((∃k∈(eE (cg p y)).rd,k < s.n∧β k=c)∨((eE (cg p y)).li=true∧jA A β s.n c))→((∃k∈(cI p (.cpy es x y)).rd,k < s.n∧β k=c)∨((cI p (.cpy es x y)).li=true∧jA A β s.n c)):=by
  intro c hc;have e1:∀k∈(eE (cg p y)).rd,k∈(cI p (.cpy es x y)).rd:=fun k hk=>by
   simp only [cI]; split
   ·exact List.mem_cons_of_mem _ hk
   ·exact hk
  have e2:(eE (cg p y)).li=true→(cI p (.cpy es x y)).li=true:=fun hl=>by
   simp only [cI]; split
   ·exact hl
   ·exact hl
  rcases hc with ⟨k,h1,h2⟩ | ⟨h1,h2⟩
  ·exact .inl ⟨k,e1 k h1,h2⟩
  ·exact .inr ⟨e2 h1,h2⟩
 have hA2:A1=A∨∃c,A1=cE A c∧c < A.next∧((∃k∈(cI p (.cpy es x y)).rd,k < s.n∧β k=c)∨((cI p (.cpy es x y)).li=true∧jA A β s.n c)):=hA1.imp id fun ⟨c,h1,h2,h3⟩=>⟨c,h1,h2,hsub c h3⟩
 have zero:∀base len cap,vx=.slice base len cap→n=0→gx P A β s f ⟨d,.call ⟨.builtin .copy,#[x,y],#[t,u]⟩,ty,pos,af,gu⟩ (.sc (.int .i64 0)) s (cI p (.cpy es x y)):=by
  rintro base len cap rfl rfl;have hx0:xs.length=0:=by
   unfold i5 at hel;split at hel
   ·injection hel with hel; injection hel with h1 h2; subst h1; exact hxs.len
   ·split at hel
    ·rename_i hc;injection hel with hel; injection hel with h1 h2; subst h1; subst h2; rw [hxs.len,hc,Nat.zero_mul]
    ·cases hel
   ·split at hel
    ·rename_i hc;injection hel with hel; injection hel with h1 h2; subst h1; subst h2; rw [hxs.len,Nat.zero_mul,List.take_zero]; rfl
    ·cases hel
   ·cases hel
  have hxn:xs=[]:=List.eq_nil_of_length_eq_zero hx0;have ev:bQ P f ⟨d,.call ⟨.builtin .copy,#[x,y],#[t,u]⟩,ty,pos,af,gu⟩ A=some (.val (.int .i64 0),A1):=by
   show tu P (P.underlying t) (P.underlying u) (f.eval x) (f.eval y) A=_;rw [ht,hu,x1,y1];unfold tu;simp only [hca,hin];rw [hxn];simp only [Nat.mul_eq,Nat.zero_mul,List.length_nil,List.all_nil];rfl
  rcases hA2 with rfl | ⟨c,rfl,h1,h2⟩
  ·exact cF hO hi hs ev (.cl _ _ (.sc _ rfl))
  ·exact nJ hO hi hs ev (.cl _ _ (.sc _ rfl)) h1 h2
 split at h
 ·rename_i k off m fin hp;rw [hp] at x2;cases x2 with
  | cl _ _ h=>cases h
  | own b o _ _ _ _ cap e' cells st ok hk hg ho hf' hm=>
   split at h
   ·rename_i h0;injection h with h; injection h with e1 e2; subst e1; subst e2;exact zero _ _ _ rfl h0
   ·rename_i h0;split at h
    ·rename_i hc;obtain⟨c1,c2⟩:=hc;simp only [Option.map_eq_some_iff] at h;obtain⟨s1,hst,he⟩:=h;injection he with e1 e2; subst e1; subst e2;unfold FA at hst;simp only at hst;split at hst
     ·rename_i hc;injection hst with hst;obtain⟨d1,d2,d3⟩:=hc;have xs1:=hxs.mono (hw1 0);have he:cI p (.cpy es x y)=⟨k :: (eE (cg p y)).rd,[k],(eE (cg p y)).li,false⟩:=by simp only [cI,hp]
      obtain⟨A',hA',k1,k2,k3⟩:=Kv (E:=cI p (.cpy es x y)) hi1 hs1 hk (by rw [hh1.1]; exact hg) ho hf' xs1 d1 d2 d3 (by rw [he]; simp) (by rw [he]; simp);have hone:=rV xs1 d3;have ev:bQ P f ⟨d,.call ⟨.builtin .copy,#[x,y],#[t,u]⟩,ty,pos,af,gu⟩ A=some (.val (.int .i64 (n:Int)),A'):=by
       show tu P (P.underlying t) (P.underlying u) (f.eval x) (f.eval y) A=_;rw [ht,hu,x1,y1];unfold tu;simp only [hca,hin];rw [show Nat.ble n m=true from Nat.ble_eq_true_of_le c1,show Nat.beq xs.length (Nat.mul n i.size)=true by rw [hxs.len,c2,hsi]; exact Nat.beq_refl _,hone];cases n with
       | zero=>exact absurd rfl h0
       | succ n=>
        show (match FQ A1 b o xs with
         | some s=>some (dX.val (.int .i64 (.ofNat (Nat.add n 1))),s)
         | none=>none)=_
        rw [hA'];rfl
      refine⟨_,A',β,hO f _ A _ _ hi (Nat.le_refl _) ev,?_,?_,.cl _ _ (.sc _ rfl),by rw [← hst]; exact BS.comp hA2 k3⟩
      ·rw [← hst];exact (hw1 _).trans k1 (Nat.le_refl _)
      ·rw [← hst];exact k2
     ·cases hst
    ·cases h
 ·rename_i hp;rw [hp] at x2;obtain⟨rfl,_⟩:=x2.sc;split at h
  ·rename_i h0;injection h with h; injection h with e1 e2; subst e1; subst e2;exact zero _ _ _ rfl h0
  ·cases h
 ·cases h
end
section
variable {P:Program}
theorem Ua (hO:cQ P) {A:AS}{β:Nat→Nat}{nt:Nat}{f:Fr}{p:aR}{s s':PS}{q:PV}{o:Oper}{po:lc} (hc:ft P o.op=some po) (hi:cT A) (hs:RS A β s) (hf:RF A β s.n nt f p) (h:bM P p s po=some (q,s')):gx P A β s f o q s' (cI p po):=by
 obtain⟨d,op,ty,pos,af,gu⟩:=o;simp only at hc;cases op with
 | move x=>
  obtain⟨h1,rfl⟩:=bH hc;simp only [bM] at h; injection h with h; injection h with e1 e2; subst e1; subst e2;exact Uf hO hi hs hf h1
 | assign x=>
  obtain⟨h1,rfl⟩:=bH hc;simp only [bM] at h; injection h with h; injection h with e1 e2; subst e1; subst e2;exact Sy hO hi hs hf h1
 | pick c a b=>
  obtain⟨h1,rfl⟩:=bH hc;simp only [Bool.and_eq_true] at h1;exact Nt hO hi hs hf h1.1.1 h1.1.2 h1.2 h
 | alloc e=>
  simp only [ft] at hc;split at hc
  ·rename_i z hz;obtain⟨h1,rfl⟩:=bH hc;simp only [bM] at h; injection h with h; injection h with e1 e2; subst e1; subst e2;exact HA hO hi hs hz h1
  ·cases hc
 | box e x=>
  obtain⟨h1,rfl⟩:=bH hc;simp only [bM] at h; injection h with h; injection h with e1 e2; subst e1; subst e2;exact Pb hO hi hs hf h1
 | build t ps=>
  simp only [ft] at hc;split at hc
  ·rename_i z fs hz hu;split at hc
   ·rename_i l hl;obtain⟨h1,rfl⟩:=bH hc;rw [Bool.and_eq_true] at h1;simp only [bM,Option.map_eq_some_iff] at h;obtain⟨cs,hcs,he⟩:=h;injection he with e1 e2; subst e1; subst e2;exact Jt hO hi hs hf hz hu hl h1.1 h1.2 hcs
   ·cases hc
  ·cases hc
 | buildSlice t len ps=>
  simp only [ft] at hc;split at hc
  ·rename_i e hu;split at hc
   ·rename_i z n hz hn;split at hc
    ·rename_i l hl;obtain⟨h1,rfl⟩:=bH hc;simp only [Bool.and_eq_true] at h1;simp only [bM,Option.map_eq_some_iff] at h;obtain⟨cs,hcs,he⟩:=h;injection he with e1 e2; subst e1; subst e2;exact FY hO hi hs hf hu hz hn hl h1.1.1 h1.1.2 h1.2 hcs
    ·cases hc
   ·cases hc
  ·cases hc
 | load t a=>
  simp only [ft] at hc;split at hc
  ·rename_i dd hd;split at hc
   ·rename_i hag;split at hc
    ·rename_i n hn;obtain⟨h1,rfl⟩:=bH hc;exact Es hO hi hs hf h1 hd hag (by simpa using hn) h
    ·cases hc
   ·rename_i hag;obtain⟨h1,rfl⟩:=bH hc;exact Es hO hi hs hf h1 hd (by simpa using hag) (by simp) h
  ·cases hc
 | store t a x=>
  simp only [ft] at hc;split at hc
  ·rename_i n hn;obtain⟨h1,rfl⟩:=bH hc;rw [Bool.and_eq_true] at h1;exact JL hO hi hs hf h1.1 h1.2 hn h
  ·cases hc
 | fieldAddr t x i=>
  simp only [ft] at hc;split at hc
  ·rename_i fs hfs;split at hc
   ·rename_i fl hfl;split at hc
    ·rename_i m hm;obtain⟨h1,rfl⟩:=bH hc;exact Ii hO hi hs hf h1 hfs hfl hm h
    ·cases hc
   ·cases hc
  ·cases hc
 | field t x i=>
  simp only [ft] at hc;split at hc
  ·rename_i fs hfs;split at hc
   ·rename_i fl hfl;split at hc
    ·rename_i dd hd;split at hc
     ·rename_i hag;split at hc
      ·rename_i n hn;obtain⟨h1,rfl⟩:=bH hc;exact Kk hO hi hs hf h1 hfs hfl hd hag (by simpa using hn) h
      ·cases hc
     ·rename_i hag;obtain⟨h1,rfl⟩:=bH hc;exact Kk hO hi hs hf h1 hfs hfl hd (by simpa using hag) (by simp) h
    ·cases hc
   ·cases hc
  ·cases hc
 | indexAddr t x i=>
  simp only [ft] at hc;split at hc
  ·rename_i e hu;split at hc
   ·rename_i n hn;obtain⟨h1,rfl⟩:=bH hc;rw [Bool.and_eq_true] at h1;exact IY hO hi hs hf h1.1 h1.2 hu hn h
   ·cases hc
  ·cases hc
 | index t x i=>
  simp only [ft] at hc;split at hc
  ·rename_i hu;obtain⟨h1,rfl⟩:=bH hc;rw [Bool.and_eq_true] at h1;exact Og hO hi hs hf h1.1 h1.2 hu h
  ·cases hc
 | binOp op t x y u=>
  obtain⟨h1,rfl⟩:=bH hc;rw [Bool.and_eq_true] at h1;exact Rl hi hs hf h1.1 h1.2 h
 | unOp op t x=>
  obtain⟨h1,rfl⟩:=bH hc;exact SE hi hs hf h1 h
 | convert a b x=>
  simp only [ft] at hc;split at hc
  ·rename_i k' k ha hb;obtain⟨h1,rfl⟩:=bH hc;exact O4 hi hs hf h1 ha hb h
  ·cases hc
 | slice t x lo hi' mx=>
  cases mx with
  | some m=>
   cases lo with
   | some lo=>cases hi'<;>cases hc
   | none=>
    cases hi' with
    | none=>cases hc
    | some y=>
     simp only [ft] at hc;split at hc
     ·rename_i e hu;split at hc
      ·rename_i n hn;obtain⟨h1,rfl⟩:=bH hc;simp only [Bool.and_eq_true] at h1;exact Oq hO hi hs hf h1.1 h1.2.1 h1.2.2 hu hn h
      ·cases hc
     ·cases hc
  | none=>
   simp only [ft] at hc;split at hc
   ·rename_i e hu;split at hc
    ·rename_i n hn;obtain⟨h1,rfl⟩:=bH hc;simp only [Bool.and_eq_true] at h1;exact Qi hO hi hs hf h1.1.1 h1.1.2 h1.2 hu hn h
    ·cases hc
   ·rename_i hu;obtain⟨h1,rfl⟩:=bH hc;simp only [Bool.and_eq_true] at h1;exact Oz hO hi hs hf h1.1.1 h1.1.2 h1.2 hu h
   ·cases hc
 | makeFunc fn a b=>
  cases fn with
  | func g=>
   obtain⟨h1,rfl⟩:=bH hc;rw [Bool.and_eq_true] at h1;simp only [bM] at h; injection h with h; injection h with e1 e2; subst e1; subst e2;exact Oy hO hi hs hf h1.1 h1.2
  | _=>cases hc
 | extract t i=>
  obtain⟨h1,rfl⟩:=bH hc;exact ext_ok hO hi hs hf h1 h
 | call c=>
  obtain⟨callee,args,tys⟩:=c;simp only [ft] at hc;split at hc
  ·obtain⟨h1,rfl⟩:=bH hc;cases h
  ·rename_i b;unfold nc at hc;split at hc
   ·rename_i x t ha ht;have ea:args = #[x]:=by cases args; simp only at ha; rw [ha]
    have et:tys = #[t]:=by cases tys; simp only at ht; rw [ht]
    subst ea; subst et;split at hc
    ·rename_i e hu;obtain⟨h1,rfl⟩:=bH hc;exact Kb hO hi hs hf h1 hu (.inl ⟨rfl,e,rfl⟩) h
    ·rename_i hu;obtain⟨h1,rfl⟩:=bH hc;exact Kb hO hi hs hf h1 hu (.inr ⟨rfl,rfl⟩) h
    ·cases hc
   ·rename_i x y t u ha ht;have ea:args = #[x,y]:=by cases args; simp only at ha; rw [ha]
    have et:tys = #[t,u]:=by cases tys; simp only at ht; rw [ht]
    subst ea; subst et;split at hc
    ·rename_i e e2 ht hu;split at hc
     ·rename_i i hin;split at hc
      ·rename_i z hz;obtain⟨h1,rfl⟩:=bH hc;simp only [Bool.and_eq_true] at h1;exact Ql hO hi hs hf h1.1.1 h1.1.2 ht hu hin hz h1.2 h
      ·cases hc
     ·cases hc
    ·cases hc
   ·rename_i x y ha;have ea:args = #[x,y]:=by cases args; simp only at ha; rw [ha]
    subst ea;obtain⟨h1,rfl⟩:=bH hc;rw [Bool.and_eq_true] at h1;exact Kf (mx:=true) hO hi hs hf h1.1 h1.2 h
   ·rename_i x y ha;have ea:args = #[x,y]:=by cases args; simp only at ha; rw [ha]
    subst ea;obtain⟨h1,rfl⟩:=bH hc;rw [Bool.and_eq_true] at h1;exact Kf (mx:=false) hO hi hs hf h1.1 h1.2 h
   ·rename_i x y t u ha ht;have ea:args = #[x,y]:=by cases args; simp only at ha; rw [ha]
    have et:tys = #[t,u]:=by cases tys; simp only at ht; rw [ht]
    subst ea; subst et;split at hc
    ·rename_i e e2 ht hu;split at hc
     ·rename_i n hn;obtain⟨h1,rfl⟩:=bH hc;rw [Bool.and_eq_true] at h1;exact PU hO hi hs hf h1.1 h1.2 ht hu hn h
     ·cases hc
    ·cases hc
   ·cases hc
  ·cases hc
 | nilCheck x=>
  obtain⟨h1,rfl⟩:=bH hc;exact QE hO hi hs hf h1 h
 | makeSlice t l c=>
  simp only [ft] at hc;split at hc
  ·rename_i e ht;split at hc
   ·rename_i i hin;split at hc
    ·rename_i z hz;obtain⟨h1,rfl⟩:=bH hc;simp only [Bool.and_eq_true] at h1;exact RI hO hi hs hf h1.1 h1.2.1 h1.2.2.1 h1.2.2.2.1 h1.2.2.2.2 ht hin hz h
    ·cases hc
   ·cases hc
  ·cases hc
 | _=>cases hc
structure Kp (s s':PS):Prop where
 w:s'.w≤s.w
 n:s.n≤s'.n
 h:∀k,k < s.n→k < s'.w→s'.h k=s.h k
theorem Kp.refl (s:PS):Kp s s:=⟨Nat.le_refl _,Nat.le_refl _,fun _ _ _=>rfl⟩
theorem Kp.trans {s t u:PS} (h:Kp s t) (k:Kp t u):Kp s u:=
 ⟨Nat.le_trans k.w h.w,Nat.le_trans h.n k.n,fun x h1 h2=>(k.h x (Nat.lt_of_lt_of_le h1 h.n) h2).trans (h.h x h1 (Nat.lt_of_lt_of_le h2 k.w))⟩
theorem Kp.new (s:PS) (b:Dk):Kp s (s.new b):=⟨Nat.le_refl _,Nat.le_succ _,fun k h1 _=>if_neg (by omega)⟩
theorem Kp.put (s:PS) (k:Nat) (b:Dk):Kp s (s.put k b):=⟨Nat.min_le_left _ _,Nat.le_refl _,fun j _ h2=>if_neg (by
 have:j < min s.w k:=h2;omega)⟩
theorem OY {p:aR}{s s':PS}{o:lc}{q:PV} (h:bM P p s o=some (q,s')):Kp s s':=by
 have same:∀{α:Type}{x:Option α}{k:α→PV},(x.map fun v=>(k v,s))=some (q,s')→Kp s s':=fun h=>by
  rw [Option.map_eq_some_iff] at h;obtain⟨v,_,he⟩:=h;injection he with _ e2; subst e2; exact .refl s
 cases o with
 | mv x=>simp only [bM] at h; injection h with h; injection h with _ e2; subst e2; exact .refl s
 | pick c a b=>simp only [bM] at h; split at h<;>first | (injection h with h; injection h with _ e2; subst e2; exact .refl s) | cases h
 | alloc e z=>simp only [bM] at h; injection h with h; injection h with _ e2; subst e2; exact .new s _
 | box e x=>simp only [bM] at h; injection h with h; injection h with _ e2; subst e2; exact .new s _
 | build z ps=>simp only [bM] at h; exact same h
 | bslice e n z ps=>
  simp only [bM,Option.map_eq_some_iff] at h;obtain⟨v,_,he⟩:=h;injection he with _ e2; subst e2; exact .new s _
 | load t ag sz x=>
  simp only [bM,Option.bind_eq_some_iff] at h;obtain⟨cs,_,h⟩:=h;exact same h
 | store t sz x y=>
  simp only [bM] at h;split at h
  ·simp only [Option.map_eq_some_iff] at h;obtain⟨s1,h1,he⟩:=h;injection he with _ e2; subst e2;unfold FA at h1;split at h1
   ·split at h1
    ·injection h1 with h1; subst h1; exact .put s _ _
    ·cases h1
   ·cases h1
  ·cases h
 | faddr off x=>
  simp only [bM] at h;split at h
  ·injection h with h; injection h with _ e2; subst e2; exact .refl s
  ·split at h
   ·injection h with h; injection h with _ e2; subst e2; exact .refl s
   ·cases h
  ·cases h
 | fld ag off sz x=>
  simp only [bM] at h;split at h
  ·split at h
   ·exact same h
   ·cases h
  ·cases h
 | iaddr es x i=>
  simp only [bM] at h;split at h
  ·split at h
   ·injection h with h; injection h with _ e2; subst e2; exact .refl s
   ·cases h
  ·split at h
   ·injection h with h; injection h with _ e2; subst e2; exact .refl s
   ·cases h
  ·split at h
   ·injection h with h; injection h with _ e2; subst e2; exact .refl s
   ·cases h
  ·cases h
 | sidx x i=>
  simp only [bM] at h;split at h
  ·split at h
   ·injection h with h; injection h with _ e2; subst e2; exact .refl s
   ·cases h
  ·cases h
 | bin op t x y=>simp only [bM] at h; exact same h
 | un op x=>simp only [bM] at h; exact same h
 | len str x=>simp only [bM] at h; exact same h
 | app e es bytes x y=>
  simp only [bM,Option.bind_eq_some_iff] at h;obtain⟨v,_,h⟩:=h;unfold tO at h;split at h
  ·split at h
   ·injection h with h; injection h with _ e2; subst e2; exact .refl s
   ·cases h
  ·split at h
   ·split at h
    ·injection h with h; injection h with _ e2; subst e2; exact .new s _
    ·cases h
   ·split at h
    ·injection h with h; injection h with _ e2; subst e2; exact .put s _ _
    ·cases h
   ·split at h
    ·injection h with h; injection h with _ e2; subst e2; exact .new s _
    ·cases h
   ·cases h
 | slc3 e es x y z=>
  simp only [bM] at h;split at h
  ·split at h
   ·injection h with h; injection h with _ e2; subst e2; exact .refl s
   ·cases h
  ·injection h with h; injection h with _ e2; subst e2; exact .refl s
  ·cases h
 | slc e es x lo hi=>
  simp only [bM] at h;split at h
  ·exact same h
  ·cases h
 | sslc x lo hi=>
  simp only [bM] at h;split at h
  ·exact same h
  ·cases h
 | mkfn g a b=>simp only [bM] at h; injection h with h; injection h with _ e2; subst e2; exact .refl s
 | ext x i=>
  simp only [bM] at h;split at h
  ·exact same (k:=fun v=>v) h
  ·cases h
 | conv k x=>simp only [bM] at h; exact same h
 | call x a=>cases h
 | mnx mx x y=>simp only [bM] at h; split at h<;>first | (injection h with h; injection h with _ e2; subst e2; exact .refl s) | cases h
 | nck x=>simp only [bM] at h; split at h<;>first | (injection h with h; injection h with _ e2; subst e2; exact .refl s) | cases h
 | mks e es by' z l c=>
  simp only [bM] at h;split at h
  ·split at h
   ·injection h with h; injection h with _ e2; subst e2; exact .new s _
   ·cases h
  ·cases h
 | cpy es x y=>
  simp only [bM,Option.bind_eq_some_iff] at h;obtain⟨v,_,h⟩:=h;split at h
  ·split at h
   ·injection h with h; injection h with _ e2; subst e2; exact .refl s
   ·split at h
    ·rw [Option.map_eq_some_iff] at h;obtain⟨s1,hst,he⟩:=h;injection he with _ e2; subst e2;unfold FA at hst;simp only at hst;split at hst
     ·injection hst with hst; subst hst; exact .put s _ _
     ·cases hst
    ·cases h
  ·split at h
   ·injection h with h; injection h with _ e2; subst e2; exact .refl s
   ·cases h
  ·cases h
def ff (P:Program) (pu:Nat→Bool) (call:aq):Prop:=∀g args s q s',call g args s=some (q,s')→(∃fn c,P.funcs[g]?=some fn∧fn.body=some c)∧Kp s s'∧
 ∀(A:AS) (β:Nat→Nat) (vs:List Value),cT A→RS A β s→Rs A β s.n vs args→∃u A' β',eU P g vs.toArray A (.ret u) A'∧Fw A A' β β' s.n s'.n s'.w∧RS A' β' s'∧R1 A' β' s'.n u q∧
  (pu g=true→∀c,c < A.next→A'.w.testBit c=true→A.w.testBit c=true)
theorem DZ {ops:Array Oper}{o:Oper}{f f':Fr}{A A':AS}{u:Value} (hw:jO ops.toList f o.guard=some true) (hs:dp P f A o (.val u) A') (hp:f.put o.dst u=some f'):m8 P ops o f A f' A':=by
 refine⟨hs.fr,fun φ T w a hf hr hT hfr K Q hK=>?_⟩;unfold l7;rw [gg hf hw,if_pos rfl];obtain⟨φ',w',hpp,hnr⟩:=hs.run φ T w a hf hr hT hfr;unfold Oper.wp;generalize hres:(execOp a.eval o).run P w=res at hnr;cases hnr with
 | val _ v' hv=>exact hK φ' w' _ hpp ((hf.mono hpp.ext).put hp hv)
 | skip=>exact hK φ' w' _ hpp ((hf.mono hpp.ext).put hp (iP _))
theorem zZ {ops:Array Oper}{o:Oper}{f f':Fr}{A:AS} (hi:cT A) (hw:jO ops.toList f o.guard=some false) (hp:f.put o.dst undef=some f'):m8 P ops o f A f' A:=by
 refine⟨.refl hi,fun φ T w a hf hr hT hfr K Q hK=>?_⟩;unfold l7;rw [gg hf hw];exact hK φ w _ (.refl hr rfl rfl rfl rfl rfl rfl rfl) (hf.put hp (iP _))
theorem Bs {ops:Array Oper}{o:Oper}{f f':Fr}{A B A':AS}{g:FuncId}{args:Array Value}{v:Value} (hw:jO ops.toList f o.guard=some true) (hs:dp P f A o (.enter g args) B) (hcs:eU P g args B (.ret v) A') (hp:f.put o.dst v=some f'):m8 P ops o f A f' A':=by
 refine⟨hs.fr.trans hcs.fr,fun φ T w a hf hr hT hfr K Q hK=>?_⟩;unfold l7;rw [gg hf hw,if_pos rfl];obtain⟨φ',w',hpp,hnr⟩:=hs.run φ T w a hf hr (hT.left hcs.fr) (fun b h1 h2=>hfr b h1 (Nat.lt_of_lt_of_le h2 hcs.fr.next));unfold Oper.wp;generalize hres:(execOp a.eval o).run P w=res at hnr;cases hnr with
 | enter _ _ args' hargs=>
  refine (hcs.run φ' _ w' args' hargs hpp.rel ?_ ?_).mono ?_
  ·intro c hc' hh;by_cases hlt:c < A.next
   ·exact .inl (hT c hlt hh)
   ·exact .inr ⟨by omega,hc'⟩
  ·intro b h3 h4;rw [hpp.out b (.inr h3)];exact hfr b (Nat.le_trans hs.fr.next h3) h4
  ·rintro e2 w2 ⟨φ2,hp2,he2⟩;cases he2 with
   | ret _ v' hv=>exact hK φ2 w2 _ (hpp.trans hs.fr.next hcs.fr hp2) (((hf.mono hpp.ext).mono hp2.ext).put hp hv)
theorem Ao {A:AS}{β:Nat→Nat}{n nt:Nat}{f:Fr}{p:aR} (hf:RF A β n nt f p) {ops:List Oper}{g:Option (Nat × Bool)}{g':Option (Nat × Bool)} (hg:Ct ops g=some g') {b:Bool} (h:bw p g'=some b):jO ops f g=some b:=by
 unfold Ct at hg;split at hg
 ·injection hg with hg; subst hg;simp only [bw] at h;exact h
 ·rename_i j want;split at hg
  ·rename_i dd hd;injection hg with hg; subst hg;show vB ops f j want=some b;unfold vB;rw [hd];have ht:=hf.tmp dd;simp only [bw] at h;split at h
   ·rename_i c hc;rw [hc] at ht;obtain⟨e,_⟩:=ht.sc;simp only [e,Fo];exact h
   ·rename_i xs hc;rw [hc] at ht;obtain⟨e,_⟩:=ht.sc;simp only [e,Fo];exact h
   ·cases h
  ·cases hg
theorem Fb (hE:zE P) (hO:cQ P) {pu:Nat→Bool}{call:aq} (hC:ff P pu call) {ops:Array Oper}{o:Oper}{i:PI}{nt:Nat} (hc:Av P nt ops.toList o=some i) {A:AS}{β:Nat→Nat}{f:Fr}{p p':aR}{s s':PS} (hi:cT A) (hs:RS A β s) (hf:RF A β s.n nt f p)
  (h:gZ P call i p s=some (p',s')):Kp s s'∧∃f' A' β',m8 P ops o f A f' A'∧Fw A A' β β' s.n s'.n s'.w∧RS A' β' s'∧RF A' β' s'.n nt f' p'∧(fR pu p i=true→BS A A' β β' s.n s'.n (pX p i))∧(jO ops.toList f o.guard=some false∨∀cs b,o.op≠.select cs b):=by
 unfold Av at hc;split at hc
 ·rename_i po g' hpo hg;split at hc
  ·rename_i hd;injection hc with hc; subst hc;unfold gZ at h;simp only at h;split at h
   ·rename_i hgd;have hw:=Ao hf hg hgd;simp only [Option.map_eq_some_iff] at h;obtain⟨⟨q,s1⟩,hact,he⟩:=h;injection he with e1 e2; subst e1; subst e2;unfold aY at hact;split at hact
    ·rename_i x args;unfold dH at hact;split at hact
     ·rename_i g first cap hx;obtain⟨⟨fn,c,hfn,hbody⟩,hkp,hcall⟩:=hC _ _ _ _ _ hact;refine⟨hkp,?_⟩;obtain⟨d,op,ty,pos,af,gu⟩:=o;cases op with
      | call cc=>
       obtain⟨callee,cargs,tys⟩:=cc;simp only [ft] at hpo;split at hpo
       ·rename_i x';obtain⟨h1,h2⟩:=bH hpo;injection h2 with h2 h3;subst h2; subst h3;rw [Bool.and_eq_true] at h1;obtain⟨vf,f1,f2⟩:=bJ hf h1.1;obtain⟨vas,a1,a2⟩:=we hf _ h1.2;rw [hx] at f2;obtain⟨xs,ys,rfl,r1,r2⟩ : ∃xs ys,vf=.func (.func g) xs ys∧Rs A β s.n xs.toList first∧Rs A β s.n ys.toList cap:=by
         cases f2 with
         | cl _ _ h=>cases h with | fn g=>exact⟨_,_,rfl,.nil,.nil⟩
         | fn _ xs ys _ _ h h'=>exact⟨xs,ys,rfl,h,h'⟩
        obtain⟨u,A',β',c1,c2,c3,c4,c5⟩:=hcall A β (xs.toList ++ (vas ++ ys.toList)) hi hs (r1.app (a2.app r2));have hsd:dp P f A ⟨d,.call ⟨.value x',cargs,tys⟩,ty,pos,af,gu⟩ (.enter g (xs.toList ++ (vas ++ ys.toList)).toArray) A:=by
         refine tr hE hi x' cargs tys ?_;rw [f1,a1];show v8 P g (xs.toList ++ (vas ++ ys.toList)) A=_;unfold v8;rw [hfn];simp only [hbody]
        obtain⟨f',k1,k2⟩:=(hf.mono c2).set hd c4;refine⟨f',A',β',Bs hw hsd c1 k1,c2,c3,k2,fun hpu=>?_,.inr fun cs b he=>by cases he⟩;have hp':pu g=true:=by simpa only [fR,hx] using hpu
        have he:pX p ⟨d,.call x' cargs.toList,g'⟩=⟨[],[],false,true⟩:=by simp only [pX,hgd,cI]
        rw [he];refine⟨fun c hc=>?_,fun c hc=>?_,fun hca=>by cases hca⟩
        ·exact (c1.fr.rb c hc).imp id fun h=>.inr (.inr (.inr ⟨rfl,h⟩))
        ·rcases c1.fr.wb c hc with h | h
         ·exact .inl h
         ·by_cases hlt:c < A.next
          ·exact .inl (c5 hp' c hlt hc)
          ·exact .inr (.inr ⟨by omega,h⟩)
       ·rename_i b hb;exfalso;unfold nc at hpo;split at hpo
        ·split at hpo
         ·obtain⟨_,h2⟩:=bH hpo; cases h2
         ·obtain⟨_,h2⟩:=bH hpo; cases h2
         ·cases hpo
        ·split at hpo
         ·split at hpo
          ·split at hpo
           ·obtain⟨_,h2⟩:=bH hpo; cases h2
           ·cases hpo
          ·cases hpo
         ·cases hpo
        ·obtain⟨_,h2⟩:=bH hpo; cases h2
        ·obtain⟨_,h2⟩:=bH hpo; cases h2
        ·split at hpo
         ·split at hpo
          ·obtain⟨_,h2⟩:=bH hpo; cases h2
          ·cases hpo
         ·cases hpo
        ·cases hpo
       ·cases hpo
      | makeSlice t l c=>
       exfalso;simp only [ft] at hpo
       repeat' split at hpo
       all_goals first | (cases hpo; done) | (obtain⟨_,h2⟩:=bH hpo; cases h2; done)
      | slice t x lo hi' mx=>
       exfalso;cases mx with
       | some m=>
        cases lo with
        | some lo=>cases hi'<;>cases hpo
        | none=>
         cases hi' with
         | none=>cases hpo
         | some y=>
          simp only [ft] at hpo
          repeat' split at hpo
          all_goals first | (cases hpo; done) | (obtain⟨_,h2⟩:=bH hpo; cases h2; done)
       | none=>
        simp only [ft] at hpo
        repeat' split at hpo
        all_goals first | (cases hpo; done) | (obtain⟨_,h2⟩:=bH hpo; cases h2; done)
      | makeFunc fn a b=>
       exfalso;cases fn with
       | func g=>obtain⟨_,h2⟩:=bH hpo; cases h2
       | _=>cases hpo
      | _=>
       exfalso;simp only [ft] at hpo
       repeat' split at hpo
       all_goals first | (cases hpo; done) | (obtain⟨_,h2⟩:=bH hpo; cases h2; done)
     ·cases hact
    ·rename_i hnc;obtain⟨u,A',β',k1,k2,k3,k4,k5⟩:=Ua hO hpo hi hs hf hact;obtain⟨f',m1,m2⟩:=(hf.mono k2).set hd k4;refine⟨OY hact,f',A',β',DZ hw k1 m1,k2,k3,m2,fun _=>?_,.inr fun cs b he=>?_⟩
     ·have he:pX p ⟨o.dst,po,g'⟩=cI p po:=by simp only [pX,hgd]
      rw [he]; exact k5
     ·rw [he] at hpo; cases hpo
   ·rename_i hgd;have hw:=Ao hf hg hgd;injection h with h; injection h with e1 e2; subst e1; subst e2;obtain⟨f',m1,m2⟩:=hf.set hd (v:=undef) (q:=.sc undef) (.cl _ _ (.sc _ rfl));exact⟨.refl s,f',A,β,zZ hi hw m1,.refl A β s.n _,hs,m2,fun _=>.same A β s.n _,.inl hw⟩
   ·cases h
  ·cases hc
 ·cases hc
end
end Go.PE
