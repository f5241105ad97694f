/- A run on values, and its soundness. No statement is proved here. -/
import Derived.Test.YtioblbopbilmaaaGreatDoorPeA
set_option linter.unusedSimpArgs false
set_option linter.unusedVariables false
set_option linter.defProp false
namespace Go.PE
open Go Go.EvL
section
variable {ds:List Deferred}{P:Program}{A:AS}{β:Nat→Nat}{nt:Nat}{f:Fr}{p:aE}{s s':PS}{q:PV}{E:gy}{d:Option Tmp}{ty:TypeId}{pos:String}{af:Array Edge}{gu:Option (Nat × Bool)}
theorem tA {n:Nat} : ∀l:List UInt8,Rs A β n (l.map fun c=>.int .u8 (.ofNat c.toNat)) (eN l)
 | []=>.nil
 | c :: l=>.cons _ _ _ _ (.cl _ _ (.sc _ rfl)) (tA l)
theorem KB (hO:be P) (hi:bE A) (hs:RS A β s) (hf:RF ds A β s.n nt f p) {t u e:Nat}{i:TypeInfo}{z:Value}{x y:Operand} (hx:cE x=true) (hy:cE y=true) (ht:P.underlying t=some (.slice e)) (hu:P.underlying u=some .string) (hin:P.info? e=some i) (hz:i.zero=some z) (hok:Av i z=true)
  (h:bS P p s (.apps e x y)=some (q,s')):dw P A β s f ⟨d,.call ⟨.builtin .append,#[x,y],#[t,u]⟩,ty,pos,af,gu⟩ q s' (aW p (.apps e x y)):=by
 obtain⟨vx,x1,x2⟩:=aL hf hx;obtain⟨vy,y1,y2⟩:=aL hf hy;unfold Av at hok;simp only [Bool.and_eq_true] at hok;obtain⟨hzs,k1,k2⟩:=hok;have k1:=Nat.eq_of_beq_eq_true k1;have k2:=Nat.eq_of_beq_eq_true k2;simp only [bS] at h;split at h
 ·rename_i b hpy;rw [hpy] at y2;obtain⟨rfl,_⟩:=y2.sc;have hsz:bP P e=some 1:=by unfold bP; rw [hin,← k1]; rfl
  have hbs:b.size=b.data.toList.length:=by rw [Array.length_toList]; rfl
  refine yK (n:=b.data.toList.length) (A1:=A) hO hi hs hf x1 x2 y1 ht hu hin hz hzs ?_ (tA b.data.toList) (.inl rfl) (fun k off m fin hp=>?_) (fun e' m cs hp=>?_) ?_
  ·unfold dB;simp only [hsz,hbs]
  ·simp only [aW,hp]; exact⟨List.mem_cons_self,List.mem_cons_self⟩
  ·simp only [aW,hp]
  ·rw [k1,k2]; exact h
 ·cases h
theorem Ow (hO:be P) (hi:bE A) (hs:RS A β s) (hf:RF ds A β s.n nt f p) {t u e m:Nat}{x:Operand} (hx:cE x=true) (ht:P.underlying t=some (.pointer e)) (hu:P.underlying u=some .unsafePointer) (hsz:bP P e=some (m + 1))
  (h:bS P p s (.toU x)=some (q,s')):dw P A β s f ⟨d,.convert t u x,ty,pos,af,gu⟩ q s' (aW p (.toU x)):=by
 obtain⟨vx,x1,x2⟩:=aL hf hx;simp only [bS,Option.map_eq_some_iff] at h;obtain⟨v,hv,he⟩:=h;injection he with e1 e2; subst e1; subst e2;unfold Jq at hv;split at hv
 ·rename_i k o fin hp;split at hv
  ·rename_i hc;injection hv with hv; subst hv;rw [hp] at x2;cases x2 with
   | cl _ _ h=>cases h
   | ptr b oo _ _ _ e1 cells st ok hk hg ho hf1=>
    have hb:=hs.blk k hk;obtain⟨_,l1,l2⟩:=hb.all _ _ _ _ _ hg;obtain⟨rfl,_⟩:=l2 (by omega);have z1:=hb.z _ _ _ _ _ hg;subst z1;refine fY (c:=β k) hO hi hs ?_ (.ptr b oo k o fin e1 cells 0 true hk hg ho hf1) hb.lt (.inl ⟨k,by simp [aW,aZ,hp],hk,rfl⟩);show l7 P f _ t u (f.eval x) A=_;rw [x1];simp only [l7,mI,ht,hu];unfold nU;simp only [hsz,hg];rw [show Nat.ble (Nat.succ oo) cells.length=true from Nat.ble_eq_true_of_le (by omega)]
  ·cases hv
 ·cases hv
theorem NQ (hO:be P) (hi:bE A) (hs:RS A β s) (hf:RF ds A β s.n nt f p) {t u e m:Nat}{x:Operand} (hx:cE x=true) (ht:P.underlying t=some .unsafePointer) (hu:P.underlying u=some (.pointer e)) (hsz:bP P e=some (m + 1))
  (h:bS P p s (.frU e m x)=some (q,s')):dw P A β s f ⟨d,.convert t u x,ty,pos,af,gu⟩ q s' (aW p (.frU e m x)):=by
 obtain⟨vx,x1,x2⟩:=aL hf hx;simp only [bS,Option.map_eq_some_iff] at h;obtain⟨v,hv,he⟩:=h;injection he with e1 e2; subst e1; subst e2;unfold JA at hv;split at hv
 ·rename_i k o fin hp;split at hv
  ·rename_i hc;obtain⟨c1,c2,c3,c4⟩:=hc;injection hv with hv; subst hv;rw [hp] at x2;cases x2 with
   | cl _ _ h=>cases h
   | ptr b oo _ _ _ e1 cells st ok hk hg ho hf1=>
    have hb:=hs.blk k hk;obtain⟨g1,l1,l2⟩:=hb.all _ _ _ _ _ hg;obtain⟨rfl,_⟩:=l2 (by omega);have z1:=hb.z _ _ _ _ _ hg;subst z1;obtain rfl:oo=o:=by omega
    obtain rfl:fin=cells.length:=by omega
    refine fY (c:=β k) hO hi hs ?_ (.ptr b oo k oo cells.length e1 cells 0 true hk hg ho hf1) hb.lt (.inl ⟨k,by simp [aW,aZ,hp],hk,rfl⟩);show l7 P f _ t u (f.eval x) A=_;rw [x1];simp only [l7,mI,ht,hu];unfold kK;simp only [hsz,hg];rw [g1,c4,show jr A (β k)=true by unfold jr; rw [hb.fz (by omega)]];rfl
  ·cases hv
 ·cases hv
theorem Ix (hO:be P) (hi:bE A) (hs:RS A β s) (hf:RF ds A β s.n nt f p) {tys:Array TypeId}{x:Operand} (hx:cE x=true)
  (h:bS P p s (.sdata x)=some (q,s')):dw P A β s f ⟨d,.call ⟨.builtin .unsafeSliceData,#[x],tys⟩,ty,pos,af,gu⟩ q s' E:=by
 obtain⟨vx,x1,x2⟩:=aL hf hx;simp only [bS,Option.map_eq_some_iff] at h;obtain⟨v,hv,he⟩:=h;injection he with e1 e2; subst e1; subst e2;unfold pM at hv;split at hv
 ·rename_i k off m fin hp;injection hv with hv; subst hv;rw [hp] at x2;cases x2 with
  | cl _ _ h=>cases h
  | own b o _ _ _ _ cap e1 cells st ok hk hg ho hf1 hm=>
   refine bf hO hi hs ?_ (.ptr b o k off fin e1 cells st ok hk hg ho hf1);show xw P f _ (f.eval x) A=_;rw [x1];rfl
 ·rename_i hp;injection hv with hv; subst hv;rw [hp] at x2;obtain⟨rfl,_⟩:=x2.sc;refine ec hs (aM hi fun φ w a hf'=>?_) (.cl _ _ (.sc _ rfl));have ex:a.eval x=.slice none 0 0:=cN φ 50 _ _ rfl (hf'.eval x1);have e:(execOp a.eval ⟨d,.call ⟨.builtin .unsafeSliceData,#[x],tys⟩,ty,pos,af,gu⟩).run P w=.ok (.value (.pointer none)) w:=by
   refine bT (s:=Builtin.unsafeSliceData_ tys ty (#[x].map a.eval)) ?_;have hm:(#[x].map a.eval) = #[a.eval x]:=by simp
   rw [hm,ex];rfl
  rw [e];exact .val _ _ .nilPtr
 ·cases hv
end
section
variable {ds:List Deferred}{P:Program}{A:AS}{β:Nat→Nat}{nt:Nat}{f:Fr}{p:aE}{s s':PS}{q:PV}{E:gy}{d:Option Tmp}{ty:TypeId}{pos:String}{af:Array Edge}{gu:Option (Nat × Bool)}
theorem B5:∀{cs:List PV}{l:List UInt8},fC cs=some l→l.length=cs.length:=by
 intro cs
 induction cs with
 | nil=>intro l h; injection h with h; subst h; rfl
 | cons c cs ih=>
  intro l h;unfold fC at h;split at h
  ·rename_i hh; cases hh
  ·rename_i z r hh;injection hh with hh1 hh2;subst hh1; subst hh2;rw [Option.map_eq_some_iff] at h;obtain⟨m,hm,rfl⟩:=h;simp [ih hm]
  ·cases h
theorem ED (hs:RS A β s) {k:Nat} (hk:k < s.n) {m e:Nat} (he1:k∈E.rd) (he2:k∈E.wr) :
  Fw A (lF (bO (nb A (β k) m) (β k)) (β k)) β β s.n s.n (min s.w k)∧RS (lF (bO (nb A (β k) m) (β k)) (β k)) β (s.put k ⟨(s.h k).cells ++ [.sc undef],(s.h k).cells.length + 2,(s.h k).e⟩)∧y7 A (lF (bO (nb A (β k) m) (β k)) (β k)) β β s.n s.n E:=by
 have hb:=hs.blk k hk;have hlt:=hb.lt;rw [dq,aB,jR];have hfw:Fw A ⟨A.heap,A.next,A.mem,Tr.set m 40 A.fz (β k),A.r ||| (1 <<< β k),A.w ||| (1 <<< β k)⟩ β β s.n s.n (min s.w k):=by
  refine⟨Nat.le_refl _,Nat.le_refl _,fun _ _=>rfl,fun _ h h'=>by omega,fun b cells e c st hh _=>hh,fun b cells e st ok j _ hh=>⟨cells,ok,hh,rfl⟩,fun c hc hw=>?_⟩;rcases dX hw with h | h
  ·exact .inl h
  ·exact .inr ⟨k,Nat.min_le_right _ _,hk,h⟩
 refine⟨hfw,⟨fun j hj=>?_,hs.inj,hs.lay.mono hfw fun c hc=>(Tr.get_set _ _ _ _ trivial).trans (if_neg fun h=>hc.2 k hk h.symm)⟩,⟨fun c hc=>?_,fun c hc=>?_,fun _ c h1 h2=>⟨fun hc=>?_,fun hc=>?_⟩⟩⟩
 ·have hj':j < s.n:=hj;by_cases hjk:j=k
  ·subst hjk;show RB _ β s.n (β j) (if j=j then _ else s.h j);rw [if_pos rfl];have hl:∀x cells e st ok,A.heap.get x=some (.row cells e (β j) st ok)→st + cells.length≤(s.h j).cells.length:=fun x cells e st ok hg=>(hb.all _ _ _ _ _ hg).2.1;refine⟨fun h=>absurd h ?_,fun x cells e' st ok hg=>⟨(hb.all _ _ _ _ _ hg).1,?_,fun h=>absurd h ?_⟩,fun x y cells e' st ok cells' e2 st' ok' h1 h2 h3 h4=>absurd h3 ?_,fun _ x cells e' st ok hg=>?_,fun h=>absurd h ?_,hb.lt,hb.z⟩
   ·show ¬ ((s.h j).cells.length + 2≤((s.h j).cells ++ [PV.sc undef]).length); simp
   ·have:=hl _ _ _ _ _ hg; show _≤((s.h j).cells ++ [PV.sc undef]).length; simp; omega
   ·have:=hl _ _ _ _ _ hg; show ¬ ((s.h j).cells.length + 2≤_); omega
   ·have:=hl _ _ _ _ _ h1; show ¬ (_=((s.h j).cells ++ [PV.sc undef]).length); simp; omega
   ·have:=hl _ _ _ _ _ hg; show _ < ((s.h j).cells ++ [PV.sc undef]).length; simp; omega
   ·show ¬ ((s.h j).cells.length + 2≤((s.h j).cells ++ [PV.sc undef]).length); simp
  ·show RB _ β s.n (β j) (if j=k then _ else s.h j);rw [if_neg hjk];have hne:β j≠β k:=fun e=>hjk (hs.inj j k hj' hk e);refine (hs.blk j hj').mono hfw (fun _ _ _ _ _=>Iff.rfl) ?_;show (Tr.set m 40 A.fz (β k)).get (β j)=_;rw [Tr.get_set _ _ _ _ trivial,if_neg hne]
 ·rcases dX hc with h | rfl
  ·exact .inl h
  ·exact .inr (.inl ⟨k,he1,hk,rfl⟩)
 ·rcases dX hc with h | rfl
  ·exact .inl h
  ·exact .inr (.inl ⟨k,he2,hk,rfl⟩)
 ·rcases dX hc with h | rfl
  ·exact .inl h
  ·omega
 ·rcases dX hc with h | rfl
  ·exact .inl h
  ·omega
theorem Jh (hO:be P) (hi:bE A) (hs:RS A β s) (hf:RF ds A β s.n nt f p) {t u e:Nat}{x y:Operand} (hx:cE x=true) (hy:cE y=true) (ht:P.underlying t=some (.pointer e)) (hsz:bP P e=some 1)
  (h:bS P p s (.ustr e x y)=some (q,s')):dw P A β s f ⟨d,.call ⟨.builtin .unsafeString,#[x,y],#[t,u]⟩,ty,pos,af,gu⟩ q s' (aW p (.ustr e x y)):=by
 obtain⟨vx,x1,x2⟩:=aL hf hx;obtain⟨vy,y1,y2⟩:=aL hf hy;simp only [bS] at h;unfold oQ at h;split at h
 ·rename_i k o fin z hpx hpy;split at h
  ·rename_i hc;obtain⟨c1,c2,c3,c4,c5,c6⟩:=hc;rw [Option.map_eq_some_iff] at h;obtain⟨l,hl,he⟩:=h;injection he with e1 e2; subst e1; subst e2;rw [hpx] at x2;rw [hpy] at y2;obtain⟨rfl,_⟩:=y2.sc;obtain⟨n,rfl⟩ : ∃n:Nat,z=Int.ofNat (n + 1):=⟨z.toNat - 1,by
    show z=((z.toNat - 1 + 1:Nat):Int); omega⟩
   have hz:(Int.ofNat (n + 1)).toNat=n + 1:=rfl;rw [hz] at c4 c5 hl;cases x2 with
   | cl _ _ h=>cases h
   | ptr b oo _ _ _ e1 cells st ok hk hg ho hf1=>
    have hb:=hs.blk k hk;obtain⟨g1,l1,l2⟩:=hb.all _ _ _ _ _ hg;obtain⟨rfl,hr⟩:=l2 (by omega);have z1:=hb.z _ _ _ _ _ hg;subst z1;obtain rfl:oo=o:=by omega
    rw [List.drop_zero] at hr;have hbc:dc ((cells.drop oo).take (n + 1))=some l:=by
     refine bytes_cells (A:=A) (β:=β) (n:=s.n) hl ?_;have h1:=(Rs.drop hr oo).take (n + 1);rw [List.drop_take,List.take_take,Nat.min_eq_left (by omega)] at h1;exact h1
    have hll:l.length=n + 1:=by rw [B5 hl,List.length_take,List.length_drop]; omega
    obtain⟨r1,r2,r3⟩:=ED (E:=aW p (.ustr e x y)) (m:=max ((A.fz.get (β k)).getD 0) (0 + oo + (n + 1))) (e:=e) hs hk (by simp [aW,hpx]) (by simp [aW,hpx]);have c6':e1=e:=g1.trans c6;subst c6';refine⟨_,_,β,hO f _ A _ _ hi (Nat.le_refl _) (?_:aU P f _ A=some (.val (.string ⟨⟨l⟩⟩),_)),r1,by rw [c6] at r2; exact r2,.cl _ _ (.sc _ rfl),r3⟩;show yt P f _ [t,u] (f.eval x) (f.eval y) A=_;rw [x1,y1];show oW P [t,u] (A.heap.get b) oo (n + 1) A=_;unfold oW;simp only [hg,ht,hsz];rw [Nat.beq_refl,show Nat.ble (n + 1) 1073741824=true from Nat.ble_eq_true_of_le c5,show jr A (β k)=true by unfold jr; rw [hb.fz (by omega)]];show tL cells (β k) 0 oo (n + 1) A=_;unfold tL;simp only [hbc,bg];rw [hll,Nat.beq_refl]
  ·cases h
 ·rename_i hpx hpy;injection h with h; injection h with e1 e2; subst e1; subst e2;rw [hpx] at x2;rw [hpy] at y2;obtain⟨rfl,_⟩:=x2.sc;obtain⟨rfl,_⟩:=y2.sc;refine ec hs (aM hi fun φ w a hf'=>?_) (.cl _ _ (.sc _ rfl));have ex:a.eval x=.pointer none:=cN φ 50 _ _ rfl (hf'.eval x1);have ey:a.eval y=.int .i64 0:=cN φ 50 _ _ rfl (hf'.eval y1);have e:(execOp a.eval ⟨d,.call ⟨.builtin .unsafeString,#[x,y],#[t,u]⟩,ty,pos,af,gu⟩).run P w=.ok (.value (.string ⟨#[]⟩)) w:=by
   refine bT (s:=Builtin.unsafeString_ #[t,u] ty (#[x,y].map a.eval)) ?_;have hm:(#[x,y].map a.eval) = #[a.eval x,a.eval y]:=by simp
   rw [hm,ex,ey];rfl
  rw [e];exact .val _ _ (.string _)
 ·cases h
theorem PL (hE:lW P) (hi:bE A) (hs:RS A β s) (hf:RF ds A β s.n nt f p) {g:Nat}{tys:Array TypeId}{args:Array Operand}{fn:Func} (hx:args.toList.all cE=true) (hfn:P.funcs[g]?=some fn) (hb:fn.body=none) (hne:(fn.name == "internal/abi.NoEscape")=false)
  (h:bS P p s (.pcl g args.toList)=some (q,s')):dw P A β s f ⟨d,.call ⟨.value (.func g),args,tys⟩,ty,pos,af,gu⟩ q s' E:=by
 simp only [bS,Option.map_eq_some_iff] at h;obtain⟨v,hv,he⟩:=h;injection he with e1 e2; subst e1; subst e2;unfold G1 at hv;split at hv
 ·rename_i l hl;split at hv
  ·rename_i u hu;split at hv
   ·rename_i hsu;injection hv with hv; subst hv;obtain⟨vas,a1,a2⟩:=oR hf _ hx;obtain⟨rfl,hall⟩:=wP hl a2;refine ec hs (jg hE hi (.func g) args tys ?_) (.cl _ _ (.sc _ (ci hsu).2));show tf P (some (.func (.func g) #[] #[])) (iq f args.toList) A=_;rw [a1];show mf P g (#[].toList ++ (vas ++ #[].toList)) A=_;rw [show (#[]:Array Value).toList ++ (vas ++ (#[]:Array Value).toList)=vas by simp];unfold mf;simp only [hfn,hb,hne];have hp:vas.all (plain 50)=true:=by
     rw [List.all_eq_true] at hall ⊢;exact fun v hv=>(ci (hall v hv)).1
    rw [hp];simp only [hu];unfold gF;simp only [(ci hsu).1]
   ·cases hv
  ·cases hv
 ·cases hv
theorem Hu (hE:lW P) (hi:bE A) (hs:RS A β s) (hf:RF ds A β s.n nt f p) {g:Nat}{tys:Array TypeId}{x:Operand}{fn:Func} (hx:cE x=true) (hfn:P.funcs[g]?=some fn) (hb:fn.body=none) (hne:(fn.name == "internal/abi.NoEscape")=true):dw P A β s f ⟨d,.call ⟨.value (.func g),#[x],tys⟩,ty,pos,af,gu⟩ (aA p x) s E:=by
 obtain⟨vx,x1,x2⟩:=aL hf hx;refine ec hs (jg hE hi (.func g) #[x] tys ?_) x2;have a1:iq f [x]=some [vx]:=by
  show (match f.eval x with | some v=>(match iq f [] with | some vs=>some (v :: vs) | none=>none) | none=>none)=_;rw [x1]; rfl
 show tf P (some (.func (.func g) #[] #[])) (iq f [x]) A=_;rw [a1];show mf P g [vx] A=_;unfold mf;simp only [hfn,hb,hne]
theorem qR (n:Nat) (t:Nat) (v:Value):plain (n + 1) (.iface t v)=plain n v:=rfl
theorem Dh (n:Nat) (cs:Array Value):plain (n + 1) (.agg cs)=cs.toList.all (plain n):=rfl
theorem Dn {t:Nat}{v:Value} (h:∀n,plain n v=true):wQ (.iface t v)=true:=(qR 49 t v).trans (h 49)
theorem BH {vs:List Value} (hall:vs.all dP=true) {k:Nat} : plain (k + 1) (.agg vs.toArray)=true:=by
 rw [Dh,List.toList_toArray,List.all_eq_true];rw [List.all_eq_true] at hall;exact fun v hv=>nf k (hall v hv)
theorem OM (t:Nat) (v:Value):wQ (.iface t v)=plain 50 (.iface t v):=rfl
theorem Ad (t:Nat) (v:Value):plain 50 (.iface t v)=plain 49 v:=qR 49 t v
theorem Dt {t:Nat}{vs:List Value} (hall:vs.all dP=true):wQ (.iface t (.agg vs.toArray))=true:=by
 rw [OM,Ad];exact BH hall (k:=48)
theorem JG (hO:be P) (hi:bE A) (hs:RS A β s) (hf:RF ds A β s.n nt f p) {t:Nat}{dd:TypeDesc}{x:Operand} (hx:cE x=true) (ht:P.underlying t=some dd) (hd:∀a,dd≠.interface a) (h:bS P p s (.mkif t x)=some (q,s')):dw P A β s f ⟨d,.makeInterface t x,ty,pos,af,gu⟩ q s' E:=by
 obtain⟨vx,x1,x2⟩:=aL hf hx;simp only [bS,Option.map_eq_some_iff] at h;obtain⟨v,hv,he⟩:=h;injection he with e1 e2; subst e1; subst e2;have hev:aU P f ⟨d,.makeInterface t x,ty,pos,af,gu⟩ A=some (.val (.iface t vx),A):=by
  show nH P t (f.eval x) A=_;rw [x1];unfold nH;rw [ht];cases dd<;>first | rfl | exact absurd rfl (hd _)
 unfold TG at hv;split at hv
 ·rename_i u hp;split at hv
  ·rename_i hsu;injection hv with hv; subst hv;rw [hp] at x2;obtain⟨rfl,_⟩:=x2.sc;exact bf hO hi hs hev (.cl _ _ (.sc _ (Dn fun n=>nf n hsu)))
  ·cases hv
 ·rename_i cs hp;rw [Option.map_eq_some_iff] at hv;obtain⟨vs,hvs,rfl⟩:=hv;rw [hp] at x2;have hall:vs.all dP=true:=by
   cases x2 with
   | cl _ _ h=>cases h with | agg xs _ h=>exact (wP hvs (Cs.up h)).2
   | agg xs _ h=>exact (wP hvs h).2
  obtain⟨rfl,_⟩:=vn hvs x2;exact bf hO hi hs hev (.cl _ _ (.sc _ (Dt hall)))
 ·cases hv
theorem Ns (hO:be P) (hi:bE A) (hs:RS A β s) (hf:RF ds A β s.n nt f p) {t xt:Nat}{dd:TypeDesc}{z:Value}{x:Operand} (hx:cE x=true) (ht:P.underlying t=some dd) (hd:∀a,dd≠.interface a) (hz:dR P t=some z) (hzo:CL z=true) (h:bS P p s (.asr t z x)=some (q,s')):dw P A β s f ⟨d,.typeAssert x xt t true,ty,pos,af,gu⟩ q s' E:=by
 obtain⟨vx,x1,x2⟩:=aL hf hx;simp only [bS,Option.map_eq_some_iff] at h;obtain⟨v,hv,he⟩:=h;injection he with e1 e2; subst e1; subst e2;unfold Je at hv;split at hv
 ·rename_i t' w hp;split at hv
  ·rename_i hin;injection hv with hv; subst hv;rw [hp] at x2;obtain⟨rfl,_⟩:=x2.sc;have hev:aU P f ⟨d,.typeAssert x xt t true,ty,pos,af,gu⟩ A=some (.val (.tuple #[if t'=t then w else z,.bool (t' == t)]),A):=by
    show l6 P (f.eval x) t true A=_;rw [x1];unfold l6;simp only [ht];have key:∀b,Nat.beq t' t=b→(Bool.rec (match dR P t with | some z=>some (cu.val (.tuple #[z,.bool false]),A) | none=>none) (some (cu.val (.tuple #[w,.bool true]),A)) (Nat.beq t' t):eI)=some (.val (.tuple #[if t'=t then w else z,.bool (t' == t)]),A):=by
     intro b hb;rw [hb];cases b with
     | true=>
      have:t'=t:=Nat.eq_of_beq_eq_true hb;subst this;simp
     | false=>
      have hn:¬ t'=t:=fun e=>by subst e; rw [Nat.beq_refl] at hb; cases hb
      simp [hz,hn]
    cases dd<;>first | exact absurd rfl (hd _) | exact key _ rfl
   refine bf hO hi hs hev (.tup _ _ (.cons _ _ _ _ ?_ (.cons _ _ _ _ (.cl _ _ (.sc _ rfl)) .nil)));split
   ·exact Js hin
   ·exact zero_rel hzo
  ·cases hv
 ·cases hv
end
section
variable {ds:List Deferred}{P:Program}
theorem Tj (hE:lW P) (hO:be P) {A:AS}{β:Nat→Nat}{nt:Nat}{f:Fr}{p:aE}{s s':PS}{q:PV}{o:Oper}{po:gw} (hc:bJ P o.op=some po) (hi:bE A) (hs:RS A β s) (hf:RF ds A β s.n nt f p) (h:bS P p s po=some (q,s')):dw P A β s f o q s' (aW p po):=by
 obtain⟨d,op,ty,pos,af,gu⟩:=o;simp only at hc;cases op with
 | move x=>
  obtain⟨h1,rfl⟩:=aO hc;simp only [bS] at h; injection h with h; injection h with e1 e2; subst e1; subst e2;exact QK hO hi hs hf h1
 | assign x=>
  obtain⟨h1,rfl⟩:=aO hc;simp only [bS] at h; injection h with h; injection h with e1 e2; subst e1; subst e2;exact TQ hO hi hs hf h1
 | pick c a b=>
  obtain⟨h1,rfl⟩:=aO hc;simp only [Bool.and_eq_true] at h1;exact Ki hO hi hs hf h1.1.1 h1.1.2 h1.2 h
 | alloc e=>
  simp only [bJ] at hc;split at hc
  ·rename_i z hz;obtain⟨h1,rfl⟩:=aO hc;simp only [bS] at h; injection h with h; injection h with e1 e2; subst e1; subst e2;exact H4 hO hi hs hz h1
  ·cases hc
 | box e x=>
  obtain⟨h1,rfl⟩:=aO hc;simp only [bS] at h; injection h with h; injection h with e1 e2; subst e1; subst e2;exact ML hO hi hs hf h1
 | build t ps=>
  simp only [bJ] at hc;split at hc
  ·rename_i z fs hz hu;split at hc
   ·rename_i l hl;obtain⟨h1,rfl⟩:=aO hc;rw [Bool.and_eq_true] at h1;simp only [bS,Option.map_eq_some_iff] at h;obtain⟨cs,hcs,he⟩:=h;injection he with e1 e2; subst e1; subst e2;exact HE hO hi hs hf hz hu hl h1.1 h1.2 hcs
   ·cases hc
  ·cases hc
 | buildSlice t len ps=>
  simp only [bJ] at hc;split at hc
  ·rename_i e hu;split at hc
   ·rename_i z n hz hn;split at hc
    ·rename_i l hl;obtain⟨h1,rfl⟩:=aO hc;simp only [Bool.and_eq_true] at h1;simp only [bS,Option.map_eq_some_iff] at h;obtain⟨cs,hcs,he⟩:=h;injection he with e1 e2; subst e1; subst e2;exact D7 hO hi hs hf hu hz hn hl h1.1.1 h1.1.2 h1.2 hcs
    ·cases hc
   ·cases hc
  ·cases hc
 | load t a=>
  simp only [bJ] at hc;split at hc
  ·rename_i dd hd;split at hc
   ·rename_i hag;split at hc
    ·rename_i n hn;obtain⟨h1,rfl⟩:=aO hc;exact D1 hO hi hs hf h1 hd hag (by simpa using hn) h
    ·cases hc
   ·rename_i hag;obtain⟨h1,rfl⟩:=aO hc;exact D1 hO hi hs hf h1 hd (by simpa using hag) (by simp) h
  ·cases hc
 | store t a x=>
  simp only [bJ] at hc;split at hc
  ·rename_i n hn;obtain⟨h1,rfl⟩:=aO hc;rw [Bool.and_eq_true] at h1;exact G8 hO hi hs hf h1.1 h1.2 hn h
  ·cases hc
 | fieldAddr t x i=>
  simp only [bJ] at hc;split at hc
  ·rename_i fs hfs;split at hc
   ·rename_i fl hfl;split at hc
    ·rename_i m hm;obtain⟨h1,rfl⟩:=aO hc;exact Is hO hi hs hf h1 hfs hfl hm h
    ·cases hc
   ·cases hc
  ·cases hc
 | field t x i=>
  simp only [bJ] at hc;split at hc
  ·rename_i fs hfs;split at hc
   ·rename_i fl hfl;split at hc
    ·rename_i dd hd;split at hc
     ·rename_i hag;split at hc
      ·rename_i n hn;obtain⟨h1,rfl⟩:=aO hc;exact G0 hO hi hs hf h1 hfs hfl hd hag (by simpa using hn) h
      ·cases hc
     ·rename_i hag;obtain⟨h1,rfl⟩:=aO hc;exact G0 hO hi hs hf h1 hfs hfl hd (by simpa using hag) (by simp) h
    ·cases hc
   ·cases hc
  ·cases hc
 | indexAddr t x i=>
  simp only [bJ] at hc;split at hc
  ·rename_i e hu;split at hc
   ·rename_i n hn;obtain⟨h1,rfl⟩:=aO hc;rw [Bool.and_eq_true] at h1;exact Hb hO hi hs hf h1.1 h1.2 hu hn h
   ·cases hc
  ·cases hc
 | index t x i=>
  simp only [bJ] at hc;split at hc
  ·rename_i hu;obtain⟨h1,rfl⟩:=aO hc;rw [Bool.and_eq_true] at h1;exact Ka hO hi hs hf h1.1 h1.2 hu h
  ·cases hc
 | binOp op t x y u=>
  simp only [bJ] at hc;split at hc
  ·rename_i e ht;split at hc
   ·rename_i ne m hne hm;obtain⟨h1,rfl⟩:=aO hc;rw [Bool.and_eq_true] at h1;exact N9 hO hi hs hf h1.1 h1.2 ht hne hm h
   ·cases hc
  ·rename_i ia ht;split at hc
   ·rename_i ne hne;obtain⟨h1,rfl⟩:=aO hc;exact NL hO hi hs hf h1 ⟨_,ht,ia,rfl⟩ hne h
   ·cases hc
  ·obtain⟨h1,rfl⟩:=aO hc;rw [Bool.and_eq_true] at h1;exact PY hi hs hf h1.1 h1.2 h
 | unOp op t x=>
  obtain⟨h1,rfl⟩:=aO hc;exact QM hi hs hf h1 h
 | convert a b x=>
  simp only [bJ] at hc;split at hc
  ·rename_i k' k ha hb;obtain⟨h1,rfl⟩:=aO hc;exact Ko hi hs hf h1 ha hb h
  ·rename_i e ha hb;split at hc
   ·rename_i hu hz;obtain⟨h1,rfl⟩:=aO hc;exact Nq hO hi hs hf h1 ha hb hu hz h
   ·cases hc
  ·rename_i t ha hb;split at hc
   ·rename_i m hz;obtain⟨h1,rfl⟩:=aO hc;exact Ow hO hi hs hf h1 ha hb hz h
   ·cases hc
  ·rename_i u ha hb;split at hc
   ·rename_i m hz;obtain⟨h1,rfl⟩:=aO hc;exact NQ hO hi hs hf h1 ha hb hz h
   ·cases hc
  ·cases hc
 | slice t x lo hi' mx=>
  cases mx with
  | some m=>
   cases lo with
   | some lo=>cases hi'<;>cases hc
   | none=>
    cases hi' with
    | none=>cases hc
    | some y=>
     simp only [bJ] at hc;split at hc
     ·rename_i e hu;split at hc
      ·rename_i n hn;obtain⟨h1,rfl⟩:=aO hc;simp only [Bool.and_eq_true] at h1;exact K5 hO hi hs hf h1.1 h1.2.1 h1.2.2 hu hn h
      ·cases hc
     ·cases hc
  | none=>
   simp only [bJ] at hc;split at hc
   ·rename_i e hu;split at hc
    ·rename_i n hn;obtain⟨h1,rfl⟩:=aO hc;simp only [Bool.and_eq_true] at h1;exact PO hO hi hs hf h1.1.1 h1.1.2 h1.2 hu hn h
    ·cases hc
   ·rename_i hu;obtain⟨h1,rfl⟩:=aO hc;simp only [Bool.and_eq_true] at h1;exact Km hO hi hs hf h1.1.1 h1.1.2 h1.2 hu h
   ·cases hc
 | makeFunc fn a b=>
  cases fn with
  | func g=>
   obtain⟨h1,rfl⟩:=aO hc;rw [Bool.and_eq_true] at h1;simp only [bS] at h; injection h with h; injection h with e1 e2; subst e1; subst e2;exact Jp hO hi hs hf h1.1 h1.2
  | _=>cases hc
 | extract t i=>
  obtain⟨h1,rfl⟩:=aO hc;exact N6 hO hi hs hf h1 h
 | call c=>
  obtain⟨callee,args,tys⟩:=c;simp only [bJ] at hc;split at hc
  ·rename_i x';split at hc
   ·obtain⟨h1,rfl⟩:=aO hc;cases h
   ·rename_i ne hnb;unfold Gr at hnb;split at hnb
    ·rename_i g;split at hnb
     ·rename_i fn hfn;split at hnb
      ·cases hnb
      ·rename_i hbody;injection hnb with hnb;unfold iy at hc;split at hc
       ·rename_i a hargs;have ea:args = #[a]:=by cases args; simp only at hargs; rw [hargs]
        subst ea;obtain⟨h1,rfl⟩:=aO hc;simp only [bS] at h; injection h with h; injection h with e1 e2; subst e1; subst e2;exact Hu hE hi hs hf h1 hfn hbody hnb
       ·rename_i g' hg';injection hg' with hg';subst hg';obtain⟨h1,rfl⟩:=aO hc;exact PL hE hi hs hf h1 hfn hbody hnb h
       ·cases hc
     ·cases hnb
    ·cases hnb
  ·rename_i b;unfold jv at hc;split at hc
   ·rename_i x t ha ht;have ea:args = #[x]:=by cases args; simp only at ha; rw [ha]
    have et:tys = #[t]:=by cases tys; simp only at ht; rw [ht]
    subst ea; subst et;split at hc
    ·rename_i e hu;obtain⟨h1,rfl⟩:=aO hc;exact Gc hO hi hs hf h1 hu (.inl ⟨rfl,e,rfl⟩) h
    ·rename_i hu;obtain⟨h1,rfl⟩:=aO hc;exact Gc hO hi hs hf h1 hu (.inr ⟨rfl,rfl⟩) h
    ·cases hc
   ·rename_i x y t u ha ht;have ea:args = #[x,y]:=by cases args; simp only at ha; rw [ha]
    have et:tys = #[t,u]:=by cases tys; simp only at ht; rw [ht]
    subst ea; subst et;split at hc
    ·rename_i e e2 ht hu;split at hc
     ·rename_i i hin;split at hc
      ·rename_i z hz;obtain⟨h1,rfl⟩:=aO hc;simp only [Bool.and_eq_true] at h1;exact NA hO hi hs hf h1.1.1 h1.1.2 ht hu hin hz h1.2 h
      ·cases hc
     ·cases hc
    ·rename_i e ht hu;split at hc
     ·rename_i i hin;split at hc
      ·rename_i z hz;obtain⟨h1,rfl⟩:=aO hc;simp only [Bool.and_eq_true] at h1;exact KB hO hi hs hf h1.1.1 h1.1.2 ht hu hin hz h1.2 h
      ·cases hc
     ·cases hc
    ·cases hc
   ·rename_i x ha;have ea:args = #[x]:=by cases args; simp only at ha; rw [ha]
    subst ea;obtain⟨h1,rfl⟩:=aO hc;exact Ix hO hi hs hf h1 h
   ·rename_i x y t u ha ht;have ea:args = #[x,y]:=by cases args; simp only at ha; rw [ha]
    have et:tys = #[t,u]:=by cases tys; simp only at ht; rw [ht]
    subst ea; subst et;split at hc
    ·rename_i e ht;split at hc
     ·rename_i hz;obtain⟨h1,rfl⟩:=aO hc;rw [Bool.and_eq_true] at h1;exact Jh hO hi hs hf h1.1 h1.2 ht hz h
     ·cases hc
    ·cases hc
   ·rename_i x y ha;have ea:args = #[x,y]:=by cases args; simp only at ha; rw [ha]
    subst ea;obtain⟨h1,rfl⟩:=aO hc;rw [Bool.and_eq_true] at h1;exact Ff (mx:=true) hO hi hs hf h1.1 h1.2 h
   ·rename_i x y ha;have ea:args = #[x,y]:=by cases args; simp only at ha; rw [ha]
    subst ea;obtain⟨h1,rfl⟩:=aO hc;rw [Bool.and_eq_true] at h1;exact Ff (mx:=false) hO hi hs hf h1.1 h1.2 h
   ·rename_i x y t u ha ht;have ea:args = #[x,y]:=by cases args; simp only at ha; rw [ha]
    have et:tys = #[t,u]:=by cases tys; simp only at ht; rw [ht]
    subst ea; subst et;split at hc
    ·rename_i e e2 ht hu;split at hc
     ·rename_i n hn;obtain⟨h1,rfl⟩:=aO hc;rw [Bool.and_eq_true] at h1;exact Ml hO hi hs hf h1.1 h1.2 ht hu hn h
     ·cases hc
    ·cases hc
   ·cases hc
  ·cases hc
 | nilCheck x=>
  obtain⟨h1,rfl⟩:=aO hc;exact Ms hO hi hs hf h1 h
 | makeSlice t l c=>
  simp only [bJ] at hc;split at hc
  ·rename_i e ht;split at hc
   ·rename_i i hin;split at hc
    ·rename_i z hz;obtain⟨h1,rfl⟩:=aO hc;simp only [Bool.and_eq_true] at h1;exact MS hO hi hs hf h1.1 h1.2.1 h1.2.2.1 h1.2.2.2.1 h1.2.2.2.2 ht hin hz h
    ·cases hc
   ·cases hc
  ·cases hc
 | makeInterface t x=>
  simp only [bJ] at hc;split at hc
  ·cases hc
  ·rename_i dd hne ht;obtain⟨h1,rfl⟩:=aO hc;exact JG hO hi hs hf h1 ht (fun a e=>hne a (e ▸ rfl)) h
  ·cases hc
 | typeAssert x xt a ok=>
  cases ok with
  | false=>cases hc
  | true=>
   simp only [bJ] at hc;split at hc
   ·cases hc
   ·rename_i dd z hne ht hz;obtain⟨h1,rfl⟩:=aO hc;rw [Bool.and_eq_true] at h1;exact Ns hO hi hs hf h1.1 ht (fun a e=>hne a (e ▸ rfl)) hz h1.2 h
   ·cases hc
 | panic x=>
  obtain⟨h1,rfl⟩:=aO hc;cases h
 | _=>cases hc
structure Kp (s s':PS):Prop where
 w:s'.w≤s.w
 n:s.n≤s'.n
 h:∀k,k < s.n→k < s'.w→s'.h k=s.h k
theorem Kp.refl (s:PS):Kp s s:=⟨Nat.le_refl _,Nat.le_refl _,fun _ _ _=>rfl⟩
theorem Kp.trans {s t u:PS} (h:Kp s t) (k:Kp t u):Kp s u:=
 ⟨Nat.le_trans k.w h.w,Nat.le_trans h.n k.n,fun x h1 h2=>(k.h x (Nat.lt_of_lt_of_le h1 h.n) h2).trans (h.h x h1 (Nat.lt_of_lt_of_le h2 k.w))⟩
theorem Kp.new (s:PS) (b:pD):Kp s (s.new b):=⟨Nat.le_refl _,Nat.le_succ _,fun k h1 _=>if_neg (by omega)⟩
theorem Kp.put (s:PS) (k:Nat) (b:pD):Kp s (s.put k b):=⟨Nat.min_le_left _ _,Nat.le_refl _,fun j _ h2=>if_neg (by
 have:j < min s.w k:=h2;omega)⟩
theorem M9 {p:aE}{s s':PS}{o:gw}{q:PV} (h:bS P p s o=some (q,s')):Kp s s':=by
 have same:∀{α:Type}{x:Option α}{k:α→PV},(x.map fun v=>(k v,s))=some (q,s')→Kp s s':=fun h=>by
  rw [Option.map_eq_some_iff] at h;obtain⟨v,_,he⟩:=h;injection he with _ e2; subst e2; exact .refl s
 cases o with
 | mv x=>simp only [bS] at h; injection h with h; injection h with _ e2; subst e2; exact .refl s
 | pick c a b=>simp only [bS] at h; split at h<;>first | (injection h with h; injection h with _ e2; subst e2; exact .refl s) | cases h
 | alloc e z=>simp only [bS] at h; injection h with h; injection h with _ e2; subst e2; exact .new s _
 | box e x=>simp only [bS] at h; injection h with h; injection h with _ e2; subst e2; exact .new s _
 | build z ps=>simp only [bS] at h; exact same h
 | bslice e n z ps=>
  simp only [bS,Option.map_eq_some_iff] at h;obtain⟨v,_,he⟩:=h;injection he with _ e2; subst e2; exact .new s _
 | load t ag sz x=>
  simp only [bS,Option.bind_eq_some_iff] at h;obtain⟨cs,_,h⟩:=h;exact same h
 | store t sz x y=>
  simp only [bS] at h;split at h
  ·simp only [Option.map_eq_some_iff] at h;obtain⟨s1,h1,he⟩:=h;injection he with _ e2; subst e2;unfold Ma at h1;split at h1
   ·split at h1
    ·injection h1 with h1; subst h1; exact .put s _ _
    ·cases h1
   ·cases h1
  ·cases h
 | faddr off x=>
  simp only [bS] at h;split at h
  ·injection h with h; injection h with _ e2; subst e2; exact .refl s
  ·split at h
   ·injection h with h; injection h with _ e2; subst e2; exact .refl s
   ·cases h
  ·cases h
 | fld ag off sz x=>
  simp only [bS] at h;split at h
  ·split at h
   ·exact same h
   ·cases h
  ·cases h
 | iaddr es x i=>
  simp only [bS] at h;split at h
  ·split at h
   ·injection h with h; injection h with _ e2; subst e2; exact .refl s
   ·cases h
  ·split at h
   ·injection h with h; injection h with _ e2; subst e2; exact .refl s
   ·cases h
  ·split at h
   ·injection h with h; injection h with _ e2; subst e2; exact .refl s
   ·cases h
  ·split at h
   ·injection h with h; injection h with _ e2; subst e2; exact .refl s
   ·cases h
  ·cases h
 | sidx x i=>
  simp only [bS] at h;split at h
  ·split at h
   ·injection h with h; injection h with _ e2; subst e2; exact .refl s
   ·cases h
  ·cases h
 | bin op t x y=>simp only [bS] at h; exact same h
 | un op x=>simp only [bS] at h; exact same h
 | len str x=>simp only [bS] at h; exact same h
 | app e es bytes x y=>
  simp only [bS,Option.bind_eq_some_iff] at h;obtain⟨v,_,h⟩:=h;unfold fo at h;split at h
  ·split at h
   ·injection h with h; injection h with _ e2; subst e2; exact .refl s
   ·cases h
  ·split at h
   ·split at h
    ·injection h with h; injection h with _ e2; subst e2; exact .new s _
    ·cases h
   ·split at h
    ·injection h with h; injection h with _ e2; subst e2; exact .put s _ _
    ·cases h
   ·split at h
    ·injection h with h; injection h with _ e2; subst e2; exact .new s _
    ·cases h
   ·cases h
 | slc3 e es x y z=>
  simp only [bS] at h;split at h
  ·split at h
   ·injection h with h; injection h with _ e2; subst e2; exact .refl s
   ·cases h
  ·injection h with h; injection h with _ e2; subst e2; exact .refl s
  ·split at h
   ·injection h with h; injection h with _ e2; subst e2; exact .refl s
   ·cases h
  ·cases h
 | slc e es x lo hi=>
  simp only [bS] at h;split at h
  ·exact same h
  ·cases h
 | sslc x lo hi=>
  simp only [bS] at h;split at h
  ·exact same h
  ·cases h
 | mkfn g a b=>simp only [bS] at h; injection h with h; injection h with _ e2; subst e2; exact .refl s
 | ext x i=>
  simp only [bS] at h;split at h
  ·exact same (k:=fun v=>v) h
  ·cases h
 | conv k x=>simp only [bS] at h; exact same h
 | call x a=>cases h
 | mnx mx x y=>simp only [bS] at h; split at h<;>first | (injection h with h; injection h with _ e2; subst e2; exact .refl s) | cases h
 | nck x=>simp only [bS] at h; split at h<;>first | (injection h with h; injection h with _ e2; subst e2; exact .refl s) | cases h
 | mks e es by' z l c=>
  simp only [bS] at h;split at h
  ·split at h
   ·injection h with h; injection h with _ e2; subst e2; exact .new s _
   ·cases h
  ·cases h
 | cpy es x y=>
  simp only [bS,Option.bind_eq_some_iff] at h;obtain⟨v,_,h⟩:=h;split at h
  ·split at h
   ·injection h with h; injection h with _ e2; subst e2; exact .refl s
   ·split at h
    ·rw [Option.map_eq_some_iff] at h;obtain⟨s1,hst,he⟩:=h;injection he with _ e2; subst e2;unfold Ma at hst;simp only at hst;split at hst
     ·injection hst with hst; subst hst; exact .put s _ _
     ·cases hst
    ·cases h
  ·split at h
   ·injection h with h; injection h with _ e2; subst e2; exact .refl s
   ·cases h
  ·cases h
 | peq ne t x y=>simp only [bS] at h; exact same h
 | inq ne t x=>simp only [bS] at h; exact same h
 | bts x=>
  simp only [bS,Option.bind_eq_some_iff] at h;obtain⟨v,_,h⟩:=h;exact same h
 | apps e x y=>
  simp only [bS] at h;split at h
  ·unfold fo at h;split at h
   ·split at h
    ·injection h with h; injection h with _ e2; subst e2; exact .refl s
    ·cases h
   ·split at h
    ·split at h
     ·injection h with h; injection h with _ e2; subst e2; exact .new s _
     ·cases h
    ·split at h
     ·injection h with h; injection h with _ e2; subst e2; exact .put s _ _
     ·cases h
    ·split at h
     ·injection h with h; injection h with _ e2; subst e2; exact .new s _
     ·cases h
    ·cases h
  ·cases h
 | toU x=>simp only [bS] at h; exact same (k:=fun v=>v) h
 | frU u n x=>simp only [bS] at h; exact same (k:=fun v=>v) h
 | sdata x=>simp only [bS] at h; exact same (k:=fun v=>v) h
 | ustr e x y=>
  simp only [bS] at h;unfold oQ at h;split at h
  ·split at h
   ·rw [Option.map_eq_some_iff] at h;obtain⟨l,_,he⟩:=h;injection he with _ e2; subst e2; exact .put s _ _
   ·cases h
  ·injection h with h; injection h with _ e2; subst e2; exact .refl s
  ·cases h
 | pcl g args=>simp only [bS] at h; exact same (k:=fun v=>v) h
 | mkif t x=>simp only [bS] at h; exact same h
 | asr t z x=>simp only [bS] at h; exact same (k:=fun v=>v) h
 | pan x=>cases h
 | bad=>cases h
def bM (P:Program) (pu:Nat→Bool) (call:aw):Prop:=∀g args s q s',call g args s=some (q,s')→(∃fn c,P.funcs[g]?=some fn∧fn.body=some c)∧Kp s s'∧
 ∀(A:AS) (β:Nat→Nat) (vs:List Value),bE A→RS A β s→Rs A β s.n vs args→∃u A' β',cQ P g vs.toArray A (.ret u) A'∧Fw A A' β β' s.n s'.n s'.w∧RS A' β' s'∧R1 A' β' s'.n u q∧
  (pu g=true→∀c,c < A.next→A'.w.testBit c=true→A.w.testBit c=true)
theorem AE {ops:Array Oper}{o:Oper}{f f':Fr}{A A':AS}{u:Value} (hw:fV ops.toList f o.guard=some true) (hs:bQ P f A o (.val u) A') (hp:f.put o.dst u=some f'):jJ P ops o f A f' A':=by
 refine⟨hs.fr,fun φ T w a hf hr hT hfr K Q hK=>?_⟩;unfold gQ;rw [dJ hf hw,if_pos rfl];obtain⟨φ',w',hpp,hnr⟩:=hs.run φ T w a hf hr hT hfr;unfold Oper.wp;generalize hres:(execOp a.eval o).run P w=res at hnr;cases hnr with
 | val _ v' hv=>exact hK φ' w' _ hpp ((hf.mono hpp.ext).put hp hv)
 | skip=>exact hK φ' w' _ hpp ((hf.mono hpp.ext).put hp (fM _))
theorem zj {ops:Array Oper}{o:Oper}{f f':Fr}{A:AS} (hi:bE A) (hw:fV ops.toList f o.guard=some false) (hp:f.put o.dst undef=some f'):jJ P ops o f A f' A:=by
 refine⟨.refl hi,fun φ T w a hf hr hT hfr K Q hK=>?_⟩;unfold gQ;rw [dJ hf hw];exact hK φ w _ (.refl hr rfl rfl rfl rfl rfl rfl rfl) (hf.put hp (fM _))
theorem yL {ops:Array Oper}{o:Oper}{f f':Fr}{A B A':AS}{g:FuncId}{args:Array Value}{v:Value} (hw:fV ops.toList f o.guard=some true) (hs:bQ P f A o (.enter g args) B) (hcs:cQ P g args B (.ret v) A') (hp:f.put o.dst v=some f'):jJ P ops o f A f' A':=by
 refine⟨hs.fr.trans hcs.fr,fun φ T w a hf hr hT hfr K Q hK=>?_⟩;unfold gQ;rw [dJ hf hw,if_pos rfl];obtain⟨φ',w',hpp,hnr⟩:=hs.run φ T w a hf hr (hT.left hcs.fr) (fun b h1 h2=>hfr b h1 (Nat.lt_of_lt_of_le h2 hcs.fr.next));unfold Oper.wp;generalize hres:(execOp a.eval o).run P w=res at hnr;cases hnr with
 | enter _ _ args' hargs=>
  refine (hcs.run φ' _ w' args' hargs hpp.rel ?_ ?_).mono ?_
  ·intro c hc' hh;by_cases hlt:c < A.next
   ·exact .inl (hT c hlt hh)
   ·exact .inr ⟨by omega,hc'⟩
  ·intro b h3 h4;rw [hpp.out b (.inr h3)];exact hfr b (Nat.le_trans hs.fr.next h3) h4
  ·rintro e2 w2 ⟨φ2,hp2,he2⟩;cases he2 with
   | ret _ v' hv=>exact hK φ2 w2 _ (hpp.trans hs.fr.next hcs.fr hp2) (((hf.mono hpp.ext).mono hp2.ext).put hp hv)
theorem oI {A:AS}{β:Nat→Nat}{n nt:Nat}{f:Fr}{p:aE} (hf:RF ds A β n nt f p) {ops:List Oper}{g:Option (Nat × Bool)}{g':Option (Nat × Bool)} (hg:xb ops g=some g') {b:Bool} (h:eb p g'=some b):fV ops f g=some b:=by
 unfold xb at hg;split at hg
 ·injection hg with hg; subst hg;simp only [eb] at h;exact h
 ·rename_i j want;split at hg
  ·rename_i dd hd;injection hg with hg; subst hg;show t7 ops f j want=some b;unfold t7;rw [hd];have ht:=hf.tmp dd;simp only [eb] at h;split at h
   ·rename_i c hc;rw [hc] at ht;obtain⟨e,_⟩:=ht.sc;simp only [e,CU];exact h
   ·rename_i xs hc;rw [hc] at ht;obtain⟨e,_⟩:=ht.sc;simp only [e,CU];exact h
   ·cases h
  ·cases hg
theorem vd {op:Op}{x:Operand}{args:List Operand} (h:bJ P op=some (.call x args)):∃cargs tys,op=.call ⟨.value x,cargs,tys⟩∧args=cargs.toList∧cE x=true∧cargs.toList.all cE=true:=by
 cases op with
 | call cc=>
  obtain⟨callee,cargs,tys⟩:=cc;simp only [bJ] at h;split at h
  ·rename_i x';split at h
   ·obtain⟨h1,h2⟩:=aO h;injection h2 with h2 h3;subst h2; subst h3;rw [Bool.and_eq_true] at h1;exact⟨cargs,tys,rfl,rfl,h1.1,h1.2⟩
   ·exfalso;unfold iy at h;split at h
    ·obtain⟨_,h2⟩:=aO h; cases h2
    ·obtain⟨_,h2⟩:=aO h; cases h2
    ·cases h
  ·exfalso;unfold jv at h
   repeat' split at h
   all_goals first | (cases h; done) | (obtain⟨_,h2⟩:=aO h; cases h2; done)
  ·cases h
 | slice t x lo hi' mx=>
  exfalso;cases mx with
  | some m=>
   cases lo with
   | some lo=>cases hi'<;>cases h
   | none=>
    cases hi' with
    | none=>cases h
    | some y=>
     simp only [bJ] at h
     repeat' split at h
     all_goals first | (cases h; done) | (obtain⟨_,h2⟩:=aO h; cases h2; done)
  | none=>
   simp only [bJ] at h
   repeat' split at h
   all_goals first | (cases h; done) | (obtain⟨_,h2⟩:=aO h; cases h2; done)
 | makeFunc fn a b=>
  exfalso;cases fn with
  | func g=>obtain⟨_,h2⟩:=aO h; cases h2
  | _=>cases h
 | typeAssert x xt a ok=>
  exfalso;cases ok with
  | false=>cases h
  | true=>
   simp only [bJ] at h
   repeat' split at h
   all_goals first | (cases h; done) | (obtain⟨_,h2⟩:=aO h; cases h2; done)
 | _=>
  exfalso;simp only [bJ] at h
  repeat' split at h
  all_goals first | (cases h; done) | (obtain⟨_,h2⟩:=aO h; cases h2; done)
theorem uJ {op:Op}{x:Operand}{args:List Operand} (h:(bJ P op).getD .bad=.call x args):bJ P op=some (.call x args):=by
 cases hc:bJ P op with
 | none=>rw [hc] at h; cases h
 | some q=>rw [hc] at h; exact congrArg some h
theorem uB {A:AS}{β:Nat→Nat}{nt:Nat}{f:Fr}{p:aE}{n:Nat} (hf:RF ds A β n nt f p) {x:Operand}{args:Array Operand} (h1:cE x=true) (h2:args.toList.all cE=true) {g:Nat}{first cap:List PV} (hx:aA p x=.fn g first cap) :
  ∃vs vas xs ys,f.eval x=some (.func (.func g) xs ys)∧iq f args.toList=some vas∧vs=xs.toList ++ (vas ++ ys.toList)∧Rs A β n vs (first ++ (args.toList.map (aA p) ++ cap)):=by
 obtain⟨vf,f1,f2⟩:=aL hf h1;obtain⟨vas,a1,a2⟩:=oR hf _ h2;rw [hx] at f2;obtain⟨xs,ys,rfl,r1,r2⟩ : ∃xs ys,vf=.func (.func g) xs ys∧Rs A β n xs.toList first∧Rs A β n ys.toList cap:=by
  cases f2 with
  | cl _ _ h=>cases h with | fn g=>exact⟨_,_,rfl,.nil,.nil⟩
  | fn _ xs ys _ _ h h'=>exact⟨xs,ys,rfl,h,h'⟩
 exact⟨_,vas,xs,ys,f1,a1,rfl,r1.app (a2.app r2)⟩
theorem u6 (hE:lW P) {A:AS}{f:Fr}{d:Option Tmp}{ty:TypeId}{pos:String}{af:Array Edge}{gu:Option (Nat × Bool)} (hi:bE A) {x:Operand}{args tys}{g:Nat}{xs ys:Array Value}{vas:List Value}{fn:Func}{c:Code} (h1:f.eval x=some (.func (.func g) xs ys)) (h2:iq f args.toList=some vas) (hfn:P.funcs[g]?=some fn) (hbody:fn.body=some c) :
  bQ P f A ⟨d,.call ⟨.value x,args,tys⟩,ty,pos,af,gu⟩ (.enter g (xs.toList ++ (vas ++ ys.toList)).toArray) A:=by
 refine jg hE hi x args tys ?_;rw [h1,h2];show mf P g (xs.toList ++ (vas ++ ys.toList)) A=_;unfold mf;rw [hfn];simp only [hbody]
theorem rG (hE:lW P) (hO:be P) {pu:Nat→Bool}{call:aw} (hC:bM P pu call) {ops:Array Oper}{o:Oper}{i:PI}{nt:Nat} (hc:jb P nt ops.toList o=some i) {A:AS}{β:Nat→Nat}{f:Fr}{p p':aE}{s s':PS} (hi:bE A) (hs:RS A β s) (hf:RF ds A β s.n nt f p)
  (h:dZ P call i p s=some (p',s')):Kp s s'∧∃f' A' β',jJ P ops o f A f' A'∧Fw A A' β β' s.n s'.n s'.w∧RS A' β' s'∧RF ds A' β' s'.n nt f' p'∧(aS pu p i=true→y7 A A' β β' s.n s'.n (mV p i))∧(fV ops.toList f o.guard=some false∨∀cs b,o.op≠.select cs b):=by
 unfold jb at hc;split at hc
 ·rename_i g' hg;split at hc
  ·rename_i hd;injection hc with hc; subst hc;unfold dZ at h;simp only at h;split at h
   ·rename_i hgd;have hw:=oI hf hg hgd;simp only [Option.map_eq_some_iff] at h;obtain⟨⟨q,s1⟩,hact,he⟩:=h;injection he with e1 e2; subst e1; subst e2;generalize hpq:(bJ P o.op).getD .bad=po at hact ⊢;unfold zi at hact;split at hact
    ·rename_i x args;have hpo:=uJ hpq;unfold sZ at hact;split at hact
     ·rename_i g first cap hx;obtain⟨⟨fn,c,hfn,hbody⟩,hkp,hcall⟩:=hC _ _ _ _ _ hact;refine⟨hkp,?_⟩;obtain⟨cargs,tys,hop,rfl,h1,h2⟩:=vd hpo;obtain⟨vs,vas,xs,ys,k1,k2,rfl,k3⟩:=uB hf h1 h2 hx;obtain⟨d,op,ty,pos,af,gu⟩:=o;simp only at hop;subst hop;obtain⟨u,A',β',c1,c2,c3,c4,c5⟩:=hcall A β _ hi hs k3;have hsd:=u6 (d:=d) (ty:=ty) (pos:=pos) (af:=af) (gu:=gu) (tys:=tys) hE hi k1 k2 hfn hbody;obtain⟨f',m1,m2⟩:=(hf.mono c2).set hd c4;refine⟨f',A',β',yL hw hsd c1 m1,c2,c3,m2,fun hpu=>?_,.inr fun cs b he=>by cases he⟩;have hp':pu g=true:=by simpa only [aS,hx] using hpu
      have he:mV p ⟨d,.call x cargs.toList,g'⟩=⟨[],[],false,true⟩:=by simp only [mV,hgd,aW]
      rw [he];refine⟨fun c hc=>?_,fun c hc=>?_,fun hca=>by cases hca⟩
      ·exact (c1.fr.rb c hc).imp id fun h=>.inr (.inr (.inr ⟨rfl,h⟩))
      ·rcases c1.fr.wb c hc with h | h
       ·exact .inl h
       ·by_cases hlt:c < A.next
        ·exact .inl (c5 hp' c hlt hc)
        ·exact .inr (.inr ⟨by omega,h⟩)
     ·cases hact
    ·rename_i hnc;cases hpo:bJ P o.op with
     | none=>rw [hpo] at hpq; subst hpq; cases hact
     | some po'=>
      rw [hpo] at hpq;have hpq:po'=po:=hpq;subst hpq;obtain⟨u,A',β',k1,k2,k3,k4,k5⟩:=Tj hE hO hpo hi hs hf hact;obtain⟨f',m1,m2⟩:=(hf.mono k2).set hd k4;refine⟨M9 hact,f',A',β',AE hw k1 m1,k2,k3,m2,fun _=>?_,.inr fun cs b he=>?_⟩
      ·have he:mV p ⟨o.dst,po',g'⟩=aW p po':=by simp only [mV,hgd]
       rw [he]; exact k5
      ·rw [he] at hpo; cases hpo
   ·rename_i hgd;have hw:=oI hf hg hgd;injection h with h; injection h with e1 e2; subst e1; subst e2;obtain⟨f',m1,m2⟩:=hf.set hd (v:=undef) (q:=.sc undef) (.cl _ _ (.sc _ rfl));refine⟨.refl s,f',A,β,zj hi hw m1,.refl A β s.n _,hs,m2,fun _=>.same A β s.n _,.inl hw⟩
   ·cases h
  ·cases hc
 ·cases hc
end
section
variable {ds:List Deferred}{P:Program}
theorem AC (hE:lW P) (hO:be P) {pu:Nat→Bool}{call:aw} (hC:bM P pu call) {ops:Array Oper}{nt:Nat} : ∀(l:List Oper) (r:List PI),dU P nt ops.toList l=some r→∀{A:AS}{β:Nat→Nat}{f:Fr}{p p':aE}{s s':PS},bE A→RS A β s→RF ds A β s.n nt f p→
  lS P call r p s=some (p',s')→Kp s s'∧∃f' A' β',iT P ops l f A .normal f' A'∧Fw A A' β β' s.n s'.n s'.w∧RS A' β' s'∧RF ds A' β' s'.n nt f' p':=by
 intro l
 induction l with
 | nil=>
  intro r hr A β f p p' s s' hi hs hf h;simp only [dU] at hr;injection hr with hr; subst hr;simp only [lS] at h;injection h with h; injection h with e1 e2; subst e1; subst e2;exact⟨.refl s,f,A,β,⟨.refl hi,fun φ T w a hf hr _ _ Q hQ=>hQ φ w a .normal (.refl hr rfl rfl rfl rfl rfl rfl rfl) hf .normal⟩,.refl A β s.n _,hs,hf⟩
 | cons o l ih=>
  intro r hr A β f p p' s s' hi hs hf h;simp only [dU] at hr;split at hr
  ·rename_i i r' hi' hr';injection hr with hr; subst hr;simp only [lS,Option.bind_eq_some_iff] at h;obtain⟨⟨p1,s1⟩,h1,h2⟩:=h;obtain⟨kp1,f1,A1,β1,k1,k2,k3,k4,_⟩:=rG hE hO hC hi' hi hs hf h1;obtain⟨kp2,f2,A2,β2,m1,m2,m3,m4⟩:=ih r' hr' k1.fr.inv k3 k4 h2;refine⟨kp1.trans kp2,f2,A2,β2,⟨k1.fr.trans m1.fr,fun φ T w a hf hr hT hfr Q hQ=>eu ?_⟩,k2.trans m2 kp2.w,m3,m4⟩;refine k1.run φ T w a hf hr (hT.left m1.fr) (bz hfr m1.fr.next) _ Q fun φ' w' a' hp hf'=>?_;refine m1.run φ' _ w' a' hf' hp.rel (bh hT) (ba hfr k1.fr.next hp) Q fun φ2 w2 a2 e hp2 hf2 hx2=>?_;exact hQ φ2 w2 a2 e (hp.trans k1.fr.next m1.fr hp2) hf2 hx2
  ·cases hr
def xt:E9→dF
 | .normal=>.normal
 | .exit id=>.exit id
 | .ret=>.ret
def iY (P:Program) (nt:Nat) (c:Code) (r:aE→PS→ua):Prop:=∀{ds:List Deferred}{A:AS}{β:Nat→Nat}{f:Fr}{p p':aE}{s s':PS}{x:E9},bE A→RS A β s→RF ds A β s.n nt f p→r p s=some (x,p',s')→
 Kp s s'∧∃f' A' β',gE P c f A (xt x) f' A'∧Fw A A' β β' s.n s'.n s'.w∧RS A' β' s'∧RF ds A' β' s'.n nt f' p'
theorem O4 {nt:Nat}{a b:Code}{ra rb:aE→PS→ua} (ha:iY P nt a ra) (hb:iY P nt b rb):iY P nt (.seq a b) (fun f s=>pP (ra f s) rb):=by
 intro ds A β f p p' s s' x hi hs hf h;simp only [pP,Option.bind_eq_some_iff] at h;obtain⟨⟨x1,p1,s1⟩,h1,h2⟩:=h;obtain⟨kp1,f1,A1,β1,k1,k2,k3,k4⟩:=ha hi hs hf h1;simp only at h2;split at h2
 ·obtain⟨kp2,f2,A2,β2,m1,m2,m3,m4⟩:=hb k1.fr.inv k3 k4 h2;refine⟨kp1.trans kp2,f2,A2,β2,⟨k1.fr.trans m1.fr,fun φ T w a hf hr hT hfr Q hQ=>wp_seq ?_⟩,k2.trans m2 kp2.w,m3,m4⟩;refine k1.run φ T w a hf hr (hT.left m1.fr) (bz hfr m1.fr.next) _ fun φ' w' a' e hp hf' he=>?_;cases he;exact m1.run φ' _ w' a' hf' hp.rel (bh hT) (ba hfr k1.fr.next hp) Q fun φ2 w2 a2 e hp2 hf2 hx2=>hQ φ2 w2 a2 e (hp.trans k1.fr.next m1.fr hp2) hf2 hx2
 ·rename_i hne;injection h2 with h2; injection h2 with e1 e2; injection e2 with e2 e3;subst e1; subst e2; subst e3;refine⟨kp1,f1,A1,β1,⟨k1.fr,fun φ T w a hf hr hT hfr Q hQ=>wp_seq ?_⟩,k2,k3,k4⟩;refine k1.run φ T w a hf hr hT hfr _ fun φ' w' a' e hp hf' he=>?_;have:=hQ φ' w' a' e hp hf' he;cases x1 with
  | normal=>exact absurd rfl hne
  | exit id=>cases he; exact this
  | ret=>cases he; exact this
theorem KE {nt:Nat}{o:Operand} (ho:cE o=true) {a b:Code}{ra rb:aE→PS→ua} (ha:iY P nt a ra) (hb:iY P nt b rb):iY P nt (.cond o a b) (fun f s=>tN (ep (aA f o)) (ra f s) (rb f s)):=by
 intro ds A β f p p' s s' x hi hs hf h;obtain⟨v,v1,v2⟩:=aL hf ho;have h:tN (ep (aA p o)) (ra p s) (rb p s)=some (x,p',s'):=h;unfold tN at h;split at h
 ·rename_i hb';have:=iG v2 hb';subst this;obtain⟨kp1,f1,A1,β1,k1,k2⟩:=ha hi hs hf h;refine⟨kp1,f1,A1,β1,⟨k1.fr,fun φ T w a hf hr hT hfr Q hQ=>?_⟩,k2⟩;have hv:=hf.eval v1;generalize hq:a.eval o=q at hv;cases hv;exact wp_cond_true hq (k1.run φ T w a hf hr hT hfr Q hQ)
 ·rename_i hb';have:=iG v2 hb';subst this;obtain⟨kp1,f1,A1,β1,k1,k2⟩:=hb hi hs hf h;refine⟨kp1,f1,A1,β1,⟨k1.fr,fun φ T w a hf hr hT hfr Q hQ=>?_⟩,k2⟩;have hv:=hf.eval v1;generalize hq:a.eval o=q at hv;cases hv;exact wp_cond_false hq (k1.run φ T w a hf hr hT hfr Q hQ)
 ·cases h
theorem Ht {nt id:Nat}{b:Code}{rb:aE→PS→ua} (hb:iY P nt b rb):iY P nt (.block id b) (fun f s=>sH id (rb f s)):=by
 intro ds A β f p p' s s' x hi hs hf h;simp only [sH,Option.map_eq_some_iff] at h;obtain⟨⟨x1,p1,s1⟩,h1,h2⟩:=h;obtain⟨kp1,f1,A1,β1,k1,k2⟩:=hb hi hs hf h1;cases x1 with
 | exit i=>
  simp only at h2;split at h2
  ·rename_i hid;subst hid;injection h2 with e1 e2; injection e2 with e2 e3;subst e1; subst e2; subst e3;refine⟨kp1,f1,A1,β1,⟨k1.fr,fun φ T w a hf hr hT hfr Q hQ=>wp_block ?_⟩,k2⟩;refine k1.run φ T w a hf hr hT hfr _ fun φ' w' a' e hp hf' he=>?_;cases he;show (if i=i then Q .normal a' w' else _);rw [if_pos rfl];exact hQ φ' w' a' _ hp hf' .normal
  ·rename_i hid;injection h2 with e1 e2; injection e2 with e2 e3;subst e1; subst e2; subst e3;refine⟨kp1,f1,A1,β1,⟨k1.fr,fun φ T w a hf hr hT hfr Q hQ=>wp_block ?_⟩,k2⟩;refine k1.run φ T w a hf hr hT hfr _ fun φ' w' a' e hp hf' he=>?_;have:=hQ φ' w' a' e hp hf' he;cases he;show (if i=id then _ else Q (.exit i) a' w');rw [if_neg hid];exact this
 | normal=>
  injection h2 with e1 e2; injection e2 with e2 e3;subst e1; subst e2; subst e3;refine⟨kp1,f1,A1,β1,⟨k1.fr,fun φ T w a hf hr hT hfr Q hQ=>wp_block ?_⟩,k2⟩;refine k1.run φ T w a hf hr hT hfr _ fun φ' w' a' e hp hf' he=>?_;have:=hQ φ' w' a' e hp hf' he;cases he;exact this
 | ret=>
  injection h2 with e1 e2; injection e2 with e2 e3;subst e1; subst e2; subst e3;refine⟨kp1,f1,A1,β1,⟨k1.fr,fun φ T w a hf hr hT hfr Q hQ=>wp_block ?_⟩,k2⟩;refine k1.run φ T w a hf hr hT hfr _ fun φ' w' a' e hp hf' he=>?_;have:=hQ φ' w' a' e hp hf' he;cases he;exact this
theorem KQ {nt:Nat}{b:Code}{rb:aE→PS→ua} (hb:iY P nt b rb):∀(L:Nat) {A:AS}{β:Nat→Nat}{f:Fr}{p p':aE}{s s':PS}{x:E9},bE A→RS A β s→RF ds A β s.n nt f p→pB rb L p s=some (x,p',s')→
  Kp s s'∧∃f' A' β',(kW A A'∧∀(φ:cK) (T:Nat→Prop) (w:World) (a:Act),dm φ f a→gz P φ T A w→fU A A' T→fu A A' φ→∀(Q:Exit→Act→World→Prop),
    (∀φ' w' a' e,bG P φ T A A' w w' φ'→dm φ' f' a'→uj φ' (xt x) e→Q e a' w')→Code.rounds P b Q L a w)∧Fw A A' β β' s.n s'.n s'.w∧RS A' β' s'∧RF ds A' β' s'.n nt f' p':=by
 intro L
 induction L with
 | zero=>intro A β f p p' s s' x _ _ _ h; cases h
 | succ L ih=>
  intro A β f p p' s s' x hi hs hf h;simp only [pB,pP,Option.bind_eq_some_iff] at h;obtain⟨⟨x1,p1,s1⟩,h1,h2⟩:=h;obtain⟨kp1,f1,A1,β1,k1,k2,k3,k4⟩:=hb hi hs hf h1;simp only at h2;split at h2
  ·obtain⟨kp2,f2,A2,β2,⟨m0,m1⟩,m2,m3,m4⟩:=ih k1.fr.inv k3 k4 h2;refine⟨kp1.trans kp2,f2,A2,β2,⟨k1.fr.trans m0,fun φ T w a hf hr hT hfr Q hQ=>?_⟩,k2.trans m2 kp2.w,m3,m4⟩;rw [rounds_succ];refine k1.run φ T w a hf hr (hT.left m0) (bz hfr m0.next) _ fun φ' w' a' e hp hf' he=>?_;cases he;exact m1 φ' _ w' a' hf' hp.rel (bh hT) (ba hfr k1.fr.next hp) Q fun φ2 w2 a2 e hp2 hf2 hx2=>hQ φ2 w2 a2 e (hp.trans k1.fr.next m0 hp2) hf2 hx2
  ·rename_i hne;injection h2 with h2; injection h2 with e1 e2; injection e2 with e2 e3;subst e1; subst e2; subst e3;refine⟨kp1,f1,A1,β1,⟨k1.fr,fun φ T w a hf hr hT hfr Q hQ=>?_⟩,k2,k3,k4⟩;rw [rounds_succ];refine k1.run φ T w a hf hr hT hfr _ fun φ' w' a' e hp hf' he=>?_;have:=hQ φ' w' a' e hp hf' he;cases x1 with
   | normal=>exact absurd rfl hne
   | exit id=>cases he; exact this
   | ret=>cases he; exact this
theorem cS {l:List Tmp}{t:Nat} (h:(bj l).testBit t=true):t∈l:=by
 induction l with
 | nil=>rw [show bj []=0 from rfl,Nat.zero_testBit] at h; cases h
 | cons x l ih=>
  have h':(bj l ||| (1 <<< x)).testBit t=true:=h;rcases dX h' with h | rfl
  ·exact List.mem_cons_of_mem _ (ih h)
  ·exact List.mem_cons_self
theorem sX (n c l x:Nat):(dC n c l).testBit x=true↔(n≤x∧c.testBit (x - n)=true)∨l.testBit x=true:=by
 have e:dC n c l=(c <<< n) ||| l:=rfl
 rw [e,Nat.testBit_or,Nat.testBit_shiftLeft,Bool.or_eq_true,Bool.and_eq_true,decide_eq_true_iff]
theorem uF {a b:Nat} (h:∀x,a.testBit x=true→b.testBit x=true→False):Nat.beq (Nat.land a b) 0=true:=by
 have:Nat.land a b=0:=by
  apply Nat.eq_of_testBit_eq;intro x;show (a &&& b).testBit x=_;rw [Nat.testBit_and,Nat.zero_testBit];cases h1:a.testBit x with
  | false=>rfl
  | true=>cases h2:b.testBit x with
   | false=>rfl
   | true=>exact (h x h1 h2).elim
 rw [this]; rfl
theorem FQ {r w r' w':Nat} (h1:∀x,w.testBit x=true→r'.testBit x=true→False) (h2:∀x,w.testBit x=true→w'.testBit x=true→False) (h3:∀x,w'.testBit x=true→r.testBit x=true→False):tC r w r' w'=true:=by
 unfold tC;rw [Bool.and_eq_true];refine⟨uF fun x a b=>?_,uF h3⟩;have b':(r' ||| w').testBit x=true:=b;rw [Nat.testBit_or,Bool.or_eq_true] at b';exact b'.elim (h1 x a) (h2 x a)
structure Rj (β:Nat→Nat) (n next:Nat) (E:gy) (a b lo hi cr cw:Nat):Prop where
 ab:a≤b
 bn:b≤n
 lh:lo≤hi
 hn:hi≤next
 r:∀c,cr.testBit c=true→(∃k∈E.rd,k < a∧β k=c)∨(E.li=true∧c < lo∧∀k,k < a→β k≠c)∨(lo≤c∧c < hi)∨(E.ca=true∧c < hi)
 w:∀c,cw.testBit c=true→(∃k∈E.wr,k < a∧β k=c)∨(lo≤c∧c < hi)
 new:E.ca=false→∀c,lo≤c→c < hi→cr.testBit c=true∨cw.testBit c=true→∃k,a≤k∧k < b∧β k=c
 low:∀k,k < a→β k < lo
 mid:∀k,a≤k→k < b→lo≤β k∧β k < hi
 top:∀k,b≤k→k < n→hi≤β k
theorem Rj.mono {β β':Nat→Nat}{n n' next next':Nat}{E:gy}{a b lo hi cr cw:Nat} (h:Rj β n next E a b lo hi cr cw) (he:∀k,k < n→β' k=β k) (hn:n≤n') (hx:next≤next') (hnew:∀k,n≤k→k < n'→next≤β' k):Rj β' n' next' E a b lo hi cr cw:=by
 have hab:=h.ab;have hbn:=h.bn;have hhn:=h.hn;refine⟨h.ab,by omega,h.lh,by omega,fun c hc=>?_,fun c hc=>?_,fun hca c c1 c2 hc=>?_,fun k hk=>?_,fun k h1 h2=>?_,fun k h1 h2=>?_⟩
 ·rcases h.r c hc with ⟨k,k1,k2,k3⟩ | ⟨h1,h2,h3⟩ | h1
  ·exact .inl ⟨k,k1,k2,by rw [he k (by omega)]; exact k3⟩
  ·exact .inr (.inl ⟨h1,h2,fun k hk=>by rw [he k (by omega)]; exact h3 k hk⟩)
  ·exact .inr (.inr h1)
 ·rcases h.w c hc with ⟨k,k1,k2,k3⟩ | h1
  ·exact .inl ⟨k,k1,k2,by rw [he k (by omega)]; exact k3⟩
  ·exact .inr h1
 ·obtain⟨k,k1,k2,k3⟩:=h.new hca c c1 c2 hc;exact⟨k,k1,k2,by rw [he k (by omega)]; exact k3⟩
 ·rw [he k (by omega)]; exact h.low k hk
 ·rw [he k (by omega)]; exact h.mid k h1 h2
 ·by_cases hk:k < n
  ·rw [he k hk]; exact h.top k h1 hk
  ·have:=hnew k (by omega) h2; omega
theorem DV {A B:AS}{β β':Nat→Nat}{n n':Nat}{E F:gy}{a b lo hi cr cw:Nat} (h:Rj β n A.next E a b lo hi cr cw) (m:y7 (bY A) B β β' n n' F) (hlt:∀k,k < n→β k < A.next) (hinj:∀j k,j < n→k < n→β j=β k→j=k) (hp:az E a b F) (c:Nat) :
  (cw.testBit c=true→B.r.testBit c=true→False)∧(cw.testBit c=true→B.w.testBit c=true→False)∧(B.w.testBit c=true→cr.testBit c=true→False):=by
 obtain⟨p1,p2,p3,p4,p5,p6,p7⟩:=hp;have hab:=h.ab;have hbn:=h.bn;have hhn:=h.hn;have hnx:(bY A).next=A.next:=dK A;have hr0:(bY A).r=0:=by rw [bZ]
 have hw0:(bY A).w=0:=by rw [bZ]
 have Br:∀c,B.r.testBit c=true→(∃k∈F.rd,k < n∧β k=c)∨(F.li=true∧c < A.next∧∀k,k < n→β k≠c)∨A.next≤c∨F.ca=true:=fun c hc=>by
  rcases m.r c hc with h | h | ⟨h1,h2⟩ | ⟨h1,_⟩ | ⟨h1,_⟩
  ·rw [hr0,Nat.zero_testBit] at h; cases h
  ·exact .inl h
  ·exact .inr (.inl ⟨h1,by rw [← hnx]; exact h2.1,h2.2⟩)
  ·exact .inr (.inr (.inl (by omega)))
  ·exact .inr (.inr (.inr h1))
 have Bw:∀c,B.w.testBit c=true→(∃k∈F.wr,k < n∧β k=c)∨A.next≤c:=fun c hc=>by
  rcases m.w c hc with h | h | ⟨h1,_⟩
  ·rw [hw0,Nat.zero_testBit] at h; cases h
  ·exact .inl h
  ·exact .inr (by omega)
 have off:∀k,k < n→(k < a∨b≤k)→¬ (lo≤β k∧β k < hi):=fun k hk hh hc=>by
  rcases hh with h1 | h1
  ·have:=h.low k h1; omega
  ·have:=h.top k h1 hk; omega
 refine⟨fun hc hr=>?_,fun hc hw=>?_,fun hw hc=>?_⟩
 ·rcases h.w c hc with ⟨k,k1,k2,rfl⟩ | ⟨c1,c2⟩
  ·rcases Br _ hr with ⟨k',j1,j2,j3⟩ | ⟨_,_,j⟩ | j | j
   ·have:=hinj k' k j2 (by omega) j3; subst this; exact (p1 _ k1).1 j1
   ·exact j k (by omega) rfl
   ·have:=hlt k (by omega); omega
   ·rw [(p6 j).1] at k1; cases k1
  ·rcases Br _ hr with ⟨k',j1,j2,rfl⟩ | ⟨j0,_,j⟩ | j | j
   ·exact off k' j2 (p2 _ j1) ⟨c1,c2⟩
   ·cases hca:E.ca with
    | true=>exact p4 ⟨hca,j0⟩
    | false=>
     obtain⟨k,k1,k2,k3⟩:=h.new hca c c1 c2 (.inr hc);exact j k (by omega) k3
   ·omega
   ·obtain⟨_,q2,q3⟩:=p6 j;obtain⟨k,k1,k2,_⟩:=h.new q3 c c1 c2 (.inr hc);omega
 ·rcases h.w c hc with ⟨k,k1,k2,rfl⟩ | ⟨c1,c2⟩
  ·rcases Bw _ hw with ⟨k',j1,j2,j3⟩ | j
   ·have:=hinj k' k j2 (by omega) j3; subst this; exact (p1 _ k1).2 j1
   ·have:=hlt k (by omega); omega
  ·rcases Bw _ hw with ⟨k',j1,j2,rfl⟩ | j
   ·exact off k' j2 (p3 _ j1) ⟨c1,c2⟩
   ·omega
 ·rcases Bw _ hw with ⟨k',j1,j2,rfl⟩ | j
  ·rcases h.r _ hc with ⟨k,k1,k2,k3⟩ | ⟨_,q1,q2⟩ | ⟨c1,c2⟩ | ⟨q1,q2⟩
   ·have:=hinj k k' (by omega) j2 k3; subst this; exact p5 _ j1 k1
   ·rcases Nat.lt_or_ge k' a with hk | hk
    ·exact q2 k' hk rfl
    ·rcases Nat.lt_or_ge k' b with hk2 | hk2
     ·have:=(h.mid k' hk hk2).1; omega
     ·have h1:=h.top k' hk2 j2;have h2:=h.lh;omega
   ·exact off k' j2 (p3 _ j1) ⟨c1,c2⟩
   ·have:=h.top k' (p7 q1 k' j1) j2; omega
  ·rcases h.r _ hc with ⟨k,k1,k2,k3⟩ | ⟨_,q1,q2⟩ | ⟨c1,c2⟩ | ⟨q1,q2⟩
   ·have:=hlt k (by omega); omega
   ·have:=h.lh; omega
   ·omega
   ·omega
theorem zW {f:Fr}{ls:List Nat} (t:Nat):((fk ls f).tmps.get t)=if t∈ls then f.tmps.get t else none:=by
 obtain⟨tm,n,ds⟩:=f;have:(fk ls ⟨tm,n,ds⟩).tmps=l8 tm ls:=by
  show (cG (l8 tm ls) fun t=>(⟨t,n,[]⟩ : Fr)).tmps=_;rw [bX]
 rw [this];exact uZ tm ls (fun _ _=>.inl trivial) t
theorem Kg {A:AS}{β:Nat→Nat}{n nt:Nat}{f:Fr}{p:aE} (h:RF ds A β n nt f p) (ls:List Nat):RF [] A β n nt (fk ls f) (cR ls p):=by
 have hn:(fk ls f).n=f.n∧(fk ls f).defers=[]:=by
  obtain⟨tm,n,ds⟩:=f;show (cG (l8 tm ls) fun t=>(⟨t,n,[]⟩ : Fr)).n=n∧(cG (l8 tm ls) fun t=>(⟨t,n,[]⟩ : Fr)).defers=[]
  rw [bX]; exact⟨rfl,rfl⟩
 refine⟨hn.1.trans h.num,h.few,hn.2,fun j=>?_⟩;rw [zW];unfold cR;by_cases hj:j∈ls
 ·rw [if_pos hj,if_pos hj]; exact h.tmp j
 ·rw [if_neg hj,if_neg hj]; exact .cl _ _ (.sc _ rfl)
theorem RC.hp {A A':AS}{β:Nat→Nat}{n:Nat} (h1:A'.heap=A.heap) (h2:A'.next=A.next) {x:Value × PV ⊕ List Value × List PV} (h:RC A β n x):RC A' β n x:=by
 have hp:∀c,fW A β n c→fW A' β n c:=fun c hc=>⟨by rw [h2]; exact hc.1,hc.2⟩
 induction h with
 | sc v h=>exact .sc v h
 | fn g=>exact .fn g
 | lit b off m' cap e cs cells c st hg hpr hl hm' _ ih=>exact .lit b off m' cap e cs cells c st (by rw [h1]; exact hg) (hp _ hpr) hl hm' ih
 | litp b off e cs cells c st hg hpr hl _ ih=>exact .litp b off e cs cells c st (by rw [h1]; exact hg) (hp _ hpr) hl ih
 | litx b off m' e cs cells c st hg hpr hl _ ih=>exact .litx b off m' e cs cells c st (by rw [h1]; exact hg) (hp _ hpr) hl ih
 | agg xs cs _ ih=>exact .agg xs cs ih
 | nil=>exact .nil
 | cons v p l r _ _ ih ihs=>exact .cons v p l r ih ihs
theorem RV.hp {A A':AS}{β:Nat→Nat}{n:Nat} (h1:A'.heap=A.heap) (h2:A'.next=A.next) {x:Value × PV ⊕ List Value × List PV} (h:RV A β n x):RV A' β n x:=by
 induction h with
 | cl v p h=>exact .cl v p (h.hp h1 h2)
 | fn g xs ys as bs _ _ h h'=>exact .fn g xs ys as bs h h'
 | agg xs cs _ ih=>exact .agg xs cs ih
 | tup xs cs _ ih=>exact .tup xs cs ih
 | own b o k off m fin cap e cells st ok hk hg ho hf hm=>exact .own b o k off m fin cap e cells st ok hk (by rw [h1]; exact hg) ho hf hm
 | ptr b o k off fin e cells st ok hk hg ho hf=>exact .ptr b o k off fin e cells st ok hk (by rw [h1]; exact hg) ho hf
 | ownx b o k off m fin e cells st ok hk hg ho hf=>exact .ownx b o k off m fin e cells st ok hk (by rw [h1]; exact hg) ho hf
 | nil=>exact .nil
 | cons v p l r _ _ ih ihs=>exact .cons v p l r ih ihs
theorem RS.hp {A A':AS}{β:Nat→Nat}{s:PS} (h1:A'.heap=A.heap) (h2:A'.next=A.next) (h3:A'.fz=A.fz) (h:RS A β s):RS A' β s:=by
 refine⟨fun k hk=>?_,h.inj,fun x hx=>by rw [h1,h3]; exact⟨(h.lay x hx).1,⟨by rw [h2]; exact (h.lay x hx).2.1.1,(h.lay x hx).2.1.2⟩,(h.lay x hx).2.2⟩⟩;have hb:=h.blk k hk;exact⟨by rw [h1]; exact hb.cur,fun x cells e st ok hg=>by
  rw [h1] at hg;obtain⟨a1,a2,a3⟩:=hb.all x cells e st ok hg;exact⟨a1,a2,fun hl=>⟨(a3 hl).1,(a3 hl).2.hp h1 h2⟩⟩,by rw [h1]; exact hb.uni,by rw [h1]; exact hb.low,by rw [h3]; exact hb.fz,by rw [h2]; exact hb.lt,by rw [h1]; exact hb.z⟩
theorem RF.hp {A A':AS}{β:Nat→Nat}{n nt:Nat}{f:Fr}{p:aE} (h1:A'.heap=A.heap) (h2:A'.next=A.next) (h:RF ds A β n nt f p):RF ds A' β n nt f p:=⟨h.num,h.few,h.df,fun j=>(h.tmp j).hp h1 h2⟩
theorem H7 {A:AS}{β:Nat→Nat}{s:PS} (h:RS A β s):RS (bY A) β s:=h.hp (by rw [bZ]) (by rw [bZ]) (by rw [bZ])
theorem IS {A B:AS}{β β':Nat→Nat}{n n' lo:Nat} (h:Fw (bY A) B β β' n n' lo):Fw A (g8 A B) β β' n n' lo:=by
 rw [bZ] at h;rw [fL];refine⟨h.le,h.next,h.eq,h.new,h.prot,h.keep,fun c hc hw=>?_⟩;rw [Nat.testBit_or,Bool.or_eq_true] at hw;rcases hw with hw | hw
 ·rcases h.w c hc hw with h1 | h1
  ·simp only [Nat.zero_testBit] at h1; cases h1
  ·exact .inr h1
 ·exact .inl hw
theorem Lv {A B:AS}{β:Nat→Nat}{s:PS} (h:RS B β s):RS (g8 A B) β s:=h.hp (by rw [fL]) (by rw [fL]) (by rw [fL])
def Gv (nt:Nat) (sacc:List (Nat × List Nat × Option Nat)) (pacc:List (Nat × gy × Nat × Nat)) (β:Nat→Nat) (n next:Nat) (rest:List (List Nat × List Nat)) (acc:List Fp):Prop:=
 ∀e∈acc,(∃ls d,(e.j,ls,d)∈sacc∧∀x∈rest,e.j ∉ x.2)∨∃ls d E a b lo hi cr cw,(e.j,ls,d)∈sacc∧(e.j,E,a,b)∈pacc∧e.r=dC nt cr (bj ls)∧e.w=dC nt cw (bj d.toList)∧(∀t∈ls,t < nt)∧(∀t∈d.toList,t < nt)∧Rj β n next E a b lo hi cr cw
theorem oG:∀{l:List PI}{r:List (List Nat × List Nat)},l.length=r.length→∀x∈r,∃i,(i,x.1,x.2)∈lR l r
 | [],[],_,x,hx=>by cases hx
 | [],_ :: _,h,_,_=>by cases h
 | _ :: _,[],h,_,_=>by cases h
 | i :: l,y :: r,h,x,hx=>by
  rcases List.mem_cons.1 hx with rfl | hx
  ·exact⟨i,List.mem_cons_self⟩
  ·obtain⟨i',hi'⟩:=oG (l:=l) (r:=r) (by simpa using h) x hx;exact⟨i',List.mem_cons_of_mem _ hi'⟩
theorem uX {nt:Nat}{ops:List Oper} : ∀{lo:List Oper}{l:List PI},dU P nt ops lo=some l→l.length=lo.length:=by
 intro lo
 induction lo with
 | nil=>intro l h; simp only [dU] at h; injection h with h; subst h; rfl
 | cons o lo ih=>
  intro l h;simp only [dU] at h;split at h
  ·rename_i i r h1 h2;injection h with h; subst h;simp [ih h2]
  ·cases h
theorem rX {nt:Nat}{ops:Array Oper} : ∀{lo:List Oper}{j:Nat}{bs:Tr Nat}{acc:List (Nat × List Nat × Option Nat)}{r:List (List Nat × List Nat)},dS nt ops lo j bs acc=some r→r.length=lo.length:=by
 intro lo
 induction lo with
 | nil=>intro j bs acc r h; simp only [dS] at h; injection h with h; subst h; rfl
 | cons o lo ih=>
  intro j bs acc r h;simp only [dS] at h;split at h
  ·split at h
   ·rename_i r' h2;injection h with h; subst h;simp [ih h2]
   ·cases h
  ·cases h
theorem s7 (hE:lW P) (hO:be P) {pu:Nat→Bool}{call:aw} (hC:bM P pu call) {ops:Array Oper}{nt:Nat} : ∀(lo:List Oper) (l:List PI) (r:List (List Nat × List Nat)) (j:Nat) (bs:Tr Nat) (sacc:List (Nat × List Nat × Option Nat)) (pacc:List (Nat × gy × Nat × Nat)) (acc:List Fp) {f:Fr}{A:AS}{β:Nat→Nat}{p p':aE}{s s':PS},
  dU P nt ops.toList lo=some l→dS nt ops lo j bs sacc=some r→j4 P pu call (lR l r) j pacc p s=some (p',s')→bE A→RS A β s→RF ds A β s.n nt f p→Gv nt sacc pacc β s.n A.next r acc→
  Kp s s'∧∃X:Nat→EI,(X j).f=f∧(X j).s=A∧(X j).bs=bs∧(X j).acc=acc∧(∀i o,lo[i]?=some o→EvL.Px P (fun _ _ _=>none) ops X (j + i) o∧jJ P ops o (fk (o.looksAt ops) (X (j + i)).f) (bY (X (j + i)).s) (X (j + i)).g (X (j + i)).B)∧
   ∃β',Fw A (X (j + lo.length)).s β β' s.n s'.n s'.w∧RS (X (j + lo.length)).s β' s'∧RF ds (X (j + lo.length)).s β' s'.n nt (X (j + lo.length)).f p':=by
 intro lo
 induction lo with
 | nil=>
  intro l r j bs sacc pacc acc f A β p p' s s' hl hr h hi hs hf hacc;simp only [dU] at hl;injection hl with hl; subst hl;simp only [dS] at hr;injection hr with hr; subst hr;simp only [lR,j4] at h;injection h with h; injection h with e1 e2; subst e1; subst e2;exact⟨.refl s,fun _=>⟨f,A,f,A,bs,acc⟩,rfl,rfl,rfl,rfl,fun i o hh=>by simp at hh,β,.refl A β s.n _,hs,hf⟩
 | cons o lo ih=>
  intro l r j bs sacc pacc acc f A β p p' s s' hl hr h hi hs hf hacc;simp only [dU] at hl;split at hl
  ·rename_i i l' hi' hl';injection hl with hl; subst hl;simp only [dS] at hr;split at hr
   ·rename_i hst;simp only [Bool.and_eq_true] at hst;obtain⟨t1,t2,t3,t4,t5⟩:=hst;split at hr
    ·rename_i r' hr';injection hr with hr; subst hr;simp only [lR,j4,Option.bind_eq_some_iff] at h;obtain⟨⟨g,s1⟩,h1,h2⟩:=h;simp only at h2;split at h2
     ·rename_i hok;obtain⟨hpu,hall⟩:=hok;obtain⟨kp1,gf,B,β1,k1,k2,k3,k4,k5,k6⟩:=rG hE hO hC hi' (qa hi) (H7 hs) ((Kg hf (o.looksAt ops)).hp (A':=bY A) (by rw [bZ]) (by rw [bZ])) h1;have hlen:l'.length=r'.length:=(uX hl').trans (rX hr').symm;have hcase:aS pu (cR (o.looksAt ops) p) i=true∨((sacc.filter fun p=>!((du bs o.after.toList).testBit p.1)).map (·.1)=[]∧∀x∈r',j ∉ x.2):=by
       refine hpu.imp id fun hb=>?_;unfold mX at hb;simp only [Bool.and_eq_true,List.isEmpty_iff,List.all_eq_true,Bool.not_eq_true',List.contains_eq_mem,decide_eq_false_iff_not] at hb;refine⟨hb.1,fun x hx=>?_⟩;obtain⟨i',hi'⟩:=oG hlen x hx;exact hb.2 _ hi'
      have hdst:i.dst=o.dst:=by
       unfold jb at hi';split at hi'
       ·split at hi'
        ·injection hi' with hi'; rw [← hi']
        ·cases hi'
       ·cases hi'
      have hdn:Gq nt o.dst=true:=by
       unfold jb at hi';split at hi'
       ·split at hi'
        ·assumption
        ·cases hi'
       ·cases hi'
      have hfB:RF ds B β1 s1.n nt f p:=((hf.hp (A':=bY A) (by rw [bZ]) (by rw [bZ])).mono k2)
      obtain⟨f1,m1,m2⟩ : ∃f1,gU f o.dst gf=some f1∧RF ds B β1 s1.n nt f1 (I4 p i.dst g):=by
       unfold gU;rw [k4.df];simp only;cases hd:o.dst with
       | none=>
        refine⟨f,rfl,?_⟩;rw [hdst,hd];exact hfB
       | some d=>
        rw [hd] at hdn;obtain⟨f1,q1,q2⟩:=hfB.set (d:=some d) hdn (k4.tmp d);refine⟨f1,q1,?_⟩;rw [hdst,hd];exact q2
      have hnx:(bY A).next=A.next:=dK A;have hjn:(g8 A B).next=B.next:=i6 A B;have hlt:∀k,k < s.n→β k < A.next:=fun k hk=>(hs.blk k hk).lt;have t4':∀t∈o.looksAt ops,t < nt:=fun t ht=>by
       rw [List.all_eq_true] at t4;exact Nat.lt_of_succ_le (Nat.le_of_ble_eq_true (t4 t ht))
      have hdt:∀t∈o.dst.toList,t < nt:=fun t ht=>by
       cases hd:o.dst with
       | none=>rw [hd] at ht; cases ht
       | some d=>
        rw [hd] at ht hdn;simp only [Option.toList_some,List.mem_singleton] at ht;subst ht;exact Nat.lt_of_succ_le (Nat.le_of_ble_eq_true hdn)
      have hclear:kE (du bs o.after.toList) (dC f1.n B.r (bj (o.looksAt ops))) (dC f1.n B.w (bj o.dst.toList)) acc=true:=by
       unfold kE;rw [List.all_eq_true];intro e he;rw [Bool.or_eq_true];cases hb:(du bs o.after.toList).testBit e.j with
       | true=>exact .inr rfl
       | false=>
        left;have hin:∀ls dd,(e.j,ls,dd)∈sacc→e.j∈(sacc.filter fun p=>!((du bs o.after.toList).testBit p.1)).map (·.1):=fun ls dd x1=>List.mem_map.2 ⟨_,List.mem_filter.2 ⟨x1,by simp only [hb]; rfl⟩,rfl⟩;rcases hacc e he with ⟨ls,dd,x1,x2⟩ | ⟨ls,dd,E,a,b,lo',hi2,cr,cw,x1,x2,x3,x4,x5,x6,x7⟩
        ·exact absurd (hin _ _ x1) (x2 _ List.mem_cons_self)
        have hpur:aS pu (cR (o.looksAt ops) p) i=true:=hcase.resolve_right fun h=>by have:=hin _ _ x1; rw [h.1] at this; cases this
        have k5':=k5 hpur;have hmem:(e.j,ls,dd)∈sacc.filter fun p=>!((du bs o.after.toList).testBit p.1):=List.mem_filter.2 ⟨x1,by simp only [hb]; rfl⟩;have hsl:=(List.all_eq_true.1 t5) _ hmem;unfold rL at hsl;simp only [Bool.and_eq_true,List.all_eq_true,Bool.not_eq_true',List.contains_eq_mem,decide_eq_false_iff_not] at hsl;have hop:az E a b (mV (cR (o.looksAt ops) p) i):=hall _ x2 (List.mem_map.2 ⟨_,hmem,rfl⟩);have hap:=DV x7 k5' hlt hs.inj hop;rw [x3,x4,m2.num];refine FQ (fun x a1 a2=>?_) (fun x a1 a2=>?_) (fun x a1 a2=>?_)
        ·rw [sX] at a1 a2;rcases a1 with ⟨b1,b2⟩ | b1<;>rcases a2 with ⟨c1,c2⟩ | c1
         ·exact (hap (x - nt)).1 b2 c2
         ·exact Nat.lt_irrefl _ (Nat.lt_of_lt_of_le (t4' x (cS c1)) b1)
         ·exact Nat.lt_irrefl _ (Nat.lt_of_lt_of_le (x6 x (cS b1)) c1)
         ·exact (hsl.1 x (cS b1)).1 (cS c1)
        ·rw [sX] at a1 a2;rcases a1 with ⟨b1,b2⟩ | b1<;>rcases a2 with ⟨c1,c2⟩ | c1
         ·exact (hap (x - nt)).2.1 b2 c2
         ·exact Nat.lt_irrefl _ (Nat.lt_of_lt_of_le (hdt x (cS c1)) b1)
         ·exact Nat.lt_irrefl _ (Nat.lt_of_lt_of_le (x6 x (cS b1)) c1)
         ·exact (hsl.1 x (cS b1)).2 (cS c1)
        ·rw [sX] at a1 a2;rcases a1 with ⟨b1,b2⟩ | b1<;>rcases a2 with ⟨c1,c2⟩ | c1
         ·exact (hap (x - nt)).2.2 b2 c2
         ·exact Nat.lt_irrefl _ (Nat.lt_of_lt_of_le (x5 x (cS c1)) b1)
         ·exact Nat.lt_irrefl _ (Nat.lt_of_lt_of_le (hdt x (cS b1)) c1)
         ·exact hsl.2 x (cS b1) (cS c1)
      have hacc':Gv nt ((j,o.looksAt ops,o.dst) :: sacc) ((j,mV (cR (o.looksAt ops) p) i,s.n,s1.n) :: pacc) β1 s1.n (g8 A B).next r' (⟨j,dC f1.n B.r (bj (o.looksAt ops)),dC f1.n B.w (bj o.dst.toList)⟩ :: acc):=by
       intro e he;rcases List.mem_cons.1 he with rfl | he
       ·rcases hcase with hpur | ⟨_,hbar⟩
        case inr=>exact .inl ⟨_,_,List.mem_cons_self,hbar⟩
        have k5':=k5 hpur;refine .inr ⟨o.looksAt ops,o.dst,_,s.n,s1.n,A.next,B.next,B.r,B.w,List.mem_cons_self,List.mem_cons_self,by rw [m2.num],by rw [m2.num],t4',hdt,?_⟩;have hr0:(bY A).r=0:=by rw [bZ]
        have hw0:(bY A).w=0:=by rw [bZ]
        refine⟨k2.le,Nat.le_refl _,by have:=k2.next; omega,by omega,fun c hc=>?_,fun c hc=>?_,fun hca c c1 c2 hc=>?_,fun k hk=>?_,fun k b1 b2=>⟨?_,?_⟩,fun k b1 b2=>by omega⟩
        ·rcases k5'.r c hc with h | ⟨k,y1,y2,y3⟩ | ⟨y1,y2⟩ | ⟨y1,y2⟩ | ⟨y1,y2⟩
         ·rw [hr0,Nat.zero_testBit] at h; cases h
         ·exact .inl ⟨k,y1,y2,by rw [k2.eq k y2]; exact y3⟩
         ·exact .inr (.inl ⟨y1,by have:=y2.1; omega,fun k hk=>by rw [k2.eq k hk]; exact y2.2 k hk⟩)
         ·exact .inr (.inr (.inl ⟨by omega,y2⟩))
         ·exact .inr (.inr (.inr ⟨y1,y2⟩))
        ·rcases k5'.w c hc with h | ⟨k,y1,y2,y3⟩ | ⟨y1,y2⟩
         ·rw [hw0,Nat.zero_testBit] at h; cases h
         ·exact .inl ⟨k,y1,y2,by rw [k2.eq k y2]; exact y3⟩
         ·exact .inr ⟨by omega,y2⟩
        ·obtain⟨n1,n2⟩:=k5'.new hca c (by omega) c2;rcases hc with hc | hc
         ·rcases n1 hc with h | h
          ·rw [hr0,Nat.zero_testBit] at h; cases h
          ·exact h
         ·rcases n2 hc with h | h
          ·rw [hw0,Nat.zero_testBit] at h; cases h
          ·exact h
        ·rw [k2.eq k hk]; exact hlt k hk
        ·have:=k2.new k b1 b2; omega
        ·exact (k3.blk k b2).lt
       ·rcases hacc e he with ⟨ls,dd,x1,x2⟩ | ⟨ls,dd,E,a,b,lo',hi2,cr,cw,x1,x2,x3,x4,x5,x6,x7⟩
        ·exact .inl ⟨ls,dd,List.mem_cons_of_mem _ x1,fun x hx=>x2 x (List.mem_cons_of_mem _ hx)⟩
        exact .inr ⟨ls,dd,E,a,b,lo',hi2,cr,cw,List.mem_cons_of_mem _ x1,List.mem_cons_of_mem _ x2,x3,x4,x5,x6,x7.mono k2.eq k2.le (by have:=k2.next; omega) (fun k b1 b2=>by have:=k2.new k b1 b2; omega)⟩
      have hinvJ:bE (g8 A B):=(wG k1.fr).inv;have hfJ:RF ds (g8 A B) β1 s1.n nt f1 (I4 p i.dst g):=m2.hp (by rw [fL]) (by rw [fL]);obtain⟨kp2,X,e1,e2,e3,e4,e7,β',w1,w2,w3⟩:=ih l' r' (j + 1) _ _ _ (⟨j,dC f1.n B.r (bj (o.looksAt ops)),dC f1.n B.w (bj o.dst.toList)⟩ :: acc) hl' hr' h2 hinvJ (Lv k3) hfJ hacc';obtain⟨Y,hYj,hY⟩ : ∃Y:Nat→EI,Y j=⟨f,A,gf,B,bs,acc⟩∧∀i,Y (j + 1 + i)=X (j + 1 + i):=
       ⟨fun n=>if n=j then ⟨f,A,gf,B,bs,acc⟩ else X n,if_pos rfl,fun i=>if_neg (by omega)⟩
      have hlast:Y (j + (o :: lo).length)=X (j + 1 + lo.length):=by rw [List.length_cons,show j + (lo.length + 1)=j + 1 + lo.length by omega,hY]
      refine⟨kp1.trans kp2,Y,by rw [hYj],by rw [hYj],by rw [hYj],by rw [hYj],fun i' o' hi''=>?_,β',?_,?_,?_⟩
      ·cases i' with
       | zero=>
        simp at hi'';subst hi'';have h0:Y (j + 1)=X (j + 1):=hY 0;rw [Nat.add_zero];refine⟨⟨?_,?_,?_,t1,Nat.lt_of_succ_le (Nat.le_of_ble_eq_true t2),t3,?_,?_,?_⟩,?_⟩
        ·rw [hYj]; exact .inr ⟨k1,k6⟩
        ·rw [hYj,h0,e1]; exact m1
        ·rw [hYj,h0,e2]
        ·rw [hYj,h0,e3]
        ·rw [hYj,h0,e4,e1]
        ·rw [hYj,h0,e1]; exact hclear
        ·rw [hYj]; exact k1
       | succ i'=>
        obtain⟨hg,hso⟩:=e7 i' o' (by simpa using hi'');have h0:=hY i';have h1:=hY (i' + 1);rw [show j + (i' + 1)=j + 1 + i' by omega];obtain⟨a1,a2,a3,a4,a5,a9,a6,a7,a8⟩:=hg;rw [show j + 1 + (i' + 1)=j + 1 + i' + 1 by omega] at h1;refine⟨⟨?_,?_,?_,a4,a5,a9,?_,?_,?_⟩,?_⟩<;>simp only [h0,h1]<;>assumption
      ·rw [hlast]; exact (IS k2).trans w1 kp2.w
      ·rw [hlast]; exact w2
      ·rw [hlast]; exact w3
     ·cases h2
    ·cases hr
   ·cases hr
  ·cases hl
theorem Ky (hE:lW P) (hO:be P) (hm:P.follows .mixedOrders=true) {pu:Nat→Bool}{call:aw} (hC:bM P pu call) {ops:Array Oper}{nt:Nat} (id:Nat) {l:List PI}{r:List (List Nat × List Nat)} (hl:dU P nt ops.toList ops.toList=some l) (hr:dS nt ops ops.toList 0 .nil []=some r)
  {f:Fr}{A:AS}{β:Nat→Nat}{p p':aE}{s s':PS} (hi:bE A) (hs:RS A β s) (hf:RF ds A β s.n nt f p) (h:j4 P pu call (lR l r) 0 [] p s=some (p',s')) :
  Kp s s'∧∃f' A' β',gE P (.region id ops true) f A (xt .normal) f' A'∧Fw A A' β β' s.n s'.n s'.w∧RS A' β' s'∧RF ds A' β' s'.n nt f' p':=by
 obtain⟨kp,X,e1,e2,e3,e4,e7,β',w1,w2,w3⟩:=s7 hE hO hC ops.toList l r 0 .nil [] [] [] hl hr h hi hs hf (fun e he=>by cases he);simp only [Nat.zero_add,Array.length_toList] at e7 w1 w2 w3;have W:EvL.mT P (fun _ _ _=>none) ops X:=⟨e3,e4,fun i o ho=>(e7 i o (by simpa using ho)).1⟩
 have H:EvL.iZ P ops X:=⟨fun i hi=>by
  obtain⟨o,ho⟩:=j6 hi;exact (e7 i o (by simpa using ho)).2.fr,fun i o ho=>(e7 i o (by simpa using ho)).2⟩
 have hc:=TY hm W H (by rw [e2]; exact hi) id;rw [e1,e2] at hc;exact⟨kp,_,_,β',hc,w1,w2,w3⟩
theorem Cg (hE:lW P) (hO:be P) (hm:P.follows .mixedOrders=true) {pu:Nat→Bool}{call:aw} (hC:bM P pu call) {L nt:Nat} : ∀(c:Code) (pc:aR),comp P nt c=some pc→iY P nt c (cx P pu call L pc):=by
 intro c
 induction c with
 | skip=>
  intro pc h ds A β f p p' s s' x hi hs hf hr;simp only [comp] at h;injection h with h; subst h;simp only [cx] at hr;injection hr with hr; injection hr with e1 e2; injection e2 with e2 e3; subst e1; subst e2; subst e3;exact⟨.refl s,f,A,β,eR hi fun φ a w Q hQ=>wp_skip (hQ _ .normal),.refl A β s.n _,hs,hf⟩
 | region id ops draw=>
  intro pc h ds A β f p p' s s' x hi hs hf hr;cases draw with
  | true=>
   simp only [comp] at h;split at h
   ·rename_i l r h1 h2;injection h with h; subst h;simp only [cx,Option.map_eq_some_iff] at hr;obtain⟨⟨p1,s1⟩,h3,he⟩:=hr;injection he with e1 e2; injection e2 with e2 e3; subst e1; subst e2; subst e3;exact Ky hE hO hm hC id h1 h2 hi hs hf h3
   ·cases h
  | false=>
   simp only [comp,Option.map_eq_some_iff] at h;obtain⟨r,h1,rfl⟩:=h;simp only [cx,Option.map_eq_some_iff] at hr;obtain⟨⟨p1,s1⟩,h2,he⟩:=hr;injection he with e1 e2; injection e2 with e2 e3; subst e1; subst e2; subst e3;obtain⟨kp,f',A',β',k1,k2⟩:=AC hE hO hC _ _ h1 hi hs hf h2;exact⟨kp,f',A',β',⟨k1.fr,fun φ T w a hf hr hT hfr Q hQ=>wp_region_list (k1.run φ T w a hf hr hT hfr Q hQ)⟩,k2⟩
 | seq a b iha ihb=>
  intro pc h;simp only [comp] at h;split at h
  ·rename_i pa pb ha hb;injection h with h; subst h;exact O4 (iha pa ha) (ihb pb hb)
  ·cases h
 | cond o a b iha ihb=>
  intro pc h;simp only [comp] at h;split at h
  ·rename_i pa pb ho ha hb;injection h with h; subst h;exact KE ho (iha pa ha) (ihb pb hb)
  ·cases h
 | block id b ih=>
  intro pc h;simp only [comp,Option.map_eq_some_iff] at h;obtain⟨pb,hb,rfl⟩:=h;exact Ht (ih pb hb)
 | loop b ih=>
  intro pc h ds A β f p p' s s' x hi hs hf hr;simp only [comp,Option.map_eq_some_iff] at h;obtain⟨pb,hb,rfl⟩:=h;simp only [cx] at hr;obtain⟨kp,f',A',β',⟨k0,k1⟩,k2⟩:=KQ (ih pb hb) L hi hs hf hr;exact⟨kp,f',A',β',⟨k0,fun φ T w a hf hr hT hfr Q hQ=>wp_loop_rounds L (k1 φ T w a hf hr hT hfr Q hQ)⟩,k2⟩
 | exit id=>
  intro pc h ds A β f p p' s s' x hi hs hf hr;simp only [comp] at h;injection h with h; subst h;simp only [cx] at hr;injection hr with hr; injection hr with e1 e2; injection e2 with e2 e3; subst e1; subst e2; subst e3;exact⟨.refl s,f,A,β,eR hi fun φ a w Q hQ=>wp_exit (hQ _ (.exit id)),.refl A β s.n _,hs,hf⟩
 | ret=>
  intro pc h ds A β f p p' s s' x hi hs hf hr;simp only [comp] at h;injection h with h; subst h;simp only [cx] at hr;injection hr with hr; injection hr with e1 e2; injection e2 with e2 e3; subst e1; subst e2; subst e3;exact⟨.refl s,f,A,β,eR hi fun φ a w Q hQ=>wp_ret (hQ _ .ret),.refl A β s.n _,hs,hf⟩
 | _=>
  intro pc h ds A β f p p' s s' x hi hs hf hr;simp only [comp] at h;injection h with h; subst h;simp only [cx] at hr;cases hr
end
section
variable {ds:List Deferred}{P:Program}
theorem Gm:∀(l:List PV) (i j:Nat),ej l i j=if i≤j∧j < i + l.length then l.getD (j - i) (.sc undef) else .sc undef:=by
 intro l
 induction l with
 | nil=>intro i j; rw [if_neg (by simp)]; rfl
 | cons v l ih=>
  intro i j;show (if j=i then v else ej l (i + 1) j)=_;simp only [List.length_cons];by_cases hj:j=i
  ·subst hj;rw [if_pos rfl,if_pos (by omega),Nat.sub_self];rfl
  ·rw [if_neg hj,ih];by_cases h1:i + 1≤j∧j < i + 1 + l.length
   ·rw [if_pos h1,if_pos (by omega),show j - i=(j - (i + 1)) + 1 by omega];rfl
   ·rw [if_neg h1,if_neg (by omega)]
theorem rz {A:AS}{β:Nat→Nat}{n:Nat}{fn:Func}{vs:List Value}{args:List PV} (h:Rs A β n vs args) (h1:fn.ntmps≤1000000) (h2:args.length≤fn.ntmps):RF [] A β n fn.ntmps (kX fn vs.toArray) (ej args 0):=by
 refine⟨rfl,h1,rfl,fun j=>?_⟩;have hl:=h.len;show R1 A β n (((nI vs.toArray.toList 0 .nil).get j).getD undef) _;rw [sP _ _ _ (by simp; omega),Gm];simp only [List.toList_toArray,Nat.zero_le,true_and,Nat.zero_add,Nat.sub_zero];by_cases hj:j < vs.length
 ·rw [if_pos hj,if_pos (by omega)];have hr:args[j]?=some (args[j]'(by omega)):=List.getElem?_eq_getElem (by omega);obtain⟨u,k1,k2⟩:=h.get hr;rw [k1,Option.getD_some,List.getD_eq_getElem?_getD,hr,Option.getD_some];exact k2
 ·rw [if_neg hj,if_neg (by omega),Tr.get_nil];exact .cl _ _ (.sc _ rfl)
theorem RC.cut {A:AS}{β:Nat→Nat}{n m:Nat} (hm:m≤n) {x:Value × PV ⊕ List Value × List PV} (h:RC A β n x):RC A β m x:=by
 have hp:∀c,fW A β n c→fW A β m c:=fun c hc=>⟨hc.1,fun k hk=>hc.2 k (Nat.lt_of_lt_of_le hk hm)⟩
 induction h with
 | sc v h=>exact .sc v h
 | fn g=>exact .fn g
 | lit b off m' cap e cs cells c st hg hpr hl hm' _ ih=>exact .lit b off m' cap e cs cells c st hg (hp _ hpr) hl hm' ih
 | litp b off e cs cells c st hg hpr hl _ ih=>exact .litp b off e cs cells c st hg (hp _ hpr) hl ih
 | litx b off m' e cs cells c st hg hpr hl _ ih=>exact .litx b off m' e cs cells c st hg (hp _ hpr) hl ih
 | agg xs cs _ ih=>exact .agg xs cs ih
 | nil=>exact .nil
 | cons v p l r _ _ ih ihs=>exact .cons v p l r ih ihs
theorem RV.cut {A A₀:AS}{β β₀:Nat→Nat}{n m:Nat} (hm:m≤n) {x:Value × PV ⊕ List Value × List PV} (h:RV A β n x) :
  (∀v p,x=.inl (v,p)→(∃u,R1 A₀ β₀ m u p)→R1 A β m v p)∧(∀l r,x=.inr (l,r)→(∃us,Rs A₀ β₀ m us r)→Rs A β m l r):=by
 induction h with
 | cl v p h=>exact⟨fun v' p' e _=>by injection e with e; injection e with e1 e2; subst e1; subst e2; exact .cl _ _ (h.cut hm),fun l r e=>by cases e⟩
 | fn g xs ys as bs _ _ ih ih'=>
  refine⟨fun v' p' e hu=>?_,fun l r e=>by cases e⟩;injection e with e; injection e with e1 e2; subst e1; subst e2;obtain⟨u,hu⟩:=hu;have key:(∃us,Rs A₀ β₀ m us as)∧∃us,Rs A₀ β₀ m us bs:=by
   cases hu with
   | cl _ _ h=>cases h; exact⟨⟨[],.nil⟩,⟨[],.nil⟩⟩
   | fn _ xs' ys' _ _ h h'=>exact⟨⟨_,h⟩,⟨_,h'⟩⟩
  exact .fn g xs ys as bs (ih.2 _ _ rfl key.1) (ih'.2 _ _ rfl key.2)
 | agg xs cs _ ih=>
  refine⟨fun v' p' e hu=>?_,fun l r e=>by cases e⟩;injection e with e; injection e with e1 e2; subst e1; subst e2;obtain⟨u,hu⟩:=hu;have key:∃us,Rs A₀ β₀ m us cs:=by
   cases hu with
   | cl _ _ h=>cases h with | agg xs _ h=>exact⟨_,Cs.up h⟩
   | agg xs _ h=>exact⟨_,h⟩
  exact .agg xs cs (ih.2 _ _ rfl key)
 | tup xs cs _ ih=>
  refine⟨fun v' p' e hu=>?_,fun l r e=>by cases e⟩;injection e with e; injection e with e1 e2; subst e1; subst e2;obtain⟨u,hu⟩:=hu;have key:∃us,Rs A₀ β₀ m us cs:=by
   cases hu with
   | cl _ _ h=>cases h
   | tup xs _ h=>exact⟨_,h⟩
  exact .tup xs cs (ih.2 _ _ rfl key)
 | own b o k off m' fin cap e cells st ok hk hg ho hf hm'=>
  refine⟨fun v' p' e hu=>?_,fun l r e=>by cases e⟩;injection e with e; injection e with e1 e2; subst e1; subst e2;obtain⟨u,hu⟩:=hu;have hkm:k < m:=by
   cases hu with
   | cl _ _ h=>cases h
   | own _ _ _ _ _ _ _ _ _ _ _ hk'=>exact hk'
  exact .own b o k off m' fin cap _ cells st ok hkm hg ho hf hm'
 | ptr b o k off fin e cells st ok hk hg ho hf=>
  refine⟨fun v' p' e hu=>?_,fun l r e=>by cases e⟩;injection e with e; injection e with e1 e2; subst e1; subst e2;obtain⟨u,hu⟩:=hu;have hkm:k < m:=by
   cases hu with
   | cl _ _ h=>cases h
   | ptr _ _ _ _ _ _ _ _ _ hk'=>exact hk'
  exact .ptr b o k off fin _ cells st ok hkm hg ho hf
 | ownx b o k off m' fin e cells st ok hk hg ho hf=>
  refine⟨fun v' p' e hu=>?_,fun l r e=>by cases e⟩;injection e with e; injection e with e1 e2; subst e1; subst e2;obtain⟨u,hu⟩:=hu;have hkm:k < m:=by
   cases hu with
   | cl _ _ h=>cases h
   | ownx _ _ _ _ _ _ _ _ _ _ hk'=>exact hk'
  exact .ownx b o k off m' fin _ cells st ok hkm hg ho hf
 | nil=>exact⟨fun v p e=>(by cases e),fun l r e _=>by injection e with e; injection e with e1 e2; subst e1; subst e2; exact .nil⟩
 | cons v p l r _ _ ih ihs=>
  refine⟨fun v' p' e=>(by cases e),fun l' r' e hu=>?_⟩;injection e with e; injection e with e1 e2; subst e1; subst e2;obtain⟨us,hu⟩:=hu;cases hu with
  | cons u _ us _ h hs=>exact .cons _ _ _ _ (ih.1 _ _ rfl ⟨_,h⟩) (ihs.2 _ _ rfl ⟨_,hs⟩)
def Kd (s s':PS):Prop:=∀k,k < s.n→s'.h k=s.h k
theorem RS.cut {A A₀:AS}{β β₀:Nat→Nat}{s s':PS} (h:RS A β s') (h0:RS A₀ β₀ s) (hn:s.n≤s'.n) (he:Kd s s'):RS A β s:=by
 refine⟨fun k hk=>?_,fun j k hj hk e=>h.inj j k (by omega) (by omega) e,fun x hx=>⟨(h.lay x hx).1,⟨(h.lay x hx).2.1.1,fun k hk=>(h.lay x hx).2.1.2 k (by omega)⟩,(h.lay x hx).2.2⟩⟩;have hb:=h.blk k (by omega);rw [he k hk] at hb;refine⟨hb.cur,fun x cells e st ok hg=>?_,hb.uni,hb.low,hb.fz,hb.lt,hb.z⟩;obtain⟨h1,h2,h3⟩:=hb.all x cells e st ok hg;refine⟨h1,h2,fun hl=>⟨(h3 hl).1,((h3 hl).2.cut (A₀:=A₀) (β₀:=β₀) hn).2 _ _ rfl ?_⟩⟩;have hlow:(s.h k).low≤(s.h k).cells.length:=by omega
 obtain⟨x0,cells0,WU,g1,g2⟩:=(h0.blk k hk).cur hlow;have hz:=(h0.blk k hk).z _ _ _ _ _ g1;subst hz;obtain⟨_,_,g3⟩:=(h0.blk k hk).all _ _ _ _ _ g1;have h4:=(g3 (by omega)).2;rw [List.drop_zero,List.take_of_length_le (by omega)] at h4;exact⟨_,(h4.drop st).take cells.length⟩
theorem yn {A:AS}{β:Nat→Nat}{n:Nat}{v:Value}{p:PV} (h:R1 A β n v p) (hc:dQ p=true):C1 A β n v p:=by
 cases h with
 | cl _ _ h=>exact h
 | fn g xs ys as bs h h'=>
  simp only [dQ,Bool.and_eq_true,List.isEmpty_iff] at hc;obtain⟨rfl,rfl⟩:=hc;have e1:xs = #[]:=by generalize hx:xs.toList=l at h; cases h; cases xs; simp only at hx; rw [hx]
  have e2:ys = #[]:=by generalize hx:ys.toList=l at h'; cases h'; cases ys; simp only at hx; rw [hx]
  subst e1; subst e2;exact .fn g
 | agg=>cases hc
 | tup=>cases hc
 | own=>cases hc
 | ptr=>cases hc
 | ownx=>cases hc
theorem DR {A:AS}{β:Nat→Nat}{n:Nat}{l:List Value}{r:List PV} (h:Rs A β n l r) (hc:r.all dQ=true):Cs A β n l r:=by
 induction r generalizing l with
 | nil=>cases h; exact .nil
 | cons p r ih=>
  rw [List.all_cons,Bool.and_eq_true] at hc;cases h with
  | cons v _ l _ h hs=>exact .cons _ _ _ _ (yn h hc.1) (ih hs hc.2)
theorem Cf {A:AS}{β:Nat→Nat}{m:Nat}{s:PS} (hs:RS A β s) (hm:m≤s.n) {v:Value}{p p':PV} (h:R1 A β s.n v p) (hf:aP m s p=some p'):R1 A β m v p':=by
 have hcl:∀{v p},R1 A β s.n v p→dQ p=true→R1 A β m v p:=fun h hc=>.cl _ _ ((yn h hc).cut hm);unfold aP at hf;split at hf
 ·rename_i k off n fin;split at hf
  ·rename_i hk;injection hf with hf; subst hf;cases h with
   | cl _ _ h=>cases h
   | own b o _ _ _ _ cap e cells st ok hk' hg ho hf hm'=>exact .own b o k off n fin cap e cells st ok hk hg ho hf hm'
  ·rename_i hk;split at hf
   ·rename_i hc;injection hf with hf; subst hf;obtain⟨c1,c2,c3,c4⟩:=hc;cases h with
    | cl _ _ h=>cases h
    | own b o _ _ _ _ cap e cells st ok hk' hg ho hf hm'=>
     have hb:=hs.blk k hk';obtain⟨g1,g2,g3⟩:=hb.all _ _ _ _ _ hg;obtain⟨rfl,hr⟩:=g3 (by omega);have hlen:((((s.h k).cells.drop off).take (fin - off))).length=fin - off:=by rw [List.length_take,List.length_drop]; omega
     refine .cl _ _ ?_;rw [← g1];refine .lit b o n cap e _ cells (β k) st hg ⟨hb.lt,fun j hj=>fun he=>?_⟩ (by rw [hlen]; omega) hm' ?_
     ·have:=hs.inj j k (by omega) hk' he; omega
     ·rw [hlen];have h1:=(hr.drop o).take (fin - off);rw [List.drop_take,List.take_take,List.drop_drop,ho,Nat.min_eq_left (by omega)] at h1;exact (DR h1 c4).cut hm
   ·cases hf
 ·rename_i k off fin;split at hf
  ·rename_i hk;injection hf with hf; subst hf;cases h with
   | cl _ _ h=>cases h
   | ptr b o _ _ _ e cells st ok hk' hg ho hf=>exact .ptr b o k off fin e cells st ok hk hg ho hf
  ·cases hf
 ·rename_i k off m' fin;split at hf
  ·rename_i hk;injection hf with hf; subst hf;cases h with
   | cl _ _ h=>cases h
   | ownx b o _ _ _ _ e cells st ok hk' hg ho hf=>exact .ownx b o k off m' fin e cells st ok hk hg ho hf
  ·cases hf
 ·injection hf with hf; subst hf; exact hcl h rfl
 ·injection hf with hf; subst hf; exact hcl h rfl
 ·injection hf with hf; subst hf; exact hcl h rfl
 ·injection hf with hf; subst hf; exact hcl h rfl
 ·injection hf with hf; subst hf; exact hcl h rfl
 ·cases hf
theorem Cm {A:AS}{β:Nat→Nat}{m:Nat}{s:PS} (hs:RS A β s) (hm:m≤s.n):∀{l:List Value}{r r':List PV},Rs A β s.n l r→oN m s r=some r'→Rs A β m l r':=by
 intro l r
 induction r generalizing l with
 | nil=>intro r' h hf; cases h; simp only [oN] at hf; injection hf with hf; subst hf; exact .nil
 | cons p r ih=>
  intro r' h hf;simp only [oN,Option.bind_eq_some_iff,Option.map_eq_some_iff] at hf;obtain⟨p',h1,r1,h2,rfl⟩:=hf;cases h with
  | cons v _ l _ h hn=>exact .cons _ _ _ _ (Cf hs hm h h1) (ih hn h2)
theorem Ce {A:AS}{β:Nat→Nat}{m:Nat}{s:PS} (hs:RS A β s) (hm:m≤s.n) {v:Value}{p p':PV} (h:R1 A β s.n v p) (hf:frz2 m s p=some p'):R1 A β m v p':=by
 unfold frz2 at hf;split at hf
 ·rename_i cs;simp only [Option.map_eq_some_iff] at hf;obtain⟨r,h1,rfl⟩:=hf;cases h with
  | cl _ _ h=>cases h with | agg xs _ h=>exact .agg xs _ (Cm hs hm (Cs.up h) h1)
  | agg xs _ h=>exact .agg xs _ (Cm hs hm h h1)
 ·exact Cf hs hm h hf
theorem Kc {A:AS}{β:Nat→Nat}{m:Nat}{s:PS} (hs:RS A β s) (hm:m≤s.n):∀{l:List Value}{r r':List PV},Rs A β s.n l r→aX m s r=some r'→Rs A β m l r':=by
 intro l r
 induction r generalizing l with
 | nil=>intro r' h hf; cases h; simp only [aX] at hf; injection hf with hf; subst hf; exact .nil
 | cons p r ih=>
  intro r' h hf;simp only [aX,Option.bind_eq_some_iff,Option.map_eq_some_iff] at hf;obtain⟨p',h1,r1,h2,rfl⟩:=hf;cases h with
  | cons v _ l _ h hn=>exact .cons _ _ _ _ (Ce hs hm h h1) (ih hn h2)
theorem F8 {A:AS}{β:Nat→Nat}{m:Nat}{s:PS} (hs:RS A β s) (hm:m≤s.n) {v:Value}{p p':PV} (h:R1 A β s.n v p) (hf:frz m s p=some p'):R1 A β m v p':=by
 unfold frz at hf;split at hf
 ·rename_i cs;simp only [Option.map_eq_some_iff] at hf;obtain⟨r,h1,rfl⟩:=hf;cases h with
  | cl _ _ h=>cases h
  | tup xs _ h=>exact .tup xs _ (Kc hs hm h h1)
 ·exact Ce hs hm h hf
theorem Hf {A:AS}{β:Nat→Nat}{s:PS}{nt:Nat}{f:Fr}{p:aE} (hi:bE A) (hs:RS A β s) (hf:RF ds A β s.n nt f p):∀(l:List ResultVar) (l':List kR) (vs:List PV),l.mapM (nS P)=some l'→gj p s l'=some vs→
  ∃us A',i9 P f l A=some (us,A')∧A'.heap=A.heap∧A'.next=A.next∧A'.w=A.w∧A'.fz=A.fz∧Rs A β s.n us vs:=by
 intro l
 induction l generalizing A with
 | nil=>
  intro l' vs h1 h2;simp only [List.mapM_nil] at h1;injection h1 with h1; subst h1;simp only [gj] at h2;injection h2 with h2; subst h2;exact⟨[],A,rfl,rfl,rfl,rfl,rfl,.nil⟩
 | cons rv l ih=>
  intro l' vs h1 h2;simp only [List.mapM_cons,Option.bind_eq_bind,Option.bind_eq_some_iff,Option.pure_def,Option.some.injEq] at h1;obtain⟨r,hr,l1,hl1,rfl⟩:=h1;cases rv with
  | tmp t=>
   simp only [nS] at hr;injection hr with hr; subst hr;simp only [gj,Option.map_eq_some_iff] at h2;obtain⟨vs',hv,rfl⟩:=h2;obtain⟨us,A',k1,k2,k3,k4,k5,k6⟩:=ih hi hs hf l1 vs' hl1 hv;refine⟨(f.tmps.get t).getD undef :: us,A',?_,k2,k3,k4,k5,.cons _ _ _ _ (hf.tmp t) k6⟩;rw [gS];simp only [k1]
  | cell a t=>
   have hcr:∃dd ag sz,P.underlying t=some dd∧jI (some dd)=ag∧(if ag then bP P t=some sz else sz=1)∧r=.cell a ag sz:=by
    simp only [nS] at hr;split at hr
    ·rename_i dd hd;split at hr
     ·rename_i hag;split at hr
      ·rename_i n hn;injection hr with hr;exact⟨dd,true,n,hd,hag,by simpa using hn,hr.symm⟩
      ·cases hr
     ·rename_i hag;injection hr with hr;exact⟨dd,false,1,hd,by simpa using hag,by simp,hr.symm⟩
    ·cases hr
   obtain⟨dd,ag,sz,hd,hag,hsz,rfl⟩:=hcr;simp only [gj,Option.bind_eq_some_iff,Option.map_eq_some_iff] at h2;obtain⟨cs,hcs,v,hv,vs',hvs,rfl⟩:=h2;obtain⟨b,o,xs,c,e1,hl,hrs,_,_⟩:=EZ hs (hf.tmp a) hcs;obtain⟨u,m1,m2⟩:=uD (P:=P) hag hsz hl hrs hv;have hget:f.tmps.get a=some (.pointer (some ⟨b,o,none⟩)):=by
    cases hg:f.tmps.get a with
    | none=>rw [hg] at e1; cases e1
    | some z=>rw [hg] at e1; exact congrArg some e1
   have hw:Fw A (bO A c) β β s.n s.n 0:=by rw [aB]; exact .heap β s.n rfl rfl rfl
   have hs':RS (bO A c) β s:=by rw [aB]; exact hs.same rfl rfl rfl rfl
   have hi':bE (bO A c):=by rw [aB]; exact⟨hi.lt,hi.mem,hi.memc,hi.root,hi.ml,hi.old,hi.fz⟩
   obtain⟨us,A',k1,k2,k3,k4,k5,k6⟩:=ih hi' hs' (hf.mono hw) l1 vs' hl1 hvs;have hback:Rs A β s.n us vs':=k6.mono (lo:=0) (by rw [aB]; exact .heap β s.n rfl rfl rfl);refine⟨u :: us,A',?_,?_,?_,?_,?_,.cons _ _ _ _ m2 hback⟩
   ·rw [gS];have:kM P (f.tmps.get a) t A=some (u,bO A c):=by
     unfold kM;rw [hget];show (match (match P.underlying t with | some d=>kY P t d b o A | none=>none) with | some (.val v,s)=>some (v,s) | _=>none)=_;rw [hd];simp only [m1]
    simp only [this,k1]
   ·rw [k2,aB]
   ·rw [k3,aB]
   ·rw [k4,aB]
   ·rw [k5,aB]
end
section
variable {P:Program}
theorem rW:gB P (fun _ _ _=>none):=fun _ _ _ _ _ _ _ h=>by cases h
theorem nr:cM (fun _ _ _=>none):=fun _ _ _ _ _ h=>by cases h
theorem Jn (hP:hZ P) {g:FuncId}{fn:Func}{c:Code} (hfn:P.funcs[g]?=some fn) (hc:fn.body=some c) {args:Array Value}{A B A':AS}{f:Fr}{x:dF}{v:Value} (b1:fn.ntmps≤1000000) (b2:args.toList.length≤fn.ntmps)
  (s1:gE P c (kX fn args) A x f B) (hx:x=.normal∨x=.ret) (hd:f.defers=[]) (hfin:finish P fn f B=some (.ret v,A')):cQ P g args A (.ret v) A':=by
 obtain⟨_,_,hF,hFm⟩:=hP _ rW nr;have h2:jp P (fun _ _ _=>none) fn f f.defers B none=some (.ret v,A'):=by rw [hd]; exact hfin
 obtain⟨f2,r2⟩:=jf hF hFm _ s1.fr.inv (Nat.le_refl _) h2;refine⟨s1.fr.trans f2,fun φ T w args' hargs hr hT hfr=>calls_of_wp_defers hfn hc ?_⟩;refine s1.run φ T w _ (iS hargs b1 b2) hr (hT.left f2) (bz hfr f2.next) _ fun φ' w' a' e hp hf' he=>?_;have key:=r2 φ' _ w' a' a'.defers .returning hf' hf'.defers .ret hp.rel (bh hT) (ba hfr s1.fr.next hp) (fun e w'=>∃φ',bG P φ T A A' w w' φ'∧jG φ' (.ret v) e) fun φ2 w2 e hp2 he=>⟨φ2,hp.trans s1.fr.next f2 hp2,he⟩
 rcases hx with rfl | rfl
 ·cases he; exact key
 ·cases he; exact key
theorem uU {A:AS}{β:Nat→Nat}{n:Nat}{us:List Value}{vs:List PV} (h:Rs A β n us vs):R1 A β n (pF us) (ae vs):=by
 cases h with
 | nil=>exact .tup _ _ .nil
 | cons u p l r h hs=>
  cases hs with
  | nil=>exact h
  | cons u' p' l' r' h' hs'=>exact .tup _ _ (.cons _ _ _ _ h (.cons _ _ _ _ h' hs'))
theorem Fw.low {A A':AS}{β β':Nat→Nat}{n n' lo lo':Nat} (h:Fw A A' β β' n n' lo) (hl:lo'≤lo):Fw A A' β β' n n' lo':=
 ⟨h.le,h.next,h.eq,h.new,h.prot,h.keep,fun c hc hw=>(h.w c hc hw).imp id fun ⟨k,a,b⟩=>⟨k,by omega,b⟩⟩
theorem wL {pu:Nat→Bool}{call:aw} (hC:bM P pu call) {i:PI}{p p':aE}{s s':PS} (h:dZ P call i p s=some (p',s')):Kp s s':=by
 unfold dZ at h;split at h
 ·simp only [Option.map_eq_some_iff] at h;obtain⟨⟨q,s1⟩,hact,he⟩:=h;injection he with e1 e2; subst e2;unfold zi at hact;split at hact
  ·unfold sZ at hact;split at hact
   ·exact (hC _ _ _ _ _ hact).2.1
   ·cases hact
  ·exact M9 hact
 ·injection h with h; injection h with _ e2; subst e2; exact .refl s
 ·cases h
theorem Ip {pu:Nat→Bool}{call:aw} (hC:bM P pu call):∀(l:List PI) {p p':aE}{s s':PS},lS P call l p s=some (p',s')→Kp s s':=by
 intro l
 induction l with
 | nil=>intro p p' s s' h; simp only [lS] at h; injection h with h; injection h with _ e2; subst e2; exact .refl s
 | cons i l ih=>
  intro p p' s s' h;simp only [lS,Option.bind_eq_some_iff] at h;obtain⟨⟨p1,s1⟩,h1,h2⟩:=h;exact (wL hC h1).trans (ih h2)
theorem CP {pu:Nat→Bool}{call:aw} (hC:bM P pu call):∀(l:List (PI × List Nat × List Nat)) (j:Nat) (acc:List (Nat × gy × Nat × Nat)) {p p':aE}{s s':PS},j4 P pu call l j acc p s=some (p',s')→Kp s s':=by
 intro l
 induction l with
 | nil=>intro j acc p p' s s' h; simp only [j4] at h; injection h with h; injection h with _ e2; subst e2; exact .refl s
 | cons i l ih=>
  intro j acc p p' s s' h;obtain⟨i,ls,un⟩:=i;simp only [j4,Option.bind_eq_some_iff] at h;obtain⟨⟨p1,s1⟩,h1,h2⟩:=h;simp only at h2;split at h2
  ·exact (wL hC h1).trans (ih _ _ h2)
  ·cases h2
theorem Cj {pu:Nat→Bool}{call:aw} (hC:bM P pu call) {L:Nat} : ∀{c:aR}{p p':aE}{s s':PS}{x:E9},cx P pu call L c p s=some (x,p',s')→Kp s s':=by
 have hloop:∀{b:aE→PS→ua},(∀{p p':aE}{s s':PS}{x:E9},b p s=some (x,p',s')→Kp s s')→∀(n:Nat) {p p':aE}{s s':PS}{x:E9},pB b n p s=some (x,p',s')→Kp s s':=by
  intro b hb n
  induction n with
  | zero=>intro p p' s s' x h; cases h
  | succ n ih=>
   intro p p' s s' x h;simp only [pB,pP,Option.bind_eq_some_iff] at h;obtain⟨⟨x1,p1,s1⟩,h1,h2⟩:=h;simp only at h2;split at h2
   ·exact (hb h1).trans (ih h2)
   ·injection h2 with h2; injection h2 with _ e2; injection e2 with _ e3; subst e3; exact hb h1
 intro c
 induction c with
 | skip=>intro p p' s s' x h; simp only [cx] at h; injection h with h; injection h with _ e2; injection e2 with _ e3; subst e3; exact .refl s
 | reg l=>
  intro p p' s s' x h;simp only [cx,Option.map_eq_some_iff] at h;obtain⟨⟨p1,s1⟩,h1,he⟩:=h;injection he with _ e2; injection e2 with _ e3; subst e3;exact Ip hC l h1
 | draw l=>
  intro p p' s s' x h;simp only [cx,Option.map_eq_some_iff] at h;obtain⟨⟨p1,s1⟩,h1,he⟩:=h;injection he with _ e2; injection e2 with _ e3; subst e3;exact CP hC l 0 [] h1
 | seq a b iha ihb=>
  intro p p' s s' x h;simp only [cx,pP,Option.bind_eq_some_iff] at h;obtain⟨⟨x1,p1,s1⟩,h1,h2⟩:=h;simp only at h2;split at h2
  ·exact (iha h1).trans (ihb h2)
  ·injection h2 with h2; injection h2 with _ e2; injection e2 with _ e3; subst e3; exact iha h1
 | cond o a b iha ihb=>
  intro p p' s s' x h;simp only [cx] at h;unfold tN at h;split at h
  ·exact iha h
  ·exact ihb h
  ·cases h
 | block id b ih=>
  intro p p' s s' x h;simp only [cx,sH,Option.map_eq_some_iff] at h;obtain⟨⟨x1,p1,s1⟩,h1,h2⟩:=h;have:s1=s':=by
   simp only at h2;split at h2
   ·split at h2<;>(injection h2 with _ e2; injection e2)
   ·injection h2 with _ e2; injection e2
  subst this;exact ih h1
 | loop b ih=>intro p p' s s' x h; simp only [cx] at h; exact hloop ih L h
 | exit id=>intro p p' s s' x h; simp only [cx] at h; injection h with h; injection h with _ e2; injection e2 with _ e3; subst e3; exact .refl s
 | ret=>intro p p' s s' x h; simp only [cx] at h; injection h with h; injection h with _ e2; injection e2 with _ e3; subst e3; exact .refl s
 | bad=>intro p p' s s' x h; simp only [cx] at h; cases h
def gx (P:Program) (Γ:Nat→Option fe):Prop:=∀g pf,Γ g=some pf→∃fn keep,P.funcs[g]?=some fn∧qV P fn keep=some pf
theorem GI (hE:lW P) (hO:be P) (hm:P.follows .mixedOrders=true) (hP:hZ P) {pu:Nat→Bool}{call:aw} (hC:bM P pu call) {L g:Nat}{fn:Func}{pf:fe}{keep:Bool} (hfn:P.funcs[g]?=some fn) (hpf:qV P fn keep=some pf) {args:List PV}{s s':PS}{q:PV} (h:ny P pu call L pf args s=some (q,s')) :
  (∃fn c,P.funcs[g]?=some fn∧fn.body=some c)∧Kp s s'∧
  ∀(A:AS) (β:Nat→Nat) (vs:List Value),bE A→RS A β s→Rs A β s.n vs args→∃u A' β',cQ P g vs.toArray A (.ret u) A'∧Fw A A' β β' s.n s'.n s'.w∧RS A' β' s'∧R1 A' β' s'.n u q∧(pf.keep=false→∀c,c < A.next→A'.w.testBit c=true→A.w.testBit c=true):=by
 unfold qV at hpf;split at hpf
 ·rename_i c hc;refine⟨⟨fn,c,hfn,hc⟩,?_⟩;split at hpf
  ·rename_i b r hb hr;split at hpf
   ·rename_i hnt;injection hpf with hpf; subst hpf;have b1:=Nat.le_of_ble_eq_true hnt;unfold ny at h;split at h
    ·rename_i hlen;simp only [Option.bind_eq_some_iff] at h;obtain⟨⟨x,p1,s1⟩,h1,h2⟩:=h;have hx:(x=.normal∨x=.ret)∧gI ⟨fn.ntmps,b,r,keep⟩ s p1 s1=some (q,s'):=by
      unfold OA at h2;split at h2
      ·rename_i hx; exact⟨.inl hx,h2⟩
      ·rename_i hx; exact⟨.inr hx,h2⟩
      ·cases h2
     obtain⟨hx,hl⟩:=hx;unfold gI at hl;simp only [Option.bind_eq_some_iff] at hl;obtain⟨us',hres,hl⟩:=hl;have key:∀(A:AS) (β:Nat→Nat) (vs:List Value),bE A→RS A β s→Rs A β s.n vs args→Kp ⟨s.h,s.n,s.n⟩ s1∧∃us A' β1,cQ P g vs.toArray A (.ret (pF us)) A'∧Fw A A' β β1 s.n s1.n s1.w∧RS A' β1 s1∧R1 A' β1 s1.n (pF us) (ae us'):=by
      intro A β vs hi hs hvs;obtain⟨kp,f1,A1,β1,k1,k2,k3,k4⟩:=Cg hE hO hm hC c b hb hi (s:=⟨s.h,s.n,s.n⟩) ⟨hs.blk,hs.inj,hs.lay⟩ (rz hvs b1 hlen) h1;obtain⟨us,A',m1,m2,m3,m4,m5,m6⟩:=Hf k1.fr.inv k3 k4 fn.results.toList r us' hr hres;have hfin:finish P fn f1 A1=some (.ret (pF us),A'):=by
       unfold finish;rw [m1];cases us with
       | nil=>rfl
       | cons u us=>cases us<;>rfl
      have hcall:cQ P g vs.toArray A (.ret (pF us)) A':=by
       refine Jn hP hfn hc b1 ?_ k1 ?_ k4.df hfin
       ·rw [List.toList_toArray,hvs.len]; exact hlen
       ·rcases hx with rfl | rfl
        ·exact .inl rfl
        ·exact .inr rfl
      have hw:Fw A1 A' β1 β1 s1.n s1.n s1.w:=.heap β1 s1.n m2 m3 m4;exact⟨kp,us,A',β1,hcall,k2.trans hw (Nat.le_refl _),k3.same m2 m3 m4 m5,(uU m6).mono hw⟩
     split at hl
     ·rename_i hkeep;injection hl with hl; injection hl with e1 e2; subst e1; subst e2;have hkp:∀(_:Kp ⟨s.h,s.n,s.n⟩ s1),Kp s ⟨s1.h,s1.n,min s.w s1.w⟩:=fun kp=>⟨Nat.min_le_left _ _,kp.n,fun k a b=>kp.h k a (by
       have:k < min s.w s1.w:=b;omega)⟩
      refine⟨hkp (Cj hC h1),fun A β vs hi hs hvs=>?_⟩;obtain⟨kp,us,A',β1,q1,q2,q3,q4⟩:=key A β vs hi hs hvs;exact⟨_,A',β1,q1,q2.low (Nat.min_le_right _ _),⟨q3.blk,q3.inj,q3.lay⟩,q4,fun hk=>by rw [hkeep] at hk; cases hk⟩
     ·split at hl
      ·rename_i hsame;simp only [Option.map_eq_some_iff] at hl;obtain⟨v,hv,he⟩:=hl;injection he with e1 e2; subst e1; subst e2;refine⟨.refl s,fun A β vs hi hs hvs=>?_⟩;obtain⟨kp,us,A',β1,q1,q2,q3,q4⟩:=key A β vs hi hs hvs;have hs':Kd s s1:=fun k hk=>kp.h k hk (by omega);have hw:∀c,c < A.next→A'.w.testBit c=true→A.w.testBit c=true:=fun c hc hb=>by
        rcases q2.w c hc hb with h | ⟨k,a1,a2,_⟩
        ·exact h
        ·omega
       exact⟨_,A',β1,q1,⟨Nat.le_refl _,q2.next,q2.eq,fun k a b=>by omega,q2.prot,q2.keep,fun c hc hb=>.inl (hw c hc hb)⟩,q3.cut hs q2.le hs',F8 q3 q2.le q4 hv,fun _=>hw⟩
      ·cases hl
    ·cases h
   ·cases hpf
  ·cases hpf
 ·cases hpf
theorem tR (hE:lW P) (hO:be P) (hm:P.follows .mixedOrders=true) (hP:hZ P) {Γ:Nat→Option fe} (hΓ:gx P Γ) {ext:aw} (hX:bM P (cz Γ) ext):∀n,bM P (cz Γ) (dM P Γ ext n):=by
 intro n
 induction n with
 | zero=>intro g args s q s' h; cases h
 | succ n ih=>
  intro g args s q s' h;simp only [dM] at h;split at h
  ·rename_i pf hpf;obtain⟨fn,keep,h1,h2⟩:=hΓ g pf hpf;obtain⟨a1,a2,a3⟩:=GI hE hO hm hP ih h1 h2 h;refine⟨a1,a2,fun A β vs hi hs hvs=>?_⟩;obtain⟨u,A',β',b1,b2,b3,b4,b5⟩:=a3 A β vs hi hs hvs;refine⟨u,A',β',b1,b2,b3,b4,fun hp=>b5 ?_⟩;unfold cz at hp;rw [hpf] at hp;simpa using hp
  ·exact hX g args s q s' h
end
def Le {α:Type} (a b:Option α):Prop:=∀x,a=some x→b=some x
theorem Le.refl {α:Type} (a:Option α):Le a a:=fun _ h=>h
theorem Le.bind {α β:Type}{a b:Option α}{k l:α→Option β} (h:Le a b) (hk:∀x,Le (k x) (l x)):Le (a.bind k) (b.bind l):=by
 intro x hx;rw [Option.bind_eq_some_iff] at hx ⊢;obtain⟨y,h1,h2⟩:=hx;exact⟨y,h y h1,hk y x h2⟩
theorem Le.map {α β:Type}{a b:Option α}{k:α→β} (h:Le a b):Le (a.map k) (b.map k):=by
 intro x hx;rw [Option.map_eq_some_iff] at hx ⊢;obtain⟨y,h1,h2⟩:=hx;exact⟨y,h y h1,h2⟩
def Ci (c d:aw):Prop:=∀g args s,Le (c g args s) (d g args s)
section
variable {P:Program}{c d:aw}
theorem mB (h:Ci c d) (i:PI) (f:aE) (s:PS):Le (dZ P c i f s) (dZ P d i f s):=by
 unfold dZ;cases eb f i.gd with
 | none=>exact .refl _
 | some b=>
  cases b with
  | false=>exact .refl _
  | true=>
   refine Le.map ?_;unfold zi;split
   ·unfold sZ;split
    ·exact h _ _ _
    ·exact .refl _
   ·exact .refl _
theorem HV (h:Ci c d):∀(l:List PI) (f:aE) (s:PS),Le (lS P c l f s) (lS P d l f s):=by
 intro l
 induction l with
 | nil=>intro f s; exact .refl _
 | cons i l ih=>intro f s; exact Le.bind (mB h i f s) fun q=>ih q.1 q.2
theorem FW {a b:ua}{k l:aE→PS→ua} (h:Le a b) (hk:∀f s,Le (k f s) (l f s)):Le (pP a k) (pP b l):=by
 refine Le.bind h fun q=>?_;cases q.1 with
 | normal=>exact hk _ _
 | _=>exact .refl _
theorem Jj {a b:aE→PS→ua} (h:∀f s,Le (a f s) (b f s)):∀(n m:Nat),n≤m→∀f s,Le (pB a n f s) (pB b m f s):=by
 intro n
 induction n with
 | zero=>intro m _ f s x hx; cases hx
 | succ n ih=>
  intro m hm f s;obtain⟨m',rfl⟩ : ∃m',m=m' + 1:=⟨m - 1,by omega⟩
  exact FW (h f s) (ih m' (by omega))
theorem Kb {pu:Nat→Bool} (h:Ci c d):∀(l:List (PI × List Nat × List Nat)) (j:Nat) (acc:List (Nat × gy × Nat × Nat)) (f:aE) (s:PS),Le (j4 P pu c l j acc f s) (j4 P pu d l j acc f s):=by
 intro l
 induction l with
 | nil=>intro j acc f s; exact .refl _
 | cons i l ih=>
  intro j acc f s;obtain⟨i,ls,un⟩:=i;refine Le.bind (mB h i _ s) fun q=>?_;split
  ·exact ih _ _ _ _
  ·exact .refl _
theorem C4 {pu:Nat→Bool} (h:Ci c d) {n m:Nat} (hn:n≤m):∀(pc:aR) (f:aE) (s:PS),Le (cx P pu c n pc f s) (cx P pu d m pc f s):=by
 intro pc
 induction pc with
 | skip=>intro f s; exact .refl _
 | reg l=>intro f s; exact Le.map (HV h l f s)
 | draw l=>intro f s; exact Le.map (Kb h l 0 [] f s)
 | seq a b iha ihb=>intro f s; exact FW (iha f s) ihb
 | cond o a b iha ihb=>
  intro f s;simp only [cx];unfold tN;cases ep (aA f o) with
  | none=>exact .refl _
  | some t=>cases t; exact ihb f s; exact iha f s
 | block id b ih=>intro f s; exact Le.map (ih f s)
 | loop b ih=>intro f s; exact Jj ih n m hn f s
 | exit id=>intro f s; exact .refl _
 | ret=>intro f s; exact .refl _
 | bad=>intro f s; exact .refl _
theorem Ir {pu:Nat→Bool} (h:Ci c d) {n m:Nat} (hn:n≤m) (fn:fe) (args:List PV) (s:PS):Le (ny P pu c n fn args s) (ny P pu d m fn args s):=by
 unfold ny;split
 ·exact Le.bind (C4 h hn _ _ _) fun q=>.refl _
 ·exact .refl _
variable {Γ:Nat→Option fe}{ext:aw}
theorem Jv:∀n,Ci (dM P Γ ext n) (dM P Γ ext (n + 1)):=by
 intro n
 induction n with
 | zero=>intro g args s x hx; cases hx
 | succ n ih=>
  intro g args s;simp only [dM];split
  ·exact Ir ih (Nat.le_succ n) _ _ _
  ·exact .refl _
theorem lM {n m:Nat} (h:n≤m):Ci (dM P Γ ext n) (dM P Γ ext m):=by
 induction m with
 | zero=>rw [show n=0 by omega]; exact fun _ _ _=>.refl _
 | succ m ih=>
  by_cases he:n=m + 1
  ·rw [he]; exact fun _ _ _=>.refl _
  ·exact fun g args s x hx=>Jv m g args s x (ih (by omega) g args s x hx)
end
open Classical in
noncomputable def uh {α:Type} (F:Nat→Option α):Option α:=if h:∃a n,F n=some a then some h.choose else none
def rh {α:Type} (F:Nat→Option α):Prop:=∀n m,n≤m→Le (F n) (F m)
theorem bN {α:Type}{F:Nat→Option α} (hF:rh F) (a:α):uh F=some a↔∃n,F n=some a:=by
 unfold uh;constructor
 ·intro h;split at h
  ·rename_i hh;injection h with h;obtain⟨n,hn⟩:=hh.choose_spec;exact⟨n,by rw [← h]; exact hn⟩
  ·cases h
 ·rintro⟨n,hn⟩;have hh:∃a n,F n=some a:=⟨a,n,hn⟩
  rw [dif_pos hh];obtain⟨m,hm⟩:=hh.choose_spec;have h1:=hF n (max n m) (by omega) _ hn;have h2:=hF m (max n m) (by omega) _ hm;rw [h1] at h2;injection h2 with h2;rw [← h2]
theorem bH {α:Type} (a:Option α):uh (fun _=>a)=a:=by
 apply Option.ext;intro x;rw [bN (fun _ _ _=>.refl _)];exact⟨fun ⟨_,h⟩=>h,fun h=>⟨0,h⟩⟩
theorem jN {α β:Type}{F:Nat→Option α}{G:Nat→α→Option β} (hF:rh F) (hG:∀x,rh fun n=>G n x):uh (fun n=>(F n).bind (G n))=(uh F).bind fun x=>uh fun n=>G n x:=by
 apply Option.ext;intro x;rw [bN (fun n m h=>Le.bind (hF n m h) fun y=>hG y n m h),Option.bind_eq_some_iff];constructor
 ·rintro⟨n,h⟩;rw [Option.bind_eq_some_iff] at h;obtain⟨y,h1,h2⟩:=h;exact⟨y,(bN hF y).2 ⟨n,h1⟩,(bN (hG y) x).2 ⟨n,h2⟩⟩
 ·rintro⟨y,h1,h2⟩;obtain⟨n,h1⟩:=(bN hF y).1 h1;obtain⟨m,h2⟩:=(bN (hG y) x).1 h2;refine⟨max n m,?_⟩;rw [Option.bind_eq_some_iff];exact⟨y,hF n _ (by omega) _ h1,hG y m _ (by omega) _ h2⟩
theorem vK {α β:Type}{F:Nat→Option α} (hF:rh F) (k:α→β):uh (fun n=>(F n).map k)=(uh F).map k:=by
 apply Option.ext;intro x;rw [bN (fun n m h=>Le.map (hF n m h)),Option.map_eq_some_iff];constructor
 ·rintro⟨n,h⟩;rw [Option.map_eq_some_iff] at h;obtain⟨y,h1,h2⟩:=h;exact⟨y,(bN hF y).2 ⟨n,h1⟩,h2⟩
 ·rintro⟨y,h1,h2⟩;obtain⟨n,h1⟩:=(bN hF y).1 h1;exact⟨n,by rw [Option.map_eq_some_iff]; exact⟨y,h1,h2⟩⟩
theorem xG {α:Type}{F:Nat→Option α} (hF:rh F):uh (fun n=>F (n + 1))=uh F:=by
 apply Option.ext;intro x;rw [bN (fun n m h=>hF _ _ (by omega)),bN hF];exact⟨fun ⟨n,h⟩=>⟨n + 1,h⟩,fun ⟨n,h⟩=>⟨n,hF n _ (by omega) _ h⟩⟩
section
variable (P:Program) (Γ:Nat→Option fe) (ext:aw)
noncomputable def gp:aw:=fun g args s=>uh fun n=>dM P Γ ext n g args s
noncomputable def vg (i:PI) (f:aE) (s:PS):Option (aE × PS):=dZ P (gp P Γ ext) i f s
noncomputable def uf (l:List PI) (f:aE) (s:PS):Option (aE × PS):=lS P (gp P Γ ext) l f s
noncomputable def io (c:aR) (f:aE) (s:PS):ua:=uh fun n=>cx P (cz Γ) (dM P Γ ext n) n c f s
end
section
variable {P:Program}{Γ:Nat→Option fe}{ext:aw}
theorem jQ (g:Nat) (args:List PV) (s:PS):rh fun n=>dM P Γ ext n g args s:=fun _ _ h=>lM h g args s
theorem kg (c:aR) (f:aE) (s:PS):rh fun n=>cx P (cz Γ) (dM P Γ ext n) n c f s:=fun _ _ h=>C4 (lM h) h c f s
theorem Eh (i:PI) (f:aE) (s:PS):rh fun n=>dZ P (dM P Γ ext n) i f s:=fun _ _ h=>mB (lM h) i f s
theorem ye (l:List PI) (f:aE) (s:PS):rh fun n=>lS P (dM P Γ ext n) l f s:=fun _ _ h=>HV (lM h) l f s
theorem I0 (i:PI) (f:aE) (s:PS):uh (fun n=>dZ P (dM P Γ ext n) i f s)=vg P Γ ext i f s:=by
 unfold vg dZ;cases eb f i.gd with
 | none=>exact bH _
 | some b=>
  cases b with
  | false=>exact bH _
  | true=>
   simp only;rw [vK]
   ·congr 1;unfold zi;split
    ·unfold sZ;split
     ·rfl
     ·exact bH _
    ·exact bH _
   ·intro n m h;unfold zi;split
    ·unfold sZ;split
     ·exact lM h _ _ _
     ·exact .refl _
    ·exact .refl _
theorem II:∀(l:List PI) (f:aE) (s:PS),uh (fun n=>lS P (dM P Γ ext n) l f s)=uf P Γ ext l f s:=by
 intro l
 induction l with
 | nil=>intro f s; exact bH _
 | cons i l ih=>
  intro f s;have h:=jN (F:=fun n=>dZ P (dM P Γ ext n) i f s) (G:=fun n q=>lS P (dM P Γ ext n) l q.1 q.2) (Eh i f s) (fun q=>ye l q.1 q.2);rw [I0] at h;show uh (fun n=>(dZ P (dM P Γ ext n) i f s).bind fun q=>lS P (dM P Γ ext n) l q.1 q.2)=(vg P Γ ext i f s).bind fun q=>uf P Γ ext l q.1 q.2;rw [h];congr 1;funext q;exact ih q.1 q.2
theorem Dp (l:List PI) (f:aE) (s:PS):io P Γ ext (.reg l) f s=(uf P Γ ext l f s).map fun q=>(.normal,q.1,q.2):=by
 rw [← II];exact vK (ye l f s) _
theorem oJ (hE:lW P) (hO:be P) (hm:P.follows .mixedOrders=true) (hP:hZ P) (hΓ:gx P Γ) (hX:bM P (cz Γ) ext):bM P (cz Γ) (gp P Γ ext):=by
 intro g args s q s' h;obtain⟨n,hn⟩:=(bN (jQ g args s) (q,s')).1 h;exact tR hE hO hm hP hΓ hX n g args s q s' hn
end
abbrev KX:=Nat→List PV→PS→(Value→PS→Prop)→Prop
def XA (K:KX) (f:aE) (s:PS) (U:Value→PS→Prop) (o:gw):Prop:=match o with
 | .pan x=>match aA f x with
  | .sc (.iface t v)=>wQ (.iface t v)=true∧U (.iface t v) s
  | _=>False
 | .call x args=>match aA f x with
  | .fn g first cap=>K g (first ++ (args.map (aA f) ++ cap)) s U
  | _=>False
 | _=>False
abbrev XU:=Value→aE→PS→Prop
section
variable (P:Program) (Γ:Nat→Option fe) (ext:aw)
def XO (K:KX):List PI→aE→PS→XU→Prop
 | [],_,_,_=>False
 | i :: l,f,s,U=>(eb f i.gd=some true∧XA K f s (fun v s'=>U v f s') i.op)∨∃q,vg P Γ ext i f s=some q∧XO K l q.1 q.2 U
def XD (K:KX):List (PI × List Nat × List Nat)→Nat→List (Nat × gy × Nat × Nat)→aE→PS→XU→Prop
 | [],_,_,_,_,_=>False
 | (i,ls,un) :: l,j,acc,f,s,U=>i.gd=none∧((mX un j l=true∧XA K f s (fun v s'=>U v f s') i.op)∨
   ∃q,vg P Γ ext i (cR ls f) s=some q∧(aS (cz Γ) (cR ls f) i=true∨mX un j l=true)∧aG un (mV (cR ls f) i) acc∧XD K l (j + 1) ((j,mV (cR ls f) i,s.n,q.2.n) :: acc) (I4 f i.dst q.1) q.2 U)
inductive XL (B:aE→PS→Prop) (N:aE→PS→ua):aE→PS→Prop
 | here (f:aE) (s:PS) (h:B f s):XL B N f s
 | next (f:aE) (s:PS) (f1:aE) (s1:PS) (h:N f s=some (.normal,f1,s1)) (k:XL B N f1 s1):XL B N f s
def XC (K:KX):aR→aE→PS→XU→Prop
 | .reg l,f,s,U=>XO P Γ ext K l f s U
 | .draw l,f,s,U=>XD P Γ ext K l 0 [] f s U
 | .seq a b,f,s,U=>XC K a f s U∨∃f1 s1,io P Γ ext a f s=some (.normal,f1,s1)∧XC K b f1 s1 U
 | .cond c a b,f,s,U=>(ep (aA f c)=some true∧XC K a f s U)∨(ep (aA f c)=some false∧XC K b f s U)
 | .block _ b,f,s,U=>XC K b f s U
 | .loop b,f,s,U=>XL (fun f s=>XC K b f s U) (io P Γ ext b) f s
 | _,_,_,_=>False
def Up:Nat→KX
 | 0=>fun _ _ _ _=>False
 | n + 1=>fun g args s U=>∃fn,Γ g=some fn∧args.length≤fn.nt∧XC P Γ ext (Up n) fn.body (ej args 0) ⟨s.h,s.n,s.n⟩ (fun v _ s1=>(fn.keep=true∧U v ⟨s1.h,s1.n,min s.w s1.w⟩)∨(fn.keep=false∧s.n≤s1.w∧U v s))
def XK:KX:=fun g args s U=>∃n,Up P Γ ext n g args s U
end
def Ax (v:Value):Prop:=(∃t u,v=.iface t u)∧wQ v=true
section
variable {ds:List Deferred}{P:Program}
theorem Ae (hO:be P) {ops:Array Oper}{o:Oper}{f:Fr}{A:AS}{v:Value} (hi:bE A) (hw:fV ops.toList f o.guard=some true) (hev:aU P f o A=some (.panic v,A)):vO P ops o f A v A:=by
 have hs:=hO f o A _ _ hi (Nat.le_refl _) hev;refine⟨hs.fr,fun φ T w a hf hr hT hfr K Q hK=>?_⟩;unfold gQ;rw [dJ hf hw,if_pos rfl];obtain⟨φ',w',hp,hnr⟩:=hs.run φ T w a hf hr hT hfr;unfold Oper.wp;generalize hres:(execOp a.eval o).run P w=res at hnr;cases hnr with
 | panic _ v' hv=>exact hK φ' w' _ hp hv
theorem zw {ops:Array Oper}{o:Oper}{f:Fr}{A B A':AS}{g:FuncId}{args:Array Value}{v:Value} (hw:fV ops.toList f o.guard=some true) (hs:bQ P f A o (.enter g args) B) (hcs:cQ P g args B (.panic v) A'):vO P ops o f A v A':=by
 refine⟨hs.fr.trans hcs.fr,fun φ T w a hf hr hT hfr K Q hK=>?_⟩;unfold gQ;rw [dJ hf hw,if_pos rfl];obtain⟨φ',w',hp,hnr⟩:=hs.run φ T w a hf hr (hT.left hcs.fr) (fun b h1 h2=>hfr b h1 (Nat.lt_of_lt_of_le h2 hcs.fr.next));unfold Oper.wp;generalize hres:(execOp a.eval o).run P w=res at hnr;cases hnr with
 | enter _ _ args' hargs=>
  refine (hcs.run φ' _ w' args' hargs hp.rel ?_ ?_).mono ?_
  ·intro c hc' hh;by_cases hlt:c < A.next
   ·exact .inl (hT c hlt hh)
   ·exact .inr ⟨by omega,hc'⟩
  ·intro b h3 h4;rw [hp.out b (.inr h3)];exact hfr b (Nat.le_trans hs.fr.next h3) h4
  ·rintro e2 w2 ⟨φ2,hp2,he2⟩;cases he2 with
   | panic _ v' hv=>exact hK φ2 w2 _ (hp.trans hs.fr.next hcs.fr hp2) hv
def Qj (P:Program) (K:KX):Prop:=∀g args s U,K g args s U→∃v s',U v s'∧Ax v∧(∃fn c,P.funcs[g]?=some fn∧fn.body=some c)∧Kp s s'∧
 ∀(A:AS) (β:Nat→Nat) (vs:List Value),bE A→RS A β s→Rs A β s.n vs args→∃A' β',cQ P g vs.toArray A (.panic v) A'∧Fw A A' β β' s.n s'.n s'.w∧RS A' β' s'
theorem G5 {op:Op}{x:Operand} (h:bJ P op=some (.pan x)):op=.panic x∧cE x=true:=by
 cases op with
 | panic y=>obtain⟨h1,h2⟩:=aO h; injection h2 with h2; subst h2; exact⟨rfl,h1⟩
 | call cc=>
  exfalso;obtain⟨callee,cargs,tys⟩:=cc;simp only [bJ] at h;split at h
  ·split at h
   ·obtain⟨_,h2⟩:=aO h; cases h2
   ·unfold iy at h;split at h
    ·obtain⟨_,h2⟩:=aO h; cases h2
    ·obtain⟨_,h2⟩:=aO h; cases h2
    ·cases h
  ·unfold jv at h
   repeat' split at h
   all_goals first | (cases h; done) | (obtain⟨_,h2⟩:=aO h; cases h2; done)
  ·cases h
 | slice t x lo hi' mx=>
  exfalso;cases mx with
  | some m=>
   cases lo with
   | some lo=>cases hi'<;>cases h
   | none=>
    cases hi' with
    | none=>cases h
    | some y=>
     simp only [bJ] at h
     repeat' split at h
     all_goals first | (cases h; done) | (obtain⟨_,h2⟩:=aO h; cases h2; done)
  | none=>
   simp only [bJ] at h
   repeat' split at h
   all_goals first | (cases h; done) | (obtain⟨_,h2⟩:=aO h; cases h2; done)
 | makeFunc fn a b=>
  exfalso;cases fn with
  | func g=>obtain⟨_,h2⟩:=aO h; cases h2
  | _=>cases h
 | typeAssert x xt a ok=>
  exfalso;cases ok with
  | false=>cases h
  | true=>
   simp only [bJ] at h
   repeat' split at h
   all_goals first | (cases h; done) | (obtain⟨_,h2⟩:=aO h; cases h2; done)
 | _=>
  exfalso;simp only [bJ] at h
  repeat' split at h
  all_goals first | (cases h; done) | (obtain⟨_,h2⟩:=aO h; cases h2; done)
theorem Ga {op:Op}{x:Operand} (h:(bJ P op).getD .bad=.pan x):bJ P op=some (.pan x):=by
 cases hc:bJ P op with
 | none=>rw [hc] at h; cases h
 | some q=>rw [hc] at h; exact congrArg some h
theorem M8 (hE:lW P) (hO:be P) {K:KX} (hK:Qj P K) {ops:Array Oper}{o:Oper}{i:PI}{nt:Nat} (hc:jb P nt ops.toList o=some i) {p:aE}{s:PS}{U:Value→PS→Prop} (hg:eb p i.gd=some true) (h:XA K p s U i.op) :
  ∃v s',U v s'∧Ax v∧Kp s s'∧∀(A:AS) (β:Nat→Nat) (f:Fr),bE A→RS A β s→RF ds A β s.n nt f p→∃A' β',vO P ops o f A v A'∧Fw A A' β β' s.n s'.n s'.w∧RS A' β' s':=by
 unfold jb at hc;split at hc
 ·rename_i g' hg';split at hc
  ·rename_i hd;injection hc with hc; subst hc;simp only at h hg;generalize hpq:(bJ P o.op).getD .bad=po at h;unfold XA at h;split at h
   ·rename_i x;obtain⟨hop,hx⟩:=G5 (Ga hpq);split at h
    ·rename_i t u hpx;obtain⟨d,op,ty,pos,af,gu⟩:=o;simp only at hop;subst hop;obtain⟨hsok,h⟩:=h;refine⟨_,_,h,⟨⟨t,u,rfl⟩,hsok⟩,.refl s,fun A β f hi hs hf=>⟨A,β,Ae hO hi (oI hf hg' hg) ?_,.refl A β s.n _,hs⟩⟩;obtain⟨vx,x1,x2⟩:=aL hf hx;rw [hpx] at x2;obtain⟨rfl,_⟩:=x2.sc;show qj (f.eval x) A=_;rw [x1];rfl
    ·exact h.elim
   ·rename_i x args;obtain⟨cargs,tys,hop,rfl,h1,h2⟩:=vd (uJ hpq);split at h
    ·rename_i g first cap hx;obtain⟨v,s',hu,hpv,⟨fn,c,hfn,hbody⟩,hkp,hcall⟩:=hK _ _ _ _ h;refine⟨v,s',hu,hpv,hkp,fun A β f hi hs hf=>?_⟩;obtain⟨vs,vas,xs,ys,k1,k2,rfl,k3⟩:=uB hf h1 h2 hx;obtain⟨d,op,ty,pos,af,gu⟩:=o;simp only at hop;subst hop;obtain⟨A',β',c1,c2,c3⟩:=hcall A β _ hi hs k3;have hsd:=u6 (d:=d) (ty:=ty) (pos:=pos) (af:=af) (gu:=gu) (tys:=tys) hE hi k1 k2 hfn hbody;exact⟨A',β',zw (oI hf hg' hg) hsd c1,c2,c3⟩
    ·exact h.elim
   ·exact h.elim
  ·cases hc
 ·cases hc
theorem QG (hE:lW P) (hO:be P) {Γ:Nat→Option fe}{ext:aw} (hC:bM P (cz Γ) (gp P Γ ext)) {K:KX} (hK:Qj P K) {ops:Array Oper}{nt:Nat}{U:XU} : ∀(lo:List Oper) (l:List PI),dU P nt ops.toList lo=some l→∀{p:aE}{s:PS},XO P Γ ext K l p s U→
  ∃v p' s',U v p' s'∧Ax v∧Kp s s'∧∀(A:AS) (β:Nat→Nat) (f:Fr),bE A→RS A β s→RF ds A β s.n nt f p→∃f' A' β',iT P ops lo f A (.panic v) f' A'∧Fw A A' β β' s.n s'.n s'.w∧RS A' β' s'∧RF ds A' β' s'.n nt f' p':=by
 intro lo
 induction lo with
 | nil=>intro l hl p s h; simp only [dU] at hl; injection hl with hl; subst hl; exact h.elim
 | cons o lo ih=>
  intro l hl p s h;simp only [dU] at hl;split at hl
  ·rename_i i l' hi' hl';injection hl with hl; subst hl;rcases h with ⟨hg,h⟩ | ⟨q,h1,h2⟩
   ·obtain⟨v,s',hu,hpv,hkp,hk⟩:=M8 hE hO hK hi' hg h;refine⟨v,p,s',hu,hpv,hkp,fun A β f hi hs hf=>?_⟩;obtain⟨A',β',c1,c2,c3⟩:=hk A β f hi hs hf;refine⟨f,A',β',⟨c1.fr,fun φ T w a hfr hr hT hfs Q hQ=>eu ?_⟩,c2,c3,hf.mono c2⟩;exact c1.run φ T w a hfr hr hT hfs _ Q fun φ' w' v' hp hv=>hQ φ' w' a _ hp (hfr.mono hp.ext) (.panic _ _ hv)
   ·obtain⟨v,p',s',hu,hpv,hkp,hk⟩:=ih l' hl' h2;obtain⟨q1,q2⟩:=q;have hstep:dZ P (gp P Γ ext) i p s=some (q1,q2):=h1;refine⟨v,p',s',hu,hpv,(wL hC hstep).trans hkp,fun A β f hi hs hf=>?_⟩;obtain⟨_,f1,A1,β1,k1,k2,k3,k4,_⟩:=rG hE hO hC hi' hi hs hf hstep;obtain⟨f2,A2,β2,m1,m2,m3,m4⟩:=hk A1 β1 f1 k1.fr.inv k3 k4;refine⟨f2,A2,β2,⟨k1.fr.trans m1.fr,fun φ T w a hfr hr hT hfs Q hQ=>eu ?_⟩,k2.trans m2 hkp.w,m3,m4⟩;refine k1.run φ T w a hfr hr (hT.left m1.fr) (bz hfs m1.fr.next) _ Q fun φ' w' a' hp hf'=>?_;refine m1.run φ' _ w' a' hf' hp.rel (bh hT) (ba hfs k1.fr.next hp) Q fun φ2 w2 a2 e hp2 hf2 hx2=>?_;exact hQ φ2 w2 a2 e (hp.trans k1.fr.next m1.fr hp2) hf2 hx2
  ·cases hl
end
section
variable {P:Program}
theorem xW {o:Oper}{a:Act}{w:World}{K K':Act→World→Prop}{Q Q':Exit→Act→World→Prop} (h:∀a w,K a w→K' a w) (hq:∀e a w,e≠.normal→Q e a w→Q' e a w) (hh:o.wp P a w K Q):o.wp P a w K' Q':=by
 unfold Oper.wp at *;generalize (execOp a.eval o).run P w=r at *;cases r with
 | ok n w'=>
  cases n<;>simp only [Oper.upon] at hh ⊢<;>
   first
    | exact h _ _ hh
    | exact Calls.mono hh (fun e w'' he=>by
      cases e with
      | returned v=>exact h _ _ he
      | panicked c=>exact hq _ _ _ (by simp) he
      | outgrown=>obtain⟨a,w,he⟩:=he; exact⟨a,w,hq _ _ _ (by simp) he⟩)
    | exact Rows.mono hh (fun _ _ he=>h _ _ he)
 | halt x w'=>
  cases x<;>simp only [Oper.upon] at hh ⊢;exact hq _ _ _ (by simp) hh
theorem yq {ops:Array Oper}{o:Oper}{a:Act} (h:o.guard=none):Region.wanted o (yielded ops a.tmps)=true:=by
 unfold Region.wanted; rw [h]
theorem xC {ops ops1:Array Oper}{m:Nat}{o:Oper} (hsz:ops1.size=m) (h1:∀i,i < m→ops1[i]?=ops[i]?) (hm:ops[m]?=some o)
  (low:∀i o,i≤m→ops[i]?=some o→∀e∈o.after,Region.binds .any e=true→e.on < i) (hbef:∀L,iK ops1 L→(∀e∈o.after,Region.binds .any e=true→L e.on)→∀i,i < m→L i)
  (haft:∀k o',m < k→ops[k]?=some o'→∃e∈o'.after,Region.binds .any e=true∧m≤e.on) {Q:Exit→Act→World→Prop}{listed listed':Array Bool}{a:Act}{w:World}{n:Nat} (hs:listed.size=m) (hs':listed'.size=ops.size) (hl:∀j,On listed' j↔On listed j) (hcl:iK ops1 (On listed))
  (hdone:Region.ready .any ops1 listed=[]→∀K,gQ P ops Q o K a w) (hon:∀i o',i∈Region.ready .any ops1 listed→ops1[i]?=some o'→wpOp P ops Q i (wpAny P .any ops Q n (listed'.setIfInBounds i true)) a w):wpAny P .any ops Q (n + 1) listed' a w:=by
 have hmlt:m < ops.size:=jO hm;have hnm:∀j,On listed j→j < m:=fun j hj=>by
  rcases Nat.lt_or_ge j m with h | h
  ·exact h
  ·exfalso;unfold On at hj;rw [Array.getD_eq_getD_getElem?,Array.getElem?_eq_none (by omega)] at hj;cases hj
 refine⟨fun hr=>?_,fun i hi=>?_⟩
 ·exfalso;have all:∀i,i≤m→On listed' i:=by
   intro i
   induction i using Nat.strongRecOn with
   | _ i ih=>
    intro hi;obtain⟨oi,hoi⟩:=j6 (ops:=ops) (show i < ops.size by omega);by_cases hon:On listed' i
    ·exact hon
    ·exfalso;have:i∈Region.ready .any ops listed':=by
      rw [mem_ready];exact⟨(nP (by omega)).2 hon,oi,hoi,fun e he hb=>ih e.on (low i oi hi hoi e he hb) (by have:=low i oi hi hoi e he hb; omega)⟩
     rw [hr] at this;cases this
  have:=hnm m ((hl m).1 (all m (Nat.le_refl _)));omega
 ·obtain⟨h0,oi,hoi,hall⟩:=mem_ready.1 hi;have hilt:=jO hoi;have hnot:=(nP (by omega)).1 h0;rcases Nat.lt_trichotomy i m with him | rfl | him
  ·have ho1:ops1[i]?=some oi:=(h1 i him).trans hoi;refine hon i oi ?_ ho1;rw [mem_ready];exact⟨(nP (by omega)).2 fun hh=>hnot ((hl i).2 hh),oi,ho1,fun e he hb=>(hl _).1 (hall e he hb)⟩
  ·rw [hm] at hoi;injection hoi with hoi;subst hoi;have hallL:∀k,k < i→On listed k:=hbef _ hcl fun e he hb=>(hl _).1 (hall e he hb);have hr1:Region.ready .any ops1 listed=[]:=by
    cases hr:Region.ready .any ops1 listed with
    | nil=>rfl
    | cons k l=>
     have hk:k∈Region.ready .any ops1 listed:=by rw [hr]; exact List.mem_cons_self
     obtain⟨g0,ok,hok,_⟩:=mem_ready.1 hk;have hkm:k < i:=by rw [← hsz]; exact jO hok
     exact absurd (hallL k hkm) ((nP (by omega)).1 g0)
   have key:=hdone hr1 (wpAny P .any ops Q n (listed'.setIfInBounds i true));unfold wpOp;rw [hm];unfold gQ at key;split at key
   ·rename_i hw; simp only [hw,if_true]; exact .inl key
   ·rename_i hw; simp only [hw]; exact key
  ·exfalso;obtain⟨e,he,hb,hle⟩:=haft i oi him hoi;have:=hnm _ ((hl _).1 (hall e he hb));omega
theorem Eg {ops ops1:Array Oper}{m:Nat}{o:Oper} (hsz:ops1.size=m) (h1:∀i,i < m→ops1[i]?=ops[i]?) (hm:ops[m]?=some o) (hg:∀(i:Nat) (o:Oper),ops1[i]?=some o→o.guard=none)
  (low:∀i o,i≤m→ops[i]?=some o→∀e∈o.after,Region.binds .any e=true→e.on < i) (hbef:∀L,iK ops1 L→(∀e∈o.after,Region.binds .any e=true→L e.on)→∀i,i < m→L i)
  (haft:∀k o',m < k→ops[k]?=some o'→∃e∈o'.after,Region.binds .any e=true∧m≤e.on) {Q Q':Exit→Act→World→Prop} (hQ:∀a w,Q' .normal a w→∀K,gQ P ops Q o K a w) (hQ2:∀e a w,e≠.normal→Q' e a w→Q e a w) :
  ∀(fuel:Nat) (listed listed':Array Bool) (a:Act) (w:World),listed.size=m→listed'.size=ops.size→(∀j,On listed' j↔On listed j)→iK ops1 (On listed)→wpAny P .any ops1 Q' fuel listed a w→∀n,fuel < n→wpAny P .any ops Q n listed' a w:=by
 intro fuel
 induction fuel with
 | zero=>
  intro listed listed' a w hs hs' hl hcl h n hn;obtain⟨n,rfl⟩ : ∃n',n=n' + 1:=⟨n - 1,by omega⟩
  obtain⟨hr0,hqn⟩:=h;exact xC hsz h1 hm low hbef haft hs hs' hl hcl (fun _=>hQ _ _ hqn) (fun i o' hi _=>by rw [hr0] at hi; cases hi)
 | succ fuel ih=>
  intro listed listed' a w hs hs' hl hcl h n hn;obtain⟨n,rfl⟩ : ∃n',n=n' + 1:=⟨n - 1,by omega⟩
  obtain⟨hd,hstep⟩:=h;refine xC hsz h1 hm low hbef haft hs hs' hl hcl (fun hr=>hQ _ _ (hd hr)) (fun i o' hi ho'=>?_);have hk:=hstep i hi;obtain⟨g0,oi,hoi,hall⟩:=mem_ready.1 hi;rw [ho'] at hoi;injection hoi with hoi;subst hoi;have him:i < m:=by rw [← hsz]; exact jO ho'
  have hig:=hg i _ ho';have hoo:ops[i]?=some o':=(h1 i him).symm.trans ho';have hnext:∀a w,wpAny P .any ops1 Q' fuel (listed.setIfInBounds i true) a w→wpAny P .any ops Q n (listed'.setIfInBounds i true) a w:=fun a w hh=>by
   refine ih (listed.setIfInBounds i true) (listed'.setIfInBounds i true) a w (by simpa using hs) (by simpa using hs') (fun j=>?_) ?_ hh n (by omega)
   ·rw [qh (by have:=jO hoo; omega),qh (by omega),hl]
   ·intro j oj hoj hj e he hb;have hj':=(qh (listed:=listed) (by omega) j).1 hj;refine (qh (listed:=listed) (by omega) e.on).2 (.inl ?_);rcases hj' with hj' | rfl
    ·exact hcl j oj hoj hj' e he hb
    ·rw [ho'] at hoj;injection hoj with hoj;subst hoj;exact hall e he hb
  unfold wpOp at hk ⊢;simp only [ho'] at hk;simp only [hoo];simp only [yq hig,if_true] at hk ⊢;refine hk.imp (xW hnext hQ2) fun ⟨h1,h2⟩=>⟨h1,?_⟩
  obtain⟨a',w',h2⟩:=h2;exact⟨a',w',hQ2 _ _ _ (by simp) h2⟩
end
section
variable {ds:List Deferred}{P:Program}
theorem Cc:∀{l:List PI}{r:List (List Nat × List Nat)}{x:PI × List Nat × List Nat},x∈lR l r→x.2∈r
 | [],_,_,h=>by simp [lR] at h
 | _ :: _,[],_,h=>by simp [lR] at h
 | i :: l,y :: r,x,h=>by
  rcases List.mem_cons.1 h with rfl | h
  ·exact List.mem_cons_self
  ·exact List.mem_cons_of_mem _ (Cc h)
theorem xn {un:List Nat}{j:Nat}{l:List (PI × List Nat × List Nat)} : mX un j l=true↔un=[]∧∀x∈l,j ∉ x.2.2:=by
 unfold mX;simp [List.all_eq_true]
noncomputable def Qm:List Oper→Nat→Tr Nat→Tr Nat
 | [],_,bs=>bs
 | o :: l,j,bs=>Qm l (j + 1) (Tr.set (du bs o.after.toList) 40 bs j)
def yQ (bs:Tr Nat):Prop:=∀m b,bs.get m=some b→∀x,b.testBit x=true→x < m
theorem zS {j:Nat}{o:Oper} (h:fy j o.after.toList=true):∀e∈o.after,Region.binds .any e=true→e.on < j:=fun e he hb=>by
 unfold fy at h;rw [List.all_eq_true] at h;have:=h e (by simpa using he);rw [hb] at this;exact Nat.le_of_ble_eq_true (by simpa using this)
theorem yQ.set {bs:Tr Nat} (h:yQ bs) {j:Nat}{o:Oper} (hl:fy j o.after.toList=true):yQ (Tr.set (du bs o.after.toList) 40 bs j):=by
 intro m b hb x hx;rw [Tr.get_set _ _ _ _ trivial] at hb;split at hb
 ·rename_i hm;injection hb with hb;subst hb; subst hm;obtain⟨e,he,hbi,h3⟩:=mM hx;have h1:=zS hl e (by simpa using he) hbi;rcases h3 with rfl | h3
  ·exact h1
  ·cases hg:bs.get e.on with
   | none=>rw [hg] at h3; simp at h3
   | some b=>rw [hg] at h3; have:=h e.on b hg x h3; omega
 ·exact h m b hb x hx
theorem Aw {ops:List Oper}{o:Oper}{i:PI}{nt:Nat} (h:jb P nt ops o=some i) (hi:i.gd=none):o.guard=none:=by
 unfold jb at h;split at h
 ·rename_i g hg;split at h
  ·injection h with h; subst h;simp only at hi;subst hi;unfold xb at hg;split at hg
   ·rename_i hh; exact hh
   ·split at hg
    ·injection hg with hg; cases hg
    ·cases hg
  ·cases h
 ·cases h
theorem F3 {nt:Nat}{ops:Array Oper}{m:Nat} : ∀(lo:List Oper) (j:Nat) (bs:Tr Nat) (sacc:List (Nat × List Nat × Option Nat)) (r:List (List Nat × List Nat)),dS nt ops lo j bs sacc=some r→yQ bs→(∃ls d,(m,ls,d)∈sacc)→(∀x∈r,m ∉ x.2)→∀o∈lo,∃e∈o.after,Region.binds .any e=true∧m≤e.on:=by
 intro lo
 induction lo with
 | nil=>intro j bs sacc r _ _ _ _ o ho; cases ho
 | cons o lo ih=>
  intro j bs sacc r hr hbs hm hx o' ho';simp only [dS] at hr;split at hr
  ·rename_i hst;simp only [Bool.and_eq_true] at hst;split at hr
   ·rename_i r' hr';injection hr with hr; subst hr;rcases List.mem_cons.1 ho' with rfl | ho'
    ·have hn:=hx _ List.mem_cons_self;obtain⟨ls,d,hmm⟩:=hm;cases hb:(du bs o'.after.toList).testBit m with
     | false=>exact absurd (List.mem_map.2 ⟨_,List.mem_filter.2 ⟨hmm,by simp only [hb]; rfl⟩,rfl⟩) hn
     | true=>
      obtain⟨e,he,hbi,h3⟩:=mM hb;refine⟨e,by simpa using he,hbi,?_⟩;rcases h3 with rfl | h3
      ·exact Nat.le_refl _
      ·cases hg:bs.get e.on with
       | none=>rw [hg] at h3; simp at h3
       | some b=>rw [hg] at h3; exact Nat.le_of_lt (hbs e.on b hg m h3)
    ·obtain⟨ls,d,hmm⟩:=hm;exact ih (j + 1) _ _ r' hr' (hbs.set hst.1) ⟨ls,d,List.mem_cons_of_mem _ hmm⟩ (fun x hx'=>hx x (List.mem_cons_of_mem _ hx')) o' ho'
   ·cases hr
  ·cases hr
theorem Gk {Γ:Nat→Option fe}{ext:aw}{K:KX}{ops:Array Oper}{nt:Nat}{U:XU} : ∀(lo:List Oper) (l:List PI) (r:List (List Nat × List Nat)) (j:Nat) (bs:Tr Nat) (sacc:List (Nat × List Nat × Option Nat)) (pacc:List (Nat × gy × Nat × Nat)) {p:aE}{s:PS},
  dU P nt ops.toList lo=some l→dS nt ops lo j bs sacc=some r→XD P Γ ext K (lR l r) j pacc p s U→(∀i,i < j→∃ls d,(i,ls,d)∈sacc)→yQ bs→
  ∃lo1 o lo2 l1 r1 p1 s1 i,lo=lo1 ++ o :: lo2∧(∀x∈lo1,x.guard=none)∧o.guard=none∧dU P nt ops.toList lo1=some l1∧dS nt ops lo1 j bs sacc=some r1∧(∀x∈r1,x∈r)∧j4 P (cz Γ) (gp P Γ ext) (lR l1 r1) j pacc p s=some (p1,s1)∧jb P nt ops.toList o=some i∧eb p1 i.gd=some true∧
   XA K p1 s1 (fun v s'=>U v p1 s') i.op∧fy (j + lo1.length) o.after.toList=true∧(∀x,x < j + lo1.length→(du (Qm lo1 j bs) o.after.toList).testBit x=true)∧∀o'∈lo2,∃e∈o'.after,Region.binds .any e=true∧j + lo1.length≤e.on:=by
 intro lo
 induction lo with
 | nil=>
  intro l r j bs sacc pacc p s hl hr h;simp only [dU] at hl;injection hl with hl; subst hl;simp only [dS] at hr;injection hr with hr; subst hr;exact h.elim
 | cons o lo ih=>
  intro l r j bs sacc pacc p s hl hr h hsacc hbs;have hr0:=hr;simp only [dU] at hl;split at hl
  ·rename_i i l' hi' hl';injection hl with hl; subst hl;simp only [dS] at hr;split at hr
   ·rename_i hst;have hst0:=hst;simp only [Bool.and_eq_true] at hst;split at hr
    ·rename_i r' hr';injection hr with hr; subst hr;have hlen:l'.length=r'.length:=(uX hl').trans (rX hr').symm;obtain⟨hgd,h⟩:=h;have hog:=Aw hi' hgd;rcases h with ⟨hbar,hxa⟩ | ⟨q,h1,h2,h3,h4⟩
     ·rw [xn] at hbar;obtain⟨b1,b2⟩:=hbar;have hnj:∀x∈r',j ∉ x.2:=fun x hx=>by
       obtain⟨i',hi2⟩:=oG hlen x hx;exact b2 _ hi2
      refine⟨[],o,lo,[],[],p,s,i,rfl,(fun x hx=>by cases hx),hog,rfl,rfl,(fun x hx=>by cases hx),rfl,hi',(by rw [hgd]; rfl),hxa,hst.1,fun x hx=>?_,?_⟩
      ·obtain⟨ls,d,hm⟩:=hsacc x hx;cases hb:(du bs o.after.toList).testBit x with
       | true=>exact hb
       | false=>
        have:x∈(sacc.filter fun p=>!((du bs o.after.toList).testBit p.1)).map (·.1):=List.mem_map.2 ⟨_,List.mem_filter.2 ⟨hm,by simp only [hb]; rfl⟩,rfl⟩;have b1':(sacc.filter fun p=>!((du bs o.after.toList).testBit p.1)).map (·.1)=[]:=b1;rw [b1'] at this;cases this
      ·exact F3 lo (j + 1) _ _ r' hr' (hbs.set hst.1) ⟨_,_,List.mem_cons_self⟩ hnj
     ·obtain⟨q1,q2⟩:=q;obtain⟨lo1,o1,lo2,l1,r1,p1,s1,i1,e1,e2,e3,e4,e5,e6,e7,e8,e9,e10,e11,e12,e13⟩:=ih l' r' (j + 1) _ _ _ hl' hr' h4 (fun x hx=>by
       by_cases hxj:x=j
       ·subst hxj; exact⟨_,_,List.mem_cons_self⟩
       ·obtain⟨ls,d,hm⟩:=hsacc x (by omega);exact⟨ls,d,List.mem_cons_of_mem _ hm⟩) (hbs.set hst.1)
      refine⟨o :: lo1,o1,lo2,i :: l1,(o.looksAt ops,(sacc.filter fun p=>!((du bs o.after.toList).testBit p.1)).map (·.1)) :: r1,p1,s1,i1,by rw [e1]; rfl,fun x hx=>?_,e3,by simp only [dU,hi',e4],?_,fun x hx=>?_,?_,e8,e9,e10,by rw [List.length_cons,show j + (lo1.length + 1)=j + 1 + lo1.length by omega]; exact e11,fun x hx=>?_,fun o' ho'=>?_⟩
      ·rcases List.mem_cons.1 hx with rfl | hx
       ·exact hog
       ·exact e2 x hx
      ·simp only [dS];rw [if_pos hst0,e5]
      ·rcases List.mem_cons.1 hx with rfl | hx
       ·exact List.mem_cons_self
       ·exact List.mem_cons_of_mem _ (e6 x hx)
      ·have hstep:dZ P (gp P Γ ext) i (cR (o.looksAt ops) p) s=some (q1,q2):=h1;have hbb:mX ((sacc.filter fun p=>!((du bs o.after.toList).testBit p.1)).map (·.1)) j (lR l' r')=true→mX ((sacc.filter fun p=>!((du bs o.after.toList).testBit p.1)).map (·.1)) j (lR l1 r1)=true:=fun hb=>by
        rw [xn] at hb ⊢;refine⟨hb.1,fun x hx=>?_⟩;obtain⟨i',hi2⟩:=oG hlen x.2 (e6 _ (Cc hx));exact hb.2 (i',x.2.1,x.2.2) hi2
       simp only [lR,j4,hstep,Option.bind_some];rw [if_pos ⟨h2.imp id hbb,h3⟩];exact e7
      ·rw [List.length_cons] at hx;exact e12 x (by omega)
      ·rw [List.length_cons,show j + (lo1.length + 1)=j + 1 + lo1.length by omega];exact e13 o' ho'
    ·cases hr
   ·cases hr
  ·cases hl
theorem AG {ops ops1:Array Oper}{o:Oper} (h:o.guard=none):o.looksAt ops=o.looksAt ops1:=by
 unfold Oper.looksAt; rw [h]
theorem AH {nt:Nat}{ops ops1:List Oper} : ∀(lo:List Oper),(∀x∈lo,x.guard=none)→dU P nt ops lo=dU P nt ops1 lo:=by
 intro lo
 induction lo with
 | nil=>intro _; rfl
 | cons o lo ih=>
  intro h;have h1:jb P nt ops o=jb P nt ops1 o:=by
   unfold jb;rw [h o List.mem_cons_self];rfl
  simp only [dU,h1,ih fun x hx=>h x (List.mem_cons_of_mem _ hx)]
theorem xi {nt:Nat}{ops ops1:Array Oper} : ∀(lo:List Oper) (j:Nat) (bs:Tr Nat) (acc:List (Nat × List Nat × Option Nat)),(∀x∈lo,x.guard=none)→dS nt ops lo j bs acc=dS nt ops1 lo j bs acc:=by
 intro lo
 induction lo with
 | nil=>intro j bs acc _; rfl
 | cons o lo ih=>
  intro j bs acc h;simp only [dS,AG (ops:=ops) (ops1:=ops1) (h o List.mem_cons_self),ih _ _ _ fun x hx=>h x (List.mem_cons_of_mem _ hx)]
theorem RN (hE:lW P) (hO:be P) (hm:P.follows .mixedOrders=true) {Γ:Nat→Option fe}{ext:aw} (hC:bM P (cz Γ) (gp P Γ ext)) {K:KX} (hK:Qj P K) {ops:Array Oper}{nt:Nat}{U:XU} (id:Nat) {l:List PI}{r:List (List Nat × List Nat)} (hl:dU P nt ops.toList ops.toList=some l) (hr:dS nt ops ops.toList 0 .nil []=some r) {p:aE}{s:PS} (h:XD P Γ ext K (lR l r) 0 [] p s U) :
  ∃v p' s',U v p' s'∧Ax v∧Kp s s'∧∀(A:AS) (β:Nat→Nat) (f:Fr),bE A→RS A β s→RF ds A β s.n nt f p→∃f' A' β',gE P (.region id ops true) f A (.panic v) f' A'∧Fw A A' β β' s.n s'.n s'.w∧RS A' β' s'∧RF ds A' β' s'.n nt f' p':=by
 obtain⟨lo1,o,lo2,l1,r1,p1,s1,i,e1,e2,e3,e4,e5,e6,e7,e8,e9,e10,e11,e12,e13⟩:=Gk ops.toList l r 0 .nil [] [] hl hr h (fun i hi=>absurd hi (Nat.not_lt_zero _)) (fun m b hb=>by rw [Tr.get_nil] at hb; cases hb);simp only [Nat.zero_add] at e11 e12 e13;obtain⟨v,s',hu,hpv,hkp,hk⟩:=M8 hE hO hK e8 e9 e10;have kpd:Kp s s1:=CP hC (lR l1 r1) 0 [] e7;refine⟨v,p1,s',hu,hpv,kpd.trans hkp,fun A β f hi hs hf=>?_⟩;have hl1:dU P nt lo1.toArray.toList lo1.toArray.toList=some l1:=by
  rw [← AH (ops:=ops.toList) (ops1:=lo1.toArray.toList) _ (by simpa using e2)];simpa using e4
 have hr1:dS nt lo1.toArray lo1.toArray.toList 0 .nil []=some r1:=by
  rw [← xi (ops:=ops) (ops1:=lo1.toArray) _ _ _ _ (by simpa using e2)];simpa using e5
 obtain⟨_,X,x1,x2,x3,x4,x7,β1,w1,w2,w3⟩:=s7 hE hO hC lo1.toArray.toList l1 r1 0 .nil [] [] [] hl1 hr1 e7 hi hs hf (fun e he=>by cases he);simp only [Nat.zero_add,Array.length_toList] at x7 w1 w2 w3;have hsz1:lo1.toArray.size=lo1.length:=by simp
 have W:EvL.mT P (fun _ _ _=>none) lo1.toArray X:=⟨x3,x4,fun i o ho=>(x7 i o (by simpa using ho)).1⟩
 have H:EvL.iZ P lo1.toArray X:=⟨fun i hi=>by
  obtain⟨o,ho⟩:=j6 hi;exact (x7 i o (by simpa using ho)).2.fr,fun i o ho=>(x7 i o (by simpa using ho)).2⟩
 have hX0:bE (X 0).s:=by rw [x2]; exact hi
 have hall:=H.all W hX0 lo1.toArray.size (Nat.le_refl _);obtain⟨A',β',c1,c2,c3⟩:=hk (X lo1.toArray.size).s β1 (X lo1.toArray.size).f hall.inv w2 w3;refine⟨(X lo1.toArray.size).f,A',β',⟨by rw [← x2]; exact hall.trans c1.fr,fun φ T w a hfr hrr hT hfs Q hQ=>?_⟩,w1.trans c2 hkp.w,c3,w3.mono c2⟩;rw [← x1] at hfr;rw [← x2] at hrr hT hfs hQ;have hfr0:dm φ (X 0).f a:=hfr;have hops:∀k,k < lo1.length→lo1.toArray[k]?=ops[k]?:=fun k hk=>by
  have:ops.toList[k]?=lo1[k]?:=by rw [e1,List.getElem?_append_left hk]
  simpa using this.symm
 have hom:ops[lo1.length]?=some o:=by
  have:ops.toList[lo1.length]?=some o:=by rw [e1,List.getElem?_append_right (Nat.le_refl _)]; simp
  simpa using this
 have hbs:∀(lo:List Oper) (j:Nat),(∀i o,lo[i]?=some o→(X (j + i + 1)).bs=Tr.set (du (X (j + i)).bs o.after.toList) 40 (X (j + i)).bs (j + i))→(X (j + lo.length)).bs=Qm lo j (X j).bs:=by
  intro lo
  induction lo with
  | nil=>intro j _; rfl
  | cons o lo ih=>
   intro j hh;have h0:=hh 0 o rfl;have:=ih (j + 1) fun i o' ho'=>by
    have:=hh (i + 1) o' ho';rw [show j + (i + 1)=j + 1 + i by omega] at this;exact this
   rw [List.length_cons,show j + (lo.length + 1)=j + 1 + lo.length by omega,this];show Qm lo (j + 1) (X (j + 1)).bs=Qm lo (j + 1) _;rw [show j + 1=j + 0 + 1 from rfl,h0];rfl
 have hbsm:(X lo1.length).bs=Qm lo1 0 .nil:=by
  have:=hbs lo1 0 fun i o ho=>by
   rw [Nat.zero_add];exact (x7 i o (by simpa using ho)).1.bs
  rw [Nat.zero_add,x3] at this;exact this
 refine wp_region_any hm (Eg (ops1:=lo1.toArray) (m:=lo1.length) (o:=o) hsz1 hops hom (fun i o' ho'=>e2 o' ?_) (fun i o' hi ho'=>?_) (fun L hL hLe x hx=>?_) (fun k o' hk ho'=>?_) (Q':=fun e a w'=>e=.normal∧∃φ',bG P φ T (X 0).s (X lo1.toArray.size).s w w' φ'∧dm φ' (X lo1.toArray.size).f a) ?_ ?_ lo1.length (Array.replicate lo1.length false) _ a _ (by simp) (by simp) (fun j=>?_) (fun j oj _ hj=>?_) ?_ _ (jO hom))
 ·have:lo1[i]?=some o':=by simpa using ho'
  exact List.mem_of_getElem? this
 ·rcases Nat.lt_or_eq_of_le hi with hi | rfl
  ·have:=(x7 i o' (by have:=(hops i hi).trans ho'; simpa using this)).1.low;exact zS this
  ·rw [hom] at ho';injection ho' with ho';subst ho';exact zS e11
 ·have hb:=e12 x hx;rw [← hbsm] at hb;obtain⟨e,he,hbi,h3⟩:=mM hb;have hLeo:=hLe e (by simpa using he) hbi;rcases h3 with rfl | h3
  ·exact hLeo
  ·cases hg:(X lo1.length).bs.get e.on with
   | none=>rw [hg] at h3; simp at h3
   | some b=>
    obtain⟨o',k1,k2,k3⟩:=W.bsAt lo1.length (by simp) e.on (by rw [hg]; rfl);rw [k3] at h3;exact W.before hL e.on o' k1 hLeo x h3
 ·refine e13 o' ?_;have h1:ops.toList[k]?=some o':=by simpa using ho'
  rw [e1,List.getElem?_append_right (Nat.le_of_lt hk)] at h1;obtain⟨k',hk'⟩ : ∃k',k - lo1.length=k' + 1:=⟨k - lo1.length - 1,by omega⟩
  rw [hk'] at h1;exact List.mem_of_getElem? h1
 ·rintro a' w' ⟨_,φ',hp,hf'⟩ K';refine c1.run φ' (fun c=>T c∨((X 0).s.next≤c∧c < (X lo1.toArray.size).s.next)) w' a' hf' hp.rel (bh hT) (ba hfs hall.next hp) K' Q fun φ2 w2 v2 hp2 hv2=>?_;exact hQ φ2 w2 a' _ (hp.trans hall.next c1.fr hp2) (hf'.mono hp2.ext) (.panic _ _ hv2)
 ·rintro e a' w' hne ⟨he,_⟩;exact absurd he hne
 ·have h1:∀n j,On (Array.replicate n false) j↔False:=fun n j=>by
   unfold On;rw [Array.getD_eq_getD_getElem?,Array.getElem?_replicate];split<;>simp
  rw [h1,h1]
 ·exfalso;unfold On at hj;rw [Array.getD_eq_getD_getElem?,Array.getElem?_replicate] at hj;split at hj<;>simp at hj
 ·have hT1:fU (X 0).s (X lo1.toArray.size).s T:=hT.left c1.fr;have hfs1:=bz hfs c1.fr.next;refine si W H hfr0.few hT1 hfs1 (w₀:=w) (fun φ' w' a' hp hf'=>⟨rfl,φ',hp,hf'⟩) lo1.length _ φ a _ (fun _=>False) (by simp) (fun j=>?_) (fun _ _ _ hh=>hh.elim) ?_ (DO.start W H hX0 hfr0 hrr)
  ·unfold On;refine⟨fun h=>h.elim,fun h=>?_⟩;simp only [Array.getD_eq_getD_getElem?,Array.getElem?_replicate] at h;split at h<;>simp at h
  ·have:∀(p:Nat→Bool) n,EvL.zD p n≤n:=by
    intro p n
    induction n with
    | zero=>exact Nat.le_refl _
    | succ n ih=>simp only [EvL.zD]; split<;>omega
   have:=this (fun j=>!(Array.replicate lo1.length false).getD j false) lo1.toArray.size;rw [hsz1] at this ⊢;exact this
end
section
variable {ds:List Deferred}{P:Program}
theorem nT (hE:lW P) (hO:be P) (hm:P.follows .mixedOrders=true) (hP:hZ P) {Γ:Nat→Option fe} (hΓ:gx P Γ) {ext:aw} (hX:bM P (cz Γ) ext) {nt:Nat}{c:Code}{pc:aR} (hc:comp P nt c=some pc):iY P nt c (io P Γ ext pc):=by
 intro ds A β f p p' s s' x hi hs hf h;obtain⟨n,hn⟩:=(bN (kg pc p s) _).1 h;exact Cg hE hO hm (tR hE hO hm hP hΓ hX n) c pc hc hi hs hf hn
theorem u7 (hE:lW P) (hO:be P) (hm:P.follows .mixedOrders=true) (hP:hZ P) {Γ:Nat→Option fe} (hΓ:gx P Γ) {ext:aw} (hX:bM P (cz Γ) ext) {pc:aR}{p p':aE}{s s':PS}{x:E9} (h:io P Γ ext pc p s=some (x,p',s')):Kp s s':=by
 obtain⟨n,hn⟩:=(bN (kg pc p s) _).1 h;exact Cj (tR hE hO hm hP hΓ hX n) hn
theorem LE (hE:lW P) (hO:be P) (hm:P.follows .mixedOrders=true) (hP:hZ P) {Γ:Nat→Option fe} (hΓ:gx P Γ) {ext:aw} (hX:bM P (cz Γ) ext) {K:KX} (hK:Qj P K) {nt:Nat}{U:XU} : ∀(c:Code) (pc:aR),comp P nt c=some pc→∀{p:aE}{s:PS},XC P Γ ext K pc p s U→
  ∃v p' s',U v p' s'∧Ax v∧Kp s s'∧∀(A:AS) (β:Nat→Nat) (f:Fr),bE A→RS A β s→RF ds A β s.n nt f p→∃f' A' β',gE P c f A (.panic v) f' A'∧Fw A A' β β' s.n s'.n s'.w∧RS A' β' s'∧RF ds A' β' s'.n nt f' p':=by
 have hC:=oJ hE hO hm hP hΓ hX;intro c
 induction c with
 | region id ops draw=>
  intro pc hc p s h;cases draw with
  | true=>
   simp only [comp] at hc;split at hc
   ·rename_i l r h1 h2;injection hc with hc; subst hc;exact RN hE hO hm hC hK id h1 h2 h
   ·cases hc
  | false=>
   simp only [comp,Option.map_eq_some_iff] at hc;obtain⟨r,h1,rfl⟩:=hc;obtain⟨v,p',s',hu,hpv,hkp,hk⟩:=QG hE hO hC hK _ _ h1 h;refine⟨v,p',s',hu,hpv,hkp,fun A β f hi hs hf=>?_⟩;obtain⟨f',A',β',k1,k2⟩:=hk A β f hi hs hf;exact⟨f',A',β',⟨k1.fr,fun φ T w a hf hr hT hfr Q hQ=>wp_region_list (k1.run φ T w a hf hr hT hfr Q hQ)⟩,k2⟩
 | seq a b iha ihb=>
  intro pc hc p s h;simp only [comp] at hc;split at hc
  ·rename_i pa pb ha hb;injection hc with hc; subst hc;rcases h with h | ⟨p1,s1,h1,h2⟩
   ·obtain⟨v,p',s',hu,hpv,hkp,hk⟩:=iha pa ha h;refine⟨v,p',s',hu,hpv,hkp,fun A β f hi hs hf=>?_⟩;obtain⟨f',A',β',k1,k2⟩:=hk A β f hi hs hf;refine⟨f',A',β',⟨k1.fr,fun φ T w a hf hr hT hfr Q hQ=>wp_seq ?_⟩,k2⟩;refine k1.run φ T w a hf hr hT hfr _ fun φ' w' a' e hp hf' he=>?_;have:=hQ φ' w' a' e hp hf' he;cases he;exact this
   ·obtain⟨v,p',s',hu,hpv,hkp,hk⟩:=ihb pb hb h2;refine⟨v,p',s',hu,hpv,(u7 hE hO hm hP hΓ hX h1).trans hkp,fun A β f hi hs hf=>?_⟩;obtain⟨_,f1,A1,β1,k1,k2,k3,k4⟩:=nT hE hO hm hP hΓ hX ha hi hs hf h1;obtain⟨f2,A2,β2,m1,m2,m3,m4⟩:=hk A1 β1 f1 k1.fr.inv k3 k4;refine⟨f2,A2,β2,⟨k1.fr.trans m1.fr,fun φ T w a hf hr hT hfr Q hQ=>wp_seq ?_⟩,k2.trans m2 hkp.w,m3,m4⟩;refine k1.run φ T w a hf hr (hT.left m1.fr) (bz hfr m1.fr.next) _ fun φ' w' a' e hp hf' he=>?_;cases he;exact m1.run φ' _ w' a' hf' hp.rel (bh hT) (ba hfr k1.fr.next hp) Q fun φ2 w2 a2 e hp2 hf2 hx2=>hQ φ2 w2 a2 e (hp.trans k1.fr.next m1.fr hp2) hf2 hx2
  ·cases hc
 | cond o a b iha ihb=>
  intro pc hc p s h;simp only [comp] at hc;split at hc
  ·rename_i pa pb ho ha hb;injection hc with hc; subst hc;rcases h with ⟨h0,h⟩ | ⟨h0,h⟩
   ·obtain⟨v,p',s',hu,hpv,hkp,hk⟩:=iha pa ha h;refine⟨v,p',s',hu,hpv,hkp,fun A β f hi hs hf=>?_⟩;obtain⟨f',A',β',k1,k2⟩:=hk A β f hi hs hf;obtain⟨vx,v1,v2⟩:=aL hf ho;have:=iG v2 h0;subst this;refine⟨f',A',β',⟨k1.fr,fun φ T w a hf hr hT hfr Q hQ=>?_⟩,k2⟩;have hv:=hf.eval v1;generalize hq:a.eval o=q at hv;cases hv;exact wp_cond_true hq (k1.run φ T w a hf hr hT hfr Q hQ)
   ·obtain⟨v,p',s',hu,hpv,hkp,hk⟩:=ihb pb hb h;refine⟨v,p',s',hu,hpv,hkp,fun A β f hi hs hf=>?_⟩;obtain⟨f',A',β',k1,k2⟩:=hk A β f hi hs hf;obtain⟨vx,v1,v2⟩:=aL hf ho;have:=iG v2 h0;subst this;refine⟨f',A',β',⟨k1.fr,fun φ T w a hf hr hT hfr Q hQ=>?_⟩,k2⟩;have hv:=hf.eval v1;generalize hq:a.eval o=q at hv;cases hv;exact wp_cond_false hq (k1.run φ T w a hf hr hT hfr Q hQ)
  ·cases hc
 | block id b ih=>
  intro pc hc p s h;simp only [comp,Option.map_eq_some_iff] at hc;obtain⟨pb,hb,rfl⟩:=hc;obtain⟨v,p',s',hu,hpv,hkp,hk⟩:=ih pb hb h;refine⟨v,p',s',hu,hpv,hkp,fun A β f hi hs hf=>?_⟩;obtain⟨f',A',β',k1,k2⟩:=hk A β f hi hs hf;refine⟨f',A',β',⟨k1.fr,fun φ T w a hf hr hT hfr Q hQ=>wp_block ?_⟩,k2⟩;refine k1.run φ T w a hf hr hT hfr _ fun φ' w' a' e hp hf' he=>?_;have:=hQ φ' w' a' e hp hf' he;cases he;exact this
 | loop b ih=>
  intro pc hc p s h;simp only [comp,Option.map_eq_some_iff] at hc;obtain⟨pb,hb,rfl⟩:=hc
  replace h:XL (fun f s=>XC P Γ ext K pb f s U) (io P Γ ext pb) p s:=h
  have key:∃(L:Nat) (v:Value) (p':aE) (s':PS),U v p' s'∧Ax v∧Kp s s'∧∀(A:AS) (β:Nat→Nat) (f:Fr),bE A→RS A β s→RF ds A β s.n nt f p→∃f' A' β',(kW A A'∧∀(φ:cK) (T:Nat→Prop) (w:World) (a:Act),dm φ f a→gz P φ T A w→fU A A' T→fu A A' φ→∀(Q:Exit→Act→World→Prop),
    (∀φ' w' a' e,bG P φ T A A' w w' φ'→dm φ' f' a'→uj φ' (.panic v) e→Q e a' w')→Code.rounds P b Q L a w)∧Fw A A' β β' s.n s'.n s'.w∧RS A' β' s'∧RF ds A' β' s'.n nt f' p':=by
   induction h with
   | here p s h=>
    obtain⟨v,p',s',hu,hpv,hkp,hk⟩:=ih pb hb h;refine⟨1,v,p',s',hu,hpv,hkp,fun A β f hi hs hf=>?_⟩;obtain⟨f',A',β',k1,k2⟩:=hk A β f hi hs hf;refine⟨f',A',β',⟨k1.fr,fun φ T w a hf hr hT hfr Q hQ=>?_⟩,k2⟩;rw [rounds_succ];refine k1.run φ T w a hf hr hT hfr _ fun φ' w' a' e hp hf' he=>?_;have:=hQ φ' w' a' e hp hf' he;cases he;exact this
   | next p s p1 s1 h1 _ k=>
    obtain⟨L,v,p',s',hu,hpv,hkp,hk⟩:=k;refine⟨L + 1,v,p',s',hu,hpv,(u7 hE hO hm hP hΓ hX h1).trans hkp,fun A β f hi hs hf=>?_⟩;obtain⟨_,f1,A1,β1,k1,k2,k3,k4⟩:=nT hE hO hm hP hΓ hX hb hi hs hf h1;obtain⟨f2,A2,β2,⟨m0,m1⟩,m2,m3,m4⟩:=hk A1 β1 f1 k1.fr.inv k3 k4;refine⟨f2,A2,β2,⟨k1.fr.trans m0,fun φ T w a hf hr hT hfr Q hQ=>?_⟩,k2.trans m2 hkp.w,m3,m4⟩;rw [rounds_succ];refine k1.run φ T w a hf hr (hT.left m0) (bz hfr m0.next) _ fun φ' w' a' e hp hf' he=>?_;cases he;exact m1 φ' _ w' a' hf' hp.rel (bh hT) (ba hfr k1.fr.next hp) Q fun φ2 w2 a2 e hp2 hf2 hx2=>hQ φ2 w2 a2 e (hp.trans k1.fr.next m0 hp2) hf2 hx2
  obtain⟨L,v,p',s',hu,hpv,hkp,hk⟩:=key;refine⟨v,p',s',hu,hpv,hkp,fun A β f hi hs hf=>?_⟩;obtain⟨f',A',β',⟨k0,k1⟩,k2⟩:=hk A β f hi hs hf;exact⟨f',A',β',⟨k0,fun φ T w a hf hr hT hfr Q hQ=>wp_loop_rounds L (k1 φ T w a hf hr hT hfr Q hQ)⟩,k2⟩
 | skip=>intro pc hc p s h; simp only [comp] at hc; injection hc with hc; subst hc; exact h.elim
 | exit id=>intro pc hc p s h; simp only [comp] at hc; injection hc with hc; subst hc; exact h.elim
 | ret=>intro pc hc p s h; simp only [comp] at hc; injection hc with hc; subst hc; exact h.elim
 | _=>intro pc hc p s h; simp only [comp] at hc; injection hc with hc; subst hc; exact h.elim
theorem EW (hP:hZ P) {g:FuncId}{fn:Func}{c:Code} (hfn:P.funcs[g]?=some fn) (hc:fn.body=some c) {args:Array Value}{A A':AS}{f:Fr}{v:Value} (b1:fn.ntmps≤1000000) (b2:args.toList.length≤fn.ntmps)
  (s1:gE P c (kX fn args) A (.panic v) f A') (hd:f.defers=[]):cQ P g args A (.panic v) A':=by
 obtain⟨_,_,hF,hFm⟩:=hP _ rW nr;have h2:jp P (fun _ _ _=>none) fn f f.defers A' (some v)=some (.panic v,A'):=by rw [hd]; rfl
 obtain⟨f2,r2⟩:=jf hF hFm _ s1.fr.inv (Nat.le_refl _) h2;refine⟨s1.fr.trans f2,fun φ T w args' hargs hr hT hfr=>calls_of_wp_defers hfn hc ?_⟩;refine s1.run φ T w _ (iS hargs b1 b2) hr (hT.left f2) (bz hfr f2.next) _ fun φ' w' a' e hp hf' he=>?_;cases he with
 | panic _ v' hv=>
  exact r2 φ' _ w' a' a'.defers _ hf' hf'.defers (.panic _ _ hv) hp.rel (bh hT) (ba hfr s1.fr.next hp) (fun e w'=>∃φ',bG P φ T A A' w w' φ'∧jG φ' (.panic v) e) fun φ2 w2 e hp2 he=>⟨φ2,hp.trans s1.fr.next f2 hp2,he⟩
theorem Q7 (hE:lW P) (hO:be P) (hm:P.follows .mixedOrders=true) (hP:hZ P) {Γ:Nat→Option fe} (hΓ:gx P Γ) {ext:aw} (hX:bM P (cz Γ) ext):∀n,Qj P (Up P Γ ext n):=by
 intro n
 induction n with
 | zero=>intro g args s U h; exact h.elim
 | succ n ih=>
  intro g args s U h;obtain⟨pf,hpf,hlen,h⟩:=h;obtain⟨fn,keep,hfn,hcf⟩:=hΓ g pf hpf;unfold qV at hcf;split at hcf
  ·rename_i c hc;split at hcf
   ·rename_i b r hb hr;split at hcf
    ·rename_i hnt;injection hcf with hcf; subst hcf;have b1:=Nat.le_of_ble_eq_true hnt;obtain⟨v,p1,s1,hu,hpv,hkp,hk⟩:=LE hE hO hm hP hΓ hX ih c b hb h;have key:∀(A:AS) (β:Nat→Nat) (vs:List Value),bE A→RS A β s→Rs A β s.n vs args→∃A' β',cQ P g vs.toArray A (.panic v) A'∧Fw A A' β β' s.n s1.n s1.w∧RS A' β' s1:=by
      intro A β vs hi hs hvs;obtain⟨f1,A1,β1,k1,k2,k3,k4⟩:=hk A β _ hi (⟨hs.blk,hs.inj,hs.lay⟩ : RS A β ⟨s.h,s.n,s.n⟩) (rz hvs b1 hlen);refine⟨A1,β1,EW hP hfn hc b1 ?_ k1 k4.df,k2,k3⟩;rw [List.toList_toArray,hvs.len]; exact hlen
     rcases hu with ⟨hke,hu⟩ | ⟨hke,hw,hu⟩
     ·refine⟨v,_,hu,hpv,⟨fn,c,hfn,hc⟩,⟨Nat.min_le_left _ _,hkp.n,fun k a b=>hkp.h k a (by
       have:k < min s.w s1.w:=b;omega)⟩,fun A β vs hi hs hvs=>?_⟩
      obtain⟨A',β',q1,q2,q3⟩:=key A β vs hi hs hvs;exact⟨A',β',q1,q2.low (Nat.min_le_right _ _),⟨q3.blk,q3.inj,q3.lay⟩⟩
     ·refine⟨v,s,hu,hpv,⟨fn,c,hfn,hc⟩,.refl s,fun A β vs hi hs hvs=>?_⟩;obtain⟨A',β',q1,q2,q3⟩:=key A β vs hi hs hvs;have hs':Kd s s1:=fun k hk=>hkp.h k hk (by omega);have hw':∀c,c < A.next→A'.w.testBit c=true→A.w.testBit c=true:=fun c hc hb=>by
       rcases q2.w c hc hb with h | ⟨k,a1,a2,_⟩
       ·exact h
       ·omega
      exact⟨A',β',q1,⟨Nat.le_refl _,q2.next,q2.eq,fun k a b=>by omega,q2.prot,q2.keep,fun c hc hb=>.inl (hw' c hc hb)⟩,q3.cut hs q2.le hs'⟩
    ·cases hcf
   ·cases hcf
  ·cases hcf
theorem Tq (hE:lW P) (hO:be P) (hm:P.follows .mixedOrders=true) (hP:hZ P) {Γ:Nat→Option fe} (hΓ:gx P Γ) {ext:aw} (hX:bM P (cz Γ) ext):Qj P (XK P Γ ext):=by
 rintro g args s U ⟨n,h⟩;exact Q7 hE hO hm hP hΓ hX n g args s U h
end
end Go.PE
