/- An evaluator for closed calls, and its soundness. No statement is proved here. -/
import Derived.Test.YtgkggocjoolciaaGreatDoorEvD
import Derived.Recover
import Derived.Below
import Derived.Maps.Own
import Derived.Sort.KeysCollected
set_option linter.unusedSimpArgs false
set_option linter.unusedVariables false
set_option linter.defProp false
namespace Go.EvL
open Go
section
variable {P:Program}{call:dZ}{ops:Array Oper}{X:Nat→Gw}
theorem uZ {L:Nat→Prop} (hL:Closed ops L) {i:Nat}{o:Oper} (ho:ops[i]?=some o) (hr:∀e∈o.after,Region.binds .any e=true→L e.on):Closed ops fun j=>L j∨j=i:=by
 intro j o' ho' hj e he hb;rcases hj with hj | rfl
 ·exact .inl (hL j o' ho' hj e he hb)
 ·rw [ho] at ho'; injection ho' with ho'; subst ho'; exact .inl (hr e he hb)
theorem Ht.step (W:pR P call ops X) (H:kE P ops X) {φ₀ φ:dI}{T:Nat→Prop}{w₀ w:World}{a:Act}{L:Nat→Prop} (hn:(X 0).f.n≤1000000)
  (hT:jd (X 0).s (X ops.size).s T) (hfr:ja (X 0).s (X ops.size).s φ₀)
  (hL:Closed ops L) {i:Nat}{o:Oper} (ho:ops[i]?=some o) (hLi:¬ L i) (hr:∀e∈o.after,Region.binds .any e=true→L e.on) (M:Ht P ops X φ₀ T w₀ L φ a w)
  {K:Act→World→Prop}{Q:Exit→Act→World→Prop} (hK:∀φ' a' w',Ht P ops X φ₀ T w₀ (fun j=>L j∨j=i) φ' a' w'→K a' w'):l7 P ops Q o K a w:=by
 have hi:=ut ho;have hL':=uZ hL ho hr;have g:=W.good i o ho;have hs:=H.on i o ho;have hni:(X i).f.n≤1000000:=by rw [(W.n i (Nat.le_of_lt hi)).1]; exact hn
 obtain⟨e1,e2,e3,_,_⟩:=kE.heap W hi;have bef:∀{c j:Nat},j < i→((X i).B.r.testBit c=true∨(X i).B.w.testBit c=true)→(X j).B.w.testBit c=true→L j:=fun {c j} hj hc hw=>
  (W.cls hL' hj hi (.inr rfl) (.inl ⟨hw,hc⟩)).resolve_right (by omega)
 have beh:∀{c j:Nat},i < j→j < ops.size→((X i).B.r.testBit c=true∨(X i).B.w.testBit c=true)→(X j).B.w.testBit c=true→¬ L j:=fun {c j} hij hj hc hw hLj=>
  hLi (W.cls hL hij hj hLj (hc.elim (fun h=>.inr ⟨hw,h⟩) fun h=>.inl ⟨h,.inr hw⟩))
 have befS:∀{t j:Nat},j < i→(t∈o.looksAt ops∨o.dst=some t)→OR ops j t→L j:=fun {t j} hj ht hd=>by
  obtain⟨o',ho',hd⟩:=hd;exact (W.slot hL' hj ho' ho (.inr rfl) (.inl ⟨hd,ht⟩)).resolve_right (by omega)
 have behS:∀{t j:Nat},i < j→j < ops.size→(t∈o.looksAt ops∨o.dst=some t)→OR ops j t→¬ L j:=fun {t j} hij hj ht hd hLj=>by
  obtain⟨o',ho',hd⟩:=hd;exact hLi (W.slot hL hij ho ho' hLj (ht.elim (fun h=>.inr ⟨hd,h⟩) fun h=>.inl ⟨h,.inr hd⟩))
 have hrel:je P φ (fun c=>((X i).B.r.testBit c=true∨(X i).B.w.testBit c=true)∧c < (X i).s.next) (cU (X i).s) w:=by
  refine⟨M.blk,M.inj,fun b x hb hl hc=>?_,M.al,M.glob,M.root⟩;rw [dc] at hb ⊢;refine M.obj _ ?_ i (Nat.le_of_lt hi) (fun j hj hw=>bef hj hc.1 hw) (fun j hij hj hw=>?_) b x hb hl rfl
  ·by_cases h0:(X 0).s.next≤dE b x
   ·exact .inr h0
   ·have hbits:=kE.bits W hi (c:=dE b x) hi (Nat.le_refl _);exact .inl (hT _ (by omega) (hc.1.imp hbits.2 hbits.1))
  ·by_cases he:j=i
   ·rw [he]; exact hLi
   ·exact beh (by omega) hj hc.1 hw
 have hfoot:jd (cU (X i).s) (X i).B (fun c=>((X i).B.r.testBit c=true∨(X i).B.w.testBit c=true)∧c < (X i).s.next):=by
  intro c hc hb;rw [eY] at hc;exact⟨hb,hc⟩
 have hfresh:ja (cU (X i).s) (X i).B φ:=by
  intro b h1 h2;rw [eY] at h1;rw [← e3] at h2;have l1:=H.le W (Nat.zero_le i) (Nat.le_of_lt hi);have l2:=H.le W (show i + 1≤ops.size by omega) (Nat.le_refl _);rcases M.out b with h | ⟨j,hj,hLj,h3,h4⟩
  ·rw [h]; exact hfr b (by omega) (by omega)
  ·exfalso;rcases Nat.lt_trichotomy i j with hij | hij | hij
   ·have:=H.le W (show i + 1≤j by omega) (by omega); omega
   ·rw [hij] at hLi; exact hLi hLj
   ·have:=H.le W (show j + 1≤i by omega) (by omega); omega
 have hframe:fe φ (hZ (o.looksAt ops) (X i).f) (fh (o.looksAt ops) a):=by
  refine K7 (by rw [M.sz,(W.n i (Nat.le_of_lt hi)).1]) hni (fun x hx=>.inl ?_) fun t ht=>M.tmps t i (Nat.le_of_lt hi) (fun j hj hd=>befS hj (.inl ht) hd) fun j hij hj hd=>?_
  ·trivial
  ·by_cases he:j=i
   ·rw [he]; exact hLi
   ·exact behS (by omega) hj (.inl ht) hd
 have hsel:Region.wanted o (yielded ops a.tmps)=false∨∀cs b,o.op≠.select cs b:=by
  rcases g.step.elim BJ And.right with h | h
  ·left;rw [← tl];exact gg hframe h
  ·exact .inr h
 have hgd:(X i).g.defers=[]:=(xg g.put).2.2;refine GR (K':=fun a'' w''=>∃φ',cK P φ (fun c=>((X i).B.r.testBit c=true∨(X i).B.w.testBit c=true)∧c < (X i).s.next) (cU (X i).s) (X i).B w w'' φ'∧fe φ' (X i).g a'') hsel ?_ ?_
  (hs.run φ _ w _ hframe hrel hfoot hfresh _ _ fun φ' w' a' hp hf=>⟨φ',hp,hf⟩)
 ·rintro v w' ⟨φ',hp,hf⟩;refine hK φ' _ w' ⟨?_,?_,hp.rel.blk,hp.rel.inj,hp.rel.al,hp.rel.glob,hp.rel.root,?_,?_,?_,?_,?_,?_,?_,?_,?_,?_⟩
  ·exact fun b j hb=>hp.ext b j (M.ext b j hb)
  ·intro b;by_cases hb:b < (X i).s.next∨(X i).B.next≤b
   ·rw [hp.out b (by rw [eY]; exact hb)];rcases M.out b with h | ⟨j,h1,h2,h3⟩
    ·exact .inl h
    ·exact .inr ⟨j,h1,.inl h2,h3⟩
   ·exact .inr ⟨i,hi,.inr rfl,by omega,by rw [e3]; omega⟩
  ·intro c hc k hk h1 h2 b x hb hl hcl;by_cases hw:(X i).B.w.testBit c=true
   ·
    have hik:i < k:=by
     rcases Nat.lt_or_ge i k with h | h
     ·exact h
     ·exact absurd (.inr rfl) (h2 i h hi hw)
    have hz:∀m,i + 1≤m→m < k→(X m).B.w.testBit c=false:=fun m hm hmk=>by
     cases hh:(X m).B.w.testBit c with
     | false=>rfl
     | true=>exact absurd ((h1 m hmk hh).resolve_right (by omega)) (beh (by omega) (by omega) (.inr hw) hh)
    obtain⟨a1,a2⟩:=H.agree W (show i + 1≤k by omega) hk hz;have hb1:=a2 b x hb hcl;rw [e1] at hb1;rw [a1,e2];have hcn:c < (X i).B.next:=by
     rcases (H.fr i hi).wb c hw with h | h
     ·rw [dc] at h; simp at h
     ·exact h
    have:=hp.rel.obj b x hb1 hl (by
     rw [hcl,eY];by_cases hlt:c < (X i).s.next
     ·exact .inl ⟨.inr hw,hlt⟩
     ·exact .inr ⟨by omega,hcn⟩)
    rw [hcl] at this;exact this
   ·have hw':(X i).B.w.testBit c=false:=by simpa using hw
    obtain⟨j,x',g1,g2,g3⟩:=M.obj c hc k hk (fun m hm hh=>(h1 m hm hh).resolve_right (fun he=>hw (he ▸ hh))) (fun m a1 a2 hh hl=>h2 m a1 a2 hh (.inl hl)) b x hb hl hcl;refine⟨j,x',hp.ext _ _ g1,?_,g3.mono hp.ext fun h hh=>⟨h,hh,Nat.le_refl _⟩⟩;rw [hp.same j.blk (M.blk _ _ g1) fun b' i' hb' he=>?_]
    ·exact g2
    ·rw [(M.inj _ _ _ _ hb' g1 he).1,g3.cls,hcl]; exact hw'
  ·intro b j hb hlt;obtain⟨b1,j1,g1,g2,g3⟩:=hp.img b j hb (Nat.lt_of_lt_of_le hlt M.size);obtain⟨b0,j0,k1,k2,k3⟩:=M.img b1 j1 g1 (by rw [g2]; exact hlt);exact⟨b0,j0,k1,k2.trans g2,k3.trans g3⟩
  ·exact Nat.le_trans M.size hp.size
  ·intro k hk hw;rw [hp.same k (Nat.lt_of_lt_of_le hk M.size) fun b j hb he=>?_]
   ·exact M.same k hk hw
   ·obtain⟨b0,j0,k1,k2,k3⟩:=M.img b j hb (by rw [he]; exact hk);have:=hw b0 j0 k1 (k2.trans he);rw [k3] at this;exact sa (kE.bits W hi hi (Nat.le_refl _)).1 this
  ·exact hp.os.trans M.os
  ·exact hp.tape.trans M.tape
  ·exact hp.output.trans M.output
  ·rw [K0]; exact M.sz
  ·intro t k hk h1 h2;rw [Fh];by_cases hd:o.dst=some t
   ·have hD:OR ops i t:=⟨o,ho,hd⟩
    have hik:i < k:=by
     rcases Nat.lt_or_ge i k with h | h
     ·exact h
     ·exact absurd (.inr rfl) (h2 i h hi hD)
    have hz:∀m,i + 1≤m→m < k→¬ OR ops m t:=fun m hm hmk hh=>
     behS (by omega) (by omega) (.inr hd) hh ((h1 m hmk hh).resolve_right (by omega))
    rw [W.slotAt hn (show i + 1≤k by omega) hk hz];obtain⟨hlt,hget⟩:=(vu hni g.put t).1 hd;rw [(W.n i (Nat.le_of_lt hi)).1] at hlt;rw [hget,if_pos ⟨hd,by rw [M.sz]; exact hlt⟩];have:=hf.tmps t;rw [Fh,if_pos ⟨hd,by rw [m9,M.sz]; exact hlt⟩] at this;exact this
   ·rw [if_neg (fun h=>hd h.1)];have hnD:¬ OR ops i t:=fun ⟨o',h3,h4⟩=>by rw [ho] at h3; injection h3 with h3; subst h3; exact hd h4
    exact (M.tmps t k hk (fun m hm hh=>(h1 m hm hh).resolve_right (fun he=>hnD (he ▸ hh))) (fun m a1 a2 hh hl=>h2 m a1 a2 hh (.inl hl))).mono hp.ext
  ·rw [EB]; exact M.defers.mono hp.ext
 ·rintro d w' ⟨φ',_,hf⟩;have:=hf.defers;rw [hgd,EB] at this;cases this
end
section
variable {P:Program}{call:dZ}{ops:Array Oper}{X:Nat→Gw}
def El (p:Nat→Bool):Nat→Nat
 | 0=>0
 | n + 1=>El p n + if p n then 1 else 0
theorem Gm {p q:Nat→Bool} : ∀n,(∀j,j < n→q j=p j)→El q n=El p n:=by
 intro n
 induction n with
 | zero=>intro _; rfl
 | succ n ih=>intro h; simp only [El]; rw [ih fun j hj=>h j (by omega),h n (by omega)]
theorem JB {p q:Nat→Bool}{i:Nat} (hp:p i=true) (hq:q i=false) (h:∀j,j≠i→q j=p j):∀n,i < n→El q n + 1=El p n:=by
 intro n
 induction n with
 | zero=>intro h; omega
 | succ n ih=>
  intro hi;simp only [El];by_cases he:i=n
  ·subst he;rw [Gm i fun j hj=>h j (by omega),hp,hq];simp
  ·rw [h n (fun e=>he e.symm)];have:=ih (by omega);omega
theorem IM {p:Nat→Bool} : ∀n,El p n=0→∀j,j < n→p j=false:=by
 intro n
 induction n with
 | zero=>intro _ j hj; omega
 | succ n ih=>
  intro h j hj;simp only [El] at h;by_cases he:j=n
  ·subst he;cases hp:p j with
   | false=>rfl
   | true=>rw [hp] at h; simp at h
  ·exact ih (by omega) j (by omega)
def On (listed:Array Bool) (i:Nat):Prop:=listed.getD i false=true
theorem Ji {listed:Array Bool}{i:Nat} (hi:i < listed.size) (j:Nat):On (listed.setIfInBounds i true) j↔On listed j∨j=i:=by
 unfold On;simp only [Array.getD_eq_getD_getElem?,Array.getElem?_setIfInBounds];by_cases h:i=j
 ·subst h; simp [hi]
 ·simp [h]; exact fun e=>absurd e.symm h
theorem DO {listed:Array Bool}{i:Nat} (hi:i < listed.size):listed.getD i true=false↔¬ On listed i:=by
 unfold On;simp only [Array.getD_eq_getD_getElem?,Array.getElem?_eq_getElem hi,Option.getD_some];cases listed[i]<;>simp
theorem Rh (W:pR P call ops X) {listed:Array Bool} (hs:listed.size=ops.size) (hr:Region.ready .any ops listed=[]):∀i,i < ops.size→On listed i:=by
 intro i
 induction i using Nat.strongRecOn with
 | _ i ih=>
  intro hi;obtain⟨o,ho⟩:=lP hi;by_cases hon:On listed i
  ·exact hon
  ·exfalso;have:i∈Region.ready .any ops listed:=by
    rw [mem_ready];refine⟨(DO (by omega)).2 hon,o,ho,fun e he hb=>?_⟩;have hl:=(W.good i o ho).low;unfold lE at hl;rw [List.all_eq_true] at hl;have:=hl e (by simpa using he);rw [hb] at this;have hlt:e.on < i:=Nat.le_of_ble_eq_true (by simpa using this);exact ih e.on hlt (by omega)
   rw [hr] at this;cases this
theorem AB (W:pR P call ops X) (H:kE P ops X) {φ₀:dI}{T:Nat→Prop}{w₀:World} (hn:(X 0).f.n≤1000000) (hT:jd (X 0).s (X ops.size).s T) (hfr:ja (X 0).s (X ops.size).s φ₀) {Q:Exit→Act→World→Prop}
  (hQ:∀φ' w' a',cK P φ₀ T (X 0).s (X ops.size).s w₀ w' φ'→fe φ' (X ops.size).f a'→Q .normal a' w') :
  ∀(fuel:Nat) (listed:Array Bool) (φ:dI) (a:Act) (w:World) (L:Nat→Prop),listed.size=ops.size→(∀j,L j↔On listed j)→Closed ops L→El (fun j=>!listed.getD j false) ops.size≤fuel→Ht P ops X φ₀ T w₀ L φ a w→
   wpAny P .any ops Q fuel listed a w:=by
 intro fuel;have done:∀(listed:Array Bool) (φ:dI) (a:Act) (w:World) (L:Nat→Prop),(∀j,L j↔On listed j)→(∀i,i < ops.size→On listed i)→Ht P ops X φ₀ T w₀ L φ a w→Q .normal a w:=fun listed φ a w L hLo hall M=>by
  obtain⟨h1,h2⟩:=Ht.finish W H hn (fun i hi=>(hLo i).2 (hall i hi)) M;exact hQ φ w a h1 h2
 induction fuel with
 | zero=>
  intro listed φ a w L hs hLo _ hc M;have hall:∀i,i < ops.size→On listed i:=fun i hi=>by
   have:=IM _ (Nat.le_zero.1 hc) i hi;simpa [On] using this
  refine⟨?_,done listed φ a w L hLo hall M⟩;cases hr:Region.ready .any ops listed with
  | nil=>rfl
  | cons i l=>
   have hm:i∈Region.ready .any ops listed:=by rw [hr]; exact List.mem_cons_self
   obtain⟨h0,o,ho,_⟩:=mem_ready.1 hm;exact absurd (hall i (ut ho)) ((DO (by rw [hs]; exact ut ho)).1 h0)
 | succ fuel ih=>
  intro listed φ a w L hs hLo hcl hc M;refine⟨fun hr=>done listed φ a w L hLo (Rh W hs hr) M,fun i hm=>?_⟩;obtain⟨h0,o,ho,hall⟩:=mem_ready.1 hm;have hi:=ut ho;have hnot:=(DO (by rw [hs]; exact hi)).1 h0;have hr:∀e∈o.after,Region.binds .any e=true→L e.on:=fun e he hb=>(hLo _).2 (hall e he hb);have key:l7 P ops Q o (wpAny P .any ops Q fuel (listed.setIfInBounds i true)) a w:=by
   refine M.step W H hn hT hfr hcl ho (fun h=>hnot ((hLo i).1 h)) hr fun φ' a' w' M'=>?_;refine ih (listed.setIfInBounds i true) φ' a' w' (fun j=>L j∨j=i) (by simp [hs]) (fun j=>?_) (uZ hcl ho hr) ?_ M'
   ·rw [Ji (by rw [hs]; exact hi),hLo]
   ·have:=JB (p:=fun j=>!listed.getD j false) (q:=fun j=>!(listed.setIfInBounds i true).getD j false) (i:=i) (by simpa [On] using hnot)
     (by have:=(Ji (listed:=listed) (by rw [hs]; exact hi) i).2 (.inr rfl); unfold On at this; simp only [this]; rfl)
     (fun j hj=>by simp only [getD_set_ne false (Ne.symm hj)]) ops.size hi
    omega
  unfold wpOp;rw [ho];unfold l7 at key;split at key
  ·rename_i hw; simp only [hw,if_true]; exact .inl key
  ·rename_i hw; simp only [hw]; exact key
theorem pR.path (hO:cQ P) (hOm:i7 P) (hC:jn P call) (hM:dQ call) (W:pR P call ops X) (hI:cT (X 0).s) (hn:(X ops.size).s.next≤(X ops.size).s.next):kE P ops X:=by
 have hmono:∀i,i < ops.size→(X i).s.next≤(X (i + 1)).s.next:=fun i hi=>by
  obtain⟨o,ho⟩:=lP hi;have:(cU (X i).s).next≤(X i).B.next:=(W.good i o ho).step.elim (fun h=>lI hOm hM (v:=undef) (.inl h)) fun h=>h.1.fr.next;rw [eY] at this;rw [(W.good i o ho).s,jD];exact this
 have hle:∀k i,i + k≤ops.size→(X i).s.next≤(X (i + k)).s.next:=by
  intro k
  induction k with
  | zero=>intro i _; exact Nat.le_refl _
  | succ k ih=>intro i h; exact Nat.le_trans (ih i (by omega)) (hmono (i + k) (by omega))
 have key:∀i,i≤ops.size→cT (X i).s:=by
  intro i
  induction i with
  | zero=>intro _; exact hI
  | succ i ih=>
   intro hi;obtain⟨o,ho⟩:=lP (show i < ops.size by omega);have g:=W.good i o ho;have hb:(X i).B.next≤(X i).B.next:=by
    have h1:=hle (ops.size - (i + 1)) (i + 1) (by omega);rw [show i + 1 + (ops.size - (i + 1))=ops.size by omega,g.s,jD] at h1;omega
   have hs:=g.step.elim (fun h=>oL hO hC hM (sM (ih (by omega))) hb h) And.left;rw [g.s];exact (yv hs.fr).inv
 have hon:∀i o,ops[i]?=some o→m8 P ops o (hZ (o.looksAt ops) (X i).f) (cU (X i).s) (X i).g (X i).B:=fun i o ho=>by
  have hi:=ut ho;have g:=W.good i o ho;have hb:(X i).B.next≤(X i).B.next:=by
   have h1:=hle (ops.size - (i + 1)) (i + 1) (by omega);rw [show i + 1 + (ops.size - (i + 1))=ops.size by omega,g.s,jD] at h1;omega
  exact g.step.elim (fun h=>oL hO hC hM (sM (key i (Nat.le_of_lt hi))) hb h) And.left
 exact⟨fun i hi=>by obtain⟨o,ho⟩:=lP hi; exact (hon i o ho).fr,hon⟩
theorem kE.all (W:pR P call ops X) (H:kE P ops X) (hI:cT (X 0).s):∀i,i≤ops.size→mR (X 0).s (X i).s:=by
 intro i
 induction i with
 | zero=>intro _; exact .refl hI
 | succ i ih=>intro hi; exact (ih (by omega)).trans (H.fr' W (by omega))
theorem Su (hm:P.follows .mixedOrders=true) (W:pR P call ops X) (H:kE P ops X) (hI:cT (X 0).s) (id:Nat):oC P (.region id ops true) (X 0).f (X 0).s .normal (X ops.size).f (X ops.size).s:=by
 refine⟨H.all W hI _ (Nat.le_refl _),fun φ T w a hf hr hT hfr Q hQ=>?_⟩;refine wp_region_any hm (AB W H hf.few hT hfr (w₀:=w) (fun φ' w' a' hp hf'=>hQ φ' w' a' _ hp hf' .normal) ops.size _ φ a _ (fun _=>False) (by simp) (fun j=>?_) (fun _ _ _ hh=>hh.elim) ?_ (Ht.start W H hI hf hr))
 ·unfold On;refine⟨fun h=>h.elim,fun h=>?_⟩;simp only [Array.getD_eq_getD_getElem?,Array.getElem?_replicate] at h;split at h<;>simp at h
 ·have:∀(p:Nat→Bool) n,El p n≤n:=by
   intro p n
   induction n with
   | zero=>exact Nat.le_refl _
   | succ n ih=>simp only [El]; split<;>omega
  exact this _ _
theorem Jq (hm:P.follows .mixedOrders=true) (hO:cQ P) (hOm:i7 P) (hC:jn P call) (hM:dQ call):yC P call:=by
 intro id ops f A x f' A' hI hn h;rcases pe h with ⟨h1,rfl⟩ | ⟨v,h1,_⟩
 ·obtain⟨X,e1,e2,e3,e4,e5,e6,e7⟩:=SS _ _ _ _ _ _ _ _ h1;simp only [Nat.zero_add,Array.length_toList] at e5 e6 e7;have W:pR P call ops X:=⟨e3,e4,fun i o ho=>e7 i o (by simpa using ho)⟩
  subst e1; subst e2; subst e5; subst e6;have H:=W.path hO hOm hC hM hI hn;refine⟨H.all W hI _ (Nat.le_refl _),fun φ T w a hf hr hT hfr Q hQ=>?_⟩;refine wp_region_any hm (AB W H hf.few hT hfr (w₀:=w) (fun φ' w' a' hp hf'=>hQ φ' w' a' _ hp hf' .normal) ops.size _ φ a _ (fun _=>False) (by simp) (fun j=>?_) (fun _ _ _ hh=>hh.elim) ?_ (Ht.start W H hI hf hr))
  ·unfold On;refine⟨fun h=>h.elim,fun h=>?_⟩;simp only [Array.getD_eq_getD_getElem?,Array.getElem?_replicate] at h;split at h<;>simp at h
  ·have:∀(p:Nat→Bool) n,El p n≤n:=by
    intro p n
    induction n with
    | zero=>exact Nat.le_refl _
    | succ n ih=>simp only [El]; split<;>omega
   exact this _ _
 ·exact absurd h1 (vP _ _ _ _ _ _ _ _ _ _)
end
section
variable {P:Program}{call:dZ}
inductive Hu (φ:dI):Option Value→FrameMode→Prop
 | ret:Hu φ none .returning
 | panic (v v':Value) (h:eR φ v v'):Hu φ (some v) (.panicking [{ v:=v',recovered:=false }])
 | done (v':Value):Hu φ none (.panicking [{ v:=v',recovered:=true }])
theorem Hu.mono {φ φ':dI} (he:BR φ φ') {u:Option Value}{m:FrameMode} (h:Hu φ u m):Hu φ' u m:=by
 cases h with
 | ret=>exact .ret
 | panic v v' h=>exact .panic v v' (h.mono he)
 | done v'=>exact .done v'
theorem tI.inn {φ:dI}{u:Option Value}{m:FrameMode} (h:tI φ u m):Hu φ u m:=by
 cases h with
 | ret=>exact .ret
 | panic v v' h=>exact .panic v v' h
theorem Hu.settle {φ:dI}{u:Option Value}{m:FrameMode} (h:Hu φ u m):tI φ u (settle m):=by
 cases h with
 | ret=>exact .ret
 | panic v v' h=>exact .panic v v' h
 | done v'=>exact .ret
def PZ (P:Program) (ops:Array Oper) (Q:Exit→Act→List Frame→World→Prop) (o:Oper) (K:Act→List Frame→World→Prop) (a:Act) (cs:List Frame) (w:World):Prop:=
 if Region.wanted o (yielded ops a.tmps) then
  match (execOp a.eval o).run P w with
  | .ok .recover w'=>
   match recoverD cs with
   | some (v,cs')=>K (a.put o.dst v) cs' w'
   | none=>K (a.put o.dst .nilIface) cs w'
  | r=>o.upon P a (fun a' w'=>K a' cs w') (fun e a' w'=>Q e a' cs w') r
 else K (a.put o.dst undef) cs w
def lY (P:Program) (ops:Array Oper) (Q:Exit→Act→List Frame→World→Prop):List Oper→Act→List Frame→World→Prop
 | [],a,cs,w=>Q .normal a cs w
 | o :: l,a,cs,w=>PZ P ops Q o (lY P ops Q l) a cs w
theorem G2 {o:Oper}{a:Act}{K K':Act→World→Prop}{Q:Exit→Act→World→Prop} (h:∀a w,K a w→K' a w) {r:Result Next} (hh:o.upon P a K Q r):o.upon P a K' Q r:=by
 cases r with
 | ok n w'=>
  cases n<;>simp only [Oper.upon] at hh ⊢<;>
   first
    | exact h _ _ hh
    | exact Calls.mono hh (fun e w'' he=>by cases e<;>first | exact h _ _ he | exact he)
    | exact Rows.mono hh (fun _ _ he=>h _ _ he)
 | halt x w'=>cases x<;>simp only [Oper.upon] at hh ⊢<;>exact hh
theorem wB {ops:Array Oper}{Q:Exit→Act→List Frame→World→Prop} : ∀(l:List Oper) (k:Nat) (a:Act) (cs:List Frame) (w:World),ops.toList.drop k=l→lY P ops Q l a cs w→wpOpsS P ops Q (List.range' k l.length) a cs w:=by
 intro l
 induction l with
 | nil=>intro k a cs w _ h; exact h
 | cons o l ih=>
  intro k a cs w hd h;have hk:ops[k]?=some o:=by
   have:(ops.toList.drop k)[0]?=some o:=by rw [hd]; rfl
   simpa using this
  have hd':ops.toList.drop (k + 1)=l:=by rw [← List.drop_drop (i:=1) (j:=k),hd]; rfl
  have ih':=fun a cs w=>ih (k + 1) a cs w hd';rw [List.length_cons,List.range'_succ];unfold lY PZ at h;simp only [wpOpsS,hk];split
  ·rename_i hw;rw [if_pos hw] at h;split
   ·rename_i w' hr;rw [hr] at h;simp only at h;split
    ·rename_i v cs' hrec; rw [hrec] at h; exact ih' _ _ _ h
    ·rename_i hrec; rw [hrec] at h; exact ih' _ _ _ h
   ·rename_i r hne;generalize hr:(execOp a.eval o).run P w=r' at h hne ⊢;split at h
    ·exact absurd rfl (hne _)
    ·exact G2 (fun a' w'=>ih' a' cs w') h
  ·rename_i hw;rw [if_neg hw] at h;exact ih' _ _ _ h
theorem Pt {ops:Array Oper}{Q:Exit→Act→List Frame→World→Prop}{o:Oper}{K:Act→List Frame→World→Prop}{a:Act}{cs:List Frame}{w:World} (h:l7 P ops (fun e a' w'=>Q e a' cs w') o (fun a' w'=>K a' cs w') a w):PZ P ops Q o K a cs w:=by
 unfold l7 at h;unfold PZ;split at h
 ·rename_i hw;rw [if_pos hw];unfold Oper.wp at h;generalize (execOp a.eval o).run P w=r at h ⊢;split
  ·exact h.elim
  ·exact h
 ·rename_i hw;rw [if_neg hw];exact h
theorem wY (hO:cQ P) (hOm:i7 P) (hC:jn P call) (hM:dQ call) {ops:Array Oper} : ∀(l:List Oper) {f:Fr}{A:AS}{u:Option Value}{q:Dd},cT A→q.s.next≤q.s.next→rK P call ops.toList l f A u=some q→mR A q.s∧
  ∀(φ:dI) (T:Nat→Prop) (w:World) (a:Act) (c₀:Frame) (cs:List Frame) (m:FrameMode),fe φ f a→Hu φ u m→je P φ T A w→jd A q.s T→ja A q.s φ→∀(Q:Exit→Act→List Frame→World→Prop),
   (∀φ' w' a' m',cK P φ T A q.s w w' φ'→fe φ' q.f a'→Hu φ' q.u m'→Q .normal a' ({ c₀ with mode:=m' } :: cs) w')→lY P ops Q l a ({ c₀ with mode:=m } :: cs) w:=by
 intro l
 induction l with
 | nil=>
  intro f A u q hi hn h;have h':some (⟨f,A,u⟩ : Dd)=some q:=h;injection h' with h';subst h';exact⟨.refl hi,fun φ T w a c₀ cs m hf hu hr _ _ Q hQ=>hQ φ w a m (.refl hr rfl rfl rfl rfl rfl rfl rfl) hf hu⟩
 | cons o l ih=>
  intro f A u q hi hn h;rw [rk] at h;unfold Oj at h;split at h
  ·rename_i s hev;split at h
   ·rename_i hg;unfold S4 at h;split at h
    ·rename_i g s' hon;obtain⟨hput,rfl⟩:=jV hon;have hle:=mG hOm hM l h;have hs:=hO f o A _ _ hi (Nat.le_refl _) hev;obtain⟨f2,r2⟩:=ih hs.fr.inv hn h;refine⟨hs.fr.trans f2,fun φ T w a c₀ cs m hf hu hr hT hfr Q hQ=>?_⟩;obtain⟨φ1,w1,hp,hnr⟩:=hs.run φ T w a hf hr (hT.left f2) (ec hfr f2.next);show PZ P ops Q o (lY P ops Q l) a _ w;unfold PZ;rw [show Region.wanted o (yielded ops a.tmps)=true by unfold Region.wanted; rw [hg],if_pos rfl];generalize hres:(execOp a.eval o).run P w=res at hnr;cases hnr;simp only;have go:∀v' m',eR φ1 (u.getD .nilIface) v'→Hu φ1 none m'→lY P ops Q l (a.put o.dst v') ({ c₀ with mode:=m' } :: cs) w1:=fun v' m' hv hm=>
      r2 φ1 _ w1 _ c₀ cs m' ((hf.mono hp.ext).put hput hv) hm hp.rel (dK hT) (dA hfr hs.fr.next hp) Q fun φ2 w2 a2 m2 hp2 hf2 hm2=>hQ φ2 w2 a2 m2 (hp.trans hs.fr.next f2 hp2) hf2 hm2
     cases hu with
     | ret=>exact go _ _ .nilIface .ret
     | panic v v' hv=>exact go _ _ (hv.mono hp.ext) (.done v')
     | done v'=>exact go _ _ .nilIface (.done v')
    ·cases h
   ·cases h
  ·unfold S4 at h;split at h
   ·rename_i g s' hst;have hle:=mG hOm hM l h;have hs:=oL hO hC hM hi (Nat.le_refl _) hst;obtain⟨f2,r2⟩:=ih hs.fr.inv hn h;refine⟨hs.fr.trans f2,fun φ T w a c₀ cs m hf hu hr hT hfr Q hQ=>?_⟩;show PZ P ops Q o (lY P ops Q l) a _ w;refine Pt (hs.run φ T w a hf hr (hT.left f2) (ec hfr f2.next) _ _ fun φ1 w1 a1 hp hf1=>?_);exact r2 φ1 _ w1 a1 c₀ cs m hf1 (hu.mono hp.ext) hp.rel (dK hT) (dA hfr hs.fr.next hp) Q fun φ2 w2 a2 m2 hp2 hf2 hm2=>hQ φ2 w2 a2 m2 (hp.trans hs.fr.next f2 hp2) hf2 hm2
   ·cases h
theorem ED (hE:zE P) (hO:cQ P) (hOm:i7 P) (hC:jn P call) (hM:dQ call) (hD:yC P call) (hDm:lD P call):zV P call:=by
 intro d A u A' u' hi hn h;unfold gP at h;split at h
 case h_2=>cases h
 rename_i g cap htgt;split at h
 case h_2=>cases h
 rename_i fn hfn;obtain⟨hb,h⟩:=aI h;simp only [Bool.and_eq_true] at hb;have b1:=Nat.le_of_ble_eq_true hb.1;have b2:=Nat.le_of_ble_eq_true hb.2.1;have b3:fn.results.toList=[]:=by simpa using hb.2.2
 unfold zW at h;split at h
 case h_2=>cases h
 rename_i rid ops c hbody;split at h
 case h_2=>cases h
 rename_i f1 B v1 hrun;have key:∃x f2,dU P call c f1 B=some (x,f2,A')∧(x=.normal∨x=.ret)∧f2.defers=[]∧v1=u':=by
  unfold PP at h;split at h
  ·rename_i f2 s2 he;split at h
   ·rename_i hd; injection h with h; injection h with h1 h2; subst h1; exact⟨_,f2,he,.inl rfl,hd,h2⟩
   ·cases h
  ·rename_i f2 s2 he;split at h
   ·rename_i hd; injection h with h; injection h with h1 h2; subst h1; exact⟨_,f2,he,.inr rfl,hd,h2⟩
   ·cases h
  ·cases h
 obtain⟨x,f2,he,hx,hd2,rfl⟩:=key;have m2:=fY hOm hM hDm c _ _ _ _ _ he;obtain⟨fr1,r1⟩:=wY hO hOm hC hM ops.toList hi (Nat.le_refl _) hrun;have s2:=oi hO hOm hC hM hD hDm c _ _ _ _ _ fr1.inv hn he;refine⟨fr1.trans s2.fr,fun φ T w d' m hdr hu hr hT hfr=>?_⟩;cases hdr with
 | mk g' cap0 cap' args0 args' hc ha=>
  have htgt':Target.fn (.func g') cap0=.fn (.func g) cap:=htgt;injection htgt' with e1 e2;injection e1 with e1;subst e1;subst e2;refine⟨.func g',cap',g',args' ++ cap',rfl,?_,?_⟩
  ·have:=xO hE hfn hbody (args' ++ cap') w;exact this
  ·refine callsD_of_wpS hfn hbody fun c₀ cs hm=>wpS_seq (wpS_region ?_);have hargs:bu φ (args0 ++ cap0).toList (args' ++ cap').toList:=by rw [Array.toList_append,Array.toList_append]; exact ha.append hc
   have hc0:c₀ = { c₀ with mode:=m }:=by rw [← hm]
   rw [List.range_eq_range',← Array.length_toList];refine wB ops.toList 0 _ _ w rfl ?_;rw [hc0];refine r1 φ T w _ c₀ cs m (rI hargs b1 b2) hu.inn hr (hT.left s2.fr) (ec hfr s2.fr.next) _ fun φ1 w1 a1 m1 hp hf1 hu1=>?_;refine wpS_of_wp (s2.run φ1 _ w1 a1 hf1 hp.rel (dK hT) (dA hfr fr1.next hp) _ fun φ2 w2 a2 e hp2 hf2 hx2=>?_);have hdef:a2.defers=[]:=by
    have:=hf2.defers;rw [hd2] at this;cases hh:a2.defers with
    | nil=>rfl
    | cons y l=>rw [hh] at this; cases this
   have hres:(results fn a2.tmps).run P w2=.ok (zm []) w2:=by
    refine sW ?_;rw [b3];rfl
   have hend:bodyPostS P fn { c₀ with mode:=m } cs (fun e m' w'=>∃v φ',e=.returned v∧cK P φ T A A' w w' φ'∧tI φ' v1 (settle m')) .ret a2 ({ c₀ with mode:=m1 } :: cs) w2:=
    ⟨hdef,m1,rfl,_,hres,_,φ2,rfl,hp.trans fr1.next s2.fr hp2,(hu1.mono hp2.ext).settle⟩
   rcases hx with rfl | rfl
   ·cases hx2; exact hend
   ·cases hx2; exact hend
end
open Go.RowKit
structure rE where
 g:Nat
 cells:List Value
 e:Nat
noncomputable def lQ (l:List rE):Tr fW:=List.rec (motive:=fun _=>Tr fW) .nil (fun x _ ih=>dO ih fun ih=>jo x.cells fun cs=>Tr.set (.row cs x.e x.g 0 true) 40 ih x.g) l
noncomputable def qK (l:List rE):Tr Nat:=List.rec (motive:=fun _=>Tr Nat) .nil (fun x _ ih=>dO ih fun ih=>fq x.cells.length fun n=>Tr.set n 40 ih x.g) l
noncomputable def oR (P:Program) (l:List rE):AS:=fq P.globals.size fun n=>dO (lQ l) fun h=>dO (qK l) fun z=>⟨h,n,.nil,z,0,0⟩
noncomputable def Ad (N:Nat) (r:Option (j4 × AS)):Bool:=match r with
 | some (.ret (.bool true),A')=>Nat.beq (Nat.mod A'.w (Nat.shiftLeft 1 N)) 0 && Nat.ble A'.next 274877906944
 | _=>false
noncomputable def uH (P:Program) (orc:IZ) (l:List rE) (n:Nat) (g:FuncId):Bool:=Ad P.globals.size (lU P orc n g #[] (oR P l))
section
variable {P:Program}
theorem Q9 (hE:zE P) (hS:Sa P) (hm:P.follows .mixedOrders=true) {orc:IZ} (hQ:An P orc) (n:Nat):jn P (lU P orc n):=
 (wo (fun call hC hM=>by
  have hO:=ER hE hS;have hOm:=CV P;have hD:=Jq hm hO hOm hC hM;have hDm:=AQ (P:=P) (call:=call) hOm hM;exact⟨hD,hDm,ED hE hO hOm hC hM hD hDm,xN hOm hM hDm⟩) (ER hE hS) (CV P) hQ n).1
theorem qy (l:List rE):oR P l=⟨lQ l,P.globals.size,.nil,qK l,0,0⟩:=by
 unfold oR; simp only [ci,dh]
theorem wU (x:rE) (l:List rE):lQ (x :: l)=Tr.set (.row x.cells x.e x.g 0 true) 40 (lQ l) x.g:=by
 show (dO (lQ l) fun ih=>jo x.cells fun cs=>Tr.set (.row cs x.e x.g 0 true) 40 ih x.g)=_;rw [dh,cA]
theorem ti (x:rE) (l:List rE):qK (x :: l)=Tr.set x.cells.length 40 (qK l) x.g:=by
 show (dO (qK l) fun ih=>fq x.cells.length fun n=>Tr.set n 40 ih x.g)=_;rw [dh,ci]
theorem rF (l:List rE) (hl:∀x∈l,kC x.g) (b:Nat) (o:fW) (h:(lQ l).get b=some o):∃x∈l,b=x.g∧o=.row x.cells x.e x.g 0 true∧(qK l).get b=some x.cells.length:=by
 induction l with
 | nil=>exact absurd h (by show (Tr.nil:Tr fW).get b≠_; rw [Tr.get_nil]; simp)
 | cons x l ih=>
  rw [wU,Tr.get_set _ _ _ _ (hl x List.mem_cons_self)] at h;rw [ti,Tr.get_set _ _ _ _ (hl x List.mem_cons_self)];split at h
  ·rename_i he;injection h with h;exact⟨x,List.mem_cons_self,he,h.symm,if_pos he⟩
  ·rename_i he;obtain⟨y,h1,h2,h3,h4⟩:=ih (fun y hy=>hl y (List.mem_cons_of_mem _ hy)) h;exact⟨y,List.mem_cons_of_mem _ h1,h2,h3,by rw [if_neg he]; exact h4⟩
theorem CQ (l:List rE) (hl:∀x∈l,kC x.g) (b k:Nat) (h:(qK l).get b=some k):∃x∈l,b=x.g:=by
 induction l with
 | nil=>exact absurd h (by show (Tr.nil:Tr Nat).get b≠_; rw [Tr.get_nil]; simp)
 | cons x l ih=>
  rw [ti,Tr.get_set _ _ _ _ (hl x List.mem_cons_self)] at h;split at h
  ·rename_i he; exact⟨x,List.mem_cons_self,he⟩
  ·obtain⟨y,h1,h2⟩:=ih (fun y hy=>hl y (List.mem_cons_of_mem _ hy)) h;exact⟨y,List.mem_cons_of_mem _ h1,h2⟩
def G8 (P:Program) (w:World) (b:Nat):Nat:=match w.heap[b]? with | some (.cells _ e _)=>P.cellsOf e | _=>0
def rW (w:World) (b:Nat):Nat:=match w.heap[b]? with | some (.cells C _ _)=>C.size | _=>0
def Bg (P:Program) (w:World):dI:=fun b=>if b < P.globals.size then some ⟨b,0,rW w b,G8 P w b,b,0⟩ else none
theorem GL (l:List rE) (hN:P.globals.size≤P.globals.size) (hl:∀x∈l,x.g < P.globals.size):cT (oR P l):=by
 have hfit:∀x∈l,kC x.g:=fun x hx=>tK (by have:=hl x hx; omega);rw [qy];refine⟨fun b o hb=>?_,fun b cells e c st hb=>?_,fun c l' x cells e c' st ok hm=>?_,fun b cells e c st ok hb=>?_,fun c l' x hm=>?_,fun c l' hm=>?_,fun c k hk=>?_⟩
 ·obtain⟨x,h1,rfl,rfl,_⟩:=rF l hfit b o hb;exact⟨hl x h1,hl x h1⟩
 ·obtain⟨x,h1,rfl,h3,_⟩:=rF l hfit b _ hb;injection h3 with _ _ h3;subst h3;show x.g∈((Tr.nil:Tr (List Nat)).get x.g).getD [x.g];rw [Tr.get_nil];simp
 ·exact absurd hm (by show (Tr.nil:Tr (List Nat)).get c≠_; rw [Tr.get_nil]; simp)
 ·obtain⟨x,h1,rfl,h3,_⟩:=rF l hfit b _ hb;injection h3 with _ _ h3;subst h3;exact⟨_,_,_,_,hb⟩
 ·exact absurd hm (by show (Tr.nil:Tr (List Nat)).get c≠_; rw [Tr.get_nil]; simp)
 ·exact absurd hm (by show (Tr.nil:Tr (List Nat)).get c≠_; rw [Tr.get_nil]; simp)
 ·obtain⟨x,h1,h2⟩:=CQ l hfit c k hk;rw [h2]; exact hl x h1
theorem GP (l:List rE) (hN:P.globals.size≤P.globals.size) (hl:∀x∈l,x.g < P.globals.size∧x.cells.all (plain 50)=true) {w:World} (hw:P.globals.size≤w.heap.size)
  (hlaid:∀x∈l,∃fz,w.heap[x.g]?=some (.cells x.cells.toArray x.e fz)∧fz.2≤x.cells.length):je P (Bg P w) (fun _=>True) (oR P l) w:=by
 have hfit:∀x∈l,kC x.g:=fun x hx=>tK (by have:=(hl x hx).1; omega);rw [qy];have hphi:∀b i,Bg P w b=some i→b < P.globals.size∧i=⟨b,0,rW w b,G8 P w b,b,0⟩:=fun b i h=>by
  unfold Bg at h;split at h
  ·rename_i hb; injection h with h; exact⟨hb,h.symm⟩
  ·cases h
 refine⟨fun b i hb=>?_,fun b₁ b₂ i₁ i₂ h₁ h₂ he=>?_,fun b o hb _ _=>?_,fun b i hb=>?_,fun g hg=>?_,fun b i hb _=>by obtain⟨_,rfl⟩:=hphi b i hb; rfl⟩
 ·obtain⟨h1,rfl⟩:=hphi b i hb; exact Nat.lt_of_lt_of_le h1 hw
 ·obtain⟨_,rfl⟩:=hphi _ _ h₁;obtain⟨_,rfl⟩:=hphi _ _ h₂;exact⟨he,rfl⟩
 ·obtain⟨x,h1,rfl,rfl,h4⟩:=rF l hfit b o hb;obtain⟨fz,g1,g2⟩:=hlaid x h1;refine⟨⟨x.g,0,rW w x.g,G8 P w x.g,x.g,0⟩,_,by unfold Bg; rw [if_pos (hl x h1).1],g1,?_⟩;refine .row _ _ _ _ _ _ rfl rfl (by simp [G8,g1]) (by simp [rW,g1]) (by simp) ?_ (.inr ⟨x.cells.length,h4,by simpa using g2⟩) _ (.inl ⟨rfl,Nat.dvd_zero _⟩);have:(x.cells.toArray.toList.drop 0).take x.cells.length=x.cells:=by simp
  show bu _ _ ((x.cells.toArray.toList.drop 0).take x.cells.length);rw [this];exact pB (dN _ 50) _ (hl x h1).2
 ·trivial
 ·exact⟨_,by unfold Bg; rw [if_pos hg],rfl,rfl⟩
theorem zq (hE:zE P) (hS:Sa P) (hm:P.follows .mixedOrders=true) {orc:IZ} (hQ:An P orc) (hN:P.globals.size≤P.globals.size) (l:List rE) (hl:∀x∈l,x.g < P.globals.size∧x.cells.all (plain 50)=true) {n:Nat}{g:FuncId} (h:uH P orc l n g=true)
  (w:World) (hw:P.globals.size≤w.heap.size) (hlaid:∀x∈l,∃fz,w.heap[x.g]?=some (.cells x.cells.toArray x.e fz)∧fz.2≤x.cells.length) :
  Calls P g #[] w fun e w'=>e=.returned (.bool true)∧Below w.heap.size w w':=by
 unfold uH Ad at h;split at h
 ·rename_i A' hev;simp only [Bool.and_eq_true] at h;have h1:=Nat.eq_of_beq_eq_true h.1;have hs:=Q9 hE hS hm hQ n g #[] (oR P l) _ A' (GL l hN fun x hx=>(hl x hx).1) (Nat.le_refl _) hev;refine (hs.run (Bg P w) (fun _=>True) w #[] .nil (GP l hN hl hw hlaid) (fun _ _ _=>trivial) fun b hb _=>?_).mono ?_
  ·rw [qy] at hb;unfold Bg;rw [if_neg (by have:P.globals.size≤b:=hb; omega)]
  ·rintro e w' ⟨φ',hp,he⟩;refine⟨?_,hp.os,hp.tape,hp.output,hp.size,fun k hk=>hp.same k hk fun b i hb hi=>?_⟩
   ·cases he with
    | ret _ v' hv=>cases hv; rfl
   ·unfold Bg at hb;split at hb
    ·rename_i hlt;injection hb with hb;subst hb;show A'.w.testBit b=false;have h3:A'.w % 2 ^ P.globals.size=0:=by
      have e1:Nat.shiftLeft 1 P.globals.size=2 ^ P.globals.size:=Nat.one_shiftLeft _;rw [← e1]; exact h1
     have h4:(A'.w % 2 ^ P.globals.size).testBit b=(decide (b < P.globals.size) && A'.w.testBit b):=Nat.testBit_mod_two_pow _ _ _;rw [h3] at h4;simp [hlt] at h4;exact h4
    ·cases hb
 ·cases h
noncomputable def Ke (n:Nat) (l:List Func):Nat→Bool:=List.rec (motive:=fun _=>Nat→Bool) (fun _=>true) (fun fn _ ih k=>(!(fn.body.isNone && fn.name == "internal/abi.NoEscape") || Nat.beq k n) && ih (Nat.add k 1)) l
theorem I5 {n:Nat} : ∀(l:List Func) (k:Nat),Ke n l k=true→∀(i:Nat) (fn:Func),l[i]?=some fn→fn.body=none→(fn.name == "internal/abi.NoEscape")=true→k + i=n:=by
 intro l
 induction l with
 | nil=>intro k _ i fn h; simp at h
 | cons x l ih=>
  intro k h i fn hi hb hn;have h':((!(x.body.isNone && x.name == "internal/abi.NoEscape") || Nat.beq k n) && Ke n l (k + 1))=true:=h;rw [Bool.and_eq_true] at h';cases i with
  | zero=>
   simp at hi;subst hi;have h1:=h'.1;rw [hb,hn] at h1;exact Nat.eq_of_beq_eq_true (by simpa using h1)
  | succ i=>
   have:=ih (k + 1) h'.2 i fn (by simpa using hi) hb hn;omega
theorem env_of (n:Nat) (h1:(P.funcs.toList.all fun fn=>!(fn.name == "runtime.NumGoroutine"))=true) (h2:Ke n P.funcs.toList 0=true) (h3:∀v w,(callFunc n #[v]).run P w=.ok (.value v) w):zE P where
 num:=fun g fn hg=>by
  rw [List.all_eq_true] at h1;have:=h1 fn (by simpa using Array.mem_of_getElem? hg);simpa using this
 noesc:=fun g fn hg hb hn v w=>by
  have:=I5 _ 0 h2 g fn (by simpa using hg) hb hn;rw [Nat.zero_add] at this;subst this;exact h3 v w
noncomputable def OL (P:Program):Bool:=(List.range P.types.size).all fun t=>match P.underlying t with
 | some (.struct fs)=>fs.toList.all fun fl=>(dM P fl.type).isSome
 | _=>true
theorem QN (h:OL P=true):Sa P where
 fields:=fun t fs ht hu fl hfl=>by
  unfold OL at h;rw [List.all_eq_true] at h;have:=h t (by simpa using ht);rw [hu] at this;simp only [List.all_eq_true] at this;exact Option.isSome_iff_exists.1 (this fl hfl)
end
open Go.RowKit
open Go.RowKit
structure CE (P:Program) (orc:IZ):Prop where
 keys:∀g it t,orc.keys g=some (it,t)→∀(mb:Option Nat) (W:World),Calls P g #[.map mb] W fun e w'=>e=.returned (.func (.func it) #[] #[.pointer (some ⟨W.heap.size,0,none⟩)])∧w'=W.alloc (.cells #[.map mb] t)
 one:∀g t,orc.sorted g=some t→P.cellsOf t=1
 none_:∀g t,orc.sorted g=some t→∀it,orc.iter it=true→∀(p b clock:Nat) (W:World),W.cell? ⟨p,0,none⟩=some (.map (some b))→W.heap[b]?=some (.map #[] clock)→
  Calls P g #[.func (.func it) #[] #[.pointer (some ⟨p,0,none⟩)]] W fun e w'=>e=.returned (.slice none 0 0)∧Below W.heap.size W w'
 some_:∀g t,orc.sorted g=some t→∀it,orc.iter it=true→∀(p b clock:Nat) (W:World) (k:ByteArray) (v:Value) (born:Nat),W.cell? ⟨p,0,none⟩=some (.map (some b))→W.heap[b]?=some (.map #[⟨.string k,v,born⟩] clock)→born < clock→k.size≤1048576→
  Calls P g #[.func (.func it) #[] #[.pointer (some ⟨p,0,none⟩)]] W fun e w'=>∃(gb cap:Nat) (C:Array Value),e=.returned (.slice (some ⟨gb,0,none⟩) 1 cap)∧W.heap.size≤gb∧w'.heap[gb]?=some (.cells C t (0,0))∧1≤cap∧C.size=cap∧C.toList.take 1=[.string k]∧Below W.heap.size W w'
 two_:∀g t,orc.sorted g=some t→∀it,orc.iter it=true→∀(p b clock:Nat) (W:World) (k:ByteArray) (v:Value) (born:Nat) (k2:ByteArray) (v2:Value) (born2:Nat),W.cell? ⟨p,0,none⟩=some (.map (some b))→W.heap[b]?=some (.map #[⟨.string k,v,born⟩,⟨.string k2,v2,born2⟩] clock)→
  born < born2→born2 < clock→k.size≤1048576→k2.size≤1048576→(gV k.data.toList k2.data.toList || gV k2.data.toList k.data.toList)=true→
  Calls P g #[.func (.func it) #[] #[.pointer (some ⟨p,0,none⟩)]] W fun e w'=>∃(gb cap:Nat) (C:Array Value),e=.returned (.slice (some ⟨gb,0,none⟩) 2 cap)∧W.heap.size≤gb∧w'.heap[gb]?=some (.cells C t (0,0))∧2≤cap∧C.size=cap∧C.toList.take 2=fZ k k2∧Below W.heap.size W w'
theorem cK.fresh {P:Program}{φ:dI}{T:Nat→Prop}{A:AS}{w w':World}{cells:List Value}{e gb:Nat}{C:Array Value} (hi:cT A) (hn:A.next + 1≤A.next + 1) (h:je P φ T A w) (hfr:φ A.next=none) (hb:Below w.heap.size w w') (hgb:w.heap.size≤gb)
  (hC:w'.heap[gb]?=some (.cells C e (0,0))) (hl:cells.length≤C.size) (hv:bu φ cells (C.toList.take cells.length)) :
  ∃φ',φ' A.next=some ⟨gb,0,C.size,P.cellsOf e,A.next,0⟩∧cK P φ T A (newRow A cells e) w w' φ':=by
 have hf:kC A.next:=tK (by omega);have hgl:gb < w'.heap.size:=(Array.getElem?_eq_some_iff.1 hC).1;have hext:BR φ fun b=>if b=A.next then some ⟨gb,0,C.size,P.cellsOf e,A.next,0⟩ else φ b:=by
  intro b i hb;show (if b=A.next then _ else _)=_;rw [if_neg (by rintro rfl; rw [hfr] at hb; cases hb)];exact hb
 have hold:∀b i,φ b=some i→i.blk < w.heap.size:=h.blk;refine⟨fun b=>if b=A.next then some ⟨gb,0,C.size,P.cellsOf e,A.next,0⟩ else φ b,if_pos rfl,?_⟩;rw [fC,jL];refine⟨hext,fun b hb'=>?_,⟨fun b i hb'=>?_,fun b₁ b₂ i₁ i₂ h₁ h₂ he=>?_,fun b x hb' hlv hT=>?_,fun b i hb'=>?_,h.glob.mono hext,fun b i hb' hcl=>?_⟩,fun b i hb' hlt=>?_,hb.size,fun k hk _=>hb.block k hk,hb.os,hb.tape,hb.output⟩
 ·have hb2:b < A.next∨A.next + 1≤b:=hb';show (if b=A.next then _ else _)=_;rw [if_neg (by omega)]
 ·split at hb'
  ·injection hb' with hb'; subst hb'; exact hgl
  ·exact Nat.lt_of_lt_of_le (hold _ _ hb') hb.size
 ·split at h₁<;>split at h₂
  ·injection h₁ with h₁; injection h₂ with h₂; subst h₁; subst h₂; exact⟨rfl,rfl⟩
  ·injection h₁ with h₁; subst h₁; have:=hold _ _ h₂; simp only at he; omega
  ·injection h₂ with h₂; subst h₂; have:=hold _ _ h₁; simp only at he; omega
  ·exact h.inj _ _ _ _ h₁ h₂ he
 ·have hb2:(Tr.set (fW.row cells e A.next 0 true) 40 A.heap A.next).get b=some x:=hb';rw [Tr.get_set _ _ _ _ hf] at hb2;split at hb2
  ·rename_i he; subst he;injection hb2 with hb2; subst hb2;refine⟨_,_,if_pos rfl,hC,?_⟩;refine .row _ _ _ _ _ (0,0) rfl rfl rfl (by simp) (by simpa using hl) ?_ (.inl rfl) _ (.inl ⟨rfl,Nat.dvd_zero _⟩);show bu _ _ ((C.toList.drop 0).take _);rw [List.drop_zero];exact hv.mono hext
  ·have hlt:=(hi.lt _ _ hb2).2;have hT':T (dE b x):=by
    rcases hT with hT | ⟨h1,_⟩
    ·exact hT
    ·omega
   obtain⟨i,y,e1,e2,e3⟩:=h.obj b x hb2 hlv hT';exact⟨i,y,hext _ _ e1,by rw [hb.block _ (hold _ _ e1)]; exact e2,e3.mono hext fun h hh=>⟨h,hh,Nat.le_refl _⟩⟩
 ·split at hb'
  ·trivial
  ·exact h.al _ _ hb'
 ·split at hb'
  ·injection hb' with hb'; subst hb'; rfl
  ·exact h.root _ _ hb' hcl
 ·split at hb'
  ·injection hb' with hb'; subst hb'; simp only at hlt; omega
  ·exact⟨b,i,hb',rfl,rfl⟩
theorem cK.below {P:Program}{φ:dI}{T:Nat→Prop}{A A':AS}{w w':World} (h:je P φ T A w) (h1:A'.heap=A.heap) (h2:A'.fz=A.fz) (h4:A'.next=A.next) (hb:Below w.heap.size w w'):cK P φ T A A' w w' φ where
 ext:=fun _ _ h=>h
 out:=fun _ _=>rfl
 rel:=⟨fun b i hb'=>Nat.lt_of_lt_of_le (h.blk _ _ hb') hb.size,h.inj,fun b o hb' hl hT=>by
  rw [h1] at hb';rw [h2];obtain⟨i,o',e1,e2,e3⟩:=h.obj b o hb' hl (hT.elim id fun hc=>by omega);exact⟨i,o',e1,by rw [hb.block _ (h.blk _ _ e1)]; exact e2,e3⟩,h.al,h.glob,h.root⟩
 img:=fun b i hb _=>⟨b,i,hb,rfl,rfl⟩
 size:=hb.size
 same:=fun k hk _=>hb.block k hk
 os:=hb.os
 tape:=hb.tape
 output:=hb.output
section
variable {P:Program}{orc:IZ}
theorem jG {α:Type}{xs:Array α}{x:α} (h:xs.toList=[x]):xs = #[x]:=by cases xs; cases h; rfl
theorem Cb {g it t:Nat}{args:Array Value}{A A':AS}{r:j4} (hk:∀(mb:Option Nat) (W:World),Calls P g #[.map mb] W fun e w'=>e=.returned (.func (.func it) #[] #[.pointer (some ⟨W.heap.size,0,none⟩)])∧w'=W.alloc (.cells #[.map mb] t))
  (h:yD it t args.toList A=some (r,A')):A.next≤A'.next∧(cT A→A'.next≤A'.next→eU P g args A r A'):=by
 unfold yD at h;split at h
 ·rename_i b hargs;have hargs:=jG hargs;subst hargs;injection h with h;injection h with h1 h2;subst h1;subst h2;rw [bz];refine⟨by omega,fun hi hn=>⟨gO hi hn _ _,fun φ T w args' hv hr _ hfr=>?_⟩⟩;generalize hq:args'.toList=l at hv;cases hv with
  | cons _ v' _ l' hv hs=>
   cases hs;have hargs':=jG hq;subst hargs';cases hv with
   | map _ i hφ=>
    have hc:bu φ [Value.map (some b)] [Value.map (some i.blk)]:=.cons _ _ _ _ (.map b i hφ) .nil;obtain⟨φ',e1,e2⟩:=jC hi (by rw [bz]; exact hn) hr hfr hc;refine (hk (some i.blk) w).mono ?_;rintro e w' ⟨rfl,rfl⟩;refine⟨φ',e2,.ret _ _ (.func _ _ _ _ _ .nil (.cons _ _ _ _ (.ptr _ 0 _ e1) .nil))⟩
 ·cases h
theorem FU (hC:CE P orc) {g t:Nat} (hg:orc.sorted g=some t) {args:Array Value}{A A':AS}{r:j4} (h:sC orc t args.toList A=some (r,A')):A.next≤A'.next∧(cT A→A'.next≤A'.next→eU P g args A r A'):=by
 unfold sC at h;split at h
 case h_2=>cases h
 rename_i it first cap hargs;have hargs:=jG hargs;subst hargs;split at h
 case h_2=>cases h
 rename_i p hfirst hcap;obtain⟨hit,h⟩:=aI h;unfold A6 at h;split at h
 case h_2=>cases h
 rename_i b e c st hp;obtain⟨hcp,h0⟩:=aI h;clear h;have hcp:=Nat.eq_of_beq_eq_true hcp;subst hcp;unfold AV at h0;split at h0
 case h_2=>cases h0
 rename_i es clock hb;have hlog:∀(hi:cT A),mR A (cE (cE A c) b):=fun hi=>by
  have h1:=iZ hi (hi.lt _ _ hp).2;exact h1.trans (iZ h1.inv (by rw [aH]; exact (hi.lt _ _ hb).1))
 have e1:(cE (cE A c) b).heap=A.heap:=by rw [aH,aH]
 have e2:(cE (cE A c) b).fz=A.fz:=by rw [aH,aH]
 have e3:(cE (cE A c) b).next=A.next:=by rw [aH,aH]
 have look:∀(hi:cT A) {A':AS} (_:mR (cE (cE A c) b) A') {φ:dI}{T:Nat→Prop}{w:World}{args':Array Value},bu φ (#[Value.func (.func it) first cap]:Array Value).toList args'.toList→je P φ T A w→jd A A' T→
   ∃(i j:ua) (es':Array MapEntry),args' = #[.func (.func it) #[] #[.pointer (some ⟨i.blk,0,none⟩)]]∧w.cell? ⟨i.blk,0,none⟩=some (.map (some j.blk))∧w.heap[j.blk]?=some (.map es' clock)∧rZ φ es es'.toList:=by
  intro hi A' fr φ T w args' hv hr hT;have hTc:T c:=hT c (hi.lt _ _ hp).2 (.inl (fr.r c (by rw [aH,aH,dC,dC]; simp)));have hTb:T b:=hT b (hi.lt _ _ hb).1 (.inl (fr.r b (by rw [aH,dC]; simp)));generalize hq:args'.toList=l at hv;cases hv with
  | cons _ v' _ l' hv hs=>
   cases hs;have hargs':=jG hq;subst hargs';cases hv with
   | func _ _ _ xs' ys' hx hy=>
    rw [hfirst] at hx;rw [hcap] at hy;generalize hxx:xs'.toList=X at hx;generalize hyy:ys'.toList=Y at hy;cases hx;cases hy with
    | cons _ u _ _ hu hu2=>
     cases hu2;have hys:=jG hyy;subst hys;have hxs:xs' = #[]:=by cases xs'; cases hxx; rfl
     subst hxs;cases hu with
     | ptr _ _ i hφ=>
      obtain⟨i',C,fz,_,k1,k2,k3,k4,k5,k6,k7,k8,k9,k10⟩:=hr.cells hp hTc;obtain rfl:i=i':=by rw [hφ] at k1; injection k1
      have hsh:i.sh=0:=hr.root _ _ hφ k3;obtain⟨j,o',m1,m2,m3⟩:=hr.obj b _ hb rfl hTb;cases m3 with
      | map _ _ es' _ he=>
       refine⟨i,j,es',by rw [hsh],?_,m2,he⟩;rw [hsh,List.drop_zero] at k8;rw [Lib.cell_of_heap k2];generalize hD:C.toList.take 1=D at k8;cases k8 with
       | cons _ x _ _ hx hx2=>
        cases hx2;cases hx with
        | map _ j' hj'=>
         rw [m1] at hj';injection hj' with hj';subst hj';have:(C.toList.take 1)[0]?=some (.map (some j.blk)):=by rw [hD]; rfl
         rw [List.getElem?_take] at this;simpa using this
 unfold y6 at h0;split at h0
 ·injection h0 with h0;injection h0 with h1 h2;subst h1;subst h2;refine⟨by rw [e3]; exact Nat.le_refl _,fun hi hn=>⟨hlog hi,fun φ T w args' hv hr hT hfr=>?_⟩⟩;obtain⟨i,j,es',rfl,q1,q2,q3⟩:=look hi (.refl (hlog hi).inv) hv hr hT;have hes:es' = #[]:=by
   generalize hq:es'.toList=l at q3;cases q3;cases es';cases hq;rfl
  subst hes;refine (hC.none_ g t hg it hit i.blk j.blk clock w q1 q2).mono ?_;rintro e w' ⟨rfl,hbw⟩;exact⟨φ,cK.below hr e1 e2 e3 hbw,.ret _ _ .nilSlice⟩
 ·rename_i k v born;obtain⟨hc,h5⟩:=aI h0;clear h0;simp only [Bool.and_eq_true] at hc;have c1:=Nat.le_of_ble_eq_true hc.1;have c2:=Nat.le_of_ble_eq_true hc.2;injection h5 with h5;injection h5 with h1 h2;subst h1;subst h2;rw [bz,e3];refine⟨by omega,fun hi hn=>?_⟩;have fr2:=gO (hlog hi).inv (by rw [e3]; exact hn) [Value.string k] t;refine⟨(hlog hi).trans fr2,fun φ T w args' hv hr hT hfr=>?_⟩;obtain⟨i,j,es',rfl,q1,q2,q3⟩:=look hi fr2 hv hr hT;have hes:∃v',es' = #[⟨.string k,v',born⟩]:=by
   generalize hq:es'.toList=l at q3;cases q3 with
   | cons _ _ v' _ _ l' hk hv hl=>
    cases hl;exact⟨v',by cases es'; cases hq; rfl⟩
  obtain⟨v',rfl⟩:=hes;refine (hC.some_ g t hg it hit i.blk j.blk clock w k v' born q1 q2 c1 c2).mono ?_;rintro e w' ⟨gb,cap,C,rfl,g1,g2,g3,g4,g5,g6⟩;have hr':je P φ T (cE (cE A c) b) w:=hr.heap e1 e2 rfl;have hfr':φ (cE (cE A c) b).next=none:=by rw [e3]; exact hfr _ (Nat.le_refl _) (by rw [bz,e3]; omega)
  obtain⟨φ',m1,m2⟩:=cK.fresh (e:=t) (cells:=[Value.string k]) (hlog hi).inv (by rw [e3]; exact hn) hr' hfr' g6 g1 g2 (by rw [g4]; exact g3) (by
   show bu φ [Value.string k] (C.toList.take 1);rw [g5];exact .cons _ _ _ _ (.string k) .nil)
  rw [e3] at m1;refine⟨φ',?_,.ret _ _ ?_⟩
  ·refine⟨m2.ext,fun x hx=>m2.out x (by rw [e3]; exact hx),m2.rel.sub fun x hx=>?_,m2.img,m2.size,m2.same,m2.os,m2.tape,m2.output⟩;rw [e3];exact hx
  ·have:=VR.slice (φ:=φ') A.next 0 1 1 cap ⟨gb,0,none⟩ _ m1 (Nat.le_refl _) g3 (.inr rfl) (by show 0 + cap * P.cellsOf t≤C.size; rw [hC.one g t hg,g4]; omega);exact this
 ·rename_i k v born k2 v2 born2;obtain⟨hc,h5⟩:=aI h0;clear h0;simp only [Bool.and_eq_true] at hc;have c1:=Nat.le_of_ble_eq_true hc.1;have c2:=Nat.le_of_ble_eq_true hc.2.1;have c3:=Nat.le_of_ble_eq_true hc.2.2.1;have c4:=Nat.le_of_ble_eq_true hc.2.2.2.1;have c5:=hc.2.2.2.2;injection h5 with h5;injection h5 with h1 h2;subst h1;subst h2;rw [bz,e3];refine⟨by omega,fun hi hn=>?_⟩;have fr2:=gO (hlog hi).inv (by rw [e3]; exact hn) (fZ k k2) t;refine⟨(hlog hi).trans fr2,fun φ T w args' hv hr hT hfr=>?_⟩;obtain⟨i,j,es',rfl,q1,q2,q3⟩:=look hi fr2 hv hr hT;have hes:∃v' v2',es' = #[⟨.string k,v',born⟩,⟨.string k2,v2',born2⟩]:=by
   generalize hq:es'.toList=l at q3;cases q3 with
   | cons _ _ v' _ _ l' hk hv hl=>
    cases hl with
    | cons _ _ v2' _ _ l2 hk2 hv2 hl2=>
     cases hl2;exact⟨v',v2',by cases es'; cases hq; rfl⟩
  obtain⟨v',v2',rfl⟩:=hes;refine (hC.two_ g t hg it hit i.blk j.blk clock w k v' born k2 v2' born2 q1 q2 c1 c2 c3 c4 c5).mono ?_;rintro e w' ⟨gb,cap,C,rfl,g1,g2,g3,g4,g5,g6⟩;have hr':je P φ T (cE (cE A c) b) w:=hr.heap e1 e2 rfl;have hfr':φ (cE (cE A c) b).next=none:=by rw [e3]; exact hfr _ (Nat.le_refl _) (by rw [bz,e3]; omega)
  have hl2:(fZ k k2).length=2:=by unfold fZ; cases gV k.data.toList k2.data.toList<;>rfl
  have hself:bu φ (fZ k k2) (fZ k k2):=by
   unfold fZ;cases gV k.data.toList k2.data.toList
   ·exact .cons _ _ _ _ (.string _) (.cons _ _ _ _ (.string _) .nil)
   ·exact .cons _ _ _ _ (.string _) (.cons _ _ _ _ (.string _) .nil)
  obtain⟨φ',m1,m2⟩:=cK.fresh (e:=t) (cells:=fZ k k2) (hlog hi).inv (by rw [e3]; exact hn) hr' hfr' g6 g1 g2 (by rw [g4,hl2]; exact g3) (by
   rw [hl2,g5];exact hself)
  rw [e3] at m1;refine⟨φ',?_,.ret _ _ ?_⟩
  ·refine⟨m2.ext,fun x hx=>m2.out x (by rw [e3]; exact hx),m2.rel.sub fun x hx=>?_,m2.img,m2.size,m2.same,m2.os,m2.tape,m2.output⟩;rw [e3];exact hx
  ·have:=VR.slice (φ:=φ') A.next 0 2 2 cap ⟨gb,0,none⟩ _ m1 (Nat.le_refl _) g3 (.inr rfl) (by show 0 + cap * P.cellsOf t≤C.size; rw [hC.one g t hg,g4]; omega);exact this
 ·cases h0
theorem GF {φ:dI}{T:Nat→Prop}{A:AS}{w:World} (hr:je P φ T A w):P.globals.size≤w.heap.size:=by
 rcases Nat.eq_zero_or_pos P.globals.size with h | h
 ·omega
 ·obtain⟨i,e1,e2,_⟩:=hr.glob (P.globals.size - 1) (by omega);have:=hr.blk _ _ e1;omega
theorem Tf (hC:CE P orc):An P orc:=by
 intro g args A r A' h;unfold ud at h;split at h
 ·rename_i it t hk;injection h with h;exact Cb (hC.keys g it t hk) h
 ·split at h
  ·rename_i t hs;injection h with h;exact FU hC hs h
  ·cases h
end
end Go.EvL
