/- What functions of the program and of the reference compute, on values. No statement is proved here. -/
import Derived.Test.YtokdflgpbfjpcaaGreatDoorTxI
import Derived.Test.YtokdflgpbfjpcaaGreatDoorEvE
import Derived.Test.YtokdflgpbfjpcaaGreatDoorTxH
import Derived.Test.YtokdflgpbfjpcaaGreatDoorTxD
import Derived.Test.YtokdflgpbfjpcaaGreatDoorTxA
set_option linter.all false
namespace Go.PE
open Go Go.EvL Go.RowKit
section
variable {P:Program}{Γ:Nat→Option gk}{ext:ar}
def Te:PS:=⟨fun _=>⟨[],0,0⟩,0,0⟩
theorem Kl (hE:yZ P) (hO:dm P) (hm:P.follows .mixedOrders=true) (hP:tZ P) (hΓ:y6 P Γ) (hX:fB P (ek Γ) ext) {g:Nat} (hpu:ek Γ g=true) {w:World}{H:Nat}{args:Array Value}{pvs:List PV}{V:List jS}{vs:List Value}
  (hG:P.globals.size≤w.heap.size) (hH : 1180591620717411303424≤H) (hV:∀v∈V,LM P w H V v) (hvr:bF (qB P w V) vs args.toList) (hrs:Rs (Lc P H V) (fun _=>0) 0 vs pvs) {s':PS} (h:aH P Γ ext g pvs Te=some (.sc (.bool true),s')) :
  Calls P g args w fun e w'=>e=.returned (.bool true)∧Below w.heap.size w w':=by
 obtain⟨_,_,hh⟩:=Iw hE hO hm hP hΓ hX g pvs Te _ _ h;obtain⟨u,A',β',cs,_,_,r1,hw⟩:=hh (Lc P H V) (fun _=>0) vs (zk V) ⟨fun k hk=>absurd hk (Nat.not_lt_zero _),fun j k hj=>absurd hj (Nat.not_lt_zero _)⟩ hrs;obtain⟨rfl,_⟩:=r1.sc;refine (cs.run (qB P w V) (fun _=>True) w args hvr (NI hG hH hV _) (fun _ _ _=>trivial) fun b hb _=>?_).mono ?_
 ·have hb':P.globals.size + 1 + V.length≤b:=hb;unfold qB;rw [if_neg (by omega),if_neg (by omega),List.getElem?_eq_none (by omega)];rfl
 ·rintro e w' ⟨φ',hp,he⟩;refine⟨?_,hp.os,hp.tape,hp.output,hp.size,fun k hk=>hp.same k hk fun b i hb hi=>?_⟩
  ·cases he with
   | ret _ v' hv=>cases hv; rfl
  ·have hc:i.cls < (Lc P H V).next:=by
    show i.cls < P.globals.size + 1 + V.length;rcases oH hb with ⟨h1,rfl⟩ | ⟨h1,v,h2,rfl⟩
    ·show b < _; omega
    ·have:=pJ P v.blk;show nu P v.blk < _; omega
   cases hbit:A'.w.testBit i.cls with
   | false=>rfl
   | true=>
    have:=hw hpu _ hc hbit;have h0:(0:Nat).testBit i.cls=true:=this;rw [Nat.zero_testBit] at h0;cases h0
def Bh (gA:Nat):ar:=fun g args s=>if g=gA∧args.isEmpty=true then some (.sc (.bool true),s) else none
theorem Nu {gA:Nat} (hb:∃fn c,P.funcs[gA]?=some fn∧fn.body=some c) (hc:∀w:World,P.globals.size≤w.heap.size→Calls P gA #[] w fun e w'=>e=.returned (.bool true)∧Below w.heap.size w w') (pu:Nat→Bool):fB P pu (Bh gA):=by
 intro g args s q s' h;unfold Bh at h;split at h
 ·rename_i hg;obtain⟨rfl,ha⟩:=hg;injection h with h;injection h with h1 h2;subst h1;subst h2;have ha':args=[]:=List.isEmpty_iff.1 ha;subst ha';refine⟨hb,.refl _,fun A β vs hi hs hr=>?_⟩;have hvs:vs=[]:=by cases hr; rfl
  subst hvs;refine⟨.bool true,A,β,⟨.refl hi,fun φ T w args' hv hrel _ _=>?_⟩,.refl _ _ _ _,hs,.cl _ _ (.sc _ rfl),fun _ c _ h=>h⟩;have ha2:args' = #[]:=by
   cases args' with
   | mk l=>cases hv; rfl
  subst ha2;refine (hc w (GE hrel)).mono ?_;rintro e w' ⟨rfl,bel⟩;exact⟨φ,dc.below hrel rfl rfl rfl bel,.ret _ _ (.bool true)⟩
 ·cases h
theorem Io (w:World):∃H,1180591620717411303424≤H∧∀(b:Nat) (C:Array Value) (e:Nat) (fz:Nat × Nat),w.heap[b]?=some (.cells C e fz)→fz.2≤H:=by
 have key:∀l:List Obj,∃H,1180591620717411303424≤H∧∀C e (fz:Nat × Nat),Obj.cells C e fz∈l→fz.2≤H:=by
  intro l
  induction l with
  | nil=>exact⟨_,Nat.le_refl _,fun C e fz h=>by cases h⟩
  | cons o l ih=>
   obtain⟨H,h1,h2⟩:=ih;cases o with
   | cells C e fz=>
    refine⟨H + fz.2,by omega,fun C' e' fz' h=>?_⟩;rcases List.mem_cons.1 h with h | h
    ·injection h with _ _ h; subst h; omega
    ·have:=h2 _ _ _ h; omega
   | _=>
    refine⟨H,h1,fun C' e' fz' h=>?_⟩;rcases List.mem_cons.1 h with h | h
    ·cases h
    ·exact h2 _ _ _ h
 obtain⟨H,h1,h2⟩:=key w.heap.toList;exact⟨H,h1,fun b C e fz h=>h2 C e fz (by
  have:=Array.mem_of_getElem? h;simpa using this)⟩
end
end Go.PE
namespace Go.PE
open Go Go.EvL
section
variable {P:Program}
def zi (P:Program) (n:Nat):List Field→List (List PV)→Prop
 | [],[]=>True
 | f :: fs,x :: ls=>iM P n f.type x∧zi P n fs ls
 | _,_=>False
theorem NL {n:Nat} : ∀(fs:List Field) (ls:List (List PV)),ls.length=fs.length→(∀(j:Nat) f x,fs[j]?=some f→ls[j]?=some x→iM P n f.type x)→zi P n fs ls:=by
 intro fs
 induction fs with
 | nil=>intro ls h _; cases ls with | nil=>trivial | cons a l=>cases h
 | cons f fs ih=>
  intro ls h hh;cases ls with
  | nil=>cases h
  | cons x ls=>exact⟨hh 0 f x rfl rfl,ih ls (by simpa using h) fun j f x h1 h2=>hh (j + 1) f x (by simpa using h1) (by simpa using h2)⟩
theorem fx {n t:Nat}{fs:Array Field}{ps:List PV} (hu:P.underlying t=some (.struct fs)) (h:iM P n t ps):∃m ls,n=m + 1∧ps=ls.flatten∧zi P m fs.toList ls:=by
 cases n with
 | zero=>cases h
 | succ n=>
  unfold iM at h;rw [hu] at h;obtain⟨ls,h1,h2,h3⟩:=h;exact⟨n,ls,rfl,h1,NL _ _ h2 h3⟩
theorem xO {n:Nat}{f1 f2:Field}{ls:List (List PV)} (h:zi P n [f1,f2] ls):∃a1 a2,ls=[a1,a2]∧iM P n f1.type a1∧iM P n f2.type a2:=by
 match ls,h with
 | [a1,a2],⟨h1,h2,_⟩=>exact⟨a1,a2,rfl,h1,h2⟩
theorem UB {n:Nat}{f1 f2 f3:Field}{ls:List (List PV)} (h:zi P n [f1,f2,f3] ls):∃a1 a2 a3,ls=[a1,a2,a3]∧iM P n f1.type a1∧iM P n f2.type a2∧iM P n f3.type a3:=by
 match ls,h with
 | [a1,a2,a3],⟨h1,h2,h3,_⟩=>exact⟨a1,a2,a3,rfl,h1,h2,h3⟩
theorem UD {n:Nat}{f1 f2 f3 f4:Field}{ls:List (List PV)} (h:zi P n [f1,f2,f3,f4] ls):∃a1 a2 a3 a4,ls=[a1,a2,a3,a4]∧iM P n f1.type a1∧iM P n f2.type a2∧iM P n f3.type a3∧iM P n f4.type a4:=by
 match ls,h with
 | [a1,a2,a3,a4],⟨h1,h2,h3,h4,_⟩=>exact⟨a1,a2,a3,a4,rfl,h1,h2,h3,h4⟩
theorem PG {n:Nat}{f1 f2 f3 f4 f5:Field}{ls:List (List PV)} (h:zi P n [f1,f2,f3,f4,f5] ls):∃a1 a2 a3 a4 a5,ls=[a1,a2,a3,a4,a5]∧iM P n f1.type a1∧iM P n f2.type a2∧iM P n f3.type a3∧iM P n f4.type a4∧iM P n f5.type a5:=by
 match ls,h with
 | [a1,a2,a3,a4,a5],⟨h1,h2,h3,h4,h5,_⟩=>exact⟨a1,a2,a3,a4,a5,rfl,h1,h2,h3,h4,h5⟩
theorem Uq {n:Nat}{f1 f2 f3 f4 f5 f6 f7 f8 f9:Field}{ls:List (List PV)} (h:zi P n [f1,f2,f3,f4,f5,f6,f7,f8,f9] ls):∃a1 a2 a3 a4 a5 a6 a7 a8 a9,ls=[a1,a2,a3,a4,a5,a6,a7,a8,a9]∧iM P n f1.type a1∧iM P n f2.type a2∧iM P n f3.type a3∧iM P n f4.type a4∧iM P n f5.type a5∧iM P n f6.type a6∧iM P n f7.type a7∧iM P n f8.type a8∧iM P n f9.type a9:=by
 match ls,h with
 | [a1,a2,a3,a4,a5,a6,a7,a8,a9],⟨h1,h2,h3,h4,h5,h6,h7,h8,h9,_⟩=>exact⟨a1,a2,a3,a4,a5,a6,a7,a8,a9,rfl,h1,h2,h3,h4,h5,h6,h7,h8,h9⟩
theorem Qf {n t:Nat}{ps:List PV} (h:iM P n t ps):∃k,n=k + 1:=by
 cases n with
 | zero=>cases h
 | succ n=>exact⟨n,rfl⟩
theorem hZ {n t:Nat}{k:IntKind}{ps:List PV} (hu:P.underlying t=some (.int k)) (h:iM P n t ps):∃z,ps=[.sc (.int k z)]∧(Lit.int k z).wf=true:=by
 cases n with
 | zero=>cases h
 | succ n=>unfold iM at h; rw [hu] at h; exact h
theorem mY {n t:Nat}{ps:List PV} (hu:P.underlying t=some .bool) (h:iM P n t ps):∃z,ps=[.sc (.bool z)]:=by
 cases n with
 | zero=>cases h
 | succ n=>unfold iM at h; rw [hu] at h; exact h
theorem fg {n t:Nat}{ps:List PV} (hu:P.underlying t=some .string) (h:iM P n t ps):∃s:ByteArray,ps=[.sc (.string s)]∧s.size≤maxLen:=by
 cases n with
 | zero=>cases h
 | succ n=>unfold iM at h; rw [hu] at h; exact h
theorem M9 {α:Type}{c:α→List PV}{Q:α→Prop} : ∀(ls:List (List PV)),(∀x∈ls,∃d,x=c d∧Q d)→∃l:List α,ls.flatten=l.flatMap c∧l.length=ls.length∧∀d∈l,Q d:=by
 intro ls
 induction ls with
 | nil=>intro _; exact⟨[],rfl,rfl,fun d h=>by cases h⟩
 | cons x ls ih=>
  intro h;obtain⟨d,rfl,hd⟩:=h x List.mem_cons_self;obtain⟨l,e1,e2,e3⟩:=ih fun y hy=>h y (List.mem_cons_of_mem _ hy);exact⟨d :: l,by rw [List.flatten_cons,List.flatMap_cons,e1],by simp [e2],fun y hy=>by
   rcases List.mem_cons.1 hy with rfl | hy
   ·exact hd
   ·exact e3 y hy⟩
theorem cR {x:List PV}{ls:List (List PV)} (h:x∈ls):aR x≤aR ls.flatten:=by
 have:=gY (c:=id) h;simpa [List.flatMap_id] using this
theorem ou {α:Type}{c:α→List PV}{Q:α→Prop}{n t e N:Nat}{ps:List PV} (hu:P.underlying t=some (.slice e)) (h:iM P n t ps) (hc:∀d,1≤(c d).length) (hN:aR ps≤N) (hN':N < 4611686018427387904)
  (hel:∀m x,n=m + 1→iM P m e x→aR x≤N→∃d,x=c d∧Q d):∃(p:PV) (l:Option (List α)),ps=[p]∧p=aU e c l∧(l.getD []).length < 4611686018427387904∧∀d∈l.getD [],Q d:=by
 cases n with
 | zero=>cases h
 | succ n=>
  unfold iM at h;rw [hu] at h;rcases h with rfl | ⟨ls,rfl,h1,h2⟩
  ·exact⟨_,none,rfl,rfl,by simp,fun d hd=>by cases hd⟩
  ·rw [cx,cH] at hN;have hN2:aR ls.flatten + 1 + 0≤N:=hN;obtain⟨l,e1,e2,e3⟩:=M9 (c:=c) (Q:=Q) ls fun x hx=>hel n x rfl (h2 x hx) (by have:=cR hx; omega);refine⟨_,some l,rfl,by rw [e1,← e2]; rfl,?_,e3⟩;have h3:=ip (e:=e) (c:=c) hc (some l);have h4:=dO e c (some l);simp only [Option.getD_some] at h3 h4 ⊢;rw [← e1] at h4;omega
end
end Go.PE
namespace Go.Proofs.YtokdflgpbfjpcaaGreatDoor
open Go Go.EvL Go.PE
theorem aN.succ:∀{d:Nat}{p:PV},aN d p→aN (d + 1) p:=by
 intro d
 induction d with
 | zero=>intro p h; cases h
 | succ d ih=>
  rintro p ⟨l,h1,h2,h3⟩;exact⟨l,h1,h2,fun x hx=>ih (h3 x hx)⟩
theorem aN.mono {d d':Nat}{p:PV} (h:aN d p) (hd:d≤d'):aN d' p:=by
 obtain⟨k,rfl⟩ : ∃k,d'=d + k:=⟨d' - d,by omega⟩
 induction k with
 | zero=>exact h
 | succ k ih=>exact (ih (by omega)).succ
theorem gI.mono {α:Type}{e:Nat}{c:α→List PV}{Q Q':α→Prop}{p:PV} (h:gI e c Q p) (hq:∀x,Q x→Q' x):gI e c Q' p:=by
 obtain⟨l,h1,h2,h3⟩:=h;exact⟨l,h1,h2,fun x hx=>hq x (h3 x hx)⟩
theorem bB.succ {D:Nat} : ∀{d:Nat}{x:am},bB D d x→bB D (d + 1) x:=by
 intro d
 induction d with
 | zero=>intro x h; cases h
 | succ d ih=>
  rintro x ⟨h1,h2,h3,h4,h5⟩;exact⟨h1,h2,h3,h4.mono fun x=>ih,h5.mono fun x h=>⟨h.1,h.2.mono fun x=>ih⟩⟩
theorem bB.mono {D d d':Nat}{x:am} (h:bB D d x) (hd:d≤d'):bB D d' x:=by
 obtain⟨k,rfl⟩ : ∃k,d'=d + k:=⟨d' - d,by omega⟩
 induction k with
 | zero=>exact h
 | succ k ih=>exact (ih (by omega)).succ
theorem IR {N:Nat} (hN:N < 4611686018427387904):∀(n:Nat) (ps:List PV),iM Tryz.prog n 100 ps→aR ps≤N→∃p,ps=[p]∧aN n p:=by
 intro n
 induction n using Nat.strongRecOn with
 | ind n ih=>
  intro ps h hb;obtain⟨j,hj⟩:=Qf h;obtain⟨p,l,h1,h2,h3,h4⟩:=ou (c:=au.cells) (Q:=fun x=>aN j x.parts) Tryz.underlying100 h (fun d=>by rw [au.len]; omega) hb hN (fun m x hm hx hbx=>by
   obtain rfl:j=m:=by omega
   obtain⟨k,ls,hk,rfl,hf⟩:=fx Tryz.underlying155 hx;obtain⟨a,b,c,d,e,rfl,f1,f2,f3,f4,f5⟩:=PG hf;obtain⟨z1,rfl,_⟩:=hZ Tryz.underlying3 f1;obtain⟨z2,rfl,_⟩:=fg Tryz.underlying9 f2;obtain⟨z3,rfl,_⟩:=hZ Tryz.underlying3 f3;obtain⟨z4,rfl⟩:=mY Tryz.underlying4 f4;obtain⟨q,rfl,hq⟩:=ih k (by omega) e f5 (Nat.le_trans (cR (by simp)) hbx);exact⟨⟨z1,z2,z3,z4,q⟩,rfl,hq.mono (by omega)⟩)
  refine⟨p,h1,?_⟩;rw [hj];exact⟨l,h2,h3,h4⟩
theorem An {N:Nat} (hN:N < 4611686018427387904) {n:Nat}{ps:List PV} (h:iM Tryz.prog n 102 ps) (hb:aR ps≤N):∃x:ay,ps=x.cells∧aN n x.parts:=by
 obtain⟨k,ls,rfl,rfl,hf⟩:=fx Tryz.underlying102 h;obtain⟨a,b,rfl,f1,f2⟩:=xO hf;obtain⟨z1,rfl,_⟩:=hZ Tryz.underlying3 f1;obtain⟨q,rfl,hq⟩:=IR hN k b f2 (Nat.le_trans (cR (by simp)) hb);exact⟨⟨z1,q⟩,rfl,hq.succ⟩
theorem Bj {N:Nat} (hN:N < 4611686018427387904) {n D:Nat} (hD:n≤D) {ps:List PV} (h:iM Tryz.prog n 66 ps) (hb:aR ps≤N):∃p,ps=[p]∧lA D p:=by
 obtain⟨p,l,h1,h2,h3,h4⟩:=ou (c:=ay.cells) (Q:=fun x=>aN D x.parts) Tryz.underlying66 h (fun d=>by rw [ay.len]; omega) hb hN (fun m x hm hx hbx=>by
  obtain⟨y,h1,h2⟩:=An hN hx hbx;exact⟨y,h1,h2.mono (by omega)⟩)
 exact⟨p,h1,l,h2,h3,h4⟩
theorem CO {N:Nat} (hN:N < 4611686018427387904) {n D:Nat} (hD:n≤D) {ps:List PV} (h:iM Tryz.prog n 65 ps) (hb:aR ps≤N):∃p,ps=[p]∧ky D p:=by
 obtain⟨p,l,h1,h2,h3,h4⟩:=ou (c:=aB.cells) (Q:=fun x=>aN D x.parts) Tryz.underlying65 h (fun d=>by rw [aB.len]; omega) hb hN (fun m x hm hx hbx=>by
  obtain⟨k,ls,rfl,rfl,hf⟩:=fx Tryz.underlying104 hx;obtain⟨a,b,c,rfl,f1,f2,f3⟩:=UB hf;obtain⟨z1,rfl,_⟩:=hZ Tryz.underlying3 f1;obtain⟨z2,rfl,_⟩:=fg Tryz.underlying9 f2;obtain⟨y,rfl,hy⟩:=An hN f3 (Nat.le_trans (cR (by simp)) hbx);exact⟨⟨z1,z2,y.pos,y.parts⟩,rfl,hy.mono (by omega)⟩)
 exact⟨p,h1,l,h2,h3,h4⟩
theorem Hp {N:Nat} (hN:N < 4611686018427387904) {n D:Nat} (hD:n≤D) {ps:List PV} (h:iM Tryz.prog n 67 ps) (hb:aR ps≤N):∃p,ps=[p]∧m7 D p:=by
 obtain⟨p,l,h1,h2,h3,h4⟩:=ou (c:=aD.cells) (Q:=fun x=>aN D x.parts) Tryz.underlying67 h (fun d=>by rw [aD.len]; omega) hb hN (fun m x hm hx hbx=>by
  obtain⟨k,ls,rfl,rfl,hf⟩:=fx Tryz.underlying129 hx;obtain⟨a,b,c,d,rfl,f1,f2,f3,f4⟩:=UD hf;obtain⟨z1,rfl,_⟩:=hZ Tryz.underlying3 f1;obtain⟨z2,rfl,_⟩:=hZ Tryz.underlying3 f2;obtain⟨z3,rfl,_⟩:=hZ Tryz.underlying3 f3;obtain⟨y,rfl,hy⟩:=An hN f4 (Nat.le_trans (cR (by simp)) hbx);exact⟨⟨z1,z2,z3,y.pos,y.parts⟩,rfl,hy.mono (by omega)⟩)
 exact⟨p,h1,l,h2,h3,h4⟩
theorem OV {N:Nat} (hN:N < 4611686018427387904) {D:Nat} : ∀(n:Nat),n≤D→∀(ps:List PV),iM Tryz.prog n 71 ps→aR ps≤N→∃x:am,ps=x.cells∧bB D n x:=by
 intro n
 induction n using Nat.strongRecOn with
 | ind n ih=>
  intro hn ps h hb;have kids:∀(m:Nat),m < n→∀(ps:List PV),iM Tryz.prog m 68 ps→aR ps≤N→∃p,ps=[p]∧gI 71 am.cells (bB D m) p:=by
   intro m hm ps h hb;obtain⟨p,l,h1,h2,h3,h4⟩:=ou (c:=am.cells) (Q:=bB D m) Tryz.underlying68 h (fun d=>by rw [am.len]; omega) hb hN (fun k x hk hx hbx=>by
    obtain⟨y,e1,e2⟩:=ih k (by omega) (by omega) x hx hbx;exact⟨y,e1,e2.mono (by omega)⟩)
   exact⟨p,h1,l,h2,h3,h4⟩
  obtain⟨k,ls,hk,rfl,hf⟩:=fx Tryz.underlying71 h;clear h;obtain⟨a1,a2,a3,a4,a5,a6,a7,a8,a9,rfl,f1,f2,f3,f4,f5,f6,f7,f8,f9⟩:=Uq hf;obtain⟨z1,rfl,_⟩:=hZ Tryz.underlying3 f1;obtain⟨z2,rfl,_⟩:=hZ Tryz.underlying3 f2;obtain⟨z3,rfl,_⟩:=fg Tryz.underlying9 f3;obtain⟨z4,rfl⟩:=mY Tryz.underlying4 f4;obtain⟨p5,rfl,h5⟩:=CO hN (D:=D) (by omega) f5 (Nat.le_trans (cR (by simp)) hb);obtain⟨p6,rfl,h6⟩:=Bj hN (D:=D) (by omega) f6 (Nat.le_trans (cR (by simp)) hb);obtain⟨p7,rfl,h7⟩:=Hp hN (D:=D) (by omega) f7 (Nat.le_trans (cR (by simp)) hb);obtain⟨p8,rfl,h8⟩:=kids k (by omega) a8 f8 (Nat.le_trans (cR (by simp)) hb);obtain⟨p,l,h1,h2,h3,h4⟩:=ou (c:=aK.cells) (Q:=fun it=>lA D it.pats∧gI 71 am.cells (bB D k) it.body) Tryz.underlying69 f9 (fun d=>by rw [aK.len]; omega) (Nat.le_trans (cR (by simp)) hb) hN (fun m x hm hx hbx=>by
   obtain⟨k',ls,rfl,rfl,hf⟩:=fx Tryz.underlying134 hx;obtain⟨a,b,rfl,f1,f2⟩:=xO hf;obtain⟨q1,rfl,g1⟩:=Bj hN (D:=D) (by omega) f1 (Nat.le_trans (cR (by simp)) hbx);obtain⟨q2,rfl,g2⟩:=kids k' (by omega) b f2 (Nat.le_trans (cR (by simp)) hbx);exact⟨⟨q1,q2⟩,rfl,g1,g2.mono fun x h=>h.mono (by omega)⟩)
  subst h1;refine⟨⟨z1,z2,z3,z4,p5,p6,p7,p8,p⟩,rfl,?_⟩;rw [hk];exact⟨h5,h6,h7,h8,⟨l,h2,h3,h4⟩⟩
end Go.Proofs.YtokdflgpbfjpcaaGreatDoor
namespace Go.Proofs.YtokdflgpbfjpcaaGreatDoor
open Go Go.EvL Go.PE Go.Mir
variable {ext:ar}
theorem yU {t:List UInt8}{p j:Nat}{ps:List aS} (h:gy t p (.ok (ps,j))):ps.length≤16384∧∀q∈ps,Sm 16384 q:=by
 cases h with
 | wx h k=>
  have hb:=k.bound (Nat.zero_le _);have hs:=k.small (Nat.zero_le _) ⟨Nat.le_refl _,fun q hq=>by cases hq⟩;have up:∀q,Sm t.length q→Sm 16384 q:=fun q hq=>by
   induction hq with
   | mk h1 _ ih=>exact .mk (Nat.le_trans h1 h) ih
  exact⟨Nat.le_trans (Nat.le_trans hs.1 hb.2.1) h,fun q hq=>up q (hs.2 q hq)⟩
theorem FC {l:List aS} (h:∀q∈l,Sm 16384 q→∃d x,uh q x∧x.cells=dV q∧aN d x.parts) (hs:∀q∈l,Sm 16384 q):∃d xs,nL l xs∧xs.flatMap au.cells=oD l∧∀x∈xs,aN d x.parts:=by
 induction l with
 | nil=>exact⟨0,[],by rw [nL],by rw [oD]; rfl,fun x hx=>by cases hx⟩
 | cons p l ih=>
  obtain⟨d,x,h1,h2,h3⟩:=h p (List.mem_cons_self ..) (hs p (List.mem_cons_self ..));obtain⟨e,xs,g1,g2,g3⟩:=ih (fun q hq=>h q (List.mem_cons_of_mem _ hq)) fun q hq=>hs q (List.mem_cons_of_mem _ hq);refine⟨max d e,x :: xs,?_,?_,?_⟩
  ·rw [nL];exact⟨x,xs,rfl,h1,g1⟩
  ·rw [oD,List.flatMap_cons,h2,g2]
  ·intro z hz;cases hz with
   | head=>exact h3.mono (Nat.le_max_left ..)
   | tail _ hz=>exact (g3 z hz).mono (Nat.le_max_right ..)
theorem Ip {l:List aS}{xs:List au} (h:nL l xs) (hc:xs.flatMap au.cells=oD l):dl l=aU 155 au.cells (eo xs):=by
 have hl:=h.length;cases l with
 | nil=>
  rw [h.nil,dl];rfl
 | cons p ps=>
  cases xs with
  | nil=>cases hl
  | cons x xs=>
   rw [dl,← oD,← hc];show _=PV.lit 155 (xs.length + 1) ((x :: xs).flatMap au.cells);simp only [List.length_cons] at hl;rw [show ps.length=xs.length by omega]
theorem vS {l:List aS}{d:Nat}{xs:List au} (hn:l.length≤16384) (h:nL l xs) (hc:xs.flatMap au.cells=oD l) (hd:∀x∈xs,aN d x.parts):aN (d + 1) (dl l):=by
 refine⟨eo xs,Ip h hc,?_,?_⟩
 ·rw [cE,h.length];omega
 ·rw [cE];exact hd
theorem Kq {q:aS} (h:Sm 16384 q):∃d x,uh q x∧x.cells=dV q∧aN d x.parts:=by
 induction h with
 | @mk k t o c ps h hs ih=>
  obtain⟨d,xs,h1,h2,h3⟩:=FC (fun q hq _=>ih q hq) hs;refine⟨d + 1,⟨k,⟨⟨t⟩⟩,o,c,dl ps⟩,?_,?_,vS h h1 h2 h3⟩
  ·rw [uh];exact⟨rfl,rfl,rfl,rfl,eo xs,Ip h1 h2,by rw [cE]; exact h1⟩
  ·rw [dV];rfl
theorem rU {t:List UInt8}{p j:Nat}{ps:List aS} (h:gy t p (.ok (ps,j))):∃d,aN d (dl ps):=by
 obtain⟨h1,h2⟩:=yU h;obtain⟨d,xs,g1,g2,g3⟩:=FC (fun q _ hq=>Kq hq) h2;exact⟨d + 1,vS h1 g1 g2 g3⟩
theorem FQ {d:Nat}{v:PV} (h:aN d v) {t:List UInt8}{p:Nat}{r:R} (hp:gy t p r):∃same:List aS→Bool,∀ps j,r=.ok (ps,j)→(∀s,Pc ext 143 [dl ps,v] (.sc (.bool (same ps))) s)∧∀s,Pc ext 151 [dl ps,v] (.sc (.bool (same ps))) s:=by
 cases r with
 | error x=>exact⟨fun _=>true,fun ps j h=>by cases h⟩
 | ok x=>
  obtain⟨ps,j⟩:=x;obtain⟨e,he⟩:=rU hp;obtain⟨b,h1,h2⟩:=mQ (ext:=ext) (max d e) (dl ps) v (he.mono (Nat.le_max_right ..)) (h.mono (Nat.le_max_left ..));exact⟨fun _=>b,fun ps' j' h=>by cases h; exact⟨h1,h2⟩⟩
theorem tY {d:Nat}{v:PV} (h:aN d v) {l:List aS} (hl:tJ l v) (hsz:gW l < 1000000000000):∃r same,gy (dS 0 l) 0 r∧(∀ps j,r=.ok (ps,j)→∀s,Pc ext 143 [dl ps,v] (.sc (.bool (same ps))) s)∧
  (∀s,Pc ext 242 [v] (.sc (.int .i64 (if Fi same r then 0 else 1))) s)∧
  ∀s,Pc ext 252 [v] (.tup [.sc (.string ⟨⟨if Fi same r then dS 0 l else []⟩⟩),.sc (.int .i64 (if Fi same r then 0 else 1))]) s:=by
 obtain⟨r,hr⟩:=gy.total (dS 0 l) 0;obtain⟨same,hs⟩:=FQ (ext:=ext) h hr;exact⟨r,same,hr,fun ps j e=>(hs ps j e).1,fun s=>yM hsz hl (fun ps j e=>(hs ps j e).2) hr s,fun s=>Iq hsz hl (fun ps j e=>(hs ps j e).2) hr s⟩
theorem Dz {d:Nat}{v:PV} (h:aN d v) {l:List aS} (hl:tJ l v) (hsz:gW l < 1000000000000):∃r same,gy (dS 5 l) 5 r∧(∀ps j,r=.ok (ps,j)→∀s,Pc ext 143 [dl ps,v] (.sc (.bool (same ps))) s)∧
  ∀s,Pc ext 253 [v] (.tup [.sc (.string ⟨⟨dS 5 l⟩⟩),.sc (.bool (Fi same r))]) s:=by
 obtain⟨r,hr⟩:=gy.total (dS 5 l) 5;obtain⟨same,hs⟩:=FQ (ext:=ext) h hr;exact⟨r,same,hr,fun ps j e=>(hs ps j e).1,fun s=>uQ hsz hl (fun ps j e=>(hs ps j e).2) hr s⟩
theorem Il {u v:PV}{n:Nat} (hn:gB false v=some (iN n)) (hc:aC v=[v]) {b:Bool}{T:List UInt8} (hs:∀s,Pc ext 252 [v] (.tup [.sc (.string ⟨⟨T⟩⟩),.sc (.int .i64 (if b then 0 else 1))]) s) (s:PS) :
  Pc ext 240 [.agg [u,v]] (.sc (.bool (b && decide (0 < n) && !T.isEmpty && !(bt T 0 == 35)))) s:=by
 have he:((ByteArray.mk ⟨T⟩).toList == (ByteArray.mk #[]).toList)=T.isEmpty:=by
  rw [ByteArray.toList_eq,ByteArray.toList_eq];cases T<;>rfl
 have z0:((0:Int) == 0)=true:=rfl;have z1:((1:Int) == 0)=false:=rfl;refine lH S1 2 ?_;unfold S1;cases b with
 | false=>
  simp only [Bool.false_eq_true,if_false] at hs;exact qN hs hn hc z1
 | true=>
  simp only [if_true] at hs;cases c1:decide (0 < n) with
  | false=>exact ub hs hn hc z0 c1
  | true=>
   cases c2:T.isEmpty with
   | true=>exact uP hs hn hc z0 c1 he c2
   | false=>
    have hl0 : 0 < T.length:=by cases T with | nil=>cases c2 | cons a t=>exact Nat.succ_pos _
    cases c3:bt T 0 == 35 with
    | true=>exact sL hs hn hc z0 c1 he c2 c3 hl0
    | false=>exact sL hs hn hc z0 c1 he c2 c3 hl0
theorem H2 {xs:List ay}{ok:ay→Bool} (hx:xs.length < 1000000000000) (hw:∀x∈xs,∀s,Pc ext 240 [.agg x.cells] (.sc (.bool (ok x))) s) (s:PS):∀(k i:Nat) (f:aX),i + k=xs.length→(∀x∈xs.take i,ok x=true)→f 0=.lit 102 xs.length (xs.flatMap ay.cells)→f 3=iN i→
  Er (fun f' s'=>s'=s∧f' 2=.sc (.bool (xs.all ok))) (LP Tryz.prog Γ ext 0 ru uX f s):=by
 intro k
 induction k with
 | zero=>
  intro i f hk ha h0 h3;have e1:decide (i < xs.length)=false:=df;have hall:xs.all ok=true:=by
   rw [List.take_of_length_le om] at ha;exact List.all_eq_true.2 ha
  refine ad fun L hL=>?_;exact lW @ru.eq_1 @uX.eq_1 h0 h3 e1 hall
 | succ k ih=>
  intro i f hk ha h0 h3;have hl:i < xs.length:=om;have e1:decide (i < xs.length)=true:=decide_eq_true hl;have hj:xs[i]?=some xs[i]:=List.getElem?_eq_getElem hl;have hfl:=aJ ay.len xs;have hk3:=kX ay.len hj;have hc:=hw _ (List.getElem_mem hl);simp only [ay.cells] at hk3 hc;refine ad fun L hL=>?_;cases c:ok xs[i] with
  | false=>
   rw [c] at hc;have hall:xs.all ok=false:=by
    rw [Bool.eq_false_iff];intro h;rw [List.all_eq_true.1 h _ (List.getElem_mem hl)] at c;cases c
   exact ue @ru.eq_1 @uX.eq_1 h0 h3 e1 hl hfl hk3 hc hall
  | true=>
   rw [c] at hc;refine Cc @ru.eq_1 h0 h3 e1 hl hfl hk3 hc ?_;subst hL;refine ih (i + 1) _ om (fun x hx=>?_) (bm h0) bw;rw [List.take_succ_eq_append_getElem hl] at hx;rcases List.mem_append.1 hx with hx | hx
   ·exact ha x hx
   ·cases hx with
    | head=>exact c
    | tail _ h=>cases h
theorem JR {y:Option (List ay)}{ok:ay→Bool} (hx:(y.getD []).length < 1000000000000) (hw:∀x∈y.getD [],∀s,Pc ext 240 [.agg x.cells] (.sc (.bool (ok x))) s) (s:PS):Pc ext 217 [aU 102 ay.cells y] (.sc (.bool ((y.getD []).all ok))) s:=by
 refine q1 Mk 2 ?_;cases y with
 | none=>
  have z0:decide ((0:Int) < 0)=false:=rfl;unfold Mk;refine uA @bU ?_;refine ad fun L hL=>?_;refine QY @ru.eq_1 @uX.eq_1 z0 ?_;rfl
 | some xs=>
  unfold Mk;refine uA @bU ?_;exact H2 (xs:=xs) hx hw _ xs.length 0 _ (Nat.zero_add _) (fun x h=>by cases h) (bm @bU) bw
end Go.Proofs.YtokdflgpbfjpcaaGreatDoor
namespace Go.Mir
def gK (t:List UInt8):Bool:=!t.isEmpty && decide (t.length≤32) && !bM (bt t 0) && t.all fun c=>eI c.toNat
def Ro (t:List UInt8):Nat:=if decide (eC t 0 < t.length) && bt t (eC t 0) == 61 && gK (t.take (eC t 0)) then eC t 0 + 1 else 0
def yK:List (List UInt8):=[[33],[123],[125],[99,97,115,101],[100,111],[100,111,110,101],[101,108,105,102],[101,108,115,101],[101,115,97,99],[102,105],[102,111,114],[105,102],[105,110],[116,104,101,110],[117,110,116,105,108],[119,104,105,108,101]]
def lY (t:List UInt8):Bool:=yK.any fun x=>t == x
def od (k:Int):Bool:=decide (8≤k) && decide (k≤14)
def vN (k:Int):Bool:=k == 1 || od k || k == 15
def wM (k:Int):Bool:=vN k || k == 2 || k == 3
def G3 (k:Int):Bool:=wM k || k == 4 || k == 5
def j4 (l:List Int) (lo hi:Nat):Bool:=l.all (· == 6) && (decide (lo≤l.length) && decide (l.length≤hi))
def fq (k:Int) (l:List Int):Bool:=
 if k == 1 || k == 14 then l.length == 0
 else if k == 3 then l.length == 1 && (vN (l.getD 0 0) || l.getD 0 0 == 2)
 else if k == 4 || k == 5 then l.length == 2 && G3 (l.getD 0 0) && wM (l.getD 1 0)
 else if k == 7 then l.length == 1 && G3 (l.getD 0 0)
 else if k == 8 || k == 9 || k == 13 then j4 l 1 1
 else if k == 10 then j4 l 2 3
 else if k == 11 || k == 12 then j4 l 2 2
 else if k == 15 then l.length == 1 && od (l.getD 0 0)
 else if k == 2 then l.all vN && decide (2≤l.length)
 else if k == 6 then (l.all fun x=>G3 x || x == 7) && decide (1≤l.length)
 else false
theorem GX {t:List UInt8} (h0:t.isEmpty=false) (h1:decide (t.length≤32)=true) (h2:bM (bt t 0)=false):gK t=t.all fun c=>eI c.toNat:=by
 simp only [gK,h0,h1,h2,Bool.not_false,Bool.and_self,Bool.true_and]
end Go.Mir
namespace Go.Proofs.YtokdflgpbfjpcaaGreatDoor
open Go Go.EvL Go.PE Go.Mir
variable {ext:ar}
theorem pq (e n:Nat) (cs:List PV):gB false (.lit e n cs)=some (iN n):=rfl
theorem aV (b:ByteArray):(b.toList == (ByteArray.mk #[]).toList)=b.data.toList.isEmpty:=by
 rw [ByteArray.toList_eq,ByteArray.toList_eq];cases b.data.toList<;>rfl
theorem fO (b:ByteArray) (l:List UInt8):(b.toList == (ByteArray.mk ⟨l⟩).toList)=(b.data.toList == l):=by
 rw [ByteArray.toList_eq,ByteArray.toList_eq]
theorem LS {b:ByteArray} (hb:b.data.toList.length < 4611686018427387904) (s:PS):∀(k i:Nat) (f:aX),i + k=b.data.toList.length→f 0=.sc (.string b)→f 3=iN i→
  Er (fun f' s'=>s'=s∧f' 2=.sc (.bool ((b.data.toList.drop i).all fun c=>eI c.toNat))) (LP Tryz.prog Γ ext 0 yl Fe f s):=by
 intro k
 induction k with
 | zero=>
  intro i f hk h0 h3;have e1:decide (i < b.data.toList.length)=false:=df;have ha:((b.data.toList.drop i).all fun c=>eI c.toNat)=true:=by rw [List.drop_eq_nil_of_le om]; rfl
  refine ad fun L hL=>?_;exact lW @yl.eq_1 @Fe.eq_1 h0 h3 e1 ha
 | succ k ih=>
  intro i f hk h0 h3;have hl:i < b.data.toList.length:=om;have e1:decide (i < b.data.toList.length)=true:=dt;refine ad fun L hL=>?_;rw [pA hl,List.all_cons,← oY hl];cases e2:eI (bt b.data.toList i) with
  | false=>exact Az @yl.eq_1 @Fe.eq_1 h0 h3 e1 hl @fh e2
  | true=>
   simp -implicitDefEqProofs (disch:=omega) only [ZS,seval,yl,h0,h3,e1,hl,fh,e2];subst hL;rw [Bool.true_and];exact ih (i + 1) _ om (bm h0) bw
theorem rL {b:ByteArray} (hb:b.data.toList.length < 4611686018427387904) (s:PS):Pc ext 62 [.sc (.string b)] (.sc (.bool (gK b.data.toList))) s:=by
 refine q1 VZ 2 ?_;unfold VZ;cases c0:b.data.toList.isEmpty with
 | true=>exact jB @aV c0 @gK.eq_1
 | false=>
  have hl0 : 0 < b.data.toList.length:=by
   cases h:b.data.toList with
   | nil=>rw [h] at c0; cases c0
   | cons x l=>exact Nat.succ_pos _
  cases c1:decide (32 < b.data.toList.length) with
  | true=>
   have c2:decide (b.data.toList.length≤32)=false:=decide_eq_false (by have:=of_decide_eq_true c1; omega);exact ub @aV c0 c1 c2 @gK.eq_1
  | false=>
   have c2:decide (b.data.toList.length≤32)=true:=decide_eq_true (by have:=of_decide_eq_false c1; omega);cases c3:bM (bt b.data.toList 0) with
   | true=>exact Az @aV c0 c1 c2 c3 hl0 @cL @gK.eq_1
   | false=>
    rw [GX c0 c2 c3];refine Fy @aV c0 c1 c2 c3 hl0 @cL ?_;exact LS hb _ b.data.toList.length 0 _ (Nat.zero_add _) bw bw
theorem Tp {b:ByteArray} (hb:b.data.toList.length < 1000000000000) (s:PS):Pc ext 256 [.sc (.string b)] (iN (Ro b.data.toList)) s:=by
 have hn:∀s,Pc ext 268 [.sc (.string b),.sc (.int .i64 0)] (iN (eC b.data.toList 0)) s:=fun s=>wh om (Nat.zero_le _) s;have hle:eC b.data.toList 0≤b.data.toList.length:=kR (Nat.zero_le _);have hr:=fun s=>rL (ext:=ext) (b:=⟨⟨(b.data.toList.drop 0).take (eC b.data.toList 0 - 0)⟩⟩) (by simp only [List.length_take,List.length_drop]; omega) s;simp only [List.drop_zero,Nat.sub_zero] at hr;have hz:((0:Nat):Int)=0:=rfl;refine q1 R7 2 ?_;unfold R7 Ro;generalize eC b.data.toList 0=n at hn hle hr ⊢;cases c0:decide (n < b.data.toList.length) with
 | false=>exact jB hn c0 hz
 | true=>
  have hl:=of_decide_eq_true c0;cases c1:bt b.data.toList n == 61 with
  | false=>exact ub hn c0 c1 hl hz
  | true=>
   cases c2:gK (b.data.toList.take n) with
   | false=>exact sL hn c0 c1 c2 hl hr @Nat.sub_zero hle hz
   | true=>exact sL hn c0 c1 c2 hl hr @Nat.sub_zero hle hz
theorem vZ {b:ByteArray} (s:PS):Pc ext 112 [.sc (.string b)] (.sc (.bool (lY b.data.toList))) s:=by
 refine q1 Sp 2 ?_;unfold Sp;simp only [lY,yK,List.any_cons,List.any_nil,Bool.or_false];have hs:∀l:List UInt8,(b.toList == (ByteArray.mk ⟨l⟩).toList)=(b.data.toList == l):=fO b;cases c1:b.data.toList == [33] with
 | true=>exact qO hs c1
 | false=>
 cases c2:b.data.toList == [123] with
 | true=>exact jB hs c1 c2
 | false=>
 cases c3:b.data.toList == [125] with
 | true=>exact qN hs c1 c2 c3
 | false=>
 cases c4:b.data.toList == [99,97,115,101] with
 | true=>exact ub hs c1 c2 c3 c4
 | false=>
 cases c5:b.data.toList == [100,111] with
 | true=>exact lW hs c1 c2 c3 c4 c5
 | false=>
 cases c6:b.data.toList == [100,111,110,101] with
 | true=>exact uP hs c1 c2 c3 c4 c5 c6
 | false=>
 cases c7:b.data.toList == [101,108,105,102] with
 | true=>exact Az hs c1 c2 c3 c4 c5 c6 c7
 | false=>
 cases c8:b.data.toList == [101,108,115,101] with
 | true=>exact sL hs c1 c2 c3 c4 c5 c6 c7 c8
 | false=>
 cases c9:b.data.toList == [101,115,97,99] with
 | true=>exact ue hs c1 c2 c3 c4 c5 c6 c7 c8 c9
 | false=>
 cases d1:b.data.toList == [102,105] with
 | true=>exact qj hs c1 c2 c3 c4 c5 c6 c7 c8 c9 d1 tv
 | false=>
 cases d2:b.data.toList == [102,111,114] with
 | true=>exact qj hs c1 c2 c3 c4 c5 c6 c7 c8 c9 d1 d2
 | false=>
 cases d3:b.data.toList == [105,102] with
 | true=>exact BR hs c1 c2 c3 c4 c5 c6 c7 c8 c9 d1 d2 d3 tv
 | false=>
 cases d4:b.data.toList == [105,110] with
 | true=>exact BR hs c1 c2 c3 c4 c5 c6 c7 c8 c9 d1 d2 d3 d4
 | false=>
 cases d5:b.data.toList == [116,104,101,110] with
 | true=>exact sB hs c1 c2 c3 c4 c5 c6 c7 c8 c9 d1 d2 d3 d4 d5 tv
 | false=>
 cases d6:b.data.toList == [117,110,116,105,108] with
 | true=>exact sB hs c1 c2 c3 c4 c5 c6 c7 c8 c9 d1 d2 d3 d4 d5 d6
 | false=>
 cases d7:b.data.toList == [119,104,105,108,101] with
 | true=>exact my hs c1 c2 c3 c4 c5 c6 c7 c8 c9 d1 d2 d3 d4 d5 d6 d7 tv tv
 | false=>exact my hs c1 c2 c3 c4 c5 c6 c7 c8 c9 d1 d2 d3 d4 d5 d6 d7 tv tv
structure eD where
 name:ByteArray
 value:ByteArray
 set:Bool
 exp:Bool
 ro:Bool
def eD.cells (x:eD):List PV:=[.sc (.string x.name),.sc (.string x.value),.sc (.bool x.set),.sc (.bool x.exp),.sc (.bool x.ro)]
structure bN where
 name:ByteArray
 value:ByteArray
def bN.cells (x:bN):List PV:=[.sc (.string x.name),.sc (.string x.value)]
structure dk where
 sig:Int
 act:ByteArray
def dk.cells (x:dk):List PV:=[.sc (.int .i64 x.sig),.sc (.string x.act)]
def gq (b:ByteArray):List PV:=[.sc (.string b)]
def l9 (a b:ByteArray):Bool:=a.toList == b.toList
def Ks (x y:eD):Bool:=l9 x.name y.name && (l9 x.value y.value && (x.set == y.set && (x.exp == y.exp && x.ro == y.ro)))
def vO (x y:bN):Bool:=l9 x.name y.name && l9 x.value y.value
def BW (x y:dk):Bool:=x.sig == y.sig && l9 x.act y.act
theorem MV (x y:eD) (i j:Tmp):fJ Tryz.prog .neq 44 (.tmp i) (.tmp j) (.agg x.cells) (.agg y.cells)=some (.sc (.bool (!(Ks x y)))):=by
 have he:bH Tryz.prog (Op.equalIn 10000 44 (.agg #[.string x.name,.string x.value,.bool x.set,.bool x.exp,.bool x.ro]) (.agg #[.string y.name,.string y.value,.bool y.set,.bool y.exp,.bool y.ro]))=some (zU [l9 x.name y.name,l9 x.value y.value,x.set == y.set,x.exp == y.exp,x.ro == y.ro]):=by
  refine (pQ (d:=9999) Tryz.underlying44 (by kernel_rfl)).trans (q9 ?_);refine .cons _ _ _ _ ⟨by decide,_,_,_,Tryz.underlying9,rfl,rfl,rfl,mf (d:=9998) Tryz.underlying9 _ _⟩ ?_;refine .cons _ _ _ _ ⟨by decide,_,_,_,Tryz.underlying9,rfl,rfl,rfl,mf (d:=9998) Tryz.underlying9 _ _⟩ ?_;refine .cons _ _ _ _ ⟨by decide,_,_,_,Tryz.underlying4,rfl,rfl,rfl,Ac (d:=9998) Tryz.underlying4 _ _⟩ ?_;refine .cons _ _ _ _ ⟨by decide,_,_,_,Tryz.underlying4,rfl,rfl,rfl,Ac (d:=9998) Tryz.underlying4 _ _⟩ ?_;refine .cons _ _ _ _ ⟨by decide,_,_,_,Tryz.underlying4,rfl,rfl,rfl,Ac (d:=9998) Tryz.underlying4 _ _⟩ ?_;exact .nil
 have hb:=(rX (x:=.tmp i) (y:=.tmp j) (by kernel_rfl) he).1;simp only [eD.cells,fJ,LO,iD,if_true,Option.map_some];rw [show ry Tryz.prog .neq 44 (.tmp i) (.tmp j) (.agg [.string x.name,.string x.value,.bool x.set,.bool x.exp,.bool x.ro].toArray) (.agg [.string y.name,.string y.value,.bool y.set,.bool y.exp,.bool y.ro].toArray)=_ from hb];rfl
theorem I7 (x y:bN) (i j:Tmp):fJ Tryz.prog .neq 75 (.tmp i) (.tmp j) (.agg x.cells) (.agg y.cells)=some (.sc (.bool (!(vO x y)))):=by
 have he:bH Tryz.prog (Op.equalIn 10000 75 (.agg #[.string x.name,.string x.value]) (.agg #[.string y.name,.string y.value]))=some (zU [l9 x.name y.name,l9 x.value y.value]):=by
  refine (pQ (d:=9999) Tryz.underlying75 (by kernel_rfl)).trans (q9 ?_);refine .cons _ _ _ _ ⟨by decide,_,_,_,Tryz.underlying9,rfl,rfl,rfl,mf (d:=9998) Tryz.underlying9 _ _⟩ ?_;refine .cons _ _ _ _ ⟨by decide,_,_,_,Tryz.underlying9,rfl,rfl,rfl,mf (d:=9998) Tryz.underlying9 _ _⟩ ?_;exact .nil
 have hb:=(rX (x:=.tmp i) (y:=.tmp j) (by kernel_rfl) he).1;simp only [bN.cells,fJ,LO,iD,if_true,Option.map_some];rw [show ry Tryz.prog .neq 75 (.tmp i) (.tmp j) (.agg [.string x.name,.string x.value].toArray) (.agg [.string y.name,.string y.value].toArray)=_ from hb];rfl
theorem JB (x y:dk) (i j:Tmp):fJ Tryz.prog .neq 46 (.tmp i) (.tmp j) (.agg x.cells) (.agg y.cells)=some (.sc (.bool (!(BW x y)))):=by
 have he:bH Tryz.prog (Op.equalIn 10000 46 (.agg #[.int .i64 x.sig,.string x.act]) (.agg #[.int .i64 y.sig,.string y.act]))=some (zU [x.sig == y.sig,l9 x.act y.act]):=by
  refine (pQ (d:=9999) Tryz.underlying46 (by kernel_rfl)).trans (q9 ?_);refine .cons _ _ _ _ ⟨by decide,_,_,_,Tryz.underlying3,rfl,rfl,rfl,Dk (d:=9998) Tryz.underlying3 _ _⟩ ?_;refine .cons _ _ _ _ ⟨by decide,_,_,_,Tryz.underlying9,rfl,rfl,rfl,mf (d:=9998) Tryz.underlying9 _ _⟩ ?_;exact .nil
 have hb:=(rX (x:=.tmp i) (y:=.tmp j) (by kernel_rfl) he).1;simp only [dk.cells,fJ,LO,iD,if_true,Option.map_some];rw [show ry Tryz.prog .neq 46 (.tmp i) (.tmp j) (.agg [.int .i64 x.sig,.string x.act].toArray) (.agg [.int .i64 y.sig,.string y.act].toArray)=_ from hb];rfl
theorem uz (a b c d:Int) (i j:Tmp):fJ Tryz.prog .neq 28 (.tmp i) (.tmp j) (.agg [.sc (.int .i64 a),.sc (.int .i64 b)]) (.agg [.sc (.int .i64 c),.sc (.int .i64 d)])=some (.sc (.bool (!(a == c && b == d))))∧fJ Tryz.prog .eql 28 (.tmp i) (.tmp j) (.agg [.sc (.int .i64 a),.sc (.int .i64 b)]) (.agg [.sc (.int .i64 c),.sc (.int .i64 d)])=some (.sc (.bool (a == c && b == d))):=by
 have he:bH Tryz.prog (Op.equalIn 10000 28 (.agg #[.int .i64 a,.int .i64 b]) (.agg #[.int .i64 c,.int .i64 d]))=some (zU [a == c,b == d]):=by
  refine (pQ (d:=9999) Tryz.underlying28 (by kernel_rfl)).trans (q9 ?_);refine .cons _ _ _ _ ⟨by decide,_,_,_,Tryz.underlying3,rfl,rfl,rfl,Dk (d:=9998) Tryz.underlying3 _ _⟩ ?_;refine .cons _ _ _ _ ⟨by decide,_,_,_,Tryz.underlying3,rfl,rfl,rfl,Dk (d:=9998) Tryz.underlying3 _ _⟩ ?_;exact .nil
 have hb:=rX (x:=.tmp i) (y:=.tmp j) (by kernel_rfl) he;simp only [fJ,LO,iD,if_true,Option.map_some];rw [show ry Tryz.prog .neq 28 (.tmp i) (.tmp j) (.agg [.int .i64 a,.int .i64 b].toArray) (.agg [.int .i64 c,.int .i64 d].toArray)=_ from hb.1,show ry Tryz.prog .eql 28 (.tmp i) (.tmp j) (.agg [.int .i64 a,.int .i64 b].toArray) (.agg [.int .i64 c,.int .i64 d].toArray)=_ from hb.2];exact⟨rfl,rfl⟩
theorem Ju (l m:List eD):B7 44 5 true eD.cells (fun x=>.agg x.cells) Ks l m:=⟨fun _=>rfl,fun _=>rfl,fun x _ y _ i j=>MV x y i j⟩
theorem Bu (l m:List bN):B7 75 2 true bN.cells (fun x=>.agg x.cells) vO l m:=⟨fun _=>rfl,fun _=>rfl,fun x _ y _ i j=>I7 x y i j⟩
theorem G6 (l m:List dk):B7 46 2 true dk.cells (fun x=>.agg x.cells) BW l m:=⟨fun _=>rfl,fun _=>rfl,fun x _ y _ i j=>JB x y i j⟩
theorem JQ (l m:List ByteArray):B7 9 1 false gq (fun x=>.sc (.string x)) l9 l m:=⟨fun _=>rfl,fun _=>rfl,fun _ _ _ _ _ _=>rfl⟩
end Go.Proofs.YtokdflgpbfjpcaaGreatDoor
namespace Go.Proofs.YtokdflgpbfjpcaaGreatDoor
open Go Go.EvL Go.PE
variable {ext:ar}
theorem cY (cs:List PV):aC (.agg cs)=cs:=(rfl)
theorem dD {α:Type} (e:Nat) (c:α→List PV) (m:Option (List α)):aC (aU e c m)=[aU e c m]:=by cases m<;>rfl
theorem gv {α:Type} (n:Nat) (s:PS) (e:Nat) (c:α→List PV) (m:Option (List α)):cM n s (aU e c m)=some (aU e c m):=by cases m<;>rfl
theorem fX (n:Nat) (s:PS) (v:Value):cM n s (.sc v)=some (.sc v):=(rfl)
theorem eN (k:IntKind) (z:Int):db (.sc (.int k z))=true:=(rfl)
theorem eL (b:ByteArray):db (.sc (.string b))=true:=(rfl)
theorem dP (b:Bool):db (.sc (.bool b))=true:=(rfl)
def io {α:Type} (e:Nat) (c:α→List PV) (Q:α→α→Prop) (a b:PV):Prop:=∃l m:Option (List α),a=aU e c l∧b=aU e c m∧(l.getD []).length=(m.getD []).length∧(l.getD []).length < 4611686018427387904∧∀(i:Nat) x y,(l.getD [])[i]?=some x→(m.getD [])[i]?=some y→Q x y
theorem io.one {α:Type}{e:Nat}{c:α→List PV}{Q:α→α→Prop}{a b:PV} (h:io e c Q a b):db a=true∧db b=true∧dj a=true:=by
 obtain⟨l,m,rfl,rfl,_⟩:=h;exact⟨dC _ _ _,dC _ _ _,wm _ _ _⟩
def qA:Nat→PV→PV→Prop
 | 0,_,_=>False
 | d + 1,a,b=>io 155 au.cells (fun x y=>(x.kind=y.kind∧x.text=y.text∧x.op=y.op∧x.colon=y.colon)∧qA d x.parts y.parts) a b
theorem qA.one {d:Nat}{a b:PV} (h:qA d a b):db a=true∧db b=true∧dj a=true:=by
 cases d with
 | zero=>cases h
 | succ d=>exact io.one h
theorem NV {α:Type}{c:α→List PV}{R:α→α→Prop}{g:Nat}{l:List α} (h:∀x∈l,∃y,(∀s,aH Tryz.prog Γ ext g [.agg (c x)] s=some (.agg (c y),s))∧R y x) :
  ∃cp:α→α,∀x∈l,(∀s,aH Tryz.prog Γ ext g [.agg (c x)] s=some (.agg (c (cp x)),s))∧R (cp x) x:=by
 have h':∀x,∃y,x∈l→(∀s,aH Tryz.prog Γ ext g [.agg (c x)] s=some (.agg (c y),s))∧R y x:=fun x=>by
  by_cases hx:x∈l
  ·obtain⟨y,hy⟩:=h x hx;exact⟨y,fun _=>hy⟩
  ·exact⟨x,fun hh=>absurd hh hx⟩
 exact Classical.axiomOfChoice h'
theorem Hj {d:Nat}{x y:au} (h:qA d y.parts x.parts):y.cells.all db=true∧y.cells.all dj=true:=by
 obtain⟨h1,_,h3⟩:=h.one;simp only [au.cells,List.all_cons,List.all_nil,h1,h3,Bool.and_true];exact⟨rfl,rfl⟩
theorem qA.sl {d:Nat}{a b:PV} (h:qA d a b):∃m,a=aU 155 au.cells m:=by
 cases d with
 | zero=>cases h
 | succ d=>obtain⟨m,_,h,_⟩:=h; exact⟨m,h⟩
def wB (d:Nat) (y x:ay):Prop:=y.pos=x.pos∧qA d y.parts x.parts
def Og (d:Nat) (y x:aB):Prop:=(y.pos=x.pos∧y.name=x.name∧y.vpos=x.vpos)∧qA d y.parts x.parts
def O5 (d:Nat) (y x:aD):Prop:=(y.pos=x.pos∧y.fd=x.fd∧y.op=x.op∧y.tpos=x.tpos)∧qA d y.parts x.parts
def nG (D:Nat):Nat→am→am→Prop
 | 0,_,_=>False
 | d + 1,y,x=>(y.kind=x.kind∧y.pos=x.pos∧y.name=x.name∧y.all=x.all)∧io 104 aB.cells (Og D) y.assigns x.assigns∧io 102 ay.cells (wB D) y.words x.words∧io 129 aD.cells (O5 D) y.redirs x.redirs∧io 71 am.cells (nG D d) y.kids x.kids∧
  io 134 aK.cells (fun j i=>io 102 ay.cells (wB D) j.pats i.pats∧io 71 am.cells (nG D d) j.body i.body) y.items x.items
theorem dL {α:Type}{e:Nat}{c:α→List PV}{a p:PV}{l:Option (List α)} (ha:a=aU e c l) {x:α} (hx:x∈l.getD []) (hp:p∈c x) {N:Nat} (hb:a.bulk≤N):p.bulk≤N∧aR (c x)≤N:=by
 have h0:=dO e c l;rw [← ha] at h0;have h1:=gY (c:=c) hx;have h2:=gQ hp;omega
theorem lP {α:Type}{e:Nat}{c:α→List PV}{a:PV}{l:Option (List α)} (ha:a=aU e c l) (hc:∀x,1≤(c x).length) {N:Nat} (hb:a.bulk≤N):(l.getD []).length≤N:=by
 have h0:=ip (e:=e) hc l;rw [← ha] at h0;omega
theorem GF {D:Nat} (x y:ay) (h:wB D y x):y.cells.all db=true∧y.cells.all dj=true:=
 ⟨ay.one h.2.one.1,ay.clean h.2.one.2.2⟩
theorem io.sl {α:Type}{e:Nat}{c:α→List PV}{Q:α→α→Prop}{a b:PV} (h:io e c Q a b):∃m,a=aU e c m:=by
 obtain⟨m,_,h,_⟩:=h; exact⟨m,h⟩
theorem t8 {D d:Nat} (x y:am) (h:nG D d y x):y.cells.all db=true∧y.cells.all dj=true:=by
 cases d with
 | zero=>cases h
 | succ d=>
  obtain⟨_,h1,h2,h3,h4,h5⟩:=h;obtain⟨a1,_,b1⟩:=h1.one;obtain⟨a2,_,b2⟩:=h2.one;obtain⟨a3,_,b3⟩:=h3.one;obtain⟨a4,_,b4⟩:=h4.one;obtain⟨a5,_,b5⟩:=h5.one;simp only [am.cells,List.all_cons,List.all_nil,a1,a2,a3,a4,a5,b1,b2,b3,b4,b5,Bool.and_true];exact⟨rfl,rfl⟩
theorem yJ (k i:Nat):iH (fun _=>true) i k=true:=by
 induction k generalizing i with
 | zero=>rfl
 | succ k ih=>simp [iH,ih]
theorem qS:∀(d:Nat) (a b:PV),qA d a b→∀s,Pc ext 151 [a,b] (.sc (.bool true)) s:=by
 intro d
 induction d with
 | zero=>intro a b h; cases h
 | succ d ih=>
  rintro a b ⟨l,m,rfl,rfl,hlm,hbig,hq⟩ s;have h:=tj (P:=Tryz.prog) (Γ:=Γ) (ext:=ext) (e:=155) (c:=au.cells) hbig (r:=fun _=>true) (l:=l) (m:=m) (G:=151) (nt:=61) (inner:=pH) (by rw [← Rf]; rfl) om (fun i x y h1 h2 f s hin=>by
   obtain⟨⟨e1,e2,e3,e4⟩,e5⟩:=hq i x y h1 h2;have h:=SB (ext:=ext) x y e5.one.1 e5.one.2.1 true (ih _ _ e5) h1 h2 f s hin;have he:x.eqB y=true:=by simp [au.eqB,e1,e2,e3,e4]
   rw [he] at h;exact h) s
  rw [Pc,h,hlm,beq_self_eq_true,yJ];rfl
theorem oV {α:Type}{e:Nat}{c:α→List PV}{Q:α→α→Prop}{inner:bj}{H nt:Nat} (hH:Γ H=some (nE nt inner)) (hnt : 2≤nt) {a b:PV} (h:io e c Q a b) (hin:∀x y,Q x y→lC Tryz.prog Γ ext e c inner x y true) (s:PS):aH Tryz.prog Γ ext H [a,b] s=some (.sc (.bool true),s):=by
 obtain⟨l,m,rfl,rfl,hlm,hbig,hq⟩:=h;have h:=yH (P:=Tryz.prog) (Γ:=Γ) (ext:=ext) (e:=e) (c:=c) hbig (r:=fun _=>true) (l:=l) (m:=m) hH hnt (fun i x y h1 h2 f s hi=>hin x y (hq i x y h1 h2) l m i h1 h2 f s hi) s;rw [h,hlm,beq_self_eq_true,yJ];rfl
theorem vE {D:Nat}{a b:PV} (h:io 102 ay.cells (wB D) a b) (s:PS):Pc ext 103 [a,b] (.sc (.bool true)) s:=
 oV WG om h (fun x y hq=>Uw x y true (qS D _ _ hq.2)) s
theorem yW {D:Nat}{a b:PV} (h:io 104 aB.cells (Og D) a b) (s:PS):Pc ext 102 [a,b] (.sc (.bool true)) s:=
 oV WF om h (fun x y hq=>by
  have h:=UI (ext:=ext) x y true (qS D _ _ hq.2);rw [hq.1.2.1,beq_self_eq_true] at h;exact h) s
theorem AT {D:Nat}{a b:PV} (h:io 129 aD.cells (O5 D) a b) (s:PS):Pc ext 104 [a,b] (.sc (.bool true)) s:=
 oV X1 om h (fun x y hq=>by
  have h:=Vg (ext:=ext) x y true (qS D _ _ hq.2);have he:x.eqB y true=true:=by simp [aD.eqB,hq.1.2.1,hq.1.2.2.1]
  rw [he] at h;exact h) s
theorem HS {D:Nat} : ∀(d:Nat) (y x:am),nG D d y x→∀s,Pc ext 61 [.agg y.cells,.agg x.cells] (.sc (.bool true)) s:=by
 intro d
 induction d with
 | zero=>intro y x h; cases h
 | succ d ih=>
  rintro y x ⟨⟨e1,e2,e3,e4⟩,h1,h2,h3,h4,h5⟩ s;have kids:∀{a b:PV},io 71 am.cells (nG D d) a b→∀s,Pc ext 105 [a,b] (.sc (.bool true)) s:=fun h s=>
   oV X6 om h (fun x y hq=>US x y true (ih _ _ hq)) s
  have items:∀s,Pc ext 106 [y.items,x.items] (.sc (.bool true)) s:=fun s=>
   oV WA om h5 (fun x y hq=>Vm x y true true (vE hq.1) (kids hq.2)) s
  rw [Pc,f21 y x true true true true true (yW h1) (vE h2) (AT h3) (kids h4) items s];simp [xf,e1,e3,e4]
inductive fk {α β:Type} (Q:α→β→Prop):List α→List β→Prop
 | nil:fk Q [] []
 | cons (x:α) (y:β) (l:List α) (m:List β) (h:Q x y) (t:fk Q l m):fk Q (x :: l) (y :: m)
section
variable {α β γ δ:Type}{Q:α→β→Prop}
theorem fk.append {l l':List α}{m m':List β} (h:fk Q l m) (h':fk Q l' m'):fk Q (l ++ l') (m ++ m'):=by
 induction h with
 | nil=>exact h'
 | cons x y l m h _ ih=>exact .cons _ _ _ _ h ih
theorem fk.len {l:List α}{m:List β} (h:fk Q l m):l.length=m.length:=by
 induction h with
 | nil=>rfl
 | cons x y l m h _ ih=>simp [ih]
theorem fk.flat {R:γ→δ→Prop}{f:α→List γ}{g:β→List δ}{l:List α}{m:List β} (h:fk Q l m) (hf:∀x y,x∈l→y∈m→Q x y→fk R (f x) (g y)):fk R (l.flatMap f) (m.flatMap g):=by
 induction h with
 | nil=>exact .nil
 | cons x y l m h _ ih=>
  rw [List.flatMap_cons,List.flatMap_cons];exact (hf _ _ List.mem_cons_self List.mem_cons_self h).append (ih fun a b ha hb=>hf a b (List.mem_cons_of_mem _ ha) (List.mem_cons_of_mem _ hb))
theorem fk.of_get:∀{l:List α}{m:List β},l.length=m.length→(∀(i:Nat) x y,l[i]?=some x→m[i]?=some y→Q x y)→fk Q l m:=by
 intro l
 induction l with
 | nil=>intro m h _; cases m with | nil=>exact .nil | cons y m=>cases h
 | cons x l ih=>
  intro m h hh;cases m with
  | nil=>cases h
  | cons y m=>exact .cons _ _ _ _ (hh 0 x y rfl rfl) (ih (by simpa using h) fun i a b h1 h2=>hh (i + 1) a b (by simpa using h1) (by simpa using h2))
theorem fk.get {l:List α}{m:List β} (h:fk Q l m):∀(i:Nat) x y,l[i]?=some x→m[i]?=some y→Q x y:=by
 induction h with
 | nil=>intro i x y h; simp at h
 | cons x y l m h _ ih=>
  intro i a b h1 h2;cases i with
  | zero=>simp at h1 h2; subst h1; subst h2; exact h
  | succ i=>exact ih i a b (by simpa using h1) (by simpa using h2)
theorem fk.mem {l:List α}{m:List β} (h:fk Q l m):∀x∈l,∃y∈m,Q x y:=by
 induction h with
 | nil=>intro x hx; cases hx
 | cons x y l m h _ ih=>
  intro a ha;rcases List.mem_cons.1 ha with rfl | ha
  ·exact⟨y,List.mem_cons_self,h⟩
  ·obtain⟨b,hb,hq⟩:=ih a ha;exact⟨b,List.mem_cons_of_mem _ hb,hq⟩
end
theorem Iv {α:Type}{c:α→List PV}{es:Nat} (hi:∀x y,c x=c y→x=y) (hc:∀x,(c x).length=es):∀(l m:List α),l.length=m.length→l.flatMap c=m.flatMap c→l=m:=by
 intro l
 induction l with
 | nil=>intro m h _; cases m with | nil=>rfl | cons y m=>cases h
 | cons x l ih=>
  intro m h hh;cases m with
  | nil=>cases h
  | cons y m=>
   rw [List.flatMap_cons,List.flatMap_cons] at hh;obtain⟨h1,h2⟩:=List.append_inj hh (by rw [hc,hc]);rw [hi _ _ h1,ih m (by simpa using h) h2]
theorem eV {α:Type}{e es:Nat}{c:α→List PV} (hi:∀x y,c x=c y→x=y) (hc:∀x,(c x).length=es) {l m:Option (List α)} (h:aU e c l=aU e c m):l=m:=by
 cases l with
 | none=>cases m with | none=>rfl | some m=>cases h
 | some l=>
  cases m with
  | none=>cases h
  | some m=>
   simp only [aU] at h;injection h with _ h1 h2;rw [Iv hi hc l m h1 h2]
theorem io.lists {α:Type}{e es:Nat}{c:α→List PV} (hi:∀x y,c x=c y→x=y) (hc:∀x,(c x).length=es) {Q:α→α→Prop}{a b:PV} (h:io e c Q a b) {l:Option (List α)} (hb:b=aU e c l):∃m,a=aU e c m∧fk Q (m.getD []) (l.getD []):=by
 obtain⟨m,l',h1,h2,h3,_,h5⟩:=h;obtain rfl:l'=l:=eV hi hc (h2.symm.trans hb);exact⟨m,h1,.of_get h3 h5⟩
theorem ay.inj (x y:ay) (h:x.cells=y.cells):x=y:=by
 cases x; cases y; simp only [ay.cells] at h; simp at h; obtain⟨rfl,rfl⟩:=h; rfl
theorem aB.inj (x y:aB) (h:x.cells=y.cells):x=y:=by
 cases x; cases y; simp only [aB.cells] at h; simp at h; obtain⟨rfl,rfl,rfl,rfl⟩:=h; rfl
theorem aD.inj (x y:aD) (h:x.cells=y.cells):x=y:=by
 cases x; cases y; simp only [aD.cells] at h; simp at h; obtain⟨rfl,rfl,rfl,rfl,rfl⟩:=h; rfl
theorem aK.inj (x y:aK) (h:x.cells=y.cells):x=y:=by
 cases x; cases y; simp only [aK.cells] at h; simp at h; obtain⟨rfl,rfl⟩:=h; rfl
theorem am.inj (x y:am) (h:x.cells=y.cells):x=y:=by
 cases x; cases y; simp only [am.cells] at h; simp at h; obtain⟨rfl,rfl,rfl,rfl,rfl,rfl,rfl,rfl,rfl⟩:=h; rfl
theorem KA {D d:Nat}{y x:am} (hx:bB D (d + 1) x) (h:nG D (d + 1) y x):∃(la:Option (List aB)) (lw:Option (List ay)) (lr:Option (List aD)) (lk:Option (List am)) (li:Option (List aK)) (pt:aK→Option (List ay)) (bd:aK→Option (List am)) (la':Option (List aB)) (lw':Option (List ay)) (lr':Option (List aD)) (lk':Option (List am)) (li':Option (List aK)) (pt':aK→Option (List ay)) (bd':aK→Option (List am)),Ih D d x la lw lr lk li pt bd∧y.assigns=aU 104 aB.cells la'∧y.words=aU 102 ay.cells lw'∧y.redirs=aU 129 aD.cells lr'∧y.kids=aU 71 am.cells lk'∧y.items=aU 134 aK.cells li'∧
  (∀it∈li'.getD [],it.pats=aU 102 ay.cells (pt' it))∧(∀it∈li'.getD [],it.body=aU 71 am.cells (bd' it))∧
  fk (Og D) (la'.getD []) (la.getD [])∧fk (wB D) (lw'.getD []) (lw.getD [])∧fk (O5 D) (lr'.getD []) (lr.getD [])∧fk (nG D d) (lk'.getD []) (lk.getD [])∧
  fk (fun j i=>fk (wB D) ((pt' j).getD []) ((pt i).getD [])∧fk (nG D d) ((bd' j).getD []) ((bd i).getD [])) (li'.getD []) (li.getD []):=by
 obtain⟨la,lw,lr,lk,li,pt,bd,hd⟩:=hx.dec;obtain⟨_,h1,h2,h3,h4,h5⟩:=h;obtain⟨la',a1,a2⟩:=h1.lists aB.inj aB.len hd.a;obtain⟨lw',w1,w2⟩:=h2.lists ay.inj ay.len hd.w;obtain⟨lr',r1,r2⟩:=h3.lists aD.inj aD.len hd.r;obtain⟨lk',k1,k2⟩:=h4.lists am.inj am.len hd.k;obtain⟨li',i1,i2⟩:=h5.lists aK.inj aK.len hd.i;have hp:∀it:aK,∃l:Option (List ay),it∈li'.getD []→it.pats=aU 102 ay.cells l:=fun it=>by
  by_cases hi:it∈li'.getD []
  ·obtain⟨y,_,hq,_⟩:=i2.mem it hi;obtain⟨m,hm⟩:=hq.sl;exact⟨m,fun _=>hm⟩
  ·exact⟨none,fun hh=>absurd hh hi⟩
 have hb:∀it:aK,∃l:Option (List am),it∈li'.getD []→it.body=aU 71 am.cells l:=fun it=>by
  by_cases hi:it∈li'.getD []
  ·obtain⟨y,_,_,hq⟩:=i2.mem it hi;obtain⟨m,hm⟩:=hq.sl;exact⟨m,fun _=>hm⟩
  ·exact⟨none,fun hh=>absurd hh hi⟩
 obtain⟨pt',hpt'⟩:=Classical.axiomOfChoice hp;obtain⟨bd',hbd'⟩:=Classical.axiomOfChoice hb;refine⟨la,lw,lr,lk,li,pt,bd,la',lw',lr',lk',li',pt',bd',hd,a1,w1,r1,k1,i1,hpt',hbd',a2,w2,r2,k2,?_⟩;refine .of_get i2.len fun n j i hj hi=>?_;obtain⟨q1,q2⟩:=i2.get n j i hj hi;have mj:=List.mem_of_getElem? hj;have mi:=List.mem_of_getElem? hi;obtain⟨m1,e1,e2⟩:=q1.lists ay.inj ay.len (hd.hpt i mi);obtain⟨m2,e3,e4⟩:=q2.lists am.inj am.len (hd.hbd i mi);obtain rfl:m1=pt' j:=eV ay.inj ay.len (e1.symm.trans (hpt' j mj));obtain rfl:m2=bd' j:=eV am.inj am.len (e3.symm.trans (hbd' j mj));exact⟨e2,e4⟩
theorem fk.map_eq {α β γ:Type}{Q:α→β→Prop}{f:α→γ}{g:β→γ} (hq:∀x y,Q x y→f x=g y) {l:List α}{m:List β} (h:fk Q l m):l.map f=m.map g:=by
 induction h with
 | nil=>rfl
 | cons x y l m h _ ih=>rw [List.map_cons,List.map_cons,hq _ _ h,ih]
theorem Ih.kidsBulk {D d:Nat}{x:am}{la:Option (List aB)}{lw:Option (List ay)}{lr:Option (List aD)}{lk:Option (List am)}{li:Option (List aK)}{pt:aK→Option (List ay)}{bd:aK→Option (List am)} (h:Ih D d x la lw lr lk li pt bd) :
  1 + (la.getD []).length + (lr.getD []).length + (eT (la.getD []) (lw.getD []) (lr.getD []) (li.getD []) pt).length + aR ((j9 (lk.getD []) (li.getD []) bd).flatMap am.cells)≤aR x.cells:=by
 simp only [am.cells,cx,cH,h.a,h.w,h.r,h.k,h.i];have l2:∀{α:Type}{e:Nat}{c:α→List PV} (hc:∀x,2≤(c x).length) (l:Option (List α)),2 * (l.getD []).length + 1≤(aU e c l).bulk:=fun {α e c} hc l=>by
  rw [← dO];have h:=sY ((l.getD []).flatMap c);have:∀m:List α,2 * m.length≤(m.flatMap c).length:=by
   intro m
   induction m with
   | nil=>simp
   | cons a m ih=>have:=hc a; simp only [List.flatMap_cons,List.length_append,List.length_cons]; omega
  have:=this (l.getD []);omega
 have hA:=l2 (e:=104) (c:=aB.cells) (fun y=>by rw [aB.len]; omega) la;have hW:=ip (e:=102) (c:=ay.cells) (fun y=>by rw [ay.len]; omega) lw;have hR:=l2 (e:=129) (c:=aD.cells) (fun y=>by rw [aD.len]; omega) lr;have hK2:=dO 71 am.cells lk;have hI2:=dO 134 aK.cells li;have hic:∀it∈li.getD [],aR it.cells=(aU 102 ay.cells (pt it)).bulk + (aU 71 am.cells (bd it)).bulk:=fun it hi=>by
  simp only [aK.cells,cx,cH,h.hpt it hi,h.hbd it hi,Nat.add_zero]
 have key:∀l:List aK,(∀it∈l,aR it.cells=(aU 102 ay.cells (pt it)).bulk + (aU 71 am.cells (bd it)).bulk)→(l.flatMap fun it=>(pt it).getD []).length + aR ((l.flatMap fun it=>(bd it).getD []).flatMap am.cells)≤aR (l.flatMap aK.cells):=by
  intro l
  induction l with
  | nil=>intro _; simp [cH]
  | cons it l ih=>
   intro hh;have h1:=hh it List.mem_cons_self;have h2:=ih fun z hz=>hh z (List.mem_cons_of_mem _ hz);have h3:=ip (e:=102) (c:=ay.cells) (fun y=>by rw [ay.len]; omega) (pt it);have h4:=dO 71 am.cells (bd it);simp only [List.flatMap_cons,j7,List.length_append,List.flatMap_append];omega
 have hk:=key (li.getD []) hic;simp only [eT,j9,List.length_append,List.length_map,List.flatMap_append,j7];omega
end Go.Proofs.YtokdflgpbfjpcaaGreatDoor
namespace Go.Proofs.YtokdflgpbfjpcaaGreatDoor
open Go Go.EvL Go.PE Go.Mir
variable {ext:ar}
theorem cA (k:Int) (s:PS):Pc ext 109 [.sc (.int .i64 k)] (.sc (.bool (od k))) s:=by
 refine q1 SN 2 ?_;unfold SN od;cases c1:decide (8≤k) with
 | false=>exact bm c1
 | true=>exact bm c1
theorem iO (k:Int) (s:PS):Pc ext 236 [.sc (.int .i64 k)] (.sc (.bool (vN k))) s:=by
 refine q1 RY 2 ?_;unfold RY vN;cases c1:k == 1 with
 | true=>exact bm c1
 | false=>
  cases c2:od k with
  | true=>exact jB c1 @cA c2
  | false=>exact jB c1 @cA c2
theorem ji (k:Int) (s:PS):Pc ext 238 [.sc (.int .i64 k)] (.sc (.bool (wM k))) s:=by
 refine q1 Ry 2 ?_;unfold Ry wM;cases c1:vN k with
 | true=>exact qO @iO c1
 | false=>
  cases c2:k == 2 with
  | true=>exact jB @iO c1 c2
  | false=>exact jB @iO c1 c2
theorem nb (k:Int) (s:PS):Pc ext 237 [.sc (.int .i64 k)] (.sc (.bool (G3 k))) s:=by
 refine q1 Qy 2 ?_;unfold Qy G3;cases c1:wM k with
 | true=>exact qO @ji c1
 | false=>
  cases c2:k == 4 with
  | true=>exact jB @ji c1 c2
  | false=>exact jB @ji c1 c2
def kinds (l:List am):List Int:=l.map am.kind
theorem CE {xs:List am} (hx:xs.length < 1000000000000) {lo hi:Nat} (hlo:lo < 100) (hhi:hi < 100) (s:PS):∀(k i:Nat) (f:aX),i + k=xs.length→f 0=aU 71 am.cells (some xs)→f 1=iN lo→f 2=iN hi→f 7=iN i→
  Er (fun f' s'=>s'=s∧f' 6=.sc (.bool (((kinds xs).drop i).all (· == 6) && (decide (lo≤xs.length) && decide (xs.length≤hi))))) (LP Tryz.prog Γ ext 0 mG qQ f s):=by
 intro k
 induction k with
 | zero=>
  intro i f hk h0 h1 h2 h7;have e1:decide (i < xs.length)=false:=df;have ha:((kinds xs).drop i).all (· == 6)=true:=by rw [List.drop_eq_nil_of_le (by rw [kinds,List.length_map]; omega)]; rfl
  refine ad fun L hL=>?_;simp only [aU] at h0;cases c1:decide (lo≤xs.length) with
  | false=>exact sL @mG.eq_1 @qQ.eq_1 h0 h1 h2 h7 e1 ha c1
  | true=>exact sL @mG.eq_1 @qQ.eq_1 h0 h1 h2 h7 e1 ha c1
 | succ k ih=>
  intro i f hk h0 h1 h2 h7;have h0':=h0;have hl:i < xs.length:=om;have e1:decide (i < xs.length)=true:=decide_eq_true hl;have hj:xs[i]?=some xs[i]:=List.getElem?_eq_getElem hl;have hfl:=aJ am.len xs;obtain⟨rr,hk3⟩:=cm am.len hj;have hd:(kinds xs).drop i=xs[i].kind :: (kinds xs).drop (i + 1):=by
   rw [kinds,← List.map_drop,List.drop_eq_getElem_cons hl,List.map_cons,List.map_drop]
  simp only [aU] at h0;simp only [am.cells,List.cons_append,List.nil_append] at hk3;rw [hd,List.all_cons];refine ad fun L hL=>?_;cases c:xs[i].kind == 6 with
  | false=>exact To @mG.eq_1 @qQ.eq_1 h0 h7 e1 hl @wv hfl hk3 @aw @cj c @Bool.not_false @Bool.false_and
  | true=>
   refine FL @mG.eq_1 h0 h7 e1 hl @wv hfl hk3 @aw @cj c @Bool.not_true ?_;subst hL;rw [Bool.true_and];exact ih (i + 1) _ om (bm h0) (bm h1) (bm h2) bw
theorem EP {y:Option (List am)} (hx:(y.getD []).length < 1000000000000) {lo hi:Nat} (hlo:lo < 100) (hhi:hi < 100) (s:PS):Pc ext 239 [aU 71 am.cells y,iN lo,iN hi] (.sc (.bool (j4 (kinds (y.getD [])) lo hi))) s:=by
 refine q1 Oq 6 ?_;have hkl:(kinds (y.getD [])).length=(y.getD []).length:=List.length_map _;rw [j4,hkl];cases y with
 | none=>
  have z0:decide ((0:Int) < 0)=false:=rfl;have z1:decide ((lo:Int)≤0)=decide (lo≤0):=by rw [decide_eq_decide]; omega
  have z2:decide (0≤(hi:Int))=decide (0≤hi):=by rw [decide_eq_decide]; omega
  unfold Oq;refine uA @bU ?_;refine ad fun L hL=>?_;cases c1:decide (lo≤0) with
  | false=>exact sL @mG.eq_1 @qQ.eq_1 z0 z1 z2 c1 @Option.getD_none.{0} @kinds.eq_1 @List.map_nil.{0,0}
  | true=>exact sL @mG.eq_1 @qQ.eq_1 z0 z1 z2 c1 @Option.getD_none.{0} @kinds.eq_1 @List.map_nil.{0,0}
 | some xs=>
  have key:=fun s f h0 h1 h2 h7=>CE (ext:=ext) (xs:=xs) hx hlo hhi s xs.length 0 f (Nat.zero_add _) h0 h1 h2 h7;simp only [List.drop_zero] at key;simp only [Option.getD_some];unfold Oq;refine uA @bU ?_;exact key _ _ (bm @bU) bw bw bw
def TT (v:PV):Nat:=match v with
 | .lit _ n _=>n
 | _=>0
theorem Fz {α:Type}{e:Nat}{c:α→List PV} (x:Option (List α)):TT (aU e c x)=(x.getD []).length:=by cases x<;>rfl
def Ir (p:au):Bool:=(!p.text.data.toList.isEmpty && bt p.text.data.toList (p.text.data.toList.length - 1) == 10) && p.op == 0 && !p.colon && TT p.parts == 0
def wS (l:List au) (b:Bool):Bool:=match l with
 | [p]=>if p.kind == 2 then Ir p else b
 | _=>b
theorem IC {y:Option (List au)}{b:Bool}{T:ByteArray} (hy:(y.getD []).length < 1000000000000) (hp:∀p∈y.getD [],p.text.data.toList.length < 1000000000000∧∃z:Option (List au),p.parts=aU 155 au.cells z)
  (hs:∀s,Pc ext 253 [aU 155 au.cells y] (.tup [.sc (.string T),.sc (.bool b)]) s) (s:PS) :
  Pc ext 241 [aU 155 au.cells y] (.sc (.bool (wS (y.getD []) b))) s:=by
 refine q1 Qg 2 ?_;have hlen:=bT (e:=155) (c:=au.cells) y;unfold Qg
 match y,hy,hp,hs,hlen with
 | none,hy,hp,hs,hlen=>
  have z0:((0:Int) == 1)=false:=rfl;simp only [aU,List.length_cons,List.length_nil] at hs ⊢;refine vp hs z0 ?_;rfl
 | some [],hy,hp,hs,hlen=>
  have z0:(((0:Nat):Int) == 1)=false:=rfl;simp only [aU,List.length_cons,List.length_nil] at hs ⊢;refine vp hs z0 ?_;rfl
 | some (p :: q :: r),hy,hp,hs,hlen=>
  have z0:(r.length + 1 + 1 == 1)=false:=by simp
  simp only [aU,List.length_cons,List.length_nil] at hs ⊢;refine vp hs z0 ?_;rfl
 | some [p],hy,hp,hs,hlen=>
  obtain⟨k,t,o,c,v⟩:=p;obtain⟨ht,z,rfl⟩:=hp _ (List.mem_cons_self ..);simp only at ht;have hz:=bT (e:=155) (c:=au.cells) z;rw [← Fz (e:=155) (c:=au.cells)] at hz;have z0:(((1:Nat):Int) == 1)=true:=rfl;generalize aU 155 au.cells z=v at hz hs hlen ⊢;simp only [aU,Option.getD_some,List.flatMap_cons,List.flatMap_nil,List.append_nil,au.cells,List.length_cons,List.length_nil,Nat.zero_add] at hs hlen ⊢;simp only [Option.getD_some,wS,Ir];cases c0:k == 2 with
  | false=>exact ub hs z0 c0 @Nat.zero_mul @aw
  | true=>
   cases c1:t.data.toList.isEmpty with
   | true=>exact lW z0 c0 @Nat.zero_mul @aw @aV c1
   | false=>
    have hl0 : 0 < t.data.toList.length:=by
     cases h:t.data.toList with
     | nil=>rw [h] at c1; cases c1
     | cons x l=>exact Nat.succ_pos _
    have hl1:t.data.toList.length - 1 < t.data.toList.length:=om;cases c2:bt t.data.toList (t.data.toList.length - 1) == 10 with
    | false=>exact ue hlen z0 c0 @Nat.zero_mul @aw @aV c1 c2 hl0 hl1
    | true=>
     cases c3:o == 0 with
     | false=>exact qj hlen z0 c0 @Nat.zero_mul @aw @aV c1 c2 c3 hl0 hl1 tv
     | true=>
      cases c with
      | true=>exact ue z0 c0 @Nat.zero_mul @aw @aV c1 c2 c3 hl0 hl1
      | false=>exact qj hlen z0 c0 @Nat.zero_mul @aw @aV c1 c2 c3 hl0 hl1 hz
def Cg (okW okH:PV→Bool) (r:aD):Bool:=!(decide (r.fd < 0) || decide (2147483647 < r.fd) || decide (r.op < 1) || decide (8 < r.op)) && (if r.op == 8 then okH r.parts else okW r.parts)
theorem Kx {xs:List aD}{okW okH:PV→Bool} (hx:xs.length < 1000000000000) (ho:∀x∈xs,db x.parts=true∧aC x.parts=[x.parts]) (hw:∀x∈xs,∀s,Pc ext 240 [.agg [.sc (.int .i64 x.tpos),x.parts]] (.sc (.bool (okW x.parts))) s)
  (hh:∀x∈xs,∀s,Pc ext 241 [x.parts] (.sc (.bool (okH x.parts))) s) (n0:Nat):∀(k i:Nat) (f:aX) (s:PS),i + k=xs.length→(n0≤s.w∧n0≤s.n)→f 0=aU 129 aD.cells (some xs)→f 3=iN i→
  Er (fun f' s'=>n0≤s'.w∧f' 2=.sc (.bool ((xs.drop i).all (Cg okW okH)))) (LP Tryz.prog Γ ext 0 jF lT f s):=by
 intro k
 induction k with
 | zero=>
  intro i f s hk hn h0 h3;have e1:decide (i < xs.length)=false:=df;have ha:(xs.drop i).all (Cg okW okH)=true:=by rw [List.drop_eq_nil_of_le om]; rfl
  refine ad fun L hL=>?_;simp only [aU] at h0;refine Ej @jF.eq_1 @lT.eq_1 h0 h3 e1 ha ?_;exact hn.1
 | succ k ih=>
  intro i f s hk hn h0 h3;have hl:i < xs.length:=om;have e1:decide (i < xs.length)=true:=decide_eq_true hl;have hj:xs[i]?=some xs[i]:=List.getElem?_eq_getElem hl;have hfl:=aJ aD.len xs;have hk3:=kX aD.len hj;obtain⟨ov,cv⟩:=ho _ (List.getElem_mem hl);have hw1:=hw _ (List.getElem_mem hl);have hh1:=hh _ (List.getElem_mem hl);rw [List.drop_eq_getElem_cons hl,List.all_cons];have hgo:=ih (i + 1);generalize hxi:xs[i]=x at *;obtain⟨p,fd,op,tp,v⟩:=x;simp only at ov cv hw1 hh1;simp only [aD.cells] at hk3;simp only [aU] at h0;simp only [Cg];refine ad fun L hL=>?_;cases c1:decide (fd < 0) with
  | true=>simp -implicitDefEqProofs (disch:=omega) only [ZS,seval,ZX,jF,lT,h0,h3,e1,hl,hfl,hk3,ov,cv,aY,aG,aF,aE,aI,bne,c1]; first | omega | exact hn.1
  | false=>
  cases c2:decide (2147483647 < fd) with
  | true=>exact my @jF.eq_1 @lT.eq_1 h0 h3 e1 hl hfl hk3 ov cv @aY @aG @aF @aE @aI @cj c1 c2 tv
  | false=>
  cases c3:decide (op < 1) with
  | true=>exact my @jF.eq_1 @lT.eq_1 h0 h3 e1 hl hfl hk3 ov cv @aY @aG @aF @aE @aI @cj c1 c2 c3
  | false=>
  cases c4:decide (8 < op) with
  | true=>exact Cm @jF.eq_1 @lT.eq_1 h0 h3 e1 hl hfl hk3 ov cv @aY @aG @aF @aE @aI @cj c1 c2 c3 c4 tv tv
  | false=>
  cases c5:op == 8 with
  | true=>
   cases c6:okH v with
   | false=>
    rw [c6] at hh1;exact Cm @jF.eq_1 @lT.eq_1 h0 h3 e1 hl hfl hk3 ov cv @aY @aG @aF @aE @aI @cj c1 c2 c3 c4 c5 hh1
   | true=>
    rw [c6] at hh1;refine ME @jF.eq_1 h0 h3 e1 hl hfl hk3 ov cv @aY @aG @aF @aE @aI @cj c1 c2 c3 c4 c5 hh1 tv ?_;subst hL;exact hgo _ _ om bw (bm h0) bw
  | false=>
   cases c6:okW v with
   | false=>
    rw [c6] at hw1;exact Cm @jF.eq_1 @lT.eq_1 h0 h3 e1 hl hfl hk3 ov cv @aY @aG @aF @aE @aI @cj c1 c2 c3 c4 c5 hw1
   | true=>
    rw [c6] at hw1;refine ME @jF.eq_1 h0 h3 e1 hl hfl hk3 ov cv @aY @aG @aF @aE @aI @cj c1 c2 c3 c4 c5 hw1 tv ?_;subst hL;exact hgo _ _ om bw (bm h0) bw
theorem Ik {y:Option (List aD)}{okW okH:PV→Bool} (hx:(y.getD []).length < 1000000000000) (ho:∀x∈y.getD [],db x.parts=true∧aC x.parts=[x.parts]) (hw:∀x∈y.getD [],∀s,Pc ext 240 [.agg [.sc (.int .i64 x.tpos),x.parts]] (.sc (.bool (okW x.parts))) s)
  (hh:∀x∈y.getD [],∀s,Pc ext 241 [x.parts] (.sc (.bool (okH x.parts))) s) (s:PS):Pc ext 218 [aU 129 aD.cells y] (.sc (.bool ((y.getD []).all (Cg okW okH)))) s:=by
 refine lH NY 2 ?_;cases y with
 | none=>
  have z0:decide ((0:Int) < 0)=false:=rfl;unfold NY;refine uA @bU ?_;refine ad fun L hL=>?_;refine QY @jF.eq_1 @lT.eq_1 z0 ?_
  first | done | exact⟨Nat.le_refl _,rfl⟩ | rfl
 | some xs=>
  unfold NY;refine uA @bU ?_;exact Kx (xs:=xs) hx ho hw hh s.n xs.length 0 _ _ (Nat.zero_add _) ⟨bw,bw⟩ (bm @bU) bw
def sd (okW:PV→Bool) (pt:aK→Option (List ay)) (bd:aK→Option (List am)) (it:aK):Bool:=!((pt it).getD []).isEmpty && ((pt it).getD []).all (fun w=>okW w.parts) && j4 (kinds ((bd it).getD [])) 0 1
theorem HT {xs:List aK}{okW:PV→Bool}{pt:aK→Option (List ay)}{bd:aK→Option (List am)} (hx:xs.length < 1000000000000) (hp:∀it∈xs,it.pats=aU 102 ay.cells (pt it)) (hb:∀it∈xs,it.body=aU 71 am.cells (bd it))
  (hw:∀it∈xs,∀s,Pc ext 217 [it.pats] (.sc (.bool (((pt it).getD []).all fun w=>okW w.parts))) s) (hh:∀it∈xs,∀s,Pc ext 239 [it.body,.sc (.int .i64 0),.sc (.int .i64 1)] (.sc (.bool (j4 (kinds ((bd it).getD [])) 0 1))) s) (s:PS) :
  ∀(k i:Nat) (f:aX),i + k=xs.length→f 0=aU 134 aK.cells (some xs)→f 3=iN i→Er (fun f' s'=>s'=s∧f' 2=.sc (.bool ((xs.drop i).all (sd okW pt bd)))) (LP Tryz.prog Γ ext 0 nc qP f s):=by
 intro k
 induction k with
 | zero=>
  intro i f hk h0 h3;have e1:decide (i < xs.length)=false:=df;have ha:(xs.drop i).all (sd okW pt bd)=true:=by rw [List.drop_eq_nil_of_le om]; rfl
  refine ad fun L hL=>?_;simp only [aU] at h0;exact uP @nc.eq_1 @qP.eq_1 h0 h3 e1 @pq ha
 | succ k ih=>
  intro i f hk h0 h3;have hl:i < xs.length:=om;have e1:decide (i < xs.length)=true:=decide_eq_true hl;have hj:xs[i]?=some xs[i]:=List.getElem?_eq_getElem hl;have hfl:=aJ aK.len xs;obtain⟨rr,hk3⟩:=cm aK.len hj;have hp1:=bT (e:=102) (c:=ay.cells) (pt xs[i]);rw [← hp _ (List.getElem_mem hl)] at hp1;have hcp:aC xs[i].pats=[xs[i].pats]:=by rw [hp _ (List.getElem_mem hl)]; cases pt xs[i]<;>rfl
  have hcb:aC xs[i].body=[xs[i].body]:=by rw [hb _ (List.getElem_mem hl)]; cases bd xs[i]<;>rfl
  have hw1:=hw _ (List.getElem_mem hl);have hh1:=hh _ (List.getElem_mem hl);have he:((pt xs[i]).getD []).isEmpty=(((pt xs[i]).getD []).length == 0):=by cases (pt xs[i]).getD []<;>rfl
  rw [List.drop_eq_getElem_cons hl,List.all_cons];simp only [aU] at h0;simp only [aK.cells,List.cons_append,List.nil_append] at hk3;simp only [sd,he];have hgo:=ih (i + 1)
  try simp only [sd,he] at hgo
  generalize ((pt xs[i]).getD []).length=m at hp1 hgo ⊢;refine ad fun L hL=>?_;cases c1:m == 0 with
  | true=>exact BR @nc.eq_1 @qP.eq_1 h0 h3 e1 hl @pq hfl hk3 @aw hcp hp1 c1 tv
  | false=>
  cases c2:((pt xs[i]).getD []).all fun w=>okW w.parts with
  | false=>
   rw [c2] at hw1;exact BR @nc.eq_1 @qP.eq_1 h0 h3 e1 hl @pq hfl hk3 @aw hcp hp1 c1 hw1
  | true=>
  rw [c2] at hw1;cases c3:j4 (kinds ((bd xs[i]).getD [])) 0 1 with
  | false=>
   rw [c3] at hh1;exact sB @nc.eq_1 @qP.eq_1 h0 h3 e1 hl @pq hfl hk3 @aw hcp hcb hp1 c1 hw1 hh1
  | true=>
   rw [c3] at hh1;refine Dg @nc.eq_1 h0 h3 e1 hl @pq hfl hk3 @aw hcp hcb hp1 c1 hw1 hh1 tv ?_;subst hL;exact hgo _ om (bm h0) bw
theorem MY {y:Option (List aK)}{okW:PV→Bool}{pt:aK→Option (List ay)}{bd:aK→Option (List am)} (hx:(y.getD []).length < 1000000000000) (hp:∀it∈y.getD [],it.pats=aU 102 ay.cells (pt it)) (hb:∀it∈y.getD [],it.body=aU 71 am.cells (bd it))
  (hw:∀it∈y.getD [],∀w∈(pt it).getD [],∀s,Pc ext 240 [.agg w.cells] (.sc (.bool (okW w.parts))) s) (hl:∀it∈y.getD [],((pt it).getD []).length < 1000000000000∧((bd it).getD []).length < 1000000000000) (s:PS) :
  Pc ext 219 [aU 134 aK.cells y] (.sc (.bool ((y.getD []).all (sd okW pt bd)))) s:=by
 refine q1 NQ 2 ?_;cases y with
 | none=>
  have z0:decide ((0:Int) < 0)=false:=rfl;unfold NQ;refine uA @bU ?_;refine ad fun L hL=>?_;refine QY @nc.eq_1 @qP.eq_1 z0 ?_;rfl
 | some xs=>
  unfold NQ;refine uA @bU ?_;refine HT (xs:=xs) hx hp hb (fun it h s=>?_) (fun it h s=>?_) _ xs.length 0 _ (Nat.zero_add _) (bm @bU) bw
  ·rw [hp it h];exact JR (hl it h).1 (hw it h) s
  ·rw [hb it h];exact EP (lo:=0) (hi:=1) (hl it h).2 om om s
end Go.Proofs.YtokdflgpbfjpcaaGreatDoor
