/- What functions of the program and of the reference compute, on values. No statement is proved here. -/
import Derived.Test.YtgkggocjoolciaaGreatDoorTxK
import Derived.Test.YtgkggocjoolciaaGreatDoorTxI
import Derived.Test.YtgkggocjoolciaaGreatDoorTxC
import Derived.Test.YtgkggocjoolciaaGreatDoorTxH
import Derived.Test.YtgkggocjoolciaaGreatDoorTxJ
import Derived.Test.YtgkggocjoolciaaGreatDoorTxE
set_option linter.all false
namespace Go.Proofs.YtgkggocjoolciaaGreatDoor
open Go Go.EvL Go.PE Go.Mir
theorem Qb {P:Program}{n:Nat}{f1 f2 f3 f4 f5 f6 f7 f8 f9 f10 f11 f12 f13 f14:Field}{ls:List (List PV)} (h:zP P n [f1,f2,f3,f4,f5,f6,f7,f8,f9,f10,f11,f12,f13,f14] ls):∃a1 a2 a3 a4 a5 a6 a7 a8 a9 a10 a11 a12 a13 a14,ls=[a1,a2,a3,a4,a5,a6,a7,a8,a9,a10,a11,a12,a13,a14]∧ik P n f1.type a1∧ik P n f2.type a2∧ik P n f3.type a3∧ik P n f4.type a4∧ik P n f5.type a5∧ik P n f6.type a6∧ik P n f7.type a7∧ik P n f8.type a8∧ik P n f9.type a9∧ik P n f10.type a10∧ik P n f11.type a11∧ik P n f12.type a12∧ik P n f13.type a13∧ik P n f14.type a14:=by
 match ls,h with
 | [a1,a2,a3,a4,a5,a6,a7,a8,a9,a10,a11,a12,a13,a14],⟨h1,h2,h3,h4,h5,h6,h7,h8,h9,h10,h11,h12,h13,h14,_⟩=>exact⟨a1,a2,a3,a4,a5,a6,a7,a8,a9,a10,a11,a12,a13,a14,rfl,h1,h2,h3,h4,h5,h6,h7,h8,h9,h10,h11,h12,h13,h14⟩
theorem vI {α:Type}{e N:Nat}{c:α→List PV} (hc:∀d,1≤(c d).length) {l:Option (List α)}{p:PV} (h:p=aK e c l) (hb:aM [p]≤N):(l.getD []).length≤N:=by
 subst h;have h1:=gY (e:=e) hc l;rw [ch,ck] at hb;omega
theorem D1 {N:Nat}{a:ByteArray} (hb:aM [.sc (.string a)]≤N):a.data.toList.length≤N:=by
 rw [ch,ck] at hb;have:PV.bulk (.sc (.string a))=a.data.toList.length + 1:=by simp [PV.bulk,BP]
 omega
theorem iq.mono {D d d':Nat}{x:cY}{lv:Option (List dw)}{lp:Option (List ByteArray)}{lf:Option (List aG)}{la:Option (List b9)}{lt:Option (List aT)} (h:iq D d x lv lp lf la lt) (hd:d≤d'):iq D d' x lv lp lf la lt:=
 ⟨h.v,h.p,h.f,h.a,h.t,h.nv,h.np,h.nf,h.na,h.nt,fun y hy=>⟨(h.node y hy).1.mono hd,(h.node y hy).2⟩,h.name,h.cwd⟩
theorem env_of {D n:Nat}{ps:List PV} (hD:n≤D) (h:ik Tryz.prog n 30 ps) (hb:aM ps≤16777216):∃(x:cY) (lv:Option (List dw)) (lp:Option (List ByteArray)) (lf:Option (List aG)) (la:Option (List b9)) (lt:Option (List aT)),ps=x.cells∧iq D n x lv lp lf la lt:=by
 obtain⟨k,ls,hk,rfl,hf⟩:=eS Tryz.underlying30 h;clear h;obtain⟨a1,a2,a3,a4,a5,a6,a7,a8,a9,a10,a11,a12,a13,a14,rfl,f1,f2,f3,f4,f5,f6,f7,f8,f9,f10,f11,f12,f13,f14⟩:=Qb hf;have hN : 16777216 < 4611686018427387904:=by decide
 have hsub:∀{x:List PV},x∈[a1,a2,a3,a4,a5,a6,a7,a8,a9,a10,a11,a12,a13,a14]→aM x≤16777216:=fun hx=>Nat.le_trans (cC hx) hb;have b1:=hsub (x:=a1) (by simp);have b2:=hsub (x:=a2) (by simp);have b3:=hsub (x:=a3) (by simp);have b4:=hsub (x:=a4) (by simp);have b5:=hsub (x:=a5) (by simp);have b6:=hsub (x:=a6) (by simp);have b11:=hsub (x:=a11) (by simp);obtain⟨z1,rfl,_⟩:=eV Tryz.underlying9 f1;obtain⟨p2,l2,rfl,g2,_,_⟩:=nT (c:=dw.cells) (Q:=fun _=>True) Tryz.underlying22 f2 (fun d=>by simp [dw.cells]) b2 hN (fun m x hm hx hbx=>by
  obtain⟨k',ls,rfl,rfl,hf⟩:=eS Tryz.underlying43 hx;obtain⟨a,b,c,d,e,rfl,e1,e2,e3,e4,e5⟩:=OB hf;obtain⟨y1,rfl,_⟩:=eV Tryz.underlying9 e1;obtain⟨y2,rfl,_⟩:=eV Tryz.underlying9 e2;obtain⟨y3,rfl⟩:=oP Tryz.underlying4 e3;obtain⟨y4,rfl⟩:=oP Tryz.underlying4 e4;obtain⟨y5,rfl⟩:=oP Tryz.underlying4 e5;exact⟨⟨y1,y2,y3,y4,y5⟩,rfl,trivial⟩)
 obtain⟨p3,l3,rfl,g3,_,_⟩:=nT (c:=fj) (Q:=fun _=>True) Tryz.underlying23 f3 (fun d=>by simp [fj]) b3 hN (fun m x hm hx hbx=>by
  obtain⟨y1,rfl,_⟩:=eV Tryz.underlying9 hx;exact⟨y1,rfl,trivial⟩)
 obtain⟨p4,l4,rfl,g4,_,q4⟩:=nT (c:=aG.cells) (Q:=fun y=>bC D n y.body∧aM y.body.cells≤16777216) Tryz.underlying24 f4 (fun d=>by simp [aG.cells]) b4 hN (fun m x hm hx hbx=>by
  obtain⟨k',ls,rfl,rfl,hf⟩:=eS Tryz.underlying71 hx;obtain⟨a,b,rfl,e1,e2⟩:=xy hf;obtain⟨y1,rfl,_⟩:=eV Tryz.underlying9 e1;have hbb:aM b≤16777216:=Nat.le_trans (cC (by simp)) hbx;obtain⟨y2,rfl,hy⟩:=NG hN (D:=D) k' om b e2 hbb;exact⟨⟨y1,y2⟩,by simp [aG.cells],hy.mono om,hbb⟩)
 obtain⟨p5,l5,rfl,g5,_,_⟩:=nT (c:=b9.cells) (Q:=fun _=>True) Tryz.underlying25 f5 (fun d=>by simp [b9.cells]) b5 hN (fun m x hm hx hbx=>by
  obtain⟨k',ls,rfl,rfl,hf⟩:=eS Tryz.underlying58 hx;obtain⟨a,b,rfl,e1,e2⟩:=xy hf;obtain⟨y1,rfl,_⟩:=eV Tryz.underlying9 e1;obtain⟨y2,rfl,_⟩:=eV Tryz.underlying9 e2;exact⟨⟨y1,y2⟩,rfl,trivial⟩)
 obtain⟨p6,l6,rfl,g6,_,_⟩:=nT (c:=aT.cells) (Q:=fun _=>True) Tryz.underlying26 f6 (fun d=>by simp [aT.cells]) b6 hN (fun m x hm hx hbx=>by
  obtain⟨k',ls,rfl,rfl,hf⟩:=eS Tryz.underlying46 hx;obtain⟨a,b,rfl,e1,e2⟩:=xy hf;obtain⟨y1,rfl,_⟩:=gB Tryz.underlying3 e1;obtain⟨y2,rfl,_⟩:=eV Tryz.underlying9 e2;exact⟨⟨y1,y2⟩,rfl,trivial⟩)
 obtain⟨z7,rfl,_⟩:=gB Tryz.underlying3 f7;obtain⟨z8,rfl,_⟩:=gB Tryz.underlying3 f8;obtain⟨z9,rfl,_⟩:=gB Tryz.underlying3 f9;obtain⟨z10,rfl,_⟩:=gB Tryz.underlying3 f10;obtain⟨z11,rfl,_⟩:=eV Tryz.underlying9 f11;obtain⟨k2,ls2,_,rfl,hf2⟩:=eS Tryz.underlying28 f12;obtain⟨c1,c2,rfl,e1,e2⟩:=xy hf2;obtain⟨y1,rfl,_⟩:=gB Tryz.underlying3 e1;obtain⟨y2,rfl,_⟩:=gB Tryz.underlying3 e2;obtain⟨z13,rfl,_⟩:=gB Tryz.underlying3 f13;obtain⟨z14,rfl⟩:=oP Tryz.underlying4 f14;refine⟨⟨z1,p2,p3,p4,p5,p6,z7,z8,z9,z10,z11,y1,y2,z13,z14⟩,l2,l3,l4,l5,l6,rfl,⟨g2,g3,g4,g5,g6,vI (fun d=>by simp [dw.cells]) g2 b2,vI (fun d=>by simp [fj]) g3 b3,vI (fun d=>by simp [aG.cells]) g4 b4,vI (fun d=>by simp [b9.cells]) g5 b5,vI (fun d=>by simp [aT.cells]) g6 b6,q4,D1 b1,D1 b11⟩⟩
end Go.Proofs.YtgkggocjoolciaaGreatDoor
namespace Go.PE
open Go Go.EvL
section
variable {P:Program}{Γ:Nat→Option fJ}{ext:aq}
def jJ (t es bytes:Nat) (z:List Value) (keep:Bool):fJ:=⟨14,(sr [mk 2 (.slice none 0 0)]
 (.seq (t7 [mt 4 0,ob 5 (.len false (tp 4)),ob 6 (bi .eql 5 0)] 6
 (sr [mk 2 (.slice none 0 0)]
 .ret)
 .skip)
 (sr [mt 7 0,ob 8 (.len false (tp 7)),ob 9 (.mks t es bytes z (tp 8) (tp 8)),mt 3 9]
 (sr [mt 10 3,mt 11 0,ob 12 (.cpy es (tp 10) (tp 11))]
 (sr [mt 13 3,mt 2 13]
 .ret))))),[.tmp 2],keep⟩
def AN (t es:Nat):aW:=(sr [ob 12 (bn .lss 3 11 10)]
 (.seq (.cond (tp 12)
 .skip
 (.exit 0))
 (.seq (.block 1 (sr [mt 13 11,mt 6 13]
 (.reg [mt 14 5,mt 15 6,mt 16 1,mt 17 5,mt 18 6,ob 19 (.iaddr es (tp 17) (tp 18)),ob 20 (.load t true es (tp 19)),ob 21 (.call (tp 16) [(tp 20)]),ob 22 (.iaddr es (tp 14) (tp 15)),o0 (.store t es (tp 22) (tp 21))])))
 (.reg [ob 23 (bi .add 11 1),mt 11 23]))))
def Ep:aW:=(sr [mt 24 5,mt 4 24]
 .ret)
def kQ (t es H:Nat):fJ:=⟨25,(sr [mk 4 (.slice none 0 0)]
 (sr [mt 7 0,ob 8 (cl H [(tp 7)]),mt 5 8]
 (.seq (sr [mt 9 5,ob 10 (.len false (tp 9)),mk 11 (.int .i64 0)]
 (.block 0 (.loop (AN t es)))) Ep))),[.tmp 4],false⟩
theorem FX (z:List Value) (es n:Nat):(t8 z es n).length=n * es:=by simp [t8]
theorem EH {α:Type}{t e es bytes G:Nat}{z:List Value}{keep:Bool}{c:α→List PV} (hc:∀x,(c x).length=es) (hby:bytes≤1024) {l:List α} (hl:l≠[]) (hbig:l.length≤16777216) (ho:∀x∈l,(c x).all cL=true) (s:PS) :
  Er (fun f' s'=>f' 2=.own s.n 0 l.length (l.length * es)∧s'.n=s.n + 1∧s'.w=s.n∧s'.h s.n=⟨l.flatMap c,l.length * es,t⟩∧∀j,j < s.n→s'.h j=s.h j) (aN P Γ ext (jJ t es bytes z keep).body (br [aK e c (some l)] 0) ⟨s.h,s.n,s.n⟩):=by
 have hn : 0 < l.length:=List.length_pos_iff.2 hl;have c0:(l.length == 0)=false:=by
  cases h:l.length with
  | zero=>omega
  | succ n=>rfl
 have hfl:=aB hc l;have hone:(l.flatMap c).all cL=true:=by rw [List.all_flatMap]; exact List.all_eq_true.2 ho
 have b1:bytes * l.length≤281474976710656:=Nat.le_trans (Nat.mul_le_mul hby hbig) (by decide);have b2:l.length≤1073741824:=om;have hlen:=FX z es l.length;have hel:∀s:PS,i5 s es (.lit e l.length (l.flatMap c))=some (l.flatMap c,l.length):=fun s=>by
  unfold i5;simp only [hfl,if_true]
 have hst:∀s:PS,∀k,s.h k=⟨t8 z es l.length,0,t⟩→FA s (.ptr k 0 (l.length * es)) (l.flatMap c)=some (s.put k ⟨l.flatMap c,l.length * es,t⟩):=fun s k hk=>by
  unfold FA;simp only [hk,hfl,hlen,hone,Nat.zero_add,Nat.le_refl,and_self,if_true,List.take_zero,List.nil_append];rw [List.drop_of_length_le (by rw [hlen]; exact Nat.le_refl _),List.append_nil]
 have hst':=hst ((⟨s.h,s.n,s.n⟩ : PS).new ⟨t8 z es l.length,0,t⟩) s.n (if_pos rfl);have cn:(l.length=0)=False:=eq_false om;unfold jJ;refine Di @cd c0 b1 b2 hlen hel hst' cn hfl ?_;intro j hj;rw [if_neg om,if_neg om]
theorem En {α:Type}{t e es bytes G:Nat}{z:List Value}{keep:Bool}{c:α→List PV}{y:Option (List α)} (hy:y.getD []=[]) (s:PS) :
  Er (fun f' s'=>f' 2=.sc (.slice none 0 0)∧s'=⟨s.h,s.n,s.n⟩) (aN P Γ ext (jJ t es bytes z keep).body (br [aK e c y] 0) ⟨s.h,s.n,s.n⟩):=by
 have z0:((0:Int) == 0)=true:=rfl;have z1:(0 == 0)=true:=rfl;cases y with
 | none=>
  unfold jJ;exact aX @cd
 | some l=>
  simp only [Option.getD_some] at hy;subst hy;unfold jJ;exact aX @cd
theorem zx {α:Type}{t es bytes G:Nat}{z:List Value}{c:α→List PV} (hG:Γ G=some (jJ t es bytes z false)) (hc:∀x,(c x).length=es) (hby:bytes≤1024) {y:Option (List α)} (hbig:(y.getD []).length≤16777216) (ho:∀x∈y.getD [],(c x).all cL=true∧(c x).all cP=true) (s:PS) :
  aD P Γ ext G [aK t c y] s=some (aK t c (dx (y.getD [])),s):=by
 by_cases hy:y.getD []=[]
 ·rw [hy];refine ir hG (by simp [jJ]) (En (G:=G) hy s) ?_;rintro f s' ⟨h1,rfl⟩;refine fM (vs:=[f 2]) (by rfl) (by rfl) (Nat.le_refl _) ?_;rw [h1];rfl
 ·obtain⟨l,rfl⟩ : ∃l,y=some l:=by cases y with | none=>exact absurd rfl hy | some l=>exact⟨l,rfl⟩
  simp only [Option.getD_some] at hy hbig ho ⊢;refine ir hG (by simp [jJ]) (EH (G:=G) hc hby hy hbig (fun x hx=>(ho x hx).1) s) ?_;rintro f s' ⟨h1,h2,h3,h4,_⟩;refine fM (vs:=[f 2]) (by rfl) (by rfl) om ?_;rw [h1];have hfl:=aB hc l;have hcl:(l.flatMap c).all cP=true:=by rw [List.all_flatMap]; exact List.all_eq_true.2 fun x hx=>(ho x hx).2
  show fx s.n s' (.own s.n 0 l.length (l.length * es))=_;unfold fx;simp only [h4];rw [if_neg (Nat.lt_irrefl _),List.drop_zero,Nat.sub_zero,List.take_of_length_le om,if_pos ⟨Nat.le_refl _,om,Nat.zero_le _,hcl⟩];cases l with
  | nil=>exact absurd rfl hy
  | cons x l=>rfl
theorem JV {α:Type}{t es bytes G:Nat}{z:List Value}{c:α→List PV} (hG:Γ G=some (jJ t es bytes z true)) (hc:∀x,(c x).length=es) (hby:bytes≤1024) {l:List α} (hl:l≠[]) (hbig:l.length≤16777216) (ho:∀x∈l,(c x).all cL=true) (s:PS) :
  ∃s',aD P Γ ext G [aK t c (some l)] s=some (.own s.n 0 l.length (l.length * es),s')∧s'.n=s.n + 1∧s'.w=min s.w s.n∧s'.h s.n=⟨l.flatMap c,l.length * es,t⟩∧∀j,j < s.n→s'.h j=s.h j:=by
 obtain⟨f,s1,e1,h1,h2,h3,h4,h5⟩:=EH (P:=P) (Γ:=Γ) (ext:=ext) (G:=G) (t:=t) (e:=t) (bytes:=bytes) (z:=z) (keep:=true) hc hby hl hbig ho s;refine⟨⟨s1.h,s1.n,min s.w s1.w⟩,?_,h2,by show min s.w s1.w=_; rw [h3],h4,h5⟩;rw [dT hG _ _ (by simp [jJ]),e1,jI];unfold ek;show (ii f s1 [.tmp 2]).bind _=_;simp only [ii,h1,Option.map_some,Option.bind_some];rfl
theorem Fz {α:Type}{t es bytes G:Nat}{z:List Value}{c:α→List PV} (hG:Γ G=some (jJ t es bytes z true)) {y:Option (List α)} (hy:y.getD []=[]) (s:PS) :
  aD P Γ ext G [aK t c y] s=some (.sc (.slice none 0 0),⟨s.h,s.n,min s.w s.n⟩):=by
 obtain⟨f,s1,e1,h1,rfl⟩:=En (P:=P) (Γ:=Γ) (ext:=ext) (G:=G) (t:=t) (e:=t) (es:=es) (bytes:=bytes) (z:=z) (keep:=true) (c:=c) hy s;rw [dT hG _ _ (by simp [jJ]),e1,jI];unfold ek;show (ii f _ [.tmp 2]).bind _=_;simp only [ii,h1,Option.map_some,Option.bind_some];rfl
theorem FM {α:Type}{t es g kb:Nat}{c:α→List PV} (hc:∀x,(c x).length=es) (hes:es≠0) {l:List α} (hbig:l.length≤16777216) (hes2:es≤1000) {cp:α→α} (hr:∀x∈l,∀s,aD P Γ ext g [.agg (c x)] s=some (.agg (c (cp x)),s)) (ho:∀x∈l,(c (cp x)).all cL=true) {n0:Nat} (hk:n0≤kb) :
  ∀(j i:Nat) (f:aR) (s:PS),i + j=l.length→n0≤s.w→kb < s.n→f 1=.fn g [] []→f 5=.own kb 0 l.length (l.length * es)→f 10=.sc (.int .i64 (l.length:Int))→f 11=iN i→s.h kb=⟨((l.take i).map cp ++ l.drop i).flatMap c,l.length * es,t⟩→
  Er (fun f' s'=>n0≤s'.w∧f' 4=.own kb 0 l.length (l.length * es)∧s'.h kb=⟨(l.map cp).flatMap c,l.length * es,t⟩) (LP P Γ ext 0 (AN t es) Ep f s):=by
 intro j
 induction j with
 | zero=>
  intro i f s hij hw hkn h1 h5 h10 h11 hh;have e1:decide (i < l.length)=false:=df;rw [List.take_of_length_le om,List.drop_of_length_le om,List.append_nil] at hh;refine ad fun L hL=>?_;unfold AN Ep;refine xz h5 h10 h11 e1 ?_;exact⟨hw,hh⟩
 | succ j ih=>
  intro i f s hij hw hkn h1 h5 h10 h11 hh;have hl:i < l.length:=om;have e1:decide (i < l.length)=true:=decide_eq_true hl;have hx:l[i]?=some l[i]:=List.getElem?_eq_getElem hl;have hcall:=hr l[i] (List.getElem_mem ..);have hone:=ho l[i] (List.getElem_mem ..);have hdr:l.drop i=l[i] :: l.drop (i + 1):=List.drop_eq_getElem_cons hl;have htk:(l.take (i + 1)).map cp=(l.take i).map cp ++ [cp l[i]]:=by rw [List.take_add_one,hx,List.map_append]; rfl
  generalize l[i]=x at *;have hA:(((l.take i).map cp).flatMap c).length=i * es:=by rw [aB hc,List.length_map,List.length_take,Nat.min_eq_left om]
  have hcx:=hc x;have hcy:=hc (cp x);have hB:=aB hc (l.drop (i + 1));rw [List.length_drop] at hB;have hmul:i * es + es + (l.length - (i + 1)) * es=l.length * es:=by
   rw [show l.length=i + 1 + (l.length - (i + 1)) by omega,Nat.add_mul,Nat.add_mul,Nat.one_mul,show i + 1 + (l.length - (i + 1)) - (i + 1)=l.length - (i + 1) by omega]
  rw [hdr,List.flatMap_append,List.flatMap_cons] at hh;generalize hAA:((l.take i).map cp).flatMap c=A at *;generalize hBB:(l.drop (i + 1)).flatMap c=B at *;have hlen:(A ++ (c x ++ B)).length=l.length * es:=by rw [List.length_append,List.length_append,hA,hcx,hB]; omega
  have hld:BU s (.ptr kb (i * es) (l.length * es)) es=some (c x):=by
   unfold BU;simp only [hh];rw [if_pos ⟨om,Nat.le_refl _,om⟩,List.drop_append,List.drop_of_length_le om,List.nil_append,hA,Nat.sub_self,List.drop_zero,List.take_left' hcx]
  have hst:FA s (.ptr kb (i * es) (l.length * es)) (c (cp x))=some (s.put kb ⟨A ++ (c (cp x) ++ B),l.length * es,t⟩):=by
   unfold FA;simp only [hh];rw [if_pos ⟨om,om,hone⟩,List.take_left' hA,hcy,List.drop_append,List.drop_of_length_le om,List.nil_append,hA,show i * es + es - i * es=es by omega,List.drop_left' hcx]
  refine ad fun L hL=>?_;unfold AN;refine Di h1 h5 h10 h11 hl hld hst hcall hcy ?_;subst hL;refine ih (i + 1) _ _ om ?_ ?_ (aX h1) (aX h5) (aX h10) aQ ?_
  ·rw [jz]; omega
  ·rw [dn]; exact hkn
  ·rw [dz,if_pos rfl,htk,List.flatMap_append,List.flatMap_append,hAA,hBB];simp
theorem Or {α:Type}{t es bytes G H g:Nat}{z:List Value}{c:α→List PV} (hG:Γ G=some (kQ t es H)) (hH:Γ H=some (jJ t es bytes z true)) (hc:∀x,(c x).length=es) (hes:es≠0) (hes2:es≤1000) (hby:bytes≤1024) {y:Option (List α)} (hbig:(y.getD []).length≤16777216) {cp:α→α} (ho:∀x∈y.getD [],(c x).all cL=true∧(c (cp x)).all cL=true∧(c (cp x)).all cP=true)
  (hr:∀x∈y.getD [],∀s,aD P Γ ext g [.agg (c x)] s=some (.agg (c (cp x)),s)) (s:PS) :
  aD P Γ ext G [aK t c y,.fn g [] []] s=some (aK t c (dx ((y.getD []).map cp)),s):=by
 by_cases hy:y.getD []=[]
 ·rw [hy];refine eI (fn:=kQ t es H) (r:=4) hG (by simp [kQ]) (by rfl) (by rfl) ?_;have h0:=Fz (P:=P) (ext:=ext) (c:=c) hH hy;have z0:decide ((0:Int) < 0)=false:=rfl;unfold kQ;refine pJ h0 ?_;refine ad fun L hL=>?_;unfold AN Ep;exact aX z0
 ·obtain⟨l,rfl⟩ : ∃l,y=some l:=by cases y with | none=>exact absurd rfl hy | some l=>exact⟨l,rfl⟩
  simp only [Option.getD_some] at hy hbig ho hr ⊢;obtain⟨s1,h1,h2,h3,h4,h5⟩:=JV (P:=P) (ext:=ext) hH hc hby hy hbig (fun x hx=>(ho x hx).1) ⟨s.h,s.n,s.n⟩;have h3':s1.w=s.n:=by rw [h3]; exact Nat.min_self _
  simp only at h1 h2 h4 h5;refine ir (V:=fun f' s'=>s.n≤s'.w∧f' 4=.own s.n 0 l.length (l.length * es)∧s'.h s.n=⟨(l.map cp).flatMap c,l.length * es,t⟩) hG (by simp [kQ]) ?_ ?_
  ·unfold kQ;refine pJ h1 ?_;exact FM hc hes hbig hes2 hr (fun x hx=>(ho x hx).2.1) (Nat.le_refl _) l.length 0 _ _ (Nat.zero_add _) om om aQ aQ aQ aQ (by rw [List.take_zero,List.drop_zero]; exact h4)
  ·rintro f s' ⟨hw,g1,g2⟩;refine fM (vs:=[f 4]) (by rfl) (by rfl) hw ?_;rw [g1];have hfl:=aB hc (l.map cp);rw [List.length_map] at hfl;have hcl:((l.map cp).flatMap c).all cP=true:=by
    rw [List.all_flatMap];refine List.all_eq_true.2 fun x hx=>?_;obtain⟨w,hw,rfl⟩:=List.mem_map.1 hx;exact (ho w hw).2.2
   show fx s.n s' (.own s.n 0 l.length (l.length * es))=_;unfold fx;simp only [g2];rw [if_neg (Nat.lt_irrefl _),List.drop_zero,Nat.sub_zero,List.take_of_length_le om,if_pos ⟨Nat.le_refl _,om,Nat.zero_le _,hcl⟩];cases l with
   | nil=>exact absurd rfl hy
   | cons x l=>simp only [List.map_cons,dx,aK,List.length_cons,List.length_map]
end
end Go.PE
namespace Go.Proofs.YtgkggocjoolciaaGreatDoor
open Go Go.EvL Go.PE Go.Mir
variable {ext:aq}
theorem Cn {t:List UInt8}{p:Nat}{r:R} (hp:fN t p r) {d:Nat}{v:PV}{l:List aJ} (h:aL d v) (hl:tA l v):∀ps j,r=.ok (ps,j)→(∀s,Pc ext 141 [cS ps,v] (.sc (.bool (kF ps l))) s)∧∀s,Pc ext 149 [cS ps,v] (.sc (.bool (kF ps l))) s:=by
 rintro ps j rfl;obtain⟨e,he⟩:=rp hp;exact Ix (max d e) _ _ _ _ (he.mono (Nat.le_max_right ..)) (h.mono (Nat.le_max_left ..)) (Oi ps) hl
theorem EG {l:List aJ} (hsz:gK l < 1000000000000):∃(b:Bool) (T:List UInt8) (b5:Bool) (T5:List UInt8),∀d v,aL d v→tA l v→(∀s,Pc ext 240 [v] (.sc (.int .i64 (if b then 0 else 1))) s)∧
  (∀s,Pc ext 250 [v] (.tup [.sc (.string ⟨⟨T⟩⟩),.sc (.int .i64 (if b then 0 else 1))]) s)∧∀s,Pc ext 251 [v] (.tup [.sc (.string ⟨⟨T5⟩⟩),.sc (.bool b5)]) s:=by
 obtain⟨r,hr⟩:=fN.total (dF 0 l) 0;obtain⟨r5,hr5⟩:=fN.total (dF 5 l) 5;refine⟨EC (fun ps=>kF ps l) r,if EC (fun ps=>kF ps l) r then dF 0 l else [],EC (fun ps=>kF ps l) r5,dF 5 l,fun d v h hl=>⟨fun s=>?_,fun s=>?_,fun s=>?_⟩⟩
 ·exact yp hsz hl (fun ps j e=>(Cn hr h hl ps j e).2) hr s
 ·exact Iy hsz hl (fun ps j e=>(Cn hr h hl ps j e).2) hr s
 ·exact uJ hsz hl (fun ps j e=>(Cn hr5 h hl ps j e).2) hr5 s
theorem tA.len {l:List aJ}{v:PV} (h:tA l v):gq false v=some (.sc (.int .i64 (l.length:Int))):=by
 obtain⟨y,rfl,h⟩:=h;rw [bE,h.length]
theorem Ot {l:List aJ} (hsz:gK l < 1000000000000):∃(b1 b2:Bool),∀d v,aL d v→tA l v→okW ext v=b1∧okV ext v=b2:=by
 obtain⟨b,T,b5,T5,hall⟩:=EG (ext:=ext) hsz;refine⟨b && decide (0 < l.length) && !T.isEmpty && !(bt T 0 == 35),b,fun d v h hl=>?_⟩;obtain⟨h1,h2,h3⟩:=hall d v h hl;exact⟨gj fun s=>Jk (ext:=ext) hl.len h.one'.2 h2 s,y7 h1⟩
theorem lz.one {l:List aJ}{xs xs':List ar} (h:lz l xs) (h':lz l xs') (b:Bool):vQ xs b=vQ xs' b∧gJ xs=gJ xs':=by
 match l with
 | []=>rw [h.nil,h'.nil]; exact⟨rfl,rfl⟩
 | [p]=>
  obtain⟨x,r,rfl,h1,h2⟩:=h.cons;obtain⟨x',r',rfl,h1',h2'⟩:=h'.cons;rw [h2.nil,h2'.nil];cases p with
  | mk k t o c ps=>
   rw [tH] at h1 h1';obtain⟨e1,e2,e3,e4,y,e5,e6⟩:=h1;obtain⟨g1,g2,g3,g4,z,g5,g6⟩:=h1';have q:=e6.length;have q':=g6.length;simp only [vQ,I4,gJ,FD,D9,CG,e1,e2,e3,e4,e5,g1,g2,g3,g4,g5,Ef,q,q',and_self]
 | p :: q :: l=>
  obtain⟨x,r,rfl,h1,h2⟩:=h.cons;obtain⟨x',r',rfl,h1',h2'⟩:=h'.cons;obtain⟨y,r,rfl,_,_⟩:=h2.cons;obtain⟨y',r',rfl,_,_⟩:=h2'.cons;cases p with
  | mk k t o c ps=>
   rw [tH] at h1 h1';obtain⟨e1,e2,_⟩:=h1;obtain⟨g1,g2,_⟩:=h1';simp only [vQ,gJ,FD,D9,CG,e1,e2,g1,g2,and_self]
theorem QW {l:List aJ} (hsz:gK l < 1000000000000) {d d':Nat}{v v':PV} (h:aL d v) (h':aL d' v') (hl:tA l v) (hl':tA l v') (hb:v.bulk≤16777216) (hb':v'.bulk≤16777216):okH ext v=okH ext v':=by
 obtain⟨b,T,b5,T5,hall⟩:=EG (ext:=ext) hsz;have key:∀d v,aL d v→tA l v→v.bulk≤16777216→∃y,v=aK 150 ar.cells y∧lz l (y.getD [])∧okH ext v=vQ (y.getD []) b5:=by
  intro d v h hl hb;have h3:=(hall d v h hl).2.2;cases d with
  | zero=>cases h
  | succ d=>
   obtain⟨y,rfl,h1,h2⟩:=h;obtain⟨t1,t2⟩:=vK hb;obtain⟨y2,e2,hD⟩:=hl;obtain rfl:=eF ar.inj ar.len e2;exact⟨y,rfl,hD,gj fun s=>Ig (ext:=ext) (y:=y) om (fun p hp=>⟨by have:=(t2 p hp).1; omega,(h2 p hp).sl⟩) h3 s⟩
 obtain⟨y,_,g1,g2⟩:=key d v h hl hb;obtain⟨y',_,g1',g2'⟩:=key d' v' h' hl' hb';rw [g2,g2',(g1.one g1' b5).1]
theorem Om {l:List aJ}{v v':PV} (hl:tA l v) (hl':tA l v'):gJ (Eu v)=gJ (Eu v'):=by
 obtain⟨y,e,hD⟩:=hl;obtain⟨y',e',hD'⟩:=hl';obtain⟨z,g,gp⟩:=D3 ⟨y,e⟩;obtain⟨z',g',gp'⟩:=D3 ⟨y',e'⟩;obtain rfl:=eF ar.inj ar.len (e.symm.trans g);obtain rfl:=eF ar.inj ar.len (e'.symm.trans g');rw [← gp,← gp'];exact (hD.one hD' true).2
theorem iK {α:Type}{c:α→List PV}{Q:α→α→Prop} (hq:∀y x,Q y x→aM (c y)≤aM (c x)) {l m:List α} (h:eb Q l m):aM (l.flatMap c)≤aM (m.flatMap c):=by
 induction h with
 | nil=>exact Nat.le_refl _
 | cons x y l m h _ ih=>
  rw [List.flatMap_cons,List.flatMap_cons,iL,iL];have:=hq _ _ h;omega
theorem eb.right {α β:Type}{Q:α→β→Prop}{R:β→Prop}{l:List α}{m:List β} (h:eb Q l m):(∀y∈m,R y)→eb (fun a b=>Q a b∧R b) l m:=by
 induction h with
 | nil=>exact fun _=>.nil
 | cons x y l m h _ ih=>exact fun hr=>.cons _ _ _ _ ⟨h,hr y (List.mem_cons_self ..)⟩ (ih fun z hz=>hr z (List.mem_cons_of_mem _ hz))
theorem eb.all_eq {α β:Type}{Q:α→β→Prop}{f:α→Bool}{g:β→Bool} (hq:∀x y,Q x y→f x=g y) {l:List α}{m:List β} (h:eb Q l m):l.all f=m.all g:=by
 induction h with
 | nil=>rfl
 | cons x y l m h _ ih=>rw [List.all_cons,List.all_cons,hq _ _ h,ih]
theorem pF.all:∀(d:Nat) (y x:PV),pF d y x→aL d x→aL d y∧y.bulk≤x.bulk∧∀l,tA l x→tA l y:=by
 intro d
 induction d with
 | zero=>intro y x _ h; cases h
 | succ d ih=>
  rintro y x h ⟨m,rfl,hm,hm'⟩;obtain⟨l,rfl,h2⟩:=gQ.lists (c:=ar.cells) ar.inj ar.len (show gQ 150 ar.cells _ y _ from h) rfl;have h3:=h2.right hm';have hlen:=h2.len;refine⟨⟨l,rfl,om,fun z hz=>?_⟩,?_,?_⟩
  ·obtain⟨w,hw,hq,hp⟩:=h3.mem z hz;exact (ih _ _ hq.2 hp).1
  ·rw [← dB,← dB];have:=iK (c:=ar.cells) (fun z w hq=>by
    have h1:=(ih _ _ hq.1.2 hq.2).2.1;simp only [ar.cells,ch,ck,hq.1.1.2.1];have e1:(PV.sc (.int .i64 z.kind)).bulk=(PV.sc (.int .i64 w.kind)).bulk:=by simp only [PV.bulk,BP]
    have e2:(PV.sc (.int .i64 z.op)).bulk=(PV.sc (.int .i64 w.op)).bulk:=by simp only [PV.bulk,BP]
    have e3:(PV.sc (.bool z.colon)).bulk=(PV.sc (.bool w.colon)).bulk:=by simp only [PV.bulk,BP]
    omega) h3
   omega
  ·rintro L ⟨m2,e2,hD⟩;obtain rfl:=eF ar.inj ar.len e2;refine⟨l,rfl,?_⟩;generalize m.getD []=M at *;generalize l.getD []=N at *;clear hm hlen h2 h e2
   induction h3 generalizing L with
   | nil=>exact hD
   | cons z w N M hq _ ih2=>
    cases L with
    | nil=>rw [lz] at hD; cases hD
    | cons p L=>
     obtain⟨w',M',e,k1,k2⟩:=hD.cons;cases e;rw [lz];refine⟨z,N,rfl,?_,ih2 _ (fun v hv=>hm' v (List.mem_cons_of_mem _ hv)) k2⟩;cases p with
     | mk k t o c ps=>
      rw [tH] at k1 ⊢;obtain⟨q1,q2,q3,q4,q5⟩:=k1;obtain⟨⟨a1,a2,a3,a4⟩,a5⟩:=hq.1;have hk:=(ih _ _ a5 hq.2).2.2 ps q5;exact⟨a1.trans q1,a2.trans q2,a3.trans q3,a4.trans q4,hk⟩
theorem nl (k:IntKind) (a:Int):(PV.sc (.int k a)).bulk=1:=by simp only [PV.bulk,BP]
theorem Gf (b:Bool):(PV.sc (.bool b)).bulk=1:=by simp only [PV.bulk,BP]
theorem gM {D:Nat}{y x:PV} (h:pF D y x) (hx:aL D x) (hb:x.bulk≤16777216):aL D y∧y.bulk≤x.bulk∧okW ext y=okW ext x∧okV ext y=okV ext x∧okH ext y=okH ext x∧gJ (Eu y)=gJ (Eu x):=by
 obtain⟨h1,h2,h3⟩:=pF.all D y x h hx;obtain⟨l,hl⟩:=hx.read;have hs:=mh hl;obtain⟨b1,b2,hw⟩:=Ot (ext:=ext) (l:=l) om;obtain⟨e1,e2⟩:=hw _ _ hx hl;obtain⟨g1,g2⟩:=hw _ _ h1 (h3 l hl);exact⟨h1,h2,g1.trans e1.symm,g2.trans e2.symm,QW om h1 hx (h3 l hl) hl om hb,Om (h3 l hl) hl⟩
theorem Fy {Q:aw→aw→Prop}{f g:aw→Bool} (hq:∀y x,Q y x→f y=g x) {l m:List aw} (h:eb Q l m):mW l f=mW m g:=by
 cases h with
 | nil=>rfl
 | cons y x l m h _=>exact hq y x h
theorem sw {D:Nat} : ∀(d:Nat) (y x:am),mS D d y x→bC D d x→aM x.cells≤16777216→bC D d y∧aM y.cells≤aM x.cells∧uy ext y=uy ext x∧kI ext y=kI ext x∧kM ext y=kM ext x∧iy ext y=iy ext x:=by
 intro d
 induction d with
 | zero=>intro y x h; cases h
 | succ d ih=>
  intro y x h hx hN;obtain⟨la,lw,lr,lk,li,pt,bd,la',lw',lr',lk',li',pt',bd',hd,a1,w1,r1,k1,i1,hpt',hbd',a2,w2,r2,k2,i2⟩:=IG hx h;obtain⟨n1,n2,n3,n4⟩:=hd.sizes hN;have hmem:∀p∈x.cells,p.bulk≤16777216:=fun p hp=>Nat.le_trans (ga hp) hN;have hba:=hmem x.assigns (by simp [am.cells]);have hbw:=hmem x.words (by simp [am.cells]);have hbr:=hmem x.redirs (by simp [am.cells]);have hbk:=hmem x.kids (by simp [am.cells]);have hbi:=hmem x.items (by simp [am.cells]);have hA:=fun a (ha:a∈la.getD [])=>hd.words a.val (by
   simp only [eC,List.mem_append,List.mem_map];exact .inl (.inl (.inl ⟨a,ha,rfl⟩)))
  have hW:=fun w (hw:w∈lw.getD [])=>hd.words w (by
   simp only [eC,List.mem_append];exact .inl (.inl (.inr hw)))
  have hR:=fun r (hr:r∈lr.getD [])=>hd.words r.tgt (by
   simp only [eC,List.mem_append,List.mem_map];exact .inl (.inr ⟨r,hr,rfl⟩))
  have hI:=fun it (hi:it∈li.getD []) w (hw:w∈(pt it).getD [])=>hd.words w (by
   simp only [eC,List.mem_append,List.mem_flatMap];exact .inr ⟨it,hi,hw⟩)
  have hK:=fun k (hk:k∈lk.getD [])=>hd.kids k (by
   simp only [iM,List.mem_append];exact .inl hk)
  have hB:=fun it (hi:it∈li.getD []) k (hk:k∈(bd it).getD [])=>hd.kids k (by
   simp only [iM,List.mem_append,List.mem_flatMap];exact .inr ⟨it,hi,hk⟩)
  have hpb:∀it∈li.getD [],it.pats.bulk≤16777216∧it.body.bulk≤16777216:=fun it hi=>
   ⟨(du hd.i hi (p:=it.pats) (by simp [aF.cells]) hbi).1,(du hd.i hi (p:=it.body) (by simp [aF.cells]) hbi).1⟩
  have A:=a2.right (R:=fun a=>aL D a.parts∧a.parts.bulk≤16777216) fun a ha=>⟨hA a ha,(du hd.a ha (p:=a.parts) (by simp [ax.cells]) hba).1⟩
  have W:=w2.right (R:=fun w=>aL D w.parts∧w.parts.bulk≤16777216) fun w hw=>⟨hW w hw,(du hd.w hw (p:=w.parts) (by simp [aw.cells]) hbw).1⟩
  have R:=r2.right (R:=fun r=>aL D r.parts∧r.parts.bulk≤16777216) fun r hr=>⟨hR r hr,(du hd.r hr (p:=r.parts) (by simp [aA.cells]) hbr).1⟩
  have K:=k2.right (R:=fun k=>bC D d k∧aM k.cells≤16777216) fun k hk=>⟨hK k hk,(du hd.k hk (p:=.sc (.int .i64 k.kind)) (by simp [am.cells]) hbk).2⟩
  have I:eb (fun j i=>(eb (fun (b a:aw)=>uw D b a∧aL D a.parts∧a.parts.bulk≤16777216) ((pt' j).getD []) ((pt i).getD [])∧eb (fun b a=>mS D d b a∧bC D d a∧aM a.cells≤16777216) ((bd' j).getD []) ((bd i).getD []))∧(i.pats=aK 97 aw.cells (pt i)∧i.body=aK 69 am.cells (bd i))∧j.pats=aK 97 aw.cells (pt' j)∧j.body=aK 69 am.cells (bd' j)) (li'.getD []) (li.getD []):=by
   refine .of_get i2.len fun n j i hj hi=>?_;obtain⟨q1,q2⟩:=i2.get n j i hj hi;have mj:=List.mem_of_getElem? hj;have mi:=List.mem_of_getElem? hi;refine⟨⟨q1.right fun w hw=>⟨hI i mi w hw,(du (hd.hpt i mi) hw (p:=w.parts) (by simp [aw.cells]) (hpb i mi).1).1⟩,q2.right fun k hk=>⟨hB i mi k hk,(du (hd.hbd i mi) hk (p:=.sc (.int .i64 k.kind)) (by simp [am.cells]) (hpb i mi).2).2⟩⟩,⟨hd.hpt i mi,hd.hbd i mi⟩,hpt' j mj,hbd' j mj⟩
  have lens:∀{j i:aF},i∈li.getD []→((pt i).getD []).length≤16777216∧((bd i).getD []).length≤16777216:=fun {j i} hi=>
   ⟨lq (hd.hpt i hi) (fun x=>by rw [aw.len]; omega) (hpb i hi).1,lq (hd.hbd i hi) (fun x=>by rw [am.len]; omega) (hpb i hi).2⟩
  have hy:bC D (d + 1) y:=by
   refine⟨⟨la',a1,by rw [A.len]; omega,fun z hz=>?_⟩,⟨lw',w1,by rw [W.len]; omega,fun z hz=>?_⟩,⟨lr',r1,by rw [R.len]; omega,fun z hz=>?_⟩,⟨lk',k1,by rw [K.len]; omega,fun z hz=>?_⟩,⟨li',i1,by rw [I.len]; omega,fun z hz=>?_⟩⟩
   ·obtain⟨w,hw,hq,hp⟩:=A.mem z hz;exact (gM (ext:=ext) hq.2 hp.1 hp.2).1
   ·obtain⟨w,hw,hq,hp⟩:=W.mem z hz;exact (gM (ext:=ext) hq.2 hp.1 hp.2).1
   ·obtain⟨w,hw,hq,hp⟩:=R.mem z hz;exact (gM (ext:=ext) hq.2 hp.1 hp.2).1
   ·obtain⟨w,hw,hq,hp⟩:=K.mem z hz;exact (ih z w hq hp.1 hp.2).1
   ·obtain⟨i,hi,⟨q1,q2⟩,_,p1,p2⟩:=I.mem z hz;obtain⟨l1,l2⟩:=lens (j:=z) hi;refine⟨⟨pt' z,p1,by rw [q1.len]; omega,fun v hv=>?_⟩,⟨bd' z,p2,by rw [q2.len]; omega,fun v hv=>?_⟩⟩
    ·obtain⟨w,hw,hq,hp⟩:=q1.mem v hv;exact (gM (ext:=ext) hq.2 hp.1 hp.2).1
    ·obtain⟨w,hw,hq,hp⟩:=q2.mem v hv;exact (ih v w hq hp.1 hp.2).1
  have bA:aM ((la'.getD []).flatMap ax.cells)≤aM ((la.getD []).flatMap ax.cells):=iK (fun v w hq=>by
   have h1:=(gM (ext:=ext) hq.1.2 hq.2.1 hq.2.2).2.1;simp only [ax.cells,ch,ck,hq.1.1.2.1,nl];omega) A
  have bW:aM ((lw'.getD []).flatMap aw.cells)≤aM ((lw.getD []).flatMap aw.cells):=iK (fun v w hq=>by
   have h1:=(gM (ext:=ext) hq.1.2 hq.2.1 hq.2.2).2.1;simp only [aw.cells,ch,ck,nl];omega) W
  have bR:aM ((lr'.getD []).flatMap aA.cells)≤aM ((lr.getD []).flatMap aA.cells):=iK (fun v w hq=>by
   have h1:=(gM (ext:=ext) hq.1.2 hq.2.1 hq.2.2).2.1;simp only [aA.cells,ch,ck,nl];omega) R
  have bK:aM ((lk'.getD []).flatMap am.cells)≤aM ((lk.getD []).flatMap am.cells):=iK (fun v w hq=>(ih v w hq.1 hq.2.1 hq.2.2).2.1) K;have bI:aM ((li'.getD []).flatMap aF.cells)≤aM ((li.getD []).flatMap aF.cells):=iK (fun j i hq=>by
   obtain⟨⟨q1,q2⟩,⟨e1,e2⟩,p1,p2⟩:=hq;have c1:=iK (c:=aw.cells) (fun v w hq=>by
    have h1:=(gM (ext:=ext) hq.1.2 hq.2.1 hq.2.2).2.1;simp only [aw.cells,ch,ck,nl];omega) q1
   have c2:=iK (c:=am.cells) (fun v w hq=>(ih v w hq.1 hq.2.1 hq.2.2).2.1) q2;simp only [aF.cells,ch,ck,e1,e2,p1,p2,← dB];omega) I
  obtain⟨⟨f1,f2,f3,f4⟩,_⟩:=h;have hbulk:aM y.cells≤aM x.cells:=by
   simp only [am.cells,ch,ck,a1,w1,r1,k1,i1,hd.a,hd.w,hd.r,hd.k,hd.i,← dB,f3,nl,Gf];omega
  obtain⟨la2,lw2,lr2,lk2,li2,pt2,bd2,hd'⟩:=hy.dec;obtain rfl:=eF ax.inj ax.len (a1.symm.trans hd'.a);obtain rfl:=eF aw.inj aw.len (w1.symm.trans hd'.w);obtain rfl:=eF aA.inj aA.len (r1.symm.trans hd'.r);obtain rfl:=eF am.inj am.len (k1.symm.trans hd'.k);obtain rfl:=eF aF.inj aF.len (i1.symm.trans hd'.i);have hN':aM y.cells≤16777216:=Nat.le_trans hbulk hN;have ep:∀j∈li'.getD [],pt2 j=pt' j∧bd2 j=bd' j:=fun j hj=>
   ⟨eF aw.inj aw.len ((hd'.hpt j hj).symm.trans (hpt' j hj)),eF am.inj am.len ((hd'.hbd j hj).symm.trans (hbd' j hj))⟩
  have I2:eb (fun j i=>((eb (fun (b a:aw)=>uw D b a∧aL D a.parts∧a.parts.bulk≤16777216) ((pt2 j).getD []) ((pt i).getD [])∧eb (fun b a=>mS D d b a∧bC D d a∧aM a.cells≤16777216) ((bd2 j).getD []) ((bd i).getD [])))) (li'.getD []) (li.getD []):=by
   refine .of_get I.len fun n j i hj hi=>?_;obtain⟨q,_⟩:=I.get n j i hj hi;obtain⟨g1,g2⟩:=ep j (List.mem_of_getElem? hj);rw [g1,g2];exact q
  have KK:eb (fun b a=>mS D d b a∧bC D d a∧aM a.cells≤16777216) (iM (lk'.getD []) (li'.getD []) bd2) (iM (lk.getD []) (li.getD []) bd):=by
   unfold iM;exact K.append (I2.flat fun x y _ _ h=>h.2)
  have hr:=fun s=>hd.kids_ok (ext:=ext) hN s;have hr':=fun s=>hd'.kids_ok (ext:=ext) hN' s;have kk:kinds (lk'.getD [])=kinds (lk.getD []):=K.map_eq fun v w hq=>by
   have hq:=hq.1;cases d with
   | zero=>cases hq
   | succ d=>exact hq.1.1
  have hown:uy ext y=uy ext x:=by
   rw [show uy ext y=_ from gj fun s=>C3 hd' hN' s,show uy ext x=_ from gj fun s=>C3 hd hN s];unfold TP;rw [f1,kk];rw [W.all_eq (f:=fun w=>okW ext w.parts) (g:=fun w=>okW ext w.parts) fun v w hq=>(gM hq.1.2 hq.2.1 hq.2.2).2.2.1];rw [R.all_eq (f:=Aa (okW ext) (okH ext)) (g:=Aa (okW ext) (okH ext)) fun v w hq=>by
    obtain⟨_,_,g1,_,g2,_⟩:=gM (ext:=ext) hq.1.2 hq.2.1 hq.2.2;unfold Aa;rw [hq.1.1.2.1,hq.1.1.2.2.1,g1,g2]]
   rw [I2.all_eq (f:=rU (okW ext) pt2 bd2) (g:=rU (okW ext) pt bd) fun j i hq=>by
    unfold rU;have e1:=hq.1.len;have e2:kinds ((bd2 j).getD [])=kinds ((bd i).getD []):=hq.2.map_eq fun v w hq=>by
     have hq:=hq.1;cases d with
     | zero=>cases hq
     | succ d=>exact hq.1.1
    have e3:((pt2 j).getD []).isEmpty=((pt i).getD []).isEmpty:=by
     cases h1:(pt2 j).getD []<;>cases h2:(pt i).getD []<;>rw [h1,h2] at e1<;>first | rfl | cases e1
    rw [e2,e3,hq.1.all_eq (f:=fun w=>okW ext w.parts) (g:=fun w=>okW ext w.parts) fun v w hq=>(gM hq.1.2 hq.2.1 hq.2.2).2.2.1]]
   have hsb:oH (okV ext) Eu y (la'.getD []) (lw'.getD []) (lr'.getD []).length (li'.getD []).length=oH (okV ext) Eu x (la.getD []) (lw.getD []) (lr.getD []).length (li.getD []).length:=by
    unfold oH;rw [f3,f4,A.len,W.len,R.len,I.len,A.all_eq (f:=fun a=>fV a.name.data.toList && okV ext a.parts) (g:=fun a=>fV a.name.data.toList && okV ext a.parts) fun v w hq=>by
     rw [hq.1.1.2.1,(gM (ext:=ext) hq.1.2 hq.2.1 hq.2.2).2.2.2.1]]
    rw [Fy (f:=fun w=>gJ (Eu w.parts)) (g:=fun w=>gJ (Eu w.parts)) (fun v w hq=>(gM (ext:=ext) hq.1.2 hq.2.1 hq.2.2).2.2.2.2.2) W]
   rw [hsb,f3,f4,A.len,W.len,R.len,I.len]
  have hform:kI ext y=kI ext x:=by
   rw [(Cw (d + 1) y hy hN').2.2 _ hr',(Cw (d + 1) x hx hN).2.2 _ hr,hown,KK.all_eq (f:=kI ext) (g:=kI ext) fun v w hq=>(ih v w hq.1 hq.2.1 hq.2.2).2.2.2.1]
  obtain⟨s1,s2⟩:=(CC (ext:=ext) (d + 1) y hy hN').2 _ hr';obtain⟨s3,s4⟩:=(CC (ext:=ext) (d + 1) x hx hN).2 _ hr;refine⟨hy,hbulk,hown,hform,?_,?_⟩
  ·rw [s1,s3,KK.map_eq (f:=kM ext) (g:=kM ext) fun v w hq=>(ih v w hq.1 hq.2.1 hq.2.2).2.2.2.2.1]
  ·rw [s2,s4,KK.map_eq (f:=iy ext) (g:=iy ext) fun v w hq=>(ih v w hq.1 hq.2.1 hq.2.2).2.2.2.2.2]
theorem Bo {D d:Nat}{y x:am} (h:mS D d y x) (hx:bC D d x) (hN:aM x.cells≤16777216):qL ext y=qL ext x:=by
 obtain⟨_,_,_,h1,h2,h3⟩:=sw (ext:=ext) d y x h hx hN;unfold qL;rw [h1,h2,h3]
end Go.Proofs.YtgkggocjoolciaaGreatDoor
namespace Go.Proofs.YtgkggocjoolciaaGreatDoor
open Go Go.EvL Go.PE
variable {ext:aq}
theorem iH {α:Type}{t es bytes:Nat}{z:List Value}{c:α→List PV} (hc:∀x,(c x).length=es) (hes:es≠0) (hes2:es≤1000) (hby:bytes≤1024) {G H g:Nat} (hG:Γ G=some (kQ t es H)) (hH:Γ H=some (jJ t es bytes z true)) {R:α→α→Prop}{a:PV}{l:Option (List α)} (ha:a=aK t c l) (hbig:(l.getD []).length≤16777216)
  (ho:∀x∈l.getD [],(c x).all cL=true) (hR:∀x y,R y x→(c y).all cL=true∧(c y).all cP=true)
  (h:∀x∈l.getD [],∃y,(∀s,aD Tryz.prog Γ ext g [.agg (c x)] s=some (.agg (c y),s))∧R y x):∃b,(∀s,aD Tryz.prog Γ ext G [a,.fn g [] []] s=some (b,s))∧gQ t c R b a:=by
 subst ha;obtain⟨cp,hcp⟩:=LQ h;refine⟨aK t c (dx ((l.getD []).map cp)),fun s=>Or hG hH hc hes hes2 hby hbig (cp:=cp) (fun x hx=>⟨ho x hx,(hR _ _ (hcp x hx).2).1,(hR _ _ (hcp x hx).2).2⟩) (fun x hx=>(hcp x hx).1) s,_,l,rfl,rfl,?_,?_,fun i x y hx hy=>?_⟩
 ·rw [bV,List.length_map]
 ·rw [bV,List.length_map]; omega
 ·rw [bV,List.getElem?_map,hy] at hx;have hx':cp y=x:=by simpa using hx
  rw [← hx'];exact (hcp y (List.mem_of_getElem? hy)).2
theorem Ts:Γ 91=some (kQ 99 4 142):=(rfl)
theorem Sr:Γ 142=some (jJ 99 4 56 [(.int .i64 0),(.string ⟨#[]⟩),(.int .i64 0),(.slice none 0 0)] true):=(rfl)
theorem U1:Γ 143=some (kQ 150 5 178):=(rfl)
theorem Uu:Γ 178=some (jJ 150 5 64 [(.int .i64 0),(.string ⟨#[]⟩),(.int .i64 0),(.bool false),(.slice none 0 0)] true):=(rfl)
theorem Te:Γ 94=some (kQ 97 2 145):=(rfl)
theorem TG:Γ 145=some (jJ 97 2 32 [(.int .i64 0),(.slice none 0 0)] true):=(rfl)
theorem Uq:Γ 95=some (kQ 124 5 146):=(rfl)
theorem T0:Γ 146=some (jJ 124 5 56 [(.int .i64 0),(.int .i64 0),(.int .i64 0),(.int .i64 0),(.slice none 0 0)] true):=(rfl)
theorem Sl:Γ 97=some (kQ 69 9 147):=(rfl)
theorem Uc:Γ 147=some (jJ 69 9 160 [(.int .i64 0),(.int .i64 0),(.string ⟨#[]⟩),(.bool false),(.slice none 0 0),(.slice none 0 0),(.slice none 0 0),(.slice none 0 0),(.slice none 0 0)] true):=(rfl)
theorem Td:Γ 98=some (kQ 129 2 148):=(rfl)
theorem Us:Γ 148=some (jJ 129 2 48 [(.slice none 0 0),(.slice none 0 0)] true):=(rfl)
theorem Tm:Γ 56=some (kQ 71 10 90):=(rfl)
theorem TU:Γ 90=some (jJ 71 10 176 [(.string ⟨#[]⟩),(.int .i64 0),(.int .i64 0),(.string ⟨#[]⟩),(.bool false),(.slice none 0 0),(.slice none 0 0),(.slice none 0 0),(.slice none 0 0),(.slice none 0 0)] true):=(rfl)
theorem Tu (x:ar) (m:Option (List ar)) (h:∀s,Pc ext 143 [x.parts,.fn 144 [] []] (aK 150 ar.cells m) s) (s:PS) :
  Pc ext 144 [.agg x.cells] (.agg (ar.cells ⟨x.kind,x.text,x.op,x.colon,aK 150 ar.cells m⟩)) s:=by
 refine qC (s.n + 1) PO 2 5 ?_;unfold PO
 skip
 simp only [ar.cells];refine MS h @aS @dW @eD @eT @dr @gS ?_;exact⟨_,_,_,rfl,rfl,Nat.le_refl _,by simp only [iT,iw,iu,Option.bind_some,Option.map_some]⟩
theorem nh:∀(d:Nat) (a:PV),aL d a→a.bulk≤16777216→∃b,(∀s,Pc ext 143 [a,.fn 144 [] []] b s)∧pF d b a:=by
 intro d
 induction d with
 | zero=>intro a h; cases h
 | succ d ih=>
  rintro a ⟨l,ha,hl,hl'⟩ hb;have hn:=gY (e:=150) (c:=ar.cells) (fun y=>by rw [ar.len]; omega) l;have hbl:=dB 150 ar.cells l;rw [← ha] at hn hbl;refine iH (R:=fun y x=>(y.kind=x.kind∧y.text=x.text∧y.op=x.op∧y.colon=x.colon)∧pF d y.parts x.parts) ar.len (by decide) (by decide) (by decide) U1 Uu ha om (fun x hx=>ar.ones (hl' x hx)) (fun x y h=>FL h.2) (fun x hx=>?_);have hbx:x.parts.bulk≤16777216:=by
   have h1:=gw (c:=ar.cells) hx;have h2:=ga (p:=x.parts) (l:=x.cells) (by simp [ar.cells]);omega
  obtain⟨q,q1,q2⟩:=ih x.parts (hl' x hx) hbx;obtain⟨m,hm⟩ : ∃m,q=aK 150 ar.cells m:=by
   cases d with
   | zero=>cases q2
   | succ d=>obtain⟨m,_,h,_⟩:=q2; exact⟨m,h⟩
  subst hm;exact⟨⟨x.kind,x.text,x.op,x.colon,aK 150 ar.cells m⟩,Tu x m q1,⟨rfl,rfl,rfl,rfl⟩,q2⟩
theorem Pk (x:aw) (m:Option (List ar)) (h:∀s,Pc ext 143 [x.parts,.fn 144 [] []] (aK 150 ar.cells m) s) (s:PS) :
  Pc ext 93 [.agg x.cells] (.agg (aw.cells ⟨x.pos,aK 150 ar.cells m⟩)) s:=by
 refine qC (s.n + 1) UO 2 2 ?_;unfold UO
 skip
 simp only [aw.cells];refine wP h @aS @dW @dr @gS ?_;exact⟨_,_,_,rfl,rfl,Nat.le_refl _,by simp only [iT,iw,iu,Option.bind_some,Option.map_some]⟩
theorem UI (x:ax) (m:Option (List ar)) (h:∀s,Pc ext 93 [.agg (aw.cells ⟨x.vpos,x.parts⟩)] (.agg (aw.cells ⟨x.vpos,aK 150 ar.cells m⟩)) s) (s:PS) :
  Pc ext 92 [.agg x.cells] (.agg (ax.cells ⟨x.pos,x.name,x.vpos,aK 150 ar.cells m⟩)) s:=by
 refine qC (s.n + 1) VD 2 4 ?_;unfold VD;simp only [aw.cells] at h;simp only [ax.cells];refine wP h @aS @dW @eD @dr ?_;exact⟨_,_,_,rfl,rfl,Nat.le_refl _,by simp only [iT,iw,iu,Option.bind_some,Option.map_some]⟩
theorem UJ (x:aA) (m:Option (List ar)) (h:∀s,Pc ext 93 [.agg (aw.cells ⟨x.tpos,x.parts⟩)] (.agg (aw.cells ⟨x.tpos,aK 150 ar.cells m⟩)) s) (s:PS) :
  Pc ext 96 [.agg x.cells] (.agg (aA.cells ⟨x.pos,x.fd,x.op,x.tpos,aK 150 ar.cells m⟩)) s:=by
 refine qC (s.n + 1) Vn 2 5 ?_;unfold Vn;simp only [aw.cells] at h;simp only [aA.cells];refine xz h @aS @dW @dr ?_;exact⟨_,_,_,rfl,rfl,Nat.le_refl _,by simp only [iT,iw,iu,Option.bind_some,Option.map_some]⟩
theorem Vg (x:aF) (m:Option (List aw)) (k:Option (List am)) (h:∀s,Pc ext 94 [x.pats,.fn 93 [] []] (aK 97 aw.cells m) s) (h':∀s,Pc ext 97 [x.body,.fn 58 [] []] (aK 69 am.cells k) s) (s:PS) :
  Pc ext 99 [.agg x.cells] (.agg (aF.cells ⟨aK 97 aw.cells m,aK 69 am.cells k⟩)) s:=by
 refine qC (s.n + 1) VJ 2 2 ?_;unfold VJ
 skip
 simp only [aF.cells];refine wP h h' @aS @dr @gS ?_;exact⟨_,_,_,rfl,rfl,Nat.le_refl _,by simp only [iT,iw,Option.bind_some,Option.map_some]⟩
theorem UY (x:am) (ma:Option (List ax)) (mw:Option (List aw)) (mr:Option (List aA)) (mk:Option (List am)) (mi:Option (List aF))
  (h1:∀s,Pc ext 91 [x.assigns,.fn 92 [] []] (aK 99 ax.cells ma) s) (h2:∀s,Pc ext 94 [x.words,.fn 93 [] []] (aK 97 aw.cells mw) s) (h3:∀s,Pc ext 95 [x.redirs,.fn 96 [] []] (aK 124 aA.cells mr) s)
  (h4:∀s,Pc ext 97 [x.kids,.fn 58 [] []] (aK 69 am.cells mk) s) (h5:∀s,Pc ext 98 [x.items,.fn 99 [] []] (aK 129 aF.cells mi) s) (s:PS) :
  Pc ext 58 [.agg x.cells] (.agg (am.cells ⟨x.kind,x.pos,x.name,x.all,aK 99 ax.cells ma,aK 97 aw.cells mw,aK 124 aA.cells mr,aK 69 am.cells mk,aK 129 aF.cells mi⟩)) s:=by
 refine qC (s.n + 1) UP 2 9 ?_;unfold UP;simp only [am.cells];refine mT h1 h2 h3 h4 h5 @aS @dW @eD @eT @dr @gS tv ?_;exact⟨_,_,_,rfl,rfl,Nat.le_refl _,by simp only [iT,iw,iu,Option.bind_some,Option.map_some]⟩
theorem Ca {D:Nat}{x:aw} (h:aL D x.parts) (hb:x.parts.bulk≤16777216):∃y,(∀s,Pc ext 93 [.agg x.cells] (.agg (aw.cells y)) s)∧uw D y x:=by
 obtain⟨q,q1,q2⟩:=nh (ext:=ext) D x.parts h hb;obtain⟨m,rfl⟩:=q2.sl;exact⟨⟨x.pos,aK 150 ar.cells m⟩,Pk x m q1,rfl,q2⟩
theorem tf {D:Nat}{a:PV} (h:mz D a) (hb:a.bulk≤16777216):∃b,(∀s,Pc ext 94 [a,.fn 93 [] []] b s)∧gQ 97 aw.cells (uw D) b a:=by
 obtain⟨l,ha,hl,hl'⟩:=h;refine iH aw.len (by decide) (by decide) (by decide) Te TG ha (lq ha (fun x=>by rw [aw.len]; omega) hb) (fun x hx=>aw.one (hl' x hx).one) Gq (fun x hx=>?_);exact Ca (hl' x hx) (du ha hx (p:=x.parts) (by simp [aw.cells]) hb).1
theorem wL {D:Nat}{a:PV} (h:lV D a) (hb:a.bulk≤16777216):∃b,(∀s,Pc ext 91 [a,.fn 92 [] []] b s)∧gQ 99 ax.cells (NU D) b a:=by
 obtain⟨l,ha,hl,hl'⟩:=h;refine iH ax.len (by decide) (by decide) (by decide) Ts Sr ha (lq ha (fun x=>by rw [ax.len]; omega) hb) (fun x hx=>?_) (fun x y h=>?_) (fun x hx=>?_)
 ·simp only [ax.cells,List.all_cons,List.all_nil,(hl' x hx).one,Bool.and_true]; rfl
 ·obtain⟨h1,_,h3⟩:=h.2.one;simp only [ax.cells,List.all_cons,List.all_nil,h1,h3,Bool.and_true]; exact⟨rfl,rfl⟩
 ·obtain⟨q,q1,q2⟩:=nh (ext:=ext) D x.parts (hl' x hx) (du ha hx (p:=x.parts) (by simp [ax.cells]) hb).1;obtain⟨m,rfl⟩:=q2.sl;exact⟨⟨x.pos,x.name,x.vpos,aK 150 ar.cells m⟩,UI x m (Pk ⟨x.vpos,x.parts⟩ m q1),⟨rfl,rfl,rfl⟩,q2⟩
theorem zd {D:Nat}{a:PV} (h:nY D a) (hb:a.bulk≤16777216):∃b,(∀s,Pc ext 95 [a,.fn 96 [] []] b s)∧gQ 124 aA.cells (Lm D) b a:=by
 obtain⟨l,ha,hl,hl'⟩:=h;refine iH aA.len (by decide) (by decide) (by decide) Uq T0 ha (lq ha (fun x=>by rw [aA.len]; omega) hb) (fun x hx=>?_) (fun x y h=>?_) (fun x hx=>?_)
 ·simp only [aA.cells,List.all_cons,List.all_nil,(hl' x hx).one,Bool.and_true]; rfl
 ·obtain⟨h1,_,h3⟩:=h.2.one;simp only [aA.cells,List.all_cons,List.all_nil,h1,h3,Bool.and_true]; exact⟨rfl,rfl⟩
 ·obtain⟨q,q1,q2⟩:=nh (ext:=ext) D x.parts (hl' x hx) (du ha hx (p:=x.parts) (by simp [aA.cells]) hb).1;obtain⟨m,rfl⟩:=q2.sl;exact⟨⟨x.pos,x.fd,x.op,x.tpos,aK 150 ar.cells m⟩,UJ x m (Pk ⟨x.tpos,x.parts⟩ m q1),⟨rfl,rfl,rfl,rfl⟩,q2⟩
theorem uR {D d:Nat} (ih:∀x,bC D d x→aM x.cells≤16777216→∃y,(∀s,Pc ext 58 [.agg x.cells] (.agg (am.cells y)) s)∧mS D d y x) {a:PV} (h:gH 69 am.cells (bC D d) a) (hb:a.bulk≤16777216) :
  ∃b,(∀s,Pc ext 97 [a,.fn 58 [] []] b s)∧gQ 69 am.cells (mS D d) b a:=by
 obtain⟨l,ha,hl,hl'⟩:=h;refine iH am.len (by decide) (by decide) (by decide) Sl Uc ha (lq ha (fun x=>by rw [am.len]; omega) hb) (fun x hx=>(hl' x hx).ones) sJ (fun x hx=>?_);exact ih x (hl' x hx) (du ha hx (p:=x.kids) (by simp [am.cells]) hb).2
theorem Ds {D:Nat} : ∀(d:Nat) (x:am),bC D d x→aM x.cells≤16777216→∃y,(∀s,Pc ext 58 [.agg x.cells] (.agg (am.cells y)) s)∧mS D d y x:=by
 intro d
 induction d with
 | zero=>intro x h; cases h
 | succ d ih=>
  rintro x ⟨h1,h2,h3,h4,h5⟩ hb;have hbm:∀p∈x.cells,p.bulk≤16777216:=fun p hp=>Nat.le_trans (ga hp) hb;obtain⟨qa,a1,a2⟩:=wL (ext:=ext) h1 (hbm _ (by simp [am.cells]));obtain⟨qw,w1,w2⟩:=tf (ext:=ext) h2 (hbm _ (by simp [am.cells]));obtain⟨qr,r1,r2⟩:=zd (ext:=ext) h3 (hbm _ (by simp [am.cells]));obtain⟨qk,k1,k2⟩:=uR ih h4 (hbm _ (by simp [am.cells]));obtain⟨qi,i1,i2⟩ : ∃b,(∀s,Pc ext 98 [x.items,.fn 99 [] []] b s)∧gQ 129 aF.cells (fun j i=>gQ 97 aw.cells (uw D) j.pats i.pats∧gQ 69 am.cells (mS D d) j.body i.body) b x.items:=by
   have hbi:x.items.bulk≤16777216:=hbm _ (by simp [am.cells]);obtain⟨l,ha,hl,hl'⟩:=h5;refine iH aF.len (by decide) (by decide) (by decide) Td Us ha (lq ha (fun x=>by rw [aF.len]; omega) hbi) (fun z hz=>?_) (fun z y h=>?_) (fun z hz=>?_)
   ·have h:=hl' z hz;have w1:cL z.pats=true:=gH.one h.1;simp only [aF.cells,List.all_cons,List.all_nil,w1,h.2.one,Bool.and_true]
   ·obtain⟨u1,_,u3⟩:=h.1.one;obtain⟨v1,_,v3⟩:=h.2.one;simp only [aF.cells,List.all_cons,List.all_nil,u1,u3,v1,v3,Bool.and_true,and_self]
   ·obtain⟨p1,e1,e2⟩:=tf (ext:=ext) (hl' z hz).1 (du ha hz (p:=z.pats) (by simp [aF.cells]) hbi).1;obtain⟨p2,e3,e4⟩:=uR ih (hl' z hz).2 (du ha hz (p:=z.body) (by simp [aF.cells]) hbi).1;obtain⟨m1,rfl⟩:=e2.sl;obtain⟨m2,rfl⟩:=e4.sl;exact⟨⟨aK 97 aw.cells m1,aK 69 am.cells m2⟩,Vg z m1 m2 e1 e3,e2,e4⟩
  obtain⟨ma,rfl⟩:=a2.sl;obtain⟨mw,rfl⟩:=w2.sl;obtain⟨mr,rfl⟩:=r2.sl;obtain⟨mk,rfl⟩:=k2.sl;obtain⟨mi,rfl⟩:=i2.sl;exact⟨_,UY x ma mw mr mk mi a1 w1 r1 k1 i1,⟨rfl,rfl,rfl,rfl⟩,a2,w2,r2,k2,i2⟩
end Go.Proofs.YtgkggocjoolciaaGreatDoor
namespace Go.PE
open Go Go.EvL
section
variable {P:Program}{Γ:Nat→Option fJ}{ext:aq}
def Uy (a b:ByteArray):Bool:=!(Op.bytesLess a.toList b.toList)
theorem jy (t:Nat) (x y:Operand) (a b:ByteArray):fw P .geq t x y (.sc (.string a)) (.sc (.string b))=some (.sc (.bool (Uy a b))):=(rfl)
end
end Go.PE
namespace Go.Proofs.YtgkggocjoolciaaGreatDoor
open Go Go.EvL Go.PE Go.Mir
variable {ext:aq}
theorem KV {xs:List dw} (hx:xs.length < 1000000000000) (hs:∀x∈xs,x.name.data.toList.length < 1000000000000):∀(k i:Nat),i + k=xs.length→∃z:Int,∀(n0:Nat) (f:aR) (s:PS),n0≤s.w→f 0=.lit 43 xs.length (xs.flatMap dw.cells)→f 3=iN i→
  Er (fun f' s'=>n0≤s'.w∧f' 2=.sc (.int .i64 z)) (LP Tryz.prog Γ ext 0 kr pQ f s):=by
 intro k
 induction k with
 | zero=>
  intro i hk;refine⟨0,fun n0 f s hn h0 h3=>?_⟩;have e1:decide (i < xs.length)=false:=df;refine ad fun L hL=>?_;refine wP @kr.eq_1 @pQ.eq_1 h0 h3 e1 ?_;exact hn
 | succ k ih=>
  intro i hk;obtain⟨z,hgo⟩:=ih (i + 1) om;have hl:i < xs.length:=om;have e1:decide (i < xs.length)=true:=decide_eq_true hl;have hj:xs[i]?=some xs[i]:=List.getElem?_eq_getElem hl;have hfl:=aB (c:=dw.cells) (es:=5) (fun _=>rfl) xs;obtain⟨rr,hk3⟩:=bU (c:=dw.cells) (es:=5) (fun _=>rfl) hj;have hnm:=hs xs[i] (List.getElem_mem ..);generalize xs[i]=x at hk3 hnm;obtain⟨n,v,a1,a2,a3⟩:=x;simp only at hnm;simp only [dw.cells,List.cons_append,List.nil_append] at hk3;have hr:=fun s=>rS (ext:=ext) (b:=n) om s;cases c2:fV n.data.toList with
  | false=>
   refine⟨10,fun n0 f s hn h0 h3=>?_⟩;refine ad fun L hL=>?_;refine wA @kr.eq_1 @pQ.eq_1 h0 h3 c2 hl hfl hk3 @au hr ?_;exact hn
  | true=>
  cases c3:decide (4096 < v.data.toList.length) with
  | true=>
   refine⟨3,fun n0 f s hn h0 h3=>?_⟩;refine ad fun L hL=>?_;refine mT @kr.eq_1 @pQ.eq_1 h0 h3 c2 c3 hl hfl hk3 @au hr tv ?_;exact hn
  | false=>
  cases c4:(!a1 && !v.data.toList.isEmpty) with
  | true=>
   refine⟨1,fun n0 f s hn h0 h3=>?_⟩;have c5:a1=false:=by cases a1<;>simp_all
   have c6:v.data.toList.isEmpty=false:=by cases h:v.data.toList.isEmpty<;>simp_all
   subst c5;refine ad fun L hL=>?_;simp -implicitDefEqProofs (disch:=first | omega | (unfold cO bZ; simp<;>omega)) only [ZS,seval,ZT,kr,pQ,h0,h3,c2,c3,c6,hl,hfl,hk3,au,hr,aV];exact hn
  | false=>
  have c5:a1=true∨a1=false∧v.data.toList.isEmpty=true:=by cases a1<;>cases h:v.data.toList.isEmpty<;>simp_all
  cases i with
  | zero=>
   refine⟨z,fun n0 f s hn h0 h3=>?_⟩;refine ad fun L hL=>?_;rcases c5 with rfl | ⟨rfl,c5⟩
   ·simp -implicitDefEqProofs (disch:=first | omega | (unfold cO bZ; simp<;>omega)) only [ZA,Nat.reduceAdd,Nat.reduceEqDiff,↓reduceIte,Nat.reduceLeDiff,reduceCtorEq,Nat.reduceLT,aY,bM,bY,cR,dH,ZD,cI,eE,fR,kr,h0,h3,c2,c3,hl,gq,hfl,hk3,au,hr];subst hL;exact hgo _ _ _ hn (by simp -implicitDefEqProofs (disch:=omega) only [ZA,↓reduceIte,reduceCtorEq,h0]) (by simp -implicitDefEqProofs (disch:=omega) only [ZA,↓reduceIte])
   ·simp -implicitDefEqProofs (disch:=first | omega | (unfold cO bZ; simp<;>omega)) only [ZA,Nat.reduceAdd,Nat.reduceEqDiff,↓reduceIte,Nat.reduceLeDiff,reduceCtorEq,Nat.reduceLT,aY,bM,bY,cR,dH,ZD,cI,eE,fR,kr,h0,h3,c2,c3,c5,hl,gq,hfl,hk3,au,hr,aV];subst hL;exact hgo _ _ _ hn (by simp -implicitDefEqProofs (disch:=omega) only [ZA,↓reduceIte,reduceCtorEq,h0]) (by simp -implicitDefEqProofs (disch:=omega) only [ZA,↓reduceIte])
  | succ j=>
  have hl2:j < xs.length:=om;have hj2:xs[j]?=some xs[j]:=List.getElem?_eq_getElem hl2;obtain⟨rr2,hk4⟩:=bU (c:=dw.cells) (es:=5) (fun _=>rfl) hj2;generalize xs[j]=x2 at hk4;obtain⟨n2,v2,b1,b2,b3⟩:=x2;simp only [dw.cells,List.cons_append,List.nil_append] at hk4;have e3:decide (0 < j + 1)=true:=decide_eq_true (Nat.succ_pos _);cases c6:Uy n2 n with
  | true=>
   refine⟨1,fun n0 f s hn h0 h3=>?_⟩;refine ad fun L hL=>?_;rcases c5 with rfl | ⟨rfl,c5⟩
   ·simp -implicitDefEqProofs (disch:=first | omega | (unfold cO bZ; simp<;>omega)) only [ZS,seval,ZT,kr,pQ,h0,h3,e3,c2,c3,c6,hl,hl2,hfl,hk3,hk4,au,hr,jy,Nat.add_sub_cancel];exact hn
   ·simp -implicitDefEqProofs (disch:=first | omega | (unfold cO bZ; simp<;>omega)) only [ZS,seval,ZT,kr,pQ,h0,h3,e3,c2,c3,c5,c6,hl,hl2,hfl,hk3,hk4,au,hr,aV,jy,Nat.add_sub_cancel];exact hn
  | false=>
   refine⟨z,fun n0 f s hn h0 h3=>?_⟩;refine ad fun L hL=>?_;rcases c5 with rfl | ⟨rfl,c5⟩
   ·simp -implicitDefEqProofs (disch:=first | omega | (unfold cO bZ; simp<;>omega)) only [ZS,seval,ZT,kr,h0,h3,e3,c2,c3,c6,hl,hl2,hfl,hk3,hk4,au,hr,jy,Nat.add_sub_cancel];subst hL;exact hgo _ _ _ hn (aX h0) aQ
   ·simp -implicitDefEqProofs (disch:=first | omega | (unfold cO bZ; simp<;>omega)) only [ZS,seval,ZT,kr,h0,h3,e3,c2,c3,c5,c6,hl,hl2,hfl,hk3,hk4,au,hr,aV,jy,Nat.add_sub_cancel];subst hL;exact hgo _ _ _ hn (aX h0) aQ
theorem Rr (l:List dw) (hx:l.length < 1000000000000) (hs:∀x∈l,x.name.data.toList.length < 1000000000000):∃z:Int,∀y,y.getD []=l→∀s,Pc ext 23 [aK 43 dw.cells y] (.sc (.int .i64 z)) s:=by
 have z1:decide ((0:Int) > 128)=false:=rfl;cases c1:decide (128 < l.length) with
 | true=>
  refine⟨4,fun y hy s=>?_⟩;subst hy;refine mq s6 2 ?_;unfold s6;cases y with
  | none=>simp at c1
  | some l=>
   simp only [Option.getD_some] at c1;exact l9 @cd c1
 | false=>
  obtain⟨z,hz⟩:=KV (ext:=ext) hx hs l.length 0 (Nat.zero_add _);by_cases hl:l=[]
  ·subst hl;refine⟨0,fun y hy s=>?_⟩;refine mq s6 2 ?_;unfold s6;have z0:decide ((0:Int) < 0)=false:=rfl;have z2:decide (0 < 0)=false:=rfl;cases y with
   | none=>
    refine BW @cd z1 ?_;refine ad fun L hL=>?_;exact lR @kr.eq_1 @pQ.eq_1 z0
   | some m=>
    simp only [Option.getD_some] at hy;subst hy;simp only [List.length_nil] at *;refine pJ @cd ?_;refine ad fun L hL=>?_;exact l9 @kr.eq_1 @pQ.eq_1
  ·refine⟨z,fun y hy s=>?_⟩;refine mq s6 2 ?_;unfold s6;cases y with
   | none=>exact absurd hy.symm hl
   | some m=>
    simp only [Option.getD_some] at hy;subst hy;refine BW @cd c1 ?_;exact hz s.n _ _ aQ aQ aQ
theorem N3 {xs:List ByteArray} (hx:xs.length < 1000000000000):∀(k i:Nat),i + k=xs.length→∃z:Int,∀(n0:Nat) (f:aR) (s:PS),n0≤s.w→f 0=.lit 9 xs.length (xs.flatMap fj)→f 3=iN i→
  Er (fun f' s'=>n0≤s'.w∧f' 2=.sc (.int .i64 z)) (LP Tryz.prog Γ ext 0 tn y8 f s):=by
 intro k
 induction k with
 | zero=>
  intro i hk;refine⟨0,fun n0 f s hn h0 h3=>?_⟩;have e1:decide (i < xs.length)=false:=df;refine ad fun L hL=>?_;refine wP @tn.eq_1 @y8.eq_1 h0 h3 e1 ?_;exact hn
 | succ k ih=>
  intro i hk;obtain⟨z,hgo⟩:=ih (i + 1) om;have hl:i < xs.length:=om;have e1:decide (i < xs.length)=true:=decide_eq_true hl;have hj:xs[i]?=some xs[i]:=List.getElem?_eq_getElem hl;have hfl:=aB (c:=fj) (es:=1) (fun _=>rfl) xs;obtain⟨rr,hk3⟩:=bU (c:=fj) (es:=1) (fun _=>rfl) hj;generalize xs[i]=x at *;simp only [fj,List.cons_append,List.nil_append] at hk3;cases c1:decide (4096 < x.data.toList.length) with
  | true=>
   refine⟨3,fun n0 f s hn h0 h3=>?_⟩;refine ad fun L hL=>?_;refine Di @tn.eq_1 @y8.eq_1 h0 h3 hl hfl hk3 @au c1 ?_;exact hn
  | false=>
   refine⟨z,fun n0 f s hn h0 h3=>?_⟩;refine ad fun L hL=>?_;refine Fe @tn.eq_1 h0 h3 hl hfl hk3 @au c1 ?_;subst hL;exact hgo _ _ _ hn (aX h0) aQ
theorem Jm (l:List ByteArray) (hx:l.length < 1000000000000):∃z:Int,∀y,y.getD []=l→∀s,Pc ext 24 [aK 9 fj y] (.sc (.int .i64 z)) s:=by
 have z1:decide ((0:Int) > 512)=false:=rfl;cases c1:decide (512 < l.length) with
 | true=>
  refine⟨4,fun y hy s=>?_⟩;subst hy;refine mq s5 2 ?_;unfold s5;cases y with
  | none=>simp at c1
  | some l=>
   simp only [Option.getD_some] at c1;exact l9 @cd c1
 | false=>
  obtain⟨z,hz⟩:=N3 (ext:=ext) hx l.length 0 (Nat.zero_add _);by_cases hl:l=[]
  ·subst hl;refine⟨0,fun y hy s=>?_⟩;refine mq s5 2 ?_;unfold s5;have z0:decide ((0:Int) < 0)=false:=rfl;have z2:decide (0 < 0)=false:=rfl;cases y with
   | none=>
    refine BW @cd z1 ?_;refine ad fun L hL=>?_;exact lR @tn.eq_1 @y8.eq_1 z0
   | some m=>
    simp only [Option.getD_some] at hy;subst hy;simp only [List.length_nil] at *;refine pJ @cd ?_;refine ad fun L hL=>?_;exact l9 @tn.eq_1 @y8.eq_1
  ·refine⟨z,fun y hy s=>?_⟩;refine mq s5 2 ?_;unfold s5;cases y with
   | none=>exact absurd hy.symm hl
   | some m=>
    simp only [Option.getD_some] at hy;subst hy;refine BW @cd c1 ?_;exact hz s.n _ _ aQ aQ aQ
theorem NY {b:ByteArray} (hb:b.data.toList.length < 1000000000000):∀(k i:Nat),i + k=b.data.toList.length→∃z:Bool,∀(n0:Nat) (f:aR) (s:PS),n0≤s.w→f 0=.sc (.string b)→f 3=iN i→
  Er (fun f' s'=>n0≤s'.w∧f' 2=.sc (.bool z)) (LP Tryz.prog Γ ext 0 qx yh f s):=by
 intro k
 induction k with
 | zero=>
  intro i hk;refine⟨!b.data.toList.isEmpty,fun n0 f s hn h0 h3=>?_⟩;have e1:decide (i < b.data.toList.length)=false:=df;refine ad fun L hL=>?_;refine u0 @qx.eq_1 @yh.eq_1 h0 h3 e1 @aV ?_;exact hn
 | succ k ih=>
  intro i hk;obtain⟨z,hgo⟩:=ih (i + 1) om;have hl:i < b.data.toList.length:=om;have e1:decide (i < b.data.toList.length)=true:=decide_eq_true hl;have hh:=fun s=>OE (ext:=ext) (b:=⟨#[45,46,47,44,58,43,37,64,94]⟩) (by decide) (bt b.data.toList i) s;cases e2:eo (bt b.data.toList i) with
  | true=>
   refine⟨z,fun n0 f s hn h0 h3=>?_⟩;refine ad fun L hL=>?_;refine u0 @qx.eq_1 h0 h3 hl @eK e2 ?_;subst hL;exact hgo _ _ _ hn (aX h0) aQ
  | false=>
  generalize ((ByteArray.mk #[45,46,47,44,58,43,37,64,94]).data.toList.any fun x=>x.toNat == bt b.data.toList i)=q at hh;cases q with
  | true=>
   refine⟨z,fun n0 f s hn h0 h3=>?_⟩;refine ad fun L hL=>?_;refine MS @qx.eq_1 h0 h3 hl @eK e2 hh ?_;subst hL;exact hgo _ _ _ hn (aX h0) aQ
  | false=>
   refine⟨false,fun n0 f s hn h0 h3=>?_⟩;refine ad fun L hL=>?_;refine Fe @qx.eq_1 @yh.eq_1 h0 h3 hl @eK e2 hh ?_;exact hn
theorem N4 {b:ByteArray} (hb:b.data.toList.length < 1000000000000):∃z:Bool,∀s,Pc ext 109 [.sc (.string b)] (.sc (.bool z)) s:=by
 obtain⟨z,hz⟩:=NY (ext:=ext) hb b.data.toList.length 0 (Nat.zero_add _);refine⟨z,fun s=>?_⟩;refine mq Qk 2 ?_;unfold Qk;refine yZ ?_;exact hz s.n _ _ aQ aQ aQ
theorem NN {b:ByteArray} (hb:b.data.toList.length < 1000000000000):∃z:Bool,∀s,Pc ext 62 [.sc (.string b)] (.sc (.bool z)) s:=by
 obtain⟨z,hz⟩:=N4 (ext:=ext) hb;have hr:=fun s=>vh (ext:=ext) (b:=b) s;cases z with
 | false=>
  refine⟨false,fun s=>?_⟩;refine mq Rn 2 ?_;unfold Rn;exact aX hz
 | true=>
  cases c1:decide (b.data.toList.length≤32) with
  | false=>
   refine⟨false,fun s=>?_⟩;refine mq Rn 2 ?_;unfold Rn;exact l9 hz c1
  | true=>
   refine⟨!lG b.data.toList,fun s=>?_⟩;refine mq Rn 2 ?_;unfold Rn;exact lR hz c1 hr
theorem K5 {xs:List b9} (hx:xs.length < 1000000000000) (hs:∀x∈xs,x.name.data.toList.length < 1000000000000):∀(k i:Nat),i + k=xs.length→∃z:Int,∀(n0:Nat) (f:aR) (s:PS),n0≤s.w→f 0=.lit 58 xs.length (xs.flatMap b9.cells)→f 3=iN i→
  Er (fun f' s'=>n0≤s'.w∧f' 2=.sc (.int .i64 z)) (LP Tryz.prog Γ ext 0 od t6 f s):=by
 intro k
 induction k with
 | zero=>
  intro i hk;refine⟨0,fun n0 f s hn h0 h3=>?_⟩;have e1:decide (i < xs.length)=false:=df;refine ad fun L hL=>?_;refine wP @od.eq_1 @t6.eq_1 h0 h3 e1 ?_;exact hn
 | succ k ih=>
  intro i hk;obtain⟨z,hgo⟩:=ih (i + 1) om;have hl:i < xs.length:=om;have e1:decide (i < xs.length)=true:=decide_eq_true hl;have hj:xs[i]?=some xs[i]:=List.getElem?_eq_getElem hl;have hfl:=aB (c:=b9.cells) (es:=2) (fun _=>rfl) xs;obtain⟨rr,hk3⟩:=bU (c:=b9.cells) (es:=2) (fun _=>rfl) hj;have hnm:=hs xs[i] (List.getElem_mem ..);generalize xs[i]=x at *;obtain⟨n,v⟩:=x;obtain⟨q,hq⟩:=NN (ext:=ext) (b:=n) hnm;simp only [b9.cells,List.cons_append,List.nil_append] at hk3;cases c1:q with
  | false=>
   refine⟨10,fun n0 f s hn h0 h3=>?_⟩;refine ad fun L hL=>?_;simp -implicitDefEqProofs (disch:=first | omega | (unfold cO bZ; simp<;>omega)) only [ZS,seval,od,t6,h0,h3,hl,hfl,hk3,au,c1,hq];exact hn
  | true=>
  cases c2:decide (4096 < v.data.toList.length) with
  | true=>
   refine⟨3,fun n0 f s hn h0 h3=>?_⟩;refine ad fun L hL=>?_;simp -implicitDefEqProofs (disch:=first | omega | (unfold cO bZ; simp<;>omega)) only [ZS,seval,od,t6,h0,h3,hl,hfl,hk3,au,c1,hq,c2];exact hn
  | false=>
  cases i with
  | zero=>
   refine⟨z,fun n0 f s hn h0 h3=>?_⟩;refine ad fun L hL=>?_;simp -implicitDefEqProofs (disch:=first | omega | (unfold cO bZ; simp<;>omega)) only [ZA,Nat.reduceAdd,Nat.reduceEqDiff,↓reduceIte,Nat.reduceLeDiff,reduceCtorEq,Nat.reduceLT,aY,bM,bY,cR,dH,ZD,cI,fR,od,h0,h3,hl,gq,hfl,hk3,au,c1,hq,c2];subst hL;exact hgo _ _ _ hn (by simp -implicitDefEqProofs (disch:=omega) only [ZA,↓reduceIte,reduceCtorEq,h0]) (by simp -implicitDefEqProofs (disch:=omega) only [ZA,↓reduceIte])
  | succ j=>
  have hl2:j < xs.length:=om;have hj2:xs[j]?=some xs[j]:=List.getElem?_eq_getElem hl2;obtain⟨rr2,hk4⟩:=bU (c:=b9.cells) (es:=2) (fun _=>rfl) hj2;generalize xs[j]=x2 at *;obtain⟨n2,v2⟩:=x2;simp only [b9.cells,List.cons_append,List.nil_append] at hk4;have e3:decide (0 < j + 1)=true:=decide_eq_true (Nat.succ_pos _);cases co:Uy n2 n with
  | true=>
   refine⟨1,fun n0 f s hn h0 h3=>?_⟩;refine ad fun L hL=>?_;simp -implicitDefEqProofs (disch:=first | omega | (unfold cO bZ; simp<;>omega)) only [ZS,seval,ZT,od,t6,h0,h3,hl,hfl,hk3,au,c1,hq,c2,e3,hl2,hk4,co,Nat.add_sub_cancel,jy];exact hn
  | false=>
   refine⟨z,fun n0 f s hn h0 h3=>?_⟩;refine ad fun L hL=>?_;simp -implicitDefEqProofs (disch:=first | omega | (unfold cO bZ; simp<;>omega)) only [ZS,seval,ZT,od,h0,h3,hl,hfl,hk3,au,c1,hq,c2,e3,hl2,hk4,co,Nat.add_sub_cancel,jy];subst hL;exact hgo _ _ _ hn (aX h0) aQ
theorem Ga (l:List b9) (hx:l.length < 1000000000000) (hs:∀x∈l,x.name.data.toList.length < 1000000000000):∃z:Int,∀y,y.getD []=l→∀s,Pc ext 26 [aK 58 b9.cells y] (.sc (.int .i64 z)) s:=by
 have z1:decide ((0:Int) > 64)=false:=rfl;cases c1:decide (64 < l.length) with
 | true=>
  refine⟨4,fun y hy s=>?_⟩;subst hy;refine mq zb 2 ?_;unfold zb;cases y with
  | none=>simp at c1
  | some l=>
   simp only [Option.getD_some] at c1;exact l9 @cd c1
 | false=>
  obtain⟨z,hz⟩:=K5 (ext:=ext) hx hs l.length 0 (Nat.zero_add _);by_cases hl:l=[]
  ·subst hl;refine⟨0,fun y hy s=>?_⟩;refine mq zb 2 ?_;unfold zb;have z0:decide ((0:Int) < 0)=false:=rfl;have z2:decide (0 < 0)=false:=rfl;cases y with
   | none=>
    refine BW @cd z1 ?_;refine ad fun L hL=>?_;exact lR @od.eq_1 @t6.eq_1 z0
   | some m=>
    simp only [Option.getD_some] at hy;subst hy;simp only [List.length_nil] at *;refine pJ @cd ?_;refine ad fun L hL=>?_;exact l9 @od.eq_1 @t6.eq_1
  ·refine⟨z,fun y hy s=>?_⟩;refine mq zb 2 ?_;unfold zb;cases y with
   | none=>exact absurd hy.symm hl
   | some m=>
    simp only [Option.getD_some] at hy;subst hy;refine BW @cd c1 ?_;exact hz s.n _ _ aQ aQ aQ
noncomputable def fE (ext:aq) (x:aG):Int:=if fV x.name.data.toList then (if mU x.body.kind then qL ext x.body else 1) else 10
def mL (ext:aq) (x:aG):Prop:=∀s,Pc ext 61 [.sc (.string x.name),.agg x.body.cells] (.sc (.int .i64 (fE ext x))) s
theorem OP {x:aG} (hnm:x.name.data.toList.length < 1000000000000) (hv:∀s,Pc ext 108 [.agg x.body.cells] (.sc (.int .i64 (qL ext x.body))) s):mL ext x:=by
 obtain⟨n,b⟩:=x;intro s;have hr:=fun s=>rS (ext:=ext) (b:=n) (by simp only at hnm; omega) s;have hc:=fun s=>dk (ext:=ext) b.kind s;unfold fE;refine mq Vx 4 ?_;unfold Vx;simp only [am.cells] at hv ⊢;cases c1:fV n.data.toList with
 | false=>
  exact l9 hr c1
 | true=>
  cases c2:mU b.kind with
  | false=>
   exact nI hr hc c1 c2
  | true=>
   exact tg hr hc hv c1 c2
theorem EA:ei Γ 61=true:=(rfl)
theorem NW (q:List (ByteArray × Int)) (hx:q.length < 1000000000000):∀(k i:Nat),i + k=q.length→∃z:Int,∀(xs:List aG),xs.map (fun x=>(x.name,fE ext x))=q→(∀x∈xs,mL ext x)→∀(n0:Nat) (f:aR) (s:PS),n0≤s.w→f 0=.lit 71 xs.length (xs.flatMap aG.cells)→f 3=iN i→
  Er (fun f' s'=>n0≤s'.w∧f' 2=.sc (.int .i64 z)) (LP Tryz.prog Γ ext 0 pW vn f s):=by
 intro k
 induction k with
 | zero=>
  intro i hk;refine⟨0,fun xs hq hok n0 f s hn h0 h3=>?_⟩;have hlen:xs.length=q.length:=by rw [← hq,List.length_map]
  have e1:decide (i < xs.length)=false:=df;refine ad fun L hL=>?_;refine wP @pW.eq_1 @vn.eq_1 h0 h3 e1 ?_;exact hn
 | succ k ih=>
  intro i hk;obtain⟨z,hgo⟩:=ih (i + 1) om;have hlq:i < q.length:=om;have hqi:q[i]?=some q[i]:=List.getElem?_eq_getElem hlq;obtain⟨⟨qn,qz⟩,hqe⟩ : ∃p,p=q[i]:=⟨_,rfl⟩
  rw [← hqe] at hqi;clear hqe;have key:∀xs:List aG,xs.map (fun x=>(x.name,fE ext x))=q→(∀x∈xs,mL ext x)→xs.length=q.length∧∃(b:am) (rr:List PV),(xs.flatMap aG.cells).drop (i * 10)=aG.cells ⟨qn,b⟩ ++ rr∧fE ext ⟨qn,b⟩=qz∧mL ext ⟨qn,b⟩:=by
   intro xs hq hok;have hlen:xs.length=q.length:=by rw [← hq,List.length_map]
   have hl:i < xs.length:=om;have hj:xs[i]?=some xs[i]:=List.getElem?_eq_getElem hl;obtain⟨rr,hk3⟩:=bU (c:=aG.cells) (es:=10) (fun _=>rfl) hj;have h2:(xs.map fun x=>(x.name,fE ext x))[i]?=some (xs[i].name,fE ext xs[i]):=by rw [List.getElem?_map,hj]; rfl
   rw [hq,hqi] at h2;injection h2 with h2;have ho:=hok xs[i] (List.getElem_mem ..);generalize xs[i]=x at *;obtain⟨n,b⟩:=x;simp only [Prod.mk.injEq] at h2;obtain⟨rfl,rfl⟩:=h2;exact⟨hlen,b,rr,hk3,rfl,ho⟩
  cases c1:(qz == 0) with
  | false=>
   refine⟨qz,fun xs hq hok n0 f s hn h0 h3=>?_⟩;obtain⟨hlen,b,rr,hk3,hz,ho⟩:=key xs hq hok;have e1:decide (i < xs.length)=true:=dt;have hl:i < xs.length:=om;have hfl:=aB (c:=aG.cells) (es:=10) (fun _=>rfl) xs;have c1':(qz != 0)=true:=by rw [bne,c1]; rfl
   unfold mL at ho;rw [hz] at ho;simp only [aG.cells,am.cells,List.cons_append,List.nil_append] at hk3 ho;refine ad fun L hL=>?_;simp -implicitDefEqProofs (disch:=first | omega | (unfold cO bZ; simp<;>omega)) only [ZS,seval,ZT,pW,vn,h0,h3,hl,hfl,hk3,au,ho,c1',EA];exact hn
  | true=>
  have c1':(qz != 0)=false:=by rw [bne,c1]; rfl
  cases i with
  | zero=>
   refine⟨z,fun xs hq hok n0 f s hn h0 h3=>?_⟩;obtain⟨hlen,b,rr,hk3,hz,ho⟩:=key xs hq hok;have e1:decide (0 < xs.length)=true:=dt;have hl : 0 < xs.length:=om;have hfl:=aB (c:=aG.cells) (es:=10) (fun _=>rfl) xs;unfold mL at ho;rw [hz] at ho;simp only [aG.cells,am.cells,List.cons_append,List.nil_append] at hk3 ho;refine ad fun L hL=>?_;simp -implicitDefEqProofs (disch:=first | omega | (unfold cO bZ; simp<;>omega)) only [ZA,Nat.reduceAdd,Nat.reduceEqDiff,↓reduceIte,Nat.reduceLeDiff,reduceCtorEq,Nat.reduceLT,aY,bM,bY,cR,dH,ZD,cI,eE,fR,pW,h0,h3,hl,gq,hfl,hk3,au,ho,c1',EA];subst hL;exact hgo xs hq hok _ _ _ hn (by simp -implicitDefEqProofs (disch:=omega) only [ZA,↓reduceIte,reduceCtorEq,h0]) (by simp -implicitDefEqProofs (disch:=omega) only [ZA,↓reduceIte])
  | succ j=>
  have hqj:q[j]?=some q[j]:=List.getElem?_eq_getElem om;obtain⟨⟨pn,pz⟩,hpe⟩ : ∃p,p=q[j]:=⟨_,rfl⟩
  rw [← hpe] at hqj;clear hpe;have key2:∀xs:List aG,xs.map (fun x=>(x.name,fE ext x))=q→∃(b:am) (rr:List PV),(xs.flatMap aG.cells).drop (j * 10)=aG.cells ⟨pn,b⟩ ++ rr:=by
   intro xs hq;have hlen:xs.length=q.length:=by rw [← hq,List.length_map]
   have hj:xs[j]?=some xs[j]:=List.getElem?_eq_getElem om;obtain⟨rr,hk3⟩:=bU (c:=aG.cells) (es:=10) (fun _=>rfl) hj;have h2:(xs.map fun x=>(x.name,fE ext x))[j]?=some (xs[j].name,fE ext xs[j]):=by rw [List.getElem?_map,hj]; rfl
   rw [hq,hqj] at h2;injection h2 with h2;generalize xs[j]=x at *;obtain⟨n,b⟩:=x;simp only [Prod.mk.injEq] at h2;obtain⟨rfl,_⟩:=h2;exact⟨b,rr,hk3⟩
  have e3:decide (0 < j + 1)=true:=decide_eq_true (Nat.succ_pos _);cases co:Uy pn qn with
  | true=>
   refine⟨1,fun xs hq hok n0 f s hn h0 h3=>?_⟩;obtain⟨hlen,b,rr,hk3,hz,ho⟩:=key xs hq hok;obtain⟨b2,rr2,hk4⟩:=key2 xs hq;have e1:decide (j + 1 < xs.length)=true:=dt;have hl:j + 1 < xs.length:=om;have hl2:j < xs.length:=om;have hfl:=aB (c:=aG.cells) (es:=10) (fun _=>rfl) xs;unfold mL at ho;rw [hz] at ho;simp only [aG.cells,am.cells,List.cons_append,List.nil_append] at hk3 hk4 ho;refine ad fun L hL=>?_;simp -implicitDefEqProofs (disch:=first | omega | (unfold cO bZ; simp<;>omega)) only [ZS,seval,ZT,pW,vn,h0,h3,e3,hl,hl2,hfl,hk3,hk4,au,ho,c1',co,jy,EA,Nat.add_sub_cancel];exact hn
  | false=>
   refine⟨z,fun xs hq hok n0 f s hn h0 h3=>?_⟩;obtain⟨hlen,b,rr,hk3,hz,ho⟩:=key xs hq hok;obtain⟨b2,rr2,hk4⟩:=key2 xs hq;have e1:decide (j + 1 < xs.length)=true:=dt;have hl:j + 1 < xs.length:=om;have hl2:j < xs.length:=om;have hfl:=aB (c:=aG.cells) (es:=10) (fun _=>rfl) xs;unfold mL at ho;rw [hz] at ho;simp only [aG.cells,am.cells,List.cons_append,List.nil_append] at hk3 hk4 ho;refine ad fun L hL=>?_;simp -implicitDefEqProofs (disch:=first | omega | (unfold cO bZ; simp<;>omega)) only [ZS,seval,ZT,pW,h0,h3,e3,hl,hl2,hfl,hk3,hk4,au,ho,c1',co,jy,EA,Nat.add_sub_cancel];subst hL;exact hgo xs hq hok _ _ _ hn (aX h0) aQ
theorem AP (q:List (ByteArray × Int)) (hx:q.length < 1000000000000):∃z:Int,∀y:Option (List aG),(y.getD []).map (fun x=>(x.name,fE ext x))=q→(∀x∈y.getD [],mL ext x)→∀s,Pc ext 25 [aK 71 aG.cells y] (.sc (.int .i64 z)) s:=by
 have z1:decide ((0:Int) > 64)=false:=rfl;cases c1:decide (64 < q.length) with
 | true=>
  refine⟨4,fun y hy _ s=>?_⟩;refine mq s7 2 ?_;unfold s7;cases y with
  | none=>rw [← hy] at c1; cases c1
  | some l=>
   simp only [Option.getD_some] at hy;have c2:decide (64 < l.length)=true:=by rw [← hy,List.length_map] at c1; exact c1
   exact l9 @cd c2
 | false=>
  obtain⟨z,hz⟩:=NW (ext:=ext) q hx q.length 0 (Nat.zero_add _);by_cases hl:q=[]
  ·subst hl;refine⟨0,fun y hy _ s=>?_⟩;refine mq s7 2 ?_;unfold s7;have z0:decide ((0:Int) < 0)=false:=rfl;have z2:decide (0 < 0)=false:=rfl;cases y with
   | none=>
    refine BW @cd z1 ?_;refine ad fun L hL=>?_;exact lR @pW.eq_1 @vn.eq_1 z0
   | some m=>
    simp only [Option.getD_some,List.map_eq_nil_iff] at hy;subst hy;simp only [List.length_nil] at c1;refine pJ @cd ?_;refine ad fun L hL=>?_;exact l9 @pW.eq_1 @vn.eq_1
  ·refine⟨z,fun y hy hok s=>?_⟩;refine mq s7 2 ?_;unfold s7;cases y with
   | none=>exact absurd hy.symm hl
   | some m=>
    simp only [Option.getD_some] at hy hok;have c2:decide (64 < m.length)=false:=by rw [← hy,List.length_map] at c1; exact c1
    refine BW @cd c2 ?_;exact hz m hy hok s.n _ _ aQ aQ aQ
end Go.Proofs.YtgkggocjoolciaaGreatDoor
namespace Go.PE
open Go Go.EvL
theorem B7 {α:Type}{e es bytes b:Nat}{c:α→List PV}{l:List α}{v:PV}{s:PS} (hc:∀x,(c x).length=es) (hes:es≠0) (h:gL e es c b l v s) (hb:b≤s.n) (hn:l.length≤1000000) (hby:bytes≤1024) (x:α) (ho:(c x).all cL=true) :
  ∃v' s',tO (s.new ⟨c x,0,e⟩) e es bytes v (c x) 1=some (v',s')∧gL e es c b (l ++ [x]) v' s'∧s.n≤s'.n∧∀n0,n0≤b→n0≤s.w→n0≤s'.w:=by
 obtain⟨v',s',a1,a2,a3,a4,a5⟩:=(h.new ⟨c x,0,e⟩).app (bytes:=bytes) hc [x] hes (by simp only [List.length_cons,List.length_nil]; exact Nat.le_trans (Nat.mul_le_mul (show l.length + (0 + 1)≤1000001 by omega) hby) (by decide)) (by simp only [List.length_cons,List.length_nil]; omega) (fun y hy=>by rw [List.mem_singleton] at hy; subst hy; exact ho) (by rw [cD]; omega);rw [List.flatMap_cons,List.flatMap_nil,List.append_nil] at a1;exact⟨v',s',a1,a2,by rw [cD] at a4; omega,fun n0 h1 h2=>a5 n0 h1 (by rw [ip]; exact h2)⟩
end Go.PE
namespace Go.Proofs.YtgkggocjoolciaaGreatDoor
open Go Go.EvL Go.PE Go.Mir
variable {ext:aq}
theorem L0 {b:ByteArray} (hb:b.data.toList.length≤1000):∀(k i a:Nat),i + k=b.data.toList.length→a≤i→∃rest:List ByteArray,rest≠[]∧rest.length≤k + 1∧(∀x∈rest,x.data.toList.length≤1000)∧
  ∀(acc:List ByteArray) (n0:Nat) (f:aR) (s:PS),acc.length≤i→n0≤s.w→n0≤s.n→f 0=.sc (.string b)→f 4=iN a→f 5=iN i→gL 9 1 fj n0 acc (f 3) s→
  Er (fun f' s'=>n0≤s'.w∧gL 9 1 fj n0 (acc ++ rest) (f' 2) s') (LP Tryz.prog Γ ext 0 su Ea f s):=by
 intro k
 induction k with
 | zero=>
  intro i a hk ha;refine⟨[⟨⟨(b.data.toList.drop a).take (b.data.toList.length - a)⟩⟩],by simp,by simp,fun x hx=>?_,fun acc n0 f s hacc hw hn h0 h4 h5 hA=>?_⟩
  ·rw [List.mem_singleton] at hx;subst hx;show ((b.data.toList.drop a).take (b.data.toList.length - a)).length≤1000;rw [List.length_take]; omega
  have e1:decide (i < b.data.toList.length)=false:=df;have n1:a≤b.data.toList.length:=om;have hel:=sU (e:=9) s (fj ⟨⟨(b.data.toList.drop a).take (b.data.toList.length - a)⟩⟩);obtain⟨v1,s1,a1,a2,a3,a4⟩:=B7 (bytes:=16) (c:=fj) (fun _=>rfl) (by decide) hA hn om (by decide) ⟨⟨(b.data.toList.drop a).take (b.data.toList.length - a)⟩⟩ (by rfl);simp only [fj,List.length_cons,List.length_nil] at hel a1;refine ad fun L hL=>?_;refine Di @su.eq_1 @Ea.eq_1 h0 h4 h5 e1 n1 hel a1 ?_;exact⟨a4 _ (Nat.le_refl _) hw,a2⟩
 | succ k ih=>
  intro i a hk ha;have hl:i < b.data.toList.length:=om;have e1:decide (i < b.data.toList.length)=true:=decide_eq_true hl;cases e2:(bt b.data.toList i == 47) with
  | false=>
   obtain⟨rest,r1,r2,r3,hgo⟩:=ih (i + 1) a om om;refine⟨rest,r1,om,r3,fun acc n0 f s hacc hw hn h0 h4 h5 hA=>?_⟩;refine ad fun L hL=>?_;refine u0 @su.eq_1 h0 h4 h5 hl e2 ?_;subst hL;exact hgo acc n0 _ _ om hw hn (aX h0) (aX h4) aQ (by simp -implicitDefEqProofs (disch:=omega) only [ZS,seval]; exact hA)
  | true=>
   obtain⟨rest,r1,r2,r3,hgo⟩:=ih (i + 1) (i + 1) om om;refine⟨⟨⟨(b.data.toList.drop a).take (i - a)⟩⟩ :: rest,by simp,by simp; omega,fun x hx=>?_,fun acc n0 f s hacc hw hn h0 h4 h5 hA=>?_⟩
   ·rcases List.mem_cons.1 hx with rfl | hx
    ·show ((b.data.toList.drop a).take (i - a)).length≤1000;rw [List.length_take]; omega
    ·exact r3 x hx
   have n1:a≤i:=ha;have n2:i≤b.data.toList.length:=om;have hel:=sU (e:=9) s (fj ⟨⟨(b.data.toList.drop a).take (i - a)⟩⟩);obtain⟨v1,s1,a1,a2,a3,a4⟩:=B7 (bytes:=16) (c:=fj) (fun _=>rfl) (by decide) hA hn om (by decide) ⟨⟨(b.data.toList.drop a).take (i - a)⟩⟩ (by rfl);simp only [fj,List.length_cons,List.length_nil] at hel a1;refine ad fun L hL=>?_;refine wA @su.eq_1 h0 h4 h5 hl e2 n1 n2 hel a1 ?_;subst hL;rw [show acc ++ ⟨⟨(b.data.toList.drop a).take (i - a)⟩⟩ :: rest=(acc ++ [⟨⟨(b.data.toList.drop a).take (i - a)⟩⟩]) ++ rest by simp];exact hgo _ n0 _ _ (by simp; omega) (a4 _ (Nat.le_refl _) hw) om (aX h0) aQ aQ (by simp -implicitDefEqProofs (disch:=omega) only [ZS,seval]; exact a2)
theorem M9 {b:ByteArray} (hb:b.data.toList.length≤1000):∃l:List ByteArray,l.length≤2000∧(∀x∈l,x.data.toList.length≤1000)∧∀s,Pc ext 111 [.sc (.string b)] (aK 9 fj (some l)) s:=by
 obtain⟨l,r1,r2,r3,h⟩:=L0 (ext:=ext) hb b.data.toList.length 0 0 (Nat.zero_add _) (Nat.le_refl _);refine⟨l,om,r3,fun s=>?_⟩;have ho:dx l=some l:=by cases l with | nil=>exact absurd rfl r1 | cons x l=>rfl
 refine ir (fn:=ME) (by rfl) (by simp [ME]) (V:=fun f' s'=>s.n≤s'.w∧gL 9 1 fj s.n l (f' 2) s') ?_ ?_
 ·unfold ME;refine yZ ?_;exact h [] s.n _ _ (Nat.zero_le _) aQ aQ aQ aQ aQ (by simp -implicitDefEqProofs (disch:=omega) only [ZS,seval]; exact gL.nil ..)
 ·rintro f' s' ⟨hw,hA⟩;refine fM (vs:=[f' 2]) (by rfl) (by rfl) hw ?_;rw [← ho];exact zl (hA.frz (fun _=>rfl) (Nat.le_refl _) fun _ _=>rfl)
theorem LH {b:ByteArray} (hb:b.data.toList.length < 1000000000000):∀(k i:Nat),i + k=b.data.toList.length→∃z:Bool,∀(n0:Nat) (f:aR) (s:PS),n0≤s.w→f 0=.sc (.string b)→f 3=iN i→
  Er (fun f' s'=>n0≤s'.w∧f' 2=.sc (.bool z)) (LP Tryz.prog Γ ext 0 pY vC f s):=by
 intro k
 induction k with
 | zero=>
  intro i hk;refine⟨true,fun n0 f s hn h0 h3=>?_⟩;have e1:decide (i < b.data.toList.length)=false:=df;refine ad fun L hL=>?_;refine wP @pY.eq_1 @vC.eq_1 h0 h3 e1 ?_;exact hn
 | succ k ih=>
  intro i hk;obtain⟨z,hgo⟩:=ih (i + 1) om;have hl:i < b.data.toList.length:=om;have e1:decide (i < b.data.toList.length)=true:=decide_eq_true hl;cases e2:(bt b.data.toList i == 47) with
  | true=>
   refine⟨false,fun n0 f s hn h0 h3=>?_⟩;refine ad fun L hL=>?_;refine u0 @pY.eq_1 @vC.eq_1 h0 h3 hl e2 ?_;exact hn
  | false=>
  cases e3:(bt b.data.toList i == 0) with
  | true=>
   refine⟨false,fun n0 f s hn h0 h3=>?_⟩;refine ad fun L hL=>?_;refine MS @pY.eq_1 @vC.eq_1 h0 h3 hl e2 e3 ?_;exact hn
  | false=>
   refine⟨z,fun n0 f s hn h0 h3=>?_⟩;refine ad fun L hL=>?_;refine u0 @pY.eq_1 h0 h3 hl e2 e3 ?_;subst hL;exact hgo _ _ _ hn (aX h0) aQ
theorem NM {b:ByteArray} (hb:b.data.toList.length < 1000000000000):∃z:Bool,∀s,Pc ext 112 [.sc (.string b)] (.sc (.bool z)) s:=by
 obtain⟨z,hz⟩:=LH (ext:=ext) hb b.data.toList.length 0 (Nat.zero_add _);cases c1:decide (b.data.toList.length < 1) with
 | true=>
  refine⟨false,fun s=>eI (fn:=pH) (r:=2) (by rfl) (by simp [pH]) (by rfl) (by rfl) ?_⟩;unfold pH;exact aX c1
 | false=>
 cases c2:decide (32 < b.data.toList.length) with
 | true=>
  refine⟨false,fun s=>eI (fn:=pH) (r:=2) (by rfl) (by simp [pH]) (by rfl) (by rfl) ?_⟩;unfold pH;exact l9 c1 c2
 | false=>
 cases c3:(b.data.toList == [46]) with
 | true=>
  refine⟨false,fun s=>eI (fn:=pH) (r:=2) (by rfl) (by simp [pH]) (by rfl) (by rfl) ?_⟩;unfold pH;exact nI c1 c2 c3 @lW
 | false=>
 cases c4:(b.data.toList == [46,46]) with
 | true=>
  refine⟨false,fun s=>eI (fn:=pH) (r:=2) (by rfl) (by simp [pH]) (by rfl) (by rfl) ?_⟩;unfold pH;exact tg c1 c2 c3 c4 @lW
 | false=>
  refine⟨z,fun s=>eI (fn:=pH) (r:=2) (by rfl) (by simp [pH]) (by rfl) (by rfl) ?_⟩;unfold pH;refine wP c1 c2 c3 c4 @lW ?_;exact hz s.n _ _ aQ aQ aQ
theorem Me {xs:List ByteArray} (hx:xs.length < 1000000000000) (hs:∀x∈xs,x.data.toList.length≤1000):∀(k i:Nat),i + k=xs.length→∃z:Bool,∀(n0:Nat) (f:aR) (s:PS),n0≤s.w→f 3=.lit 9 xs.length (xs.flatMap fj)→f 4=iN i→
  Er (fun f' s'=>n0≤s'.w∧f' 2=.sc (.bool z)) (LP Tryz.prog Γ ext 0 xK Ev f s):=by
 intro k
 induction k with
 | zero=>
  intro i hk;refine⟨true,fun n0 f s hn h3 h4=>?_⟩;have e1:decide (i < xs.length)=false:=df;refine ad fun L hL=>?_;refine wP @xK.eq_1 @Ev.eq_1 h3 h4 e1 ?_;exact hn
 | succ k ih=>
  intro i hk;obtain⟨z,hgo⟩:=ih (i + 1) om;have hl:i < xs.length:=om;have e1:decide (i < xs.length)=true:=decide_eq_true hl;have hj:xs[i]?=some xs[i]:=List.getElem?_eq_getElem hl;have hfl:=aB (c:=fj) (es:=1) (fun _=>rfl) xs;obtain⟨rr,hk3⟩:=bU (c:=fj) (es:=1) (fun _=>rfl) hj;have hnm:=hs xs[i] (List.getElem_mem ..);generalize xs[i]=x at *;simp only [fj,List.cons_append,List.nil_append] at hk3;obtain⟨q,hq⟩:=NM (ext:=ext) (b:=x) om;cases q with
  | false=>
   refine⟨false,fun n0 f s hn h3 h4=>?_⟩;refine ad fun L hL=>?_;refine Di @xK.eq_1 @Ev.eq_1 h3 h4 hl hfl hk3 @au hq ?_;exact hn
  | true=>
   refine⟨z,fun n0 f s hn h3 h4=>?_⟩;refine ad fun L hL=>?_;refine Fe @xK.eq_1 h3 h4 hl hfl hk3 @au hq ?_;subst hL;exact hgo _ _ _ hn (aX h3) aQ
theorem JA {b:ByteArray} (hb:b.data.toList.length < 1000000000000):∃z:Bool,∀s,Pc ext 63 [.sc (.string b)] (.sc (.bool z)) s:=by
 cases c1:(b.data.toList == [47]) with
 | true=>
  refine⟨true,fun s=>eI (fn:=BV) (r:=2) (by rfl) (by simp [BV]) (by rfl) (by rfl) ?_⟩;unfold BV;exact l9 c1 @lW
 | false=>
 cases c2:decide (b.data.toList.length < 2) with
 | true=>
  refine⟨false,fun s=>eI (fn:=BV) (r:=2) (by rfl) (by simp [BV]) (by rfl) (by rfl) ?_⟩;unfold BV;exact lR c1 c2 @lW
 | false=>
 cases c3:decide (128 < b.data.toList.length) with
 | true=>
  refine⟨false,fun s=>eI (fn:=BV) (r:=2) (by rfl) (by simp [BV]) (by rfl) (by rfl) ?_⟩;unfold BV;exact nI c1 c2 c3 @lW
 | false=>
 have hl1 : 1≤b.data.toList.length:=by have:=of_decide_eq_false c2; omega
 have hl0 : 0 < b.data.toList.length:=hl1;have hl3:b.data.toList.length≤128:=by have:=of_decide_eq_false c3; omega
 cases c4:(bt b.data.toList 0 == 47) with
 | false=>
  refine⟨false,fun s=>eI (fn:=BV) (r:=2) (by rfl) (by simp [BV]) (by rfl) (by rfl) ?_⟩;unfold BV;exact jK c1 c2 c3 c4 @lW hl0
 | true=>
  obtain⟨l,l1,l2,l3⟩:=M9 (ext:=ext) (b:=⟨⟨(b.data.toList.drop 1).take (b.data.toList.length - 1)⟩⟩) (by show ((b.data.toList.drop 1).take (b.data.toList.length - 1)).length≤1000; rw [List.length_take]; omega);obtain⟨z,hz⟩:=Me (ext:=ext) (xs:=l) om l2 l.length 0 (Nat.zero_add _);refine⟨z,fun s=>eI (fn:=BV) (r:=2) (by rfl) (by simp [BV]) (by rfl) (by rfl) ?_⟩;unfold BV;have hk1:kH (.sc (.int .i64 1))=some 1:=rfl;refine Di c1 c2 c3 c4 @lW hl0 hl1 hk1 l3 ?_;exact hz s.n _ _ aQ (aX @cd) aQ
end Go.Proofs.YtgkggocjoolciaaGreatDoor
