/- What functions of the program and of the reference compute, on values. No statement is proved here. -/
import Derived.Test.YtioblbopbilmaaaGreatDoorTxD
import Derived.Test.YtioblbopbilmaaaGreatDoorTxA
import Derived.Test.YtioblbopbilmaaaGreatDoorEvC
import Derived.Test.YtioblbopbilmaaaGreatDoorPeC
set_option linter.all false
open Nat renaming reduceEqDiff → qA, reduceAdd → qB, reduceLeDiff → qC, reduceLT → qD, reduceBEq → qE, reduceMul → qF, reduceSub → qG
namespace Go.Mir
theorem Vv:∀c,c < 256→(Go.Proofs.YtioblbopbilmaaaGreatDoor.idxI [96,92,36] c ≥ ((0:Nat):Int)↔(c=96∨c=92∨c=36)):=by decide +kernel
theorem If {c d:UInt8}{l:List UInt8} (h:¬ (c=92∧(d=96∨d=92∨d=36))):kH (c :: d :: l)=c :: kH (d :: l):=by
 conv=>lhs; unfold kH
 rw [if_neg h]
end Go.Mir
namespace Go.Proofs.YtioblbopbilmaaaGreatDoor
open Go Go.EvL Go.PE Go.Mir
variable {ext:aw}
theorem td {Q:Option ZR→Prop}{x y:Option ZR} (h:x=y) (q:Q y):Q x:=h ▸ q
theorem oc {t:List UInt8}{b:Nat}{v:PV}{S:PS} (h:fF 5 1 bC b t v S) (hb:b≤S.n) (x:UInt8) {c:Nat} (hx:x.toNat=c) (hn:t.length < 1000000) :
  ∃v' S',fo (S.new ⟨[cv c],0,5⟩) 5 1 1 v [cv c] 1=some (v',S')∧fF 5 1 bC b (t ++ [x]) v' S'∧(∀j,j < b→S'.h j=S.h j)∧S.n≤S'.n∧(∀n0,n0≤b→n0≤S.w→n0≤S'.w):=by
 subst hx;obtain⟨v',S',h1,h2,h3,h4,h5⟩:=fF.app (c:=bC) (es:=1) (bytes:=1) tK (h.new ⟨[cv x.toNat],0,5⟩) [x] (by omega) (by (try simp); omega) (by (try simp); omega) (fun x _=>rfl) (by (simp only [aj]; omega));refine⟨v',S',h1,h2,fun j hj=>?_,?_,h5⟩
 ·rw [h3 j hj]; simp -implicitDefEqProofs (disch:=(apply Ar.mk; (try simp only [aj,ak]); omega)) only [ap,au]
 ·have h4:S.n + 1≤S'.n:=h4;omega
theorem IK {t:List UInt8}{b:Nat}{v:PV}{S:PS} (h:fF 5 1 bC b t v S):eM S 1 v=some (t.flatMap bC,t.length):=by
 rcases h with ⟨rfl,rfl⟩ | ⟨_,k,_,_,rfl,hk⟩
 ·rfl
 ·have hl:=bB tK t;unfold eM;simp only [hk];simp [hl];rw [List.take_of_length_le (by omega)]
theorem HS {src:List UInt8} (hs:src.length < 100000) {F:ZC→Option ZR}{K:List KI}{Q:Option ZR→Prop}{b:Nat}{w0:Nat}{h0:Nat→pD}{p0 p2:PV} (hw:w0≤b)
  (H:∀f' S' v',fF 5 1 bC b (kH src) v' S'→f' 0=p0→f' 2=p2→f' 4=v'→(∀j,j < b→S'.h j=h0 j)→b≤S'.n→w0≤S'.w→Q (zr Tryz.prog Γ ext F kN f' S' K)) :
  ∀(n i:Nat) (t:List UInt8) (f:aE) (S:PS) (v:PV),src.length < i + n→i≤src.length→t ++ kH (src.drop i)=kH src→fF 5 1 bC b t v S→(∀j,j < b→S.h j=h0 j)→b≤S.n→w0≤S.w→f 0=p0→f 2=p2→f 3=sv src→f 4=v→f 5=iv i→Q (rl Tryz.prog Γ ext (F) 0 lI kN f S K):=by
 have hul:=unq_len src;intro n
 induction n with
 | zero=>intro i t f S v hn hi; omega
 | succ n ih=>
  intro i t f S v hn hi he hA hfr hbn hwS f0 f2 f3 f4 f5;have htl:t.length≤src.length:=by have:=congrArg List.length he; rw [List.length_append] at this; omega
  by_cases hil:i < src.length
  ·have e1:src.drop i=src[i] :: src.drop (i + 1):=dp hil;have b1:bt src i=src[i].toNat:=cf hil;by_cases c92:bt src i=92
   ·have x92:src[i]=92:=ro hil (c:=92) c92;by_cases hl2:i + 1 < src.length
    ·have e2:src.drop (i + 1)=src[i + 1] :: src.drop (i + 2):=dp hl2;have b2:bt src (i + 1)=src[i + 1].toNat:=cf hl2;have hx:=fun s=>xA (ext:=ext) [96,92,36] (il src (i + 1)) s;have h3:=Vv _ (il src (i + 1));have hsp:(src[i + 1]=96∨src[i + 1]=92∨src[i + 1]=36)↔(bt src (i + 1)=96∨bt src (i + 1)=92∨bt src (i + 1)=36):=by
      rw [b2];exact⟨fun h=>by rcases h with h | h | h<;>rw [h]<;>simp,fun h=>by rcases h with h | h | h; exact .inl (UInt8.toNat_inj.1 h); exact .inr (.inl (UInt8.toNat_inj.1 h)); exact .inr (.inr (UInt8.toNat_inj.1 h))⟩
     by_cases sp:bt src (i + 1)=96∨bt src (i + 1)=92∨bt src (i + 1)=36
     ·have hge:decide (idxI [96,92,36] (bt src (i + 1)) ≥ ((0:Nat):Int))=true:=decide_eq_true (h3.2 sp);obtain⟨v',S',h1,h2,h3,h4,h5⟩:=oc hA hbn src[i + 1] b2.symm (by omega);apply td
      ·apply ar (by unfold lI; rfl) (by unfold kN; rfl); intro hr R hR;simp -implicitDefEqProofs (disch:=first | assumption | (apply Ar.mk; first | omega | (simp only [Zj]; omega))) only [ZN,↓dt,qA,↓reduceIte,aa,aD,ZM,qF,bk,↓bR,f3,f4,f5,h1,hx,hge];exact hR.symm
      refine ih (i + 2) _ _ S' v' (by omega) (by omega) ?_ h2 (fun j hj=>(h3 j hj).trans (hfr j hj)) (by omega) (h5 _ hw hwS) f0 f2 f3 rfl rfl;rw [← he,e1,e2,x92,Hg (hsp.2 sp)]; simp
     ·have hge:decide (idxI [96,92,36] (bt src (i + 1)) ≥ ((0:Nat):Int))=false:=decide_eq_false fun h=>sp (h3.1 h);obtain⟨v',S',h1,h2,h3,h4,h5⟩:=oc hA hbn src[i] b1.symm (by omega);apply td
      ·apply ar (by unfold lI; rfl) (by unfold kN; rfl); intro hr R hR;simp -implicitDefEqProofs (disch:=first | assumption | (apply Ar.mk; first | omega | (simp only [Zj]; omega))) only [ZN,↓dt,qA,↓reduceIte,aa,aD,ZM,qF,bk,↓bR,f3,f4,f5,h1,hx,hge];exact hR.symm
      refine ih (i + 1) _ _ S' v' (by omega) (by omega) ?_ h2 (fun j hj=>(h3 j hj).trans (hfr j hj)) (by omega) (h5 _ hw hwS) f0 f2 f3 rfl rfl;rw [← he,e1,e2,If fun hh=>sp (hsp.1 hh.2)]; simp
    ·obtain⟨v',S',h1,h2,h3,h4,h5⟩:=oc hA hbn src[i] b1.symm (by omega);apply td
     ·apply ar (by unfold lI; rfl) (by unfold kN; rfl); intro hr R hR;simp -implicitDefEqProofs (disch:=first | assumption | (apply Ar.mk; first | omega | (simp only [Zj]; omega))) only [ZN,↓dt,ai,qA,↓reduceIte,aa,aD,ZM,qF,bk,bI,↓bR,↓ed,f3,f4,f5,h1];exact hR.symm
     refine ih (i + 1) _ _ S' v' (by omega) (by omega) ?_ h2 (fun j hj=>(h3 j hj).trans (hfr j hj)) (by omega) (h5 _ hw hwS) f0 f2 f3 rfl rfl;rw [← he,e1,List.drop_eq_nil_of_le (show src.length≤i + 1 by omega),show kH [src[i]]=[src[i]] from rfl,show kH []=[] from rfl]; simp
   ·obtain⟨v',S',h1,h2,h3,h4,h5⟩:=oc hA hbn src[i] b1.symm (by omega);apply td
    ·apply ar (by unfold lI; rfl) (by unfold kN; rfl); intro hr R hR;simp -implicitDefEqProofs (disch:=first | assumption | (apply Ar.mk; first | omega | (simp only [Zj]; omega))) only [ZN,↓dt,ai,qA,↓reduceIte,aa,aD,ZM,qF,bI,↓ed,f3,f4,f5,h1];exact hR.symm
    refine ih (i + 1) _ _ S' v' (by omega) (by omega) ?_ h2 (fun j hj=>(h3 j hj).trans (hfr j hj)) (by omega) (h5 _ hw hwS) f0 f2 f3 rfl rfl;rw [← he,e1,zP fun hh=>c92 (by rw [b1,hh]; rfl)]; simp
  ·apply td
   ·apply ar (by unfold lI; rfl) (by unfold kN; rfl); intro hr R hR;simp -implicitDefEqProofs (disch:=first | assumption | (apply Ar.mk; first | omega | (simp only [Zj]; omega))) only [ZN,↓df,qA,↓reduceIte,aa,f3,f5];exact hR.symm
   have e:src.drop i=[]:=List.drop_eq_nil_of_le (by omega);rw [e,show kH []=[] from rfl,List.append_nil] at he;subst he;exact H _ S v hA f0 f2 f4 hfr hbn hwS
section
variable {l:List UInt8} (hb:l.length < 16385) {k pl:Nat}{od:Bool}{lv:Nat}{fr:Option Nat}{a o:Nat}{acc:List aJ}{s:PS}
theorem Sc.fr0 {S1:PS}{fr:Int} (h:Sc l k pl od lv fr a o acc s) (hn:s.n≤S1.n) (hf:∀j,j < s.n→S1.h j=s.h j):Sc l k pl od lv fr a o acc S1:=by
 obtain⟨⟨tx,ls,tv,v,low,h1,h2,h3,h4,h5⟩,h6,h7⟩:=h;refine⟨⟨tx,ls,tv,v,low,h1,(hf k h6).trans h2,h3.fr hn fun j _ h _ _ _=>hf j h,h4.fr hn fun j _ h _ _ _=>hf j h,h5⟩,by omega,h7⟩
include hb
theorem wT (h:Sc l k pl od lv (gY fr) a o acc s) (ha:a < l.length) (h96:bt l a=96):MR l k pl od lv (gY fr) s (ah Tryz.prog Γ ext 170 [.ptr k 0 9] s) (T9 acc o (fJ 16384 l a)):=by
 have h0:=h.at0 s.n;obtain⟨⟨tx,ls,tv,v,low,hlow,hk,ht,hl,hd,hacc,hno,hz⟩,hkn,hal⟩:=h;have hcl:=rM (ext:=ext) (s:=⟨s.h,s.n,s.n⟩) hb hlow hk hal (by unfold oZ; rw [h96]; simp) ha;have e:lx l (.pass a 0)=lx l (.bq (a + 1) a):=by
  unfold lx;rw [kQ (n:=ly l) (m:=3 * l.length + 2 + 1) (t:=.pass a 0) ha (by simp only [aV.size,ly]; omega) (by simp only [aV.size]; omega),kQ (n:=ly l) (m:=3 * l.length + 2) (t:=.bq (a + 1) a) ⟨ha,ha⟩ (by simp only [aV.size,ly]; omega) (by simp only [aV.size]; omega)];rw [rd,if_neg (by omega),if_pos h96]
 rw [e] at hcl;have hok:=jq (l:=l) (t:=.bq (a + 1) a) ⟨ha,ha⟩;simp only [aV.at] at hok;unfold fJ;generalize lx l (.bq (a + 1) a)=r at *;obtain⟨r,y⟩:=r;simp only at *;by_cases hy:y=0
 ·subst hy;rw [if_neg (by simp)];rw [if_pos rfl] at hcl;have hcl:ah Tryz.prog Γ ext 197 [.ptr k 0 9] ⟨s.h,s.n,s.n⟩=some (.ok (iv r) ⟨s.h,s.n,s.n⟩):=hcl;have hr:a + 1 < r:=hok.2 rfl;generalize hsrc:sub l (a + 1) (r - 1)=src at *;have hsl:src.length < 16385:=by rw [← hsrc,de (by omega)]; omega
  have hul:=unq_len src;apply td (Q:=fun z=>MR l k pl od lv (gY fr) s z _)
  ·apply aK (fn:=Gi) [] rfl rfl rfl rfl (by unfold Gi; rfl); intro R hR;simp -implicitDefEqProofs (disch:=first | assumption | (apply Ar.mk; first | omega | (simp only [Zj]; omega)) | (apply Ak.mk; first | rfl | exact .inl rfl | exact .inr rfl | exact aq _ _ | exact av _ _ | (unfold aG az; simp<;>omega) | with_unfolding_all rfl | exact .inr (by with_unfolding_all rfl))) only [ZN,ai,qA,↓reduceIte,qB,qC,reduceCtorEq,aa,ad,ZM,ZV,aW,aZ,aS,hk,hcl,show sb l (a + 1) (r - 1)=src from hsrc];exact hR.symm
  refine HS (src:=src) (by omega) (Q:=fun z=>MR l k pl od lv (gY fr) s z _) (b:=s.n) (w0:=k) (h0:=s.h) (p0:=.ptr k 0 9) (p2:=iv r) (by omega) ?_ (src.length + 1) 0 [] _ ⟨s.h,s.n,s.n⟩ nv (by omega) (by omega) rfl (.inl ⟨rfl,rfl⟩) (fun _ _=>rfl) (Nat.le_refl _) (by show k≤s.n; omega) rfl rfl rfl rfl rfl;intro f S v' hA f0 f2 f4 hfr hn hw;have hel:eM S 1 v'=some ((kH src).flatMap bC,(kH src).length):=IK hA;have hby:=zf (kH src);have hsc:=h0.fr0 (S1:=S) hn hfr;have hkS:S.h k=_:=(hfr k hkn).trans hk;have hFr:∀S1,Fr k S S1→Fr k s ⟨S1.h,S1.n,min s.w S1.w⟩:=fun S1 g=>⟨Nat.le_trans hn g.n,fun j hj=>(g.h j hj).trans (hfr j (by omega)),fun n0 x y=>Nat.le_min.2 ⟨y,g.w n0 x (by omega)⟩⟩
  generalize kH src=u at *;unfold kN;have hpre:=fun s=>eY (ext:=ext) (a:=u) (b:=[40]) (by omega) s;by_cases hsp:u.head?=some 40
  ·have hpre:∀s,ah Tryz.prog Γ ext 41 [sv u,sv [40]] s=some (.ok (.sc (.bool true)) s):=fun s=>by
    rw [hpre]; simp only [bv]; rw [decide_eq_true];cases u with
    | nil=>cases hsp
    | cons c u=>injection hsp with hh; subst hh; simp [List.isPrefixOf]
   rw [show lH u=32 :: u from if_pos hsp];have hc1:=fun s=>rF (ext:=ext) (t:=32 :: u) (by (try simp); omega) (by simp) s;have hc2:=fun s=>rF (ext:=ext) (t:=32 :: (u ++ [10])) (by (try simp); omega) (by simp) s;have eT : 32 :: u ++ [10]=32 :: (u ++ [10]):=rfl;by_cases c1:ik 16384 (32 :: u)
   ·rw [if_pos c1];have hc1:∀s,ah Tryz.prog Γ ext 202 [sv (32 :: u)] s=some (.ok (.sc (.bool true)) s):=fun s=>by rw [hc1]; simp only [bv,decide_eq_true c1]
    obtain⟨S1,z1,sc,f1⟩:=qM (ext:=ext) hb hsc (q:=j7 (32 :: u)) (by simp [j7,aJ.kind]) (j:=r) (by omega) (by omega);rw [j7,cL,dl] at z1;have z1:ah Tryz.prog Γ ext 194 [.ptr k 0 9,.agg [iv 5,sv (32 :: u),iv 0,.sc (.bool false),nv],iv r] _=_:=z1;refine dn ?_ sc (hFr S1 f1);simp -implicitDefEqProofs (disch:=first | assumption | (apply Ar.mk; first | omega | (simp only [Zj]; omega))) only [ZN,qA,↓reduceIte,qB,qC,reduceCtorEq,aa,aD,ae,ZM,f0,f2,f4,hel,hby,hpre,hc1,z1]
   ·rw [if_neg c1,eT];have hc1:∀s,ah Tryz.prog Γ ext 202 [sv (32 :: u)] s=some (.ok (.sc (.bool false)) s):=fun s=>by rw [hc1]; simp only [bv,decide_eq_false c1]
    by_cases c2:ik 16384 (32 :: (u ++ [10]))
    ·rw [if_pos c2];have hc2:∀s,ah Tryz.prog Γ ext 202 [sv (32 :: (u ++ [10]))] s=some (.ok (.sc (.bool true)) s):=fun s=>by rw [hc2]; simp only [bv,decide_eq_true c2]
     obtain⟨S1,z1,sc,f1⟩:=qM (ext:=ext) hb hsc (q:=j7 (32 :: (u ++ [10]))) (by simp [j7,aJ.kind]) (j:=r) (by omega) (by omega);rw [j7,cL,dl] at z1;have z1:ah Tryz.prog Γ ext 194 [.ptr k 0 9,.agg [iv 5,sv (32 :: (u ++ [10])),iv 0,.sc (.bool false),nv],iv r] _=_:=z1;refine dn ?_ sc (hFr S1 f1);simp -implicitDefEqProofs (disch:=first | assumption | (apply Ar.mk; first | omega | (simp only [Zj]; omega))) only [ZN,qA,↓reduceIte,qB,qC,reduceCtorEq,aa,aD,ae,ZM,f0,f2,f4,hel,hby,hpre,hc1,hc2,z1]
    ·rw [if_neg c2];have hc2:∀s,ah Tryz.prog Γ ext 202 [sv (32 :: (u ++ [10]))] s=some (.ok (.sc (.bool false)) s):=fun s=>by rw [hc2]; simp only [bv,decide_eq_false c2]
     refine fh (S1:=⟨S.h,S.n,min s.w S.w⟩) ?_ (hFr S Fr.refl);simp -implicitDefEqProofs (disch:=first | assumption | (apply Ar.mk; first | omega | (simp only [Zj]; omega))) only [ZN,qA,↓reduceIte,qB,qC,reduceCtorEq,aa,ad,ZM,f0,f4,hel,hby,hpre,hc1,hc2,hkS,dN]
  ·have hpre:∀s,ah Tryz.prog Γ ext 41 [sv u,sv [40]] s=some (.ok (.sc (.bool false)) s):=fun s=>by
    rw [hpre]; simp only [bv]; rw [decide_eq_false];cases u with
    | nil=>simp
    | cons c u=>intro hh; apply hsp; simp [List.isPrefixOf] at hh; rw [← hh]; rfl
   rw [show lH u=u from if_neg hsp];have hc1:=fun s=>rF (ext:=ext) (t:=u) (by (try simp); omega) hsp s;have hc2:=fun s=>rF (ext:=ext) (t:=u ++ [10]) (by (try simp); omega) (by cases u with | nil=>simp | cons c u=>simpa using hsp) s;have eT:u ++ [10]=u ++ [10]:=rfl;by_cases c1:ik 16384 (u)
   ·rw [if_pos c1];have hc1:∀s,ah Tryz.prog Γ ext 202 [sv (u)] s=some (.ok (.sc (.bool true)) s):=fun s=>by rw [hc1]; simp only [bv,decide_eq_true c1]
    obtain⟨S1,z1,sc,f1⟩:=qM (ext:=ext) hb hsc (q:=j7 (u)) (by simp [j7,aJ.kind]) (j:=r) (by omega) (by omega);rw [j7,cL,dl] at z1;have z1:ah Tryz.prog Γ ext 194 [.ptr k 0 9,.agg [iv 5,sv (u),iv 0,.sc (.bool false),nv],iv r] _=_:=z1;refine dn ?_ sc (hFr S1 f1);simp -implicitDefEqProofs (disch:=first | assumption | (apply Ar.mk; first | omega | (simp only [Zj]; omega))) only [ZN,qA,↓reduceIte,qB,qC,reduceCtorEq,aa,aD,ae,ZM,f0,f2,f4,hel,hby,hpre,hc1,z1]
   ·rw [if_neg c1,eT];have hc1:∀s,ah Tryz.prog Γ ext 202 [sv (u)] s=some (.ok (.sc (.bool false)) s):=fun s=>by rw [hc1]; simp only [bv,decide_eq_false c1]
    by_cases c2:ik 16384 (u ++ [10])
    ·rw [if_pos c2];have hc2:∀s,ah Tryz.prog Γ ext 202 [sv (u ++ [10])] s=some (.ok (.sc (.bool true)) s):=fun s=>by rw [hc2]; simp only [bv,decide_eq_true c2]
     obtain⟨S1,z1,sc,f1⟩:=qM (ext:=ext) hb hsc (q:=j7 (u ++ [10])) (by simp [j7,aJ.kind]) (j:=r) (by omega) (by omega);rw [j7,cL,dl] at z1;have z1:ah Tryz.prog Γ ext 194 [.ptr k 0 9,.agg [iv 5,sv (u ++ [10]),iv 0,.sc (.bool false),nv],iv r] _=_:=z1;refine dn ?_ sc (hFr S1 f1);simp -implicitDefEqProofs (disch:=first | assumption | (apply Ar.mk; first | omega | (simp only [Zj]; omega))) only [ZN,qA,↓reduceIte,qB,qC,reduceCtorEq,aa,aD,ae,ZM,f0,f2,f4,hel,hby,hpre,hc1,hc2,z1]
    ·rw [if_neg c2];have hc2:∀s,ah Tryz.prog Γ ext 202 [sv (u ++ [10])] s=some (.ok (.sc (.bool false)) s):=fun s=>by rw [hc2]; simp only [bv,decide_eq_false c2]
     refine fh (S1:=⟨S.h,S.n,min s.w S.w⟩) ?_ (hFr S Fr.refl);simp -implicitDefEqProofs (disch:=first | assumption | (apply Ar.mk; first | omega | (simp only [Zj]; omega))) only [ZN,qA,↓reduceIte,qB,qC,reduceCtorEq,aa,ad,ZM,f0,f4,hel,hby,hpre,hc1,hc2,hkS,dN]
 ·rw [if_pos hy];rw [if_neg hy] at hcl;have hcl:ah Tryz.prog Γ ext 197 [.ptr k 0 9] ⟨s.h,s.n,s.n⟩=some (.pan (lw r y) ⟨s.h,s.n,s.n⟩):=hcl;refine fh ?_ (Fr.min s hkn);refine aK (fn:=Gi) [] rfl rfl rfl rfl (by unfold Gi; rfl) ?_; intro R hR;simp -implicitDefEqProofs (disch:=first | assumption | (apply Ar.mk; first | omega | (simp only [Zj]; omega))) only [ZN,ai,↓reduceIte,aa,ZM,hcl];exact hR.symm
end
theorem zo {ps:List aJ}{b n0:Nat}{v:PV}{s:PS} (h:oD 135 5 cJ b ID ps v s) (hn:n0≤b):aP n0 s v=some (bK ps):=by
 rw [CJ];rcases h with ⟨rfl,rfl⟩ | ⟨hl,k,low,k1,k2,_,rfl,k3,k4⟩
 ·rfl
 ·have hfl:=bB fq ps;have hall:(ps.flatMap cJ).all dQ=true:=by rw [List.all_flatMap]; exact List.all_eq_true.2 fun x _=>tZ x
  unfold aP;simp only [k3,List.drop_zero,Nat.sub_zero];rw [if_neg (by omega),List.take_of_length_le (by omega),if_pos ⟨by omega,by omega,Nat.zero_le _,hall⟩];cases ps with
  | nil=>exact absurd rfl hl
  | cons a l=>rfl
def PR (l:List UInt8) (k pl:Nat) (od:Bool) (lv:Nat) (fr:Int) (s:PS) (z:Option ZR):R→Prop
 | .ok (ps,j)=>∃s',z=some (.ok (.tup []) s')∧(∃o' v' low,low≤9∧s'.h k=⟨lr l j pl od lv fr o' nv v',low,169⟩∧oD 135 5 cJ (k + 1) ID ps v' s')∧Fr k s s'
 | .error (x,e)=>∃s',z=some (.pan (lw x e) s')∧Fr k s s'
def JK (pl:Nat) (od:Bool) (fr:Option Nat):Prop:=fr=none↔bW pl od=0∨bW pl od=5
def LQ (ext:aw) (l:List UInt8) (n:Nat):Prop:=∀(k pl:Nat) (od:Bool) (lv:Nat) (fr:Option Nat) (a o:Nat) (acc:List aJ) (s:PS),pl≤3→lv≤32→o≤a→JK pl od fr→Sc l k pl od lv (gY fr) a o acc s→4 * (l.length - a) + 3 < n→PR l k pl od lv (gY fr) s (ah Tryz.prog Γ ext 111 [.ptr k 0 9] s) (wd 16384 l n (.loop a (bW pl od) lv (fr.getD 0) o acc))
def ya:R→Except (Nat × Nat) PV
 | .ok (ps,j)=>.ok (.tup [bK ps,iv j])
 | .error x=>.error x
section
variable {l:List UInt8}{n:Nat} (hb:l.length < 16385) (ih:LQ ext l n) {k pl:Nat}{od:Bool}{lv:Nat}{fr:Option Nat}{a o:Nat}{tv v:PV}{low:Nat}{s:PS} (hlow:low≤9) (hk:s.h k=⟨lr l a pl od lv (gY fr) o tv v,low,169⟩) (ha:a≤l.length)
include hb ih hlow hk ha
theorem sy {at' op pl':Nat}{od':Bool} (hat:at'≤l.length) (hpl:pl'≤3) (hlv:lv < 32) (hfo:JK pl' od' (some op)) (hn : 4 * (l.length - at') + 3 < n):ah Tryz.prog Γ ext 196 [.ptr k 0 9,iv at',iv op,iv pl',.sc (.bool od')] s=zE s (ya (wd 16384 l n (.loop at' (bW pl' od') (lv + 1) op 0 []))):=by
 have h:=ih s.n pl' od' (lv + 1) (some op) at' 0 [] ((⟨s.h,s.n,s.n⟩ : PS).new ⟨lr l at' pl' od' (lv + 1) (gY (some op)) 0 nv nv,0,169⟩) hpl (by omega) (Nat.zero_le _) hfo
  ⟨⟨[],[],nv,nv,0,Nat.zero_le _,(by simp -implicitDefEqProofs (disch:=(apply Ar.mk; (try simp only [aj,ak]); omega)) only [ap,aI]),.inl ⟨rfl,rfl⟩,.inl ⟨rfl,rfl⟩,(fun j m f m' f' h=>by cases h),rfl,uP,Nat.zero_le _⟩,(by (simp only [aj]; omega)),hat⟩ hn
 simp only [Option.getD_some] at h;generalize wd 16384 l n (.loop at' (bW pl' od') (lv + 1) op 0 [])=r at *;rcases r with ⟨x,e⟩ | ⟨ps,j⟩
 ·obtain⟨S1,z1,f1⟩:=h;have hw:s.n≤S1.w:=f1.w s.n (Nat.le_refl _) (by (simp only [cO]; omega));have z1:ah Tryz.prog Γ ext 111 [.ptr s.n 0 9] ((⟨s.h,s.n,s.n⟩ : PS).new ⟨[sv l,iv at',iv pl',.sc (.bool od'),iv (lv + 1),iv op,iv 0,nv,nv],0,169⟩)=_:=z1;refine am (fn:=Bn) [10,11] rfl rfl rfl rfl (by unfold Bn; rfl) ?_; intro R hR;simp -implicitDefEqProofs (disch:=first | assumption | (apply Ar.mk; first | omega | (simp only [Zj]; omega)) | (apply Ak.mk; first | rfl | exact .inl rfl | exact .inr rfl | exact aq _ _ | exact av _ _ | (unfold aG az; simp<;>omega) | with_unfolding_all rfl | exact .inr (by with_unfolding_all rfl))) only [ZN,ai,qA,↓reduceIte,qB,qC,reduceCtorEq,aa,aD,ad,ZM,ZV,aW,aZ,aS,hk,z1];rw [hR]; rfl
 ·obtain⟨S1,z1,⟨o',v',low',hlow',hk',hA⟩,f1⟩:=h;have hw:s.n≤S1.w:=f1.w s.n (Nat.le_refl _) (by (simp only [cO]; omega));have hfz:=zo hA (n0:=s.n) (by omega);have z1:ah Tryz.prog Γ ext 111 [.ptr s.n 0 9] ((⟨s.h,s.n,s.n⟩ : PS).new ⟨[sv l,iv at',iv pl',.sc (.bool od'),iv (lv + 1),iv op,iv 0,nv,nv],0,169⟩)=_:=z1;rcases hA with ⟨rfl,rfl⟩ | ⟨_,k',low',_,_,_,rfl,_,_⟩
  ·refine am (fn:=Bn) [10,11] rfl rfl rfl rfl (by unfold Bn; rfl) ?_; intro R hR;simp -implicitDefEqProofs (disch:=first | assumption | (apply Ar.mk; first | omega | (simp only [Zj]; omega)) | (apply Ak.mk; first | rfl | exact .inl rfl | exact .inr rfl | exact aq _ _ | exact av _ _ | (unfold aG az; simp<;>omega) | with_unfolding_all rfl | exact .inr (by with_unfolding_all rfl))) only [ZN,ai,qA,↓reduceIte,qB,qC,reduceCtorEq,aa,aD,ae,frz,frz2,aX,ad,ZM,ZV,aW,aZ,aS,hk,z1,hk'];rw [hR,ya,dl]; rfl
  ·refine am (fn:=Bn) [10,11] rfl rfl rfl rfl (by unfold Bn; rfl) ?_; intro R hR;simp -implicitDefEqProofs (disch:=first | assumption | (apply Ar.mk; first | omega | (simp only [Zj]; omega)) | (apply Ak.mk; first | rfl | exact .inl rfl | exact .inr rfl | exact aq _ _ | exact av _ _ | (unfold aG az; simp<;>omega) | with_unfolding_all rfl | exact .inr (by with_unfolding_all rfl))) only [ZN,ai,qA,↓reduceIte,qB,qC,reduceCtorEq,aa,aD,ae,frz,frz2,aX,ad,ZM,ZV,aW,aZ,aS,hk,z1,hk',hfz];rw [hR]; rfl
end
def RW (ext:aw) (l:List UInt8):aT→R→Prop
 | .part a p lv,r=>lv≤32→∀s,ah Tryz.prog Γ ext 152 [sv l,iv a,iv p,iv lv] s=some (.ok (iQ r) s)
 | .brc a p lv,r=>lv≤32→∀s,ah Tryz.prog Γ ext 224 [sv l,iv a,iv p,iv lv] s=some (.ok (iQ r) s)
 | .brc2 _ _ _,_=>True
 | .loop a p lv fr o acc,r=>lv≤32→o≤a→acc.length≤a→(∀q∈acc,q.kind=1→q.text.length≤a)→∀(s0 s:PS) (f:aE) (v:PV),s0.n < s.n→s0.n≤s.w→s.h s0.n=⟨[nv,iv 0,iv 0],0,174⟩→fF 135 5 cJ (s0.n + 1) acc v s→
  f 0=sv l→f 1=iv a→f 2=iv p→f 3=iv lv→f 4=iv fr→f 10=.ptr s0.n 0 3→f 11=v→f 12=iv o→rl Tryz.prog Γ ext (ZL 10 3 s0) 0 mb nw f s []=some (.ok (iQ r) s0)
def IW (ext:aw) (l:List UInt8) (n:Nat):Prop:=∀t:aT,t.ok l→t.size l < n→RW ext l t (wd LL l n t)
theorem Kx {acc:List aJ}{b:Nat}{v:PV}{s:PS} (h:fF 135 5 cJ b acc v s):oC false v=some (iv acc.length)∧cI v=[v]∧eQ v=true∧(acc.length=0→v=nv)∧(∀n0,n0 < b→∀blk,aP n0 (s.put n0 blk) v=some (bK acc)):=by
 refine⟨?_,?_,?_,?_,?_⟩
 ·rcases h with ⟨rfl,rfl⟩ | ⟨_,k,_,_,rfl,_⟩<;>rfl
 ·rcases h with ⟨rfl,rfl⟩ | ⟨_,k,_,_,rfl,_⟩<;>rfl
 ·rcases h with ⟨rfl,rfl⟩ | ⟨_,k,_,_,rfl,_⟩<;>rfl
 ·intro hn;rcases h with ⟨rfl,rfl⟩ | ⟨hl,k,_,_,rfl,_⟩
  ·rfl
  ·exact absurd (List.length_eq_zero_iff.1 hn) hl
 ·intro n0 hn blk;rw [CJ];refine fF.frz fq (b:=b) ?_ (by omega) fun x _=>tZ x;rcases h with h | ⟨hl,k,k1,k2,k3,k4⟩
  ·exact .inl h
  ·exact .inr ⟨hl,k,k1,k2,k3,by rw [v9,if_neg (by omega)]; exact k4⟩
theorem Dl (acc:List aJ) (t:List UInt8):(fx acc t).length≤acc.length + 1:=by
 by_cases h:acc=[]
 ·subst h; exact Nat.le_refl _
 ·obtain⟨i,q,rfl⟩:=ry h;rw [eA]; split<;>simp
theorem FH (acc:List aJ) (q:aJ):(dO acc q).length≤acc.length + 1:=by
 unfold dO; split
 ·exact Dl _ _
 ·simp
theorem EE {acc:List aJ}{q:aJ}{a j:Nat} (hac:∀q∈acc,q.kind=1→q.text.length≤a) (hq:q.kind=1→0 < q.text.length∧q.text.length≤j - a) (haj:a < j):∀x∈dO acc q,x.kind=1→x.text.length≤j:=by
 intro x hx h1;unfold dO at hx;split at hx
 ·rename_i hk;have hq:=hq hk;by_cases h:acc=[]
  ·subst h;rw [pU,List.mem_singleton] at hx; subst hx;show q.text.length≤j; omega
  ·obtain⟨i,y,rfl⟩:=ry h;rw [eA] at hx;split at hx
   ·rename_i hy;have:=hac y (by simp) hy;rcases List.mem_append.1 hx with hx | hx
    ·have:=hac x (by simp [hx]) h1; omega
    ·rw [List.mem_singleton] at hx; subst hx;show (y.text ++ q.text).length≤j;rw [List.length_append]; omega
   ·rcases List.mem_append.1 hx with hx | hx
    ·have:=hac x hx h1; omega
    ·rw [List.mem_singleton] at hx; subst hx;show q.text.length≤j; omega
 ·rename_i hk;rcases List.mem_append.1 hx with hx | hx
  ·have:=hac x hx h1; omega
  ·rw [List.mem_singleton] at hx; subst hx; exact absurd h1 hk
section
variable {l:List UInt8}{n:Nat} (hb:l.length < 1000000) (ih:IW ext l n)
include hb ih
theorem Ik {j p lv fr o k:Nat}{acc:List aJ}{s0 s:PS}{f:aE}{v x z:PV} (ok:j≤l.length) (hn : 4 * (l.length - j) + 3 < n) (hlv:lv≤32) (hoj:o≤j) (hal:acc.length≤j) (hac:∀q∈acc,q.kind=1→q.text.length≤j) (hsn:s0.n < s.n) (hsw:s0.n≤s.w) (h10:s.h s0.n=⟨[nv,iv 0,iv 0],0,174⟩) (hA:fF 135 5 cJ (s0.n + 1) acc v s)
  (f0:f 0=sv l) (f2:f 2=iv p) (f3:f 3=iv lv) (f4:f 4=iv fr) (f10:f 10=.ptr s0.n 0 3) (f11:f 11=v) (f12:f 12=iv o) (f13:f 13=.ptr k 0 3) (hk:s.h k=⟨[x,iv j,z],3,174⟩) :
  zr Tryz.prog Γ ext (ZL 10 3 s0) fg f s (KI.b 1 :: lk 0 mb nw [])=some (.ok (iQ (wd LL l n (.loop j p lv fr o acc))) s0):=by
 unfold fg;simp -implicitDefEqProofs (disch:=first | assumption | (apply Ar.mk; omega)) only [ZN,↓reduceIte,qB,qC,reduceCtorEq,aa,ad,f13,hk];exact ih (.loop j p lv fr o acc) ok (by simp only [aT.size]; omega) hlv hoj hal hac s0 s _ v hsn hsw h10 hA f0 rfl f2 f3 f4 f10 f11 f12
theorem LD {a j p lv fr o k:Nat}{acc ps:List aJ}{s0 s:PS}{f:aE}{v z:PV} (haj:a < j) (ok:j≤l.length) (hn : 4 * (l.length - j) + 3 < n) (hlv:lv≤32) (hoj:o≤j) (hal:acc.length≤a) (hac:∀q∈acc,q.kind=1→q.text.length≤a) (hps:ps.length≤1) (hpt:∀q∈ps,q.kind=1→0 < q.text.length∧q.text.length≤j - a)
  (hsn:s0.n < k) (hks:k < s.n) (hsw:s0.n≤s.w) (h10:s.h s0.n=⟨[nv,iv 0,iv 0],0,174⟩) (hA:fF 135 5 cJ (s0.n + 1) acc v s) (hv:∀m f,v≠.own k 0 m f)
  (f0:f 0=sv l) (f2:f 2=iv p) (f3:f 3=iv lv) (f4:f 4=iv fr) (f10:f 10=.ptr s0.n 0 3) (f11:f 11=v) (f12:f 12=iv o) (f13:f 13=.ptr k 0 3) (f14:f 14=iv 0) (hk:s.h k=⟨[bK ps,iv j,z],3,174⟩) :
  rl Tryz.prog Γ ext (ZL 10 3 s0) 2 gK fg f s (KI.b 1 :: lk 0 mb nw [])=some (.ok (iQ (wd LL l n (.loop j p lv fr o (ps.foldl dO acc)))) s0):=by
 match ps,hps,hpt,hk with
 | [],_,_,hk=>
  refine mC (n:=0) f13 hk (by rw [dl]; rfl) f14 fun f' sm e11=>?_;obtain⟨g0,g1,g2,g3,g4,g10,g12,g13⟩:=sm;exact Ik hb ih ok hn hlv hoj (by show acc.length≤j; omega) (fun q hq hq1=>Nat.le_trans (hac q hq hq1) (by omega)) (by omega) hsw h10 hA (g0.trans f0) (g2.trans f2) (g3.trans f3) (g4.trans f4) (g10.trans f10) (e11.trans f11) (g12.trans f12) (g13.trans f13) hk
 | [q],_,hpt,hk=>
  have hpt:=hpt q (by simp);refine E4 hA f11 f13 hk hks (by omega) hv f14 (by omega) (fun h=>by have:=hpt h; omega) (fun q hq h=>by have:=hac q hq h; omega) fun f' v' s' hA' e11 sm hk' hfr hn' hw'=>?_;obtain⟨g0,g1,g2,g3,g4,g10,g12,g13⟩:=sm;refine Ik hb ih ok hn hlv hoj ?_ ?_ (by omega) (hw' _ (by omega) hsw) ((hfr s0.n (by omega)).trans h10) hA' (g0.trans f0) (g2.trans f2) (g3.trans f3) (g4.trans f4) (g10.trans f10) e11 (g12.trans f12) (g13.trans f13) (hk'.trans hk)
  ·show (dO acc q).length≤j;have:=FH acc q; omega
  ·exact fun x hx h1=>EE hac hpt haj x hx h1
theorem Oe {a p lv fr o k:Nat}{acc:List aJ}{r:R}{s0 s:PS}{f:aE}{v z:PV} (hr:rE r=0) (hq:rJ l (.part a p lv) r) (hn:∀j,a < j→4 * (l.length - j) + 3 < n) (hlv:lv≤32) (hoa:o≤a + 1) (hal:acc.length≤a) (hac:∀q∈acc,q.kind=1→q.text.length≤a)
  (hsn:s0.n < k) (hks:k < s.n) (hsw:s0.n≤s.w) (h10:s.h s0.n=⟨[nv,iv 0,iv 0],0,174⟩) (hA:fF 135 5 cJ (s0.n + 1) acc v s) (hv:∀m f,v≠.own k 0 m f)
  (f0:f 0=sv l) (f2:f 2=iv p) (f3:f 3=iv lv) (f4:f 4=iv fr) (f10:f 10=.ptr s0.n 0 3) (f11:f 11=v) (f12:f 12=iv o) (f13:f 13=.ptr k 0 3) (f14:f 14=iv 0) (hk:s.h k=⟨[bK (rP r),iv (rA r),z],3,174⟩) :
  rl Tryz.prog Γ ext (ZL 10 3 s0) 2 gK fg f s (KI.b 1 :: lk 0 mb nw [])=some (.ok (iQ (match (generalizing:=false) r with
   | .error x=>.error x
   | .ok (ps,j)=>wd LL l n (.loop j p lv fr o (ps.foldl dO acc)))) s0):=by
 rcases r with ⟨x,e⟩ | ⟨ps,j⟩
 ·exact absurd hr hq.1
 ·obtain⟨h1,h2,h3,h4⟩:=hq;exact LD hb ih h1 h2 (hn j h1) hlv (by omega) hal hac h3 h4 hsn hks hsw h10 hA hv f0 f2 f3 f4 f10 f11 f12 f13 f14 hk
theorem Nr {a p lv fr o:Nat}{acc:List aJ} (ok:(aT.loop a p lv fr o acc).ok l) (hn:(aT.loop a p lv fr o acc).size l < n + 1):RW ext l (.loop a p lv fr o acc) (wd LL l (n + 1) (.loop a p lv fr o acc)):=by
 intro hlv hoa hal hac s0 s f v hsn hsw h10 hA f0 f1 f2 f3 f4 f10 f11 f12;simp only [aT.ok,aT.size] at ok hn;obtain⟨al,ac,a1,a0,afz⟩:=Kx hA;have afz:=afz s0.n (by omega);have a0:∀(h:Ar (acc.length=0)) (S:PS) (ys:List PV) (n:Nat),fo S 135 5 64 v ys n=fo S 135 5 64 nv ys n:=fun h S ys n=>by rw [a0 h.h]
 have he:=fun (h:Ar (a < l.length)) s=>N1 (ext:=ext) (l:=l) (by omega) (a:=a) h.h p o s;have ht:=fun (h:Ar (a < l.length)) s=>KN (ext:=ext) (l:=l) (by omega) (a:=a) h.h (p:=p) s;have hp:=fun (h:Ar (a < l.length))=>ih (.part a p lv) h.h (by have:=h.h; simp only [aT.size]; omega) hlv;have hq:=fun (h:a < l.length)=>fw LL l n (.part a p lv) h (by simp only [aT.size]; omega);rw [wd];generalize wd LL l n (.part a p lv)=r at *;simp only [fb] at hp;refine ar (by unfold mb; rfl) (by unfold nw; rfl) ?_; intro hr R hR;simp -implicitDefEqProofs (disch:=first | assumption | (apply Ar.mk; first | omega | (simp only [Zj]; omega))) only [ZN,↓df,ai,qA,↓reduceIte,qB,qC,reduceCtorEq,aa,aD,ad,ZM,qF,f0,f1,f2,f3,f4,f10,f11,f12,h10,al,ac,a1,a0,afz,he,ht,hp,kP,bU,eJ,hr];subst hR;have hAn:∀blk blk',fF 135 5 cJ (s0.n + 1) acc v ((s.new blk).put s.n blk'):=fun blk blk'=>by
  rcases hA with h | ⟨hl,k,k1,k2,k3,k4⟩
  ·exact .inl h
  ·exact .inr ⟨hl,k,k1,by simp only [aj,ak]; omega,k3,by simp -implicitDefEqProofs (disch:=(apply Ar.mk; (try simp only [aj,ak]); omega)) only [ap,ao,au]; exact k4⟩
 have hv:∀m f,v≠.own s.n 0 m f:=fun m f h=>by
  rcases hA with ⟨_,rfl⟩ | ⟨hl,k,k1,k2,rfl,k4⟩
  ·cases h
  ·injection h with h; omega
 have hemp:(acc.isEmpty=true)=(acc.length=0):=by cases acc<;>simp
 simp only [hemp];apply DI_c<;>intro ha
 ·rw [if_pos ha];have hsz:∀j,a < j→4 * (l.length - j) + 3 < n:=fun j hj=>by omega
  have hq:=hq ha;apply DI_c<;>intro hend
  ·rw [if_pos hend]
   (repeat' (apply DI_c<;>intro))<;>(repeat' split)<;>first | rfl | omega
  ·rw [if_neg hend];apply DI_c<;>intro htl
   ·rw [if_pos htl];refine ih (.loop (a + 1) p lv fr o [dr]) (by simp only [aT.ok]; omega) (by simp only [aT.size]; omega) hlv (by omega) (by simp) (fun q hq h1=>?_) s0 _ _ (.own (s.n + 1) 0 1 5) ?_ ?_ ?_ ?_ f0 rfl f2 f3 f4 f10 rfl f12
    ·rw [List.mem_singleton] at hq; subst hq; cases h1
    ·simp only [aj]; omega
    ·simp only [cO]; omega
    ·simp -implicitDefEqProofs (disch:=(apply Ar.mk; (try simp only [aj,ak]); omega)) only [ap,au]; exact h10
    ·refine .inr ⟨by simp,s.n + 1,by omega,?_,rfl,?_⟩
     ·simp only [aj]; omega
     ·simp only [ap,aj,aI,List.flatMap_cons,List.flatMap_nil,cJ,dr,dl]; rfl
   ·rw [if_neg htl];have fin:∀(o':Nat) (f:aE),(if p=4 then bD (bt l a) o else o)=o'→o'≤a + 1→¬ ¬ rE r=0→f 0=sv l→f 2=iv p→f 3=iv lv→f 4=iv fr→f 10=.ptr s0.n 0 3→f 11=v→f 12=iv o'→f 13=.ptr s.n 0 3→f 14=iv 0→
      rl Tryz.prog Γ ext (ZL 10 3 s0) 2 gK fg f ((s.new ⟨[nv,iv 0,iv 0],0,174⟩).put s.n ⟨[bK (rP r),iv (rA r),iv (rE r)],3,174⟩) (KI.b 1 :: lk 0 mb nw [])=some (.ok (iQ (match (generalizing:=false) r with
       | .error x=>.error x
       | .ok (ps,j)=>wd LL l n (.loop j p lv fr (if p=4 then bD (bt l a) o else o) (ps.foldl dO acc)))) s0):=by
     intro o' f ho ho1 hre f0 f2 f3 f4 f10 f11 f12 f13 f14;rw [ho];refine Oe (z:=iv (rE r)) hb ih (by omega) hq hsz hlv ho1 hal hac hsn ?_ ?_ ?_ (hAn _ _) hv f0 f2 f3 f4 f10 f11 f12 f13 f14 ?_
     ·simp only [aj,ak]; omega
     ·simp only [cO,db]; omega
     ·simp -implicitDefEqProofs (disch:=(apply Ar.mk; (try simp only [aj,ak]); omega)) only [ap,ao,au]; exact h10
     ·simp only [ao,aI]
    have err:¬ rE r=0→some (ZR.ok (.agg [bK (rP r),iv (rA r),iv (rE r)]) s0)=some (.ok (iQ (match (generalizing:=false) r with
       | .error x=>.error x
       | .ok (ps,j)=>wd LL l n (.loop j p lv fr (if p=4 then bD (bt l a) o else o) (ps.foldl dO acc)))) s0):=by
     intro h;rw [← fb];rcases r with ⟨x,e⟩ | ⟨ps,j⟩
     ·rfl
     ·exact absurd rfl h
    apply DI_c<;>intro h40
    ·apply DI_c<;>intro he
     ·exact err he
     ·refine fin (o + 1) _ ?_ ?_ he f0 f2 f3 f4 f10 f11 rfl rfl rfl
      ·rw [if_pos h40.1,bD,if_pos h40.2]
      ·omega
    ·apply DI_c<;>intro h41
     ·have ho1 : 1≤o:=by
       rcases Nat.eq_zero_or_pos o with h | h
       ·exact absurd (by simp [ef,h,h41.1,h41.2]) hend
       ·exact h
      apply DI_c<;>intro he
      ·exact err he
      ·refine fin (o - 1) _ ?_ ?_ he f0 f2 f3 f4 f10 f11 (by show PV.sc (.int .i64 (IntKind.i64.wrap ((o:Int) - ((1:Nat):Int))))=_; rw [sN ⟨by omega⟩]) rfl rfl
       ·rw [if_pos h41.1,bD,if_neg (by omega),if_pos h41.2]
       ·omega
     ·apply DI_c<;>intro he
      ·exact err he
      ·refine fin o _ ?_ ?_ he f0 f2 f3 f4 f10 f11 f12 rfl rfl
       ·unfold bD; (repeat' split)<;>omega
       ·omega
 ·rw [if_neg ha]
  (repeat' (apply DI_c<;>intro))<;>(repeat' split)<;>first | rfl | omega
end
end Go.Proofs.YtioblbopbilmaaaGreatDoor
namespace Go.Mir
theorem U6 {l:List UInt8}{a:Nat} (ha:a < l.length) (h:bt l a=39):lx l (.pass a 0)=if aQ l 39 (a + 1) < l.length then (aQ l 39 (a + 1) + 1,0) else (a,7):=by
 have he:ch l a≠true:=fun hh=>by have:=kJ hh; omega
 unfold lx;rw [kQ (n:=ly l) (m:=3 * l.length + 2 + 1) (t:=.pass a 0) ha (by simp only [aV.size,ly]; omega) (by simp only [aV.size]; omega),rd,if_neg (by omega),if_neg (by omega),if_neg he,if_pos ⟨h,rfl⟩]
theorem O2 {l:List UInt8}{a q:Nat} (he:ch l a=true) (h:bt l (a + 1)=40) (h2:¬ (a + 2 < l.length∧bt l (a + 2)=40)):lx l (.pass a q)=lx l (.cmd (a + 2) a 1 true):=by
 have hd:=kJ he;have hl:=dD he;unfold lx;rw [kQ (n:=ly l) (m:=3 * l.length + 3 + 1 + 1) (t:=.pass a q) (by simp only [aV.ok]; omega) (by simp only [aV.size,ly]; omega) (by simp only [aV.size]; omega),kQ (n:=ly l) (m:=3 * l.length + 3) (t:=.cmd (a + 2) a 1 true) ⟨by omega,by omega⟩ (by simp only [aV.size,ly]; omega) (by simp only [aV.size]; omega)];rw [rd,if_neg (by omega),if_neg (by omega),if_pos he,rd,if_neg (by omega),if_pos h,if_neg h2]
theorem ma {l:List UInt8}{a p lv fr o:Nat}{acc:List aJ}{r:R} (h:rJ l (.loop a p lv fr o acc) r):rE r=0→rA r≤l.length:=by
 rcases r with ⟨x,e⟩ | ⟨ps,j⟩
 ·exact fun hh=>absurd hh h.1
 ·exact fun _=>h.2.1
theorem cH {p c:Prop} [Decidable p] [Decidable c] {A:p→Option Go.PE.ZR}{B:¬ p→Option Go.PE.ZR}{X Y:R}{s:Go.PE.PS} (e:p↔c) (h1:∀h,A h=some (.ok (iQ X) s)) (h2:∀h,B h=some (.ok (iQ Y) s)):Go.PE.DI p A B=some (.ok (iQ (if c then X else Y)) s):=by
 apply Go.PE.DI_c<;>intro h
 ·rw [if_pos (e.1 h)]; exact h1 h
 ·rw [if_neg fun hh=>h (e.2 hh)]; exact h2 h
end Go.Mir
namespace Go.Proofs.YtioblbopbilmaaaGreatDoor
open Go Go.EvL Go.PE Go.Mir
variable {ext:aw}
section
variable {l:List UInt8}{n:Nat} (hb:l.length < 1000000) (ih:IW ext l n)
include hb ih
theorem rI {a p lv fr:Nat} (ok:a≤l.length) (hn : 4 * (l.length - a) + 3 < n) (hlv:lv≤32) (s:PS):ah Tryz.prog Γ ext 116 [sv l,iv a,iv p,iv lv,iv fr] s=some (.ok (.agg [bK (rP (wd LL l n (.loop a p lv fr 0 []))),iv (rA (wd LL l n (.loop a p lv fr 0 []))),iv (rE (wd LL l n (.loop a p lv fr 0 [])))]) s):=by
 rw [← fb];refine bF (fn:=P0) 10 3 rfl rfl rfl rfl (by unfold P0; rfl) ?_; intro R hR;simp -implicitDefEqProofs (disch:=first | assumption | (apply Ar.mk; omega)) only [ZN,ai,qB];subst hR;exact ih (.loop a p lv fr 0 []) ok hn hlv (Nat.zero_le _) (Nat.zero_le _) (fun q hq=>by cases hq) s _ _ nv (by simp only [aj]; omega) (by simp only [cO]; omega) (by simp only [ap,aI]) (.inl ⟨rfl,rfl⟩) rfl rfl rfl rfl rfl rfl rfl rfl
theorem EU {a lv:Nat} (ha:a < l.length) (hn : 4 * (l.length - a) + 2 < n + 1) (hlv:lv≤32) (s:PS):ah Tryz.prog Γ ext 185 [sv l,iv a,iv lv] s=some (.ok (iQ (if bt l a=39 then (if aQ l 39 (a + 1) < l.length then one (fX (sub l (a + 1) (aQ l 39 (a + 1)))) (aQ l 39 (a + 1) + 1) else .error (a,7)) else
   if 32≤lv then .error (a,5) else match wd LL l n (.loop (a + 1) 2 (lv + 1) a 0 []) with
    | .error x=>.error x
    | .ok (ps,j)=>one (.mk 3 [] 0 false ps) (j + 1))) s):=by
 have hx:∀s,ah Tryz.prog Γ ext 179 [sv l,iv a,iv 0] s=some (.ok (.tup [iv (lx l (.pass a 0)).1,iv (lx l (.pass a 0)).2]) s):=oO (ext:=ext) (l:=l) (by omega) (ly l) (.pass a 0) ha (by simp only [aV.size,ly]; omega);have hok:=jq (l:=l) (t:=.pass a 0) ha;have hp:=fun h:Ar (lv < 32)=>rI hb ih (a:=a + 1) (p:=2) (lv:=lv + 1) (fr:=a) (by omega) (by omega) (by have:=h.h; omega);have hq:=fw LL l n (.loop (a + 1) 2 (lv + 1) a 0 []) (by simp only [aT.ok]; omega) (by simp only [aT.size]; omega);have hx2:=U6 (l:=l) (a:=a) ha;have hx3:bt l a=39→(lx l (.pass a 0)).2=0→a + 2≤(lx l (.pass a 0)).1:=fun h=>by
  rw [hx2 h];have:=eK l 39 (a + 1);split
  ·intro _; show a + 2≤aQ l 39 (a + 1) + 1; omega
  ·intro h; cases h
 generalize wd LL l n (.loop (a + 1) 2 (lv + 1) a 0 [])=r at *;have hra:=ma hq;simp only [aV.at] at hok;generalize lx l (.pass a 0)=x at *;refine bF (fn:=Ol) 6 3 rfl rfl rfl rfl (by unfold Ol; rfl) ?_; intro R hR;simp -implicitDefEqProofs (disch:=first | assumption | (apply Ar.mk; first | omega | (simp only [Zj]; omega))) only [ZN,ai,qA,↓reduceIte,qB,qC,reduceCtorEq,aa,aD,ad,ZM,hx,hp,kP,nK,C3,bU,eJ,kV];subst hR;apply DI_c<;>intro h39
 ·have hx2:=hx2 h39;rw [if_pos h39];split at hx2<;>subst hx2<;>(repeat' (apply DI_c<;>intro))<;>(repeat' split)<;>first | rfl | contradiction | (exfalso; simp at *; done)
 ·rw [if_neg h39]
  (repeat' (apply DI_c<;>intro))<;>(repeat' split)<;>first | rfl | omega | exact absurd rfl (by assumption) | exact absurd hq.1 (by assumption) | skip
end
end Go.Proofs.YtioblbopbilmaaaGreatDoor
namespace Go.Mir
theorem ij (l:List UInt8) (i:Nat) (c:Bool):(gN l i c).2≤2∧(i≤l.length→i + (gN l i c).2≤l.length)∧((gN l i c).2=0↔(gN l i c).1=0):=by
 unfold gN
 (repeat' split)<;>refine⟨by simp,fun h=>?_,by simp⟩<;>simp<;>omega
theorem MZ {l:List UInt8}{j:Nat} (h:bt l j=58):nR l j=((gN l (j + 1) true).1,decide ((gN l (j + 1) true).2≠0),if (gN l (j + 1) true).2=0 then 0 else (gN l (j + 1) true).2 + 1):=by
 unfold nR Gs gN;simp only [h,beq_self_eq_true,if_true,decide_eq_true_eq,beq_iff_eq];have e:j + 1 - j + 1=2:=by omega
 rw [e]
 (repeat' split)<;>first | rfl | omega | contradiction
theorem Fc {l:List UInt8}{j:Nat} (h:bt l j≠58) (hj:j < l.length):nR l j=((gN l j false).1,false,(gN l j false).2):=by
 have e:j - j + 1=1:=by omega
 have e2:¬ l.length≤j:=by omega
 have e3:(bt l j == 58)=false:=by simpa using h
 unfold nR Gx gN;simp only [Bool.and_eq_true,decide_eq_true_eq,beq_iff_eq,Bool.false_eq_true,if_false,e,e2,e3]
 (repeat' split)<;>first | rfl | omega
theorem Fu:∀(l:List UInt8) (m v:Nat),2147483647 < 10 ^ m * v→mY l v≤m
 | [],m,v,_=>Nat.zero_le _
 | c :: l,m,v,h=>by
  unfold mY;split
  ·rename_i hc;cases m with
   | zero=>simp at h; omega
   | succ m=>
    have:=Fu l m (10 * v + (c.toNat - 48)) (by
     rw [Nat.pow_succ,Nat.mul_assoc] at h;exact Nat.lt_of_lt_of_le h (Nat.mul_le_mul_left _ (by omega)))
    omega
  ·exact Nat.zero_le _
theorem IL {l:List UInt8}{i:Nat} (h:i < l.length) (hc:bt l i=35):ax l i=i + 1:=by
 unfold ax;rw [if_neg (by omega),hc];rfl
theorem LC {l:List UInt8}{i:Nat} (hp:i < ax l i):bt l i≠125∧bt l i≠58∧i < l.length:=by
 have hl:i < l.length:=Nat.lt_of_not_le fun h=>by unfold ax at hp; rw [if_pos h] at hp; omega
 refine⟨fun hc=>?_,fun hc=>?_,hl⟩<;>
 ·unfold ax at hp;rw [if_neg (by omega),hc] at hp;have:ay 125=false:=rfl;have:ay 58=false:=rfl;have:aF 125=false:=rfl;have:aF 58=false:=rfl;have:b7 125=false:=rfl;have:b7 58=false:=rfl;simp_all
theorem BN {pl:Nat}{od:Bool} (hp:pl≤3):cX (bW pl od)=bW pl true:=by
 unfold cX bW;cases od<;>(repeat' split)<;>simp_all<;>omega
end Go.Mir
namespace Go.Proofs.YtioblbopbilmaaaGreatDoor
open Go Go.EvL Go.PE Go.Mir
variable {ext:aw}
theorem IT {l:List UInt8}{i:Nat} (h:i < l.length) (hp : 32 < ax l i - i):uc (bt l i)=true:=by
 unfold ax at hp;rw [if_neg (by omega)] at hp;split at hp
 ·omega
 split at hp
 ·exfalso;rename_i h0 hd;have hdig:=pO hd;rw [dp h] at hp;unfold mY at hp;rw [← cf h] at hp;split at hp
  ·have:=Fu (l.drop (i + 1)) 10 (10 * 0 + (bt l i - 48)) (by
    have : 1≤10 * 0 + (bt l i - 48):=by omega
    have h2:(10:Nat) ^ 10=10000000000:=rfl;rw [h2]; omega)
   omega
  ·omega
 split at hp
 ·rename_i h0 hd hw;unfold aF at hw;unfold uc;rw [show ay (bt l i)=false from by simpa using hd,Bool.or_false] at hw;exact hw
 split at hp<;>omega
def vw:R→Except (Nat × Nat) PV
 | .ok (ps,j)=>.ok (.tup [.agg (ps.flatMap cJ),iv j])
 | .error x=>.error x
theorem J8 {r:R} (S:PS) (h:∀x e,r=.error (x,e)→e≠0):zE S (ya r)=DI (rE r=0) (fun _=>some (.ok (.tup [bK (rP r),iv (rA r)]) S)) fun _=>some (.pan (lw (rA r) (rE r)) S):=by
 rcases r with ⟨x,e⟩ | ⟨ps,j⟩
 ·exact (DI_c (fun hh=>absurd hh (h x e rfl)) fun _=>rfl).symm
 ·exact (DI_c (fun _=>rfl) fun hh=>absurd rfl hh).symm
theorem yG {l:List UInt8}{t:List UInt8}{op:Int}{c:Bool}{a p lv fr o:Nat}{acc:List aJ}{r:R}{S:PS} (hw:rJ l (.loop a p lv fr o acc) r) :
  DI (rE r=0) (fun _=>some (ZR.ok (.tup [.agg [iv 4,sv t,.sc (.int .i64 op),.sc (.bool c),bK (rP r)],iv (rA r + 1)]) S)) (fun _=>some (.pan (lw (rA r) (rE r)) S)) =
   zE S (vw (match (generalizing:=false) r with | .error x=>.error x | .ok (ps,i)=>one (.mk 4 t op c ps) (i + 1))):=by
 rcases r with ⟨x,e⟩ | ⟨ps,i⟩
 ·exact DI_c (fun hh=>absurd hh hw.1) (fun _=>rfl)
 ·refine DI_c (fun _=>?_) fun hh=>absurd rfl hh;simp only [one,vw,zE,List.flatMap_cons,List.flatMap_nil,List.append_nil,cL,rP,rA];rfl
set_option maxRecDepth 3000
set_option maxHeartbeats 3000000
structure BC (ext:aw) (l:List UInt8) (n k pl:Nat) (od:Bool) (lv:Nat) (fr:Option Nat) (a o:Nat) (tv v:PV) (low:Nat):Prop where
 p2:∀(i:Nat) (S:PS),Kk (S.h k=⟨lr l a pl od lv (gY fr) o tv v,low,169⟩)→Ar (i≤l.length)→ah Tryz.prog Γ ext 200 [.ptr k 0 9,iv i] S=some (.ok (iv (ax l i)) S)
 p3:∀(i x:Nat) (S:PS),Kk (S.h k=⟨lr l a pl od lv (gY fr) o tv v,low,169⟩)→Ar (i < l.length)→ah Tryz.prog Γ ext 201 [.ptr k 0 9,iv i,iv (ax l i),iv x] S=DI (32 < ax l i - i) (fun _=>some (.pan (lw x 3) S)) fun _=>some (.ok (.tup []) S)
 p4:∀(i:Nat) (S:PS),Kk (S.h k=⟨lr l a pl od lv (gY fr) o tv v,low,169⟩)→Ar (i≤l.length)→ah Tryz.prog Γ ext 218 [.ptr k 0 9,iv i] S=DI (i=l.length) (fun _=>some (.pan (lw a 7) S)) fun _=>some (.pan (lw i 6) S)
 p6:∀(j:Nat) (S:PS),ah Tryz.prog Γ ext 41 [sv (l.drop j),sv [125]] S=some (.ok (bv (j < l.length∧bt l j=125)) S)
 p7:∀(j:Nat) (S:PS),ah Tryz.prog Γ ext 41 [sv (l.drop j),sv [58]] S=some (.ok (bv (j < l.length∧bt l j=58)) S)
 p8:∀(j:Nat) (S:PS),ah Tryz.prog Γ ext 41 [sv (l.drop j),sv [92,10]] S=some (.ok (bv (bx l j=true)) S)
 p9:∀(i:Nat) (S:PS),Kk (S.h k=⟨lr l a pl od lv (gY fr) o tv v,low,169⟩)→Ar (i≤l.length∧a + 2 < i∧lv < 32)→ah Tryz.prog Γ ext 196 [.ptr k 0 9,iv i,iv a,iv pl,.sc (.bool true)] S=DI (rE (wd 16384 l n (.loop i (bW pl true) (lv + 1) a 0 []))=0) (fun _=>some (.ok (.tup [bK (rP (wd 16384 l n (.loop i (bW pl true) (lv + 1) a 0 []))),iv (rA (wd 16384 l n (.loop i (bW pl true) (lv + 1) a 0 [])))]) S)) fun _=>some (.pan (lw (rA (wd 16384 l n (.loop i (bW pl true) (lv + 1) a 0 []))) (rE (wd 16384 l n (.loop i (bW pl true) (lv + 1) a 0 [])))) S)
 b2:a + 2≤ax l (a + 2)∧ax l (a + 2)≤l.length
 b9:∀i,i≤l.length→a + 2 < i→rJ l (.loop i (bW pl true) (lv + 1) a 0 []) (wd 16384 l n (.loop i (bW pl true) (lv + 1) a 0 []))
def jL (l:List UInt8) (a:Nat):Prop:=¬ (a + 2 < l.length∧bt l (a + 2)=35)∨(a + 2 < l.length∧bt l (a + 2)=35∧ax l (a + 2)=a + 2 + 1∧ax l (a + 2 + 1)=a + 2 + 1)∨
   (a + 2 < l.length∧bt l (a + 2)=35∧ax l (a + 2)=a + 2 + 1∧a + 2 + 1 < ax l (a + 2 + 1)∧¬ 32 < ax l (a + 2 + 1) - (a + 2 + 1)∧ax l (a + 2 + 1) < l.length∧bt l (ax l (a + 2 + 1))≠125∧(gN l (a + 2 + 1) false).2≠0)
section
variable {l:List UInt8}{n:Nat} (hb:l.length < 16385) (ih:LQ ext l n) {k pl:Nat}{od:Bool}{lv:Nat}{fr:Option Nat}{a o:Nat}{tv v:PV}{low:Nat} (hlow:low≤9)
include hb ih hlow
theorem TD (ha:a + 1 < l.length) (hpl:pl≤3) (hlv:lv≤32) (hn : 4 * (l.length - a) < n + 1) (h2:a + 2≤l.length):BC ext l n k pl od lv fr a o tv v low:=by
 have p2:∀(i:Nat) (S:PS),Kk (S.h k=⟨lr l a pl od lv (gY fr) o tv v,low,169⟩)→Ar (i≤l.length)→ah Tryz.prog Γ ext 200 [.ptr k 0 9,iv i] S=some (.ok (iv (ax l i)) S):=fun i S h h2=>ox (ext:=ext) (s:=S) hb hlow h.h (by omega) h2.h;have p3:∀(i x:Nat) (S:PS),Kk (S.h k=⟨lr l a pl od lv (gY fr) o tv v,low,169⟩)→Ar (i < l.length)→ah Tryz.prog Γ ext 201 [.ptr k 0 9,iv i,iv (ax l i),iv x] S=DI (32 < ax l i - i) (fun _=>some (.pan (lw x 3) S)) fun _=>some (.ok (.tup []) S):=fun i x S h h2=>by
  have hp:=fA (l:=l) (i:=i) (by have:=h2.h; omega);rw [wJ (ext:=ext) (s:=S) hb hlow h.h (by omega) h2.h hp.1 hp.2];unfold DI;by_cases hc : 32 < ax l i - i
  ·rw [dif_pos hc,if_pos ⟨IT h2.h hc,hc⟩]; rfl
  ·rw [dif_neg hc,if_neg fun hh=>hc hh.2]; rfl
 have p4:∀(i:Nat) (S:PS),Kk (S.h k=⟨lr l a pl od lv (gY fr) o tv v,low,169⟩)→Ar (i≤l.length)→ah Tryz.prog Γ ext 218 [.ptr k 0 9,iv i] S=DI (i=l.length) (fun _=>some (.pan (lw a 7) S)) fun _=>some (.pan (lw i 6) S):=fun i S h h2=>by
  rw [I7 (ext:=ext) (s:=S) hb hlow h.h (by omega) h2.h]; unfold DI; split<;>rfl
 have p6:∀(j:Nat) (S:PS),ah Tryz.prog Γ ext 41 [sv (l.drop j),sv [125]] S=some (.ok (bv (j < l.length∧bt l j=125)) S):=fun j S=>by
  rw [eY (by rw [List.length_drop]; omega),KP]; simp
 have p7:∀(j:Nat) (S:PS),ah Tryz.prog Γ ext 41 [sv (l.drop j),sv [58]] S=some (.ok (bv (j < l.length∧bt l j=58)) S):=fun j S=>by
  rw [eY (by rw [List.length_drop]; omega),KP]; simp
 have p8:∀(j:Nat) (S:PS),ah Tryz.prog Γ ext 41 [sv (l.drop j),sv [92,10]] S=some (.ok (bv (bx l j=true)) S):=fun j S=>by
  rw [eY (by rw [List.length_drop]; omega),yr]; rfl
 have p9:∀(i:Nat) (S:PS),Kk (S.h k=⟨lr l a pl od lv (gY fr) o tv v,low,169⟩)→Ar (i≤l.length∧a + 2 < i∧lv < 32)→ah Tryz.prog Γ ext 196 [.ptr k 0 9,iv i,iv a,iv pl,.sc (.bool true)] S=DI (rE (wd 16384 l n (.loop i (bW pl true) (lv + 1) a 0 []))=0) (fun _=>some (.ok (.tup [bK (rP (wd 16384 l n (.loop i (bW pl true) (lv + 1) a 0 []))),iv (rA (wd 16384 l n (.loop i (bW pl true) (lv + 1) a 0 [])))]) S)) fun _=>some (.pan (lw (rA (wd 16384 l n (.loop i (bW pl true) (lv + 1) a 0 []))) (rE (wd 16384 l n (.loop i (bW pl true) (lv + 1) a 0 [])))) S):=fun i S h h2=>by
  have h2:=h2.h;rw [sy (ext:=ext) (s:=S) hb ih hlow h.h (by omega) h2.1 hpl h2.2.2 ⟨(fun h=>by cases h),(fun h=>by unfold bW at h; simp at h; (repeat' split at h)<;>omega)⟩ (by omega)];exact J8 S fun x e he=>(he ▸ fw 16384 l n (.loop i (bW pl true) (lv + 1) a 0 []) h2.1 (by simp only [aT.size]; omega):rJ l _ (.error (x,e))).1
 have b2:=fA (l:=l) (i:=a + 2) (by omega);exact⟨p2,p3,p4,p6,p7,p8,p9,b2,fun i h1 h2=>fw 16384 l n (.loop i (bW pl true) (lv + 1) a 0 []) (by simp only [aT.ok]; omega) (by simp only [aT.size]; omega)⟩
end
set_option maxRecDepth 3000
set_option maxHeartbeats 3000000
section
variable {l:List UInt8}{n:Nat} (hb:l.length < 16385) {k pl:Nat}{od:Bool}{lv:Nat}{fr:Option Nat}{a o:Nat}{tv v:PV}{low:Nat}{s:PS} (hlow:low≤9) (hk:s.h k=⟨lr l a pl od lv (gY fr) o tv v,low,169⟩) (B:BC ext l n k pl od lv fr a o tv v low) (hkn:k < s.n) (ha:a + 1 < l.length) (hlv:lv≤32) (hp:jL l a)
include hb hlow hk B hkn ha hlv hp
theorem Ss (r1:ax l (a + 2)=a + 2) (r0:ax l (a + 2)=l.length):ah Tryz.prog Γ ext 198 [.ptr k 0 9] s=zE s (vw (.error (a,7))):=by
 have p5:=fun (i:Nat) (c:Bool) (S:PS)=>cA (ext:=ext) l (by omega) i c S;obtain⟨p2,p3,p4,p6,p7,p8,p9,b2,b9⟩:=B;unfold jL at hp;rcases hp with hp | hp | hp<;>first | (exfalso; omega) | (refine bL (fn:=ez) [.cell 2 true 5,.tmp 3] rfl rfl rfl rfl (by unfold ez; rfl) ?_; intro R hR; simp -implicitDefEqProofs (disch:=first | assumption | (apply Ar.mk; first | omega | (simp only [Zj]; omega)) | (apply Ar.mk; assumption) | (apply Kk.mk; simp -implicitDefEqProofs (disch:=(apply Ar.mk; (try simp only [aj,ak]); omega)) only [ap,ao,aj,ak,au,aI,hk]) | (apply Ak.mk; first | rfl | exact .inl rfl | exact .inr rfl | exact aq _ _ | exact av _ _ | (unfold aG az; simp<;>omega) | with_unfolding_all rfl | exact .inr (by with_unfolding_all rfl))) only [ZN,↓dt,↓df,ai,qA,↓reduceIte,qB,qC,reduceCtorEq,aa,ad,ZM,hk,p2,p4]; exact hR.symm)
theorem Sb (r1:ax l (a + 2)=a + 2) (r0:¬ ax l (a + 2)=l.length):ah Tryz.prog Γ ext 198 [.ptr k 0 9] s=zE s (vw (.error (ax l (a + 2),6))):=by
 have p5:=fun (i:Nat) (c:Bool) (S:PS)=>cA (ext:=ext) l (by omega) i c S;obtain⟨p2,p3,p4,p6,p7,p8,p9,b2,b9⟩:=B;unfold jL at hp;rcases hp with hp | hp | hp<;>first | (exfalso; omega) | (refine bL (fn:=ez) [.cell 2 true 5,.tmp 3] rfl rfl rfl rfl (by unfold ez; rfl) ?_; intro R hR; simp -implicitDefEqProofs (disch:=first | assumption | (apply Ar.mk; first | omega | (simp only [Zj]; omega)) | (apply Ar.mk; assumption) | (apply Kk.mk; simp -implicitDefEqProofs (disch:=(apply Ar.mk; (try simp only [aj,ak]); omega)) only [ap,ao,aj,ak,au,aI,hk]) | (apply Ak.mk; first | rfl | exact .inl rfl | exact .inr rfl | exact aq _ _ | exact av _ _ | (unfold aG az; simp<;>omega) | with_unfolding_all rfl | exact .inr (by with_unfolding_all rfl))) only [ZN,↓dt,↓df,ai,qA,↓reduceIte,qB,qC,reduceCtorEq,aa,ad,ZM,hk,p2,p4]; exact hR.symm)
theorem Tt (r1:¬ ax l (a + 2)=a + 2) (r2 : 32 < ax l (a + 2) - (a + 2)):ah Tryz.prog Γ ext 198 [.ptr k 0 9] s=zE s (vw (.error (a + 2,3))):=by
 have p5:=fun (i:Nat) (c:Bool) (S:PS)=>cA (ext:=ext) l (by omega) i c S;obtain⟨p2,p3,p4,p6,p7,p8,p9,b2,b9⟩:=B;unfold jL at hp;rcases hp with hp | hp | hp<;>first | (exfalso; omega) | (refine bL (fn:=ez) [.cell 2 true 5,.tmp 3] rfl rfl rfl rfl (by unfold ez; rfl) ?_; intro R hR; simp -implicitDefEqProofs (disch:=first | assumption | (apply Ar.mk; first | omega | (simp only [Zj]; omega)) | (apply Ar.mk; assumption) | (apply Kk.mk; simp -implicitDefEqProofs (disch:=(apply Ar.mk; (try simp only [aj,ak]); omega)) only [ap,ao,aj,ak,au,aI,hk]) | (apply Ak.mk; first | rfl | exact .inl rfl | exact .inr rfl | exact aq _ _ | exact av _ _ | (unfold aG az; simp<;>omega) | with_unfolding_all rfl | exact .inr (by with_unfolding_all rfl))) only [ZN,↓dt,↓df,ai,qA,↓reduceIte,qB,qC,reduceCtorEq,aa,ad,ZM,hk,p2,p3]; exact hR.symm)
theorem QA (r1:¬ ax l (a + 2)=a + 2) (r2:¬ 32 < ax l (a + 2) - (a + 2)) (r0:l.length≤ax l (a + 2)):ah Tryz.prog Γ ext 198 [.ptr k 0 9] s=zE s (vw (.error (a,7))):=by
 have p5:=fun (i:Nat) (c:Bool) (S:PS)=>cA (ext:=ext) l (by omega) i c S;obtain⟨p2,p3,p4,p6,p7,p8,p9,b2,b9⟩:=B;have z0:(gN l (ax l (a + 2)) false).2=0:=by unfold gN; rw [if_pos r0]
 unfold jL at hp;rcases hp with hp | hp | hp<;>first | (exfalso; omega) | (refine bL (fn:=ez) [.cell 2 true 5,.tmp 3] rfl rfl rfl rfl (by unfold ez; rfl) ?_; intro R hR; simp -implicitDefEqProofs (disch:=first | assumption | (apply Ar.mk; first | omega | (simp only [Zj]; omega)) | (apply Ar.mk; assumption) | (apply Kk.mk; simp -implicitDefEqProofs (disch:=(apply Ar.mk; (try simp only [aj,ak]); omega)) only [ap,ao,aj,ak,au,aI,hk]) | (apply Ak.mk; first | rfl | exact .inl rfl | exact .inr rfl | exact aq _ _ | exact av _ _ | (unfold aG az; simp<;>omega) | with_unfolding_all rfl | exact .inr (by with_unfolding_all rfl))) only [ZN,↓dt,↓df,ai,qA,↓reduceIte,qB,qC,reduceCtorEq,aa,aD,ad,ZM,ZV,aW,aZ,aS,hk,p2,p3,p4,p5,p6,p7]; exact hR.symm)
theorem RE (r2:¬ 32 < ax l (a + 2) - (a + 2)) (r0:¬ l.length≤ax l (a + 2)) (r1:¬ ax l (a + 2)=a + 2) (r3:bt l (ax l (a + 2))=125):ah Tryz.prog Γ ext 198 [.ptr k 0 9] s=zE s (vw (one (dY (sub l (a + 2) (ax l (a + 2)))) (ax l (a + 2) + 1))):=by
 have p5:=fun (i:Nat) (c:Bool) (S:PS)=>cA (ext:=ext) l (by omega) i c S;obtain⟨p2,p3,p4,p6,p7,p8,p9,b2,b9⟩:=B;unfold jL at hp;rcases hp with hp | hp | hp<;>first | (exfalso; omega) | (refine bL (fn:=ez) [.cell 2 true 5,.tmp 3] rfl rfl rfl rfl (by unfold ez; rfl) ?_; intro R hR; simp -implicitDefEqProofs (disch:=first | assumption | (apply Ar.mk; first | omega | (simp only [Zj]; omega)) | (apply Ar.mk; assumption) | (apply Kk.mk; simp -implicitDefEqProofs (disch:=(apply Ar.mk; (try simp only [aj,ak]); omega)) only [ap,ao,aj,ak,au,aI,hk]) | (apply Ak.mk; first | rfl | exact .inl rfl | exact .inr rfl | exact aq _ _ | exact av _ _ | (unfold aG az; simp<;>omega) | with_unfolding_all rfl | exact .inr (by with_unfolding_all rfl))) only [ZN,↓dt,↓df,ai,qA,↓reduceIte,qB,qC,reduceCtorEq,aa,aD,ae,frz,frz2,aX,ad,ZM,hk,p2,p3,p5,p6]; exact hR.symm)
end
set_option maxRecDepth 3000
set_option maxHeartbeats 3000000
section
variable {l:List UInt8}{n:Nat} (hb:l.length < 16385) {k pl:Nat}{od:Bool}{lv:Nat}{fr:Option Nat}{a o:Nat}{tv v:PV}{low:Nat}{s:PS} (hlow:low≤9) (hk:s.h k=⟨lr l a pl od lv (gY fr) o tv v,low,169⟩) (B:BC ext l n k pl od lv fr a o tv v low) (hkn:k < s.n) (ha:a + 1 < l.length) (hlv:lv≤32) (hp:jL l a)
include hb hlow hk B hkn ha hlv hp
theorem SN (r2:¬ 32 < ax l (a + 2) - (a + 2)) (r0:¬ l.length≤ax l (a + 2)) (r1:¬ ax l (a + 2)=a + 2) (r3:¬ bt l (ax l (a + 2))=125) (r4:bt l (ax l (a + 2))=58) (s0:(gN l (ax l (a + 2) + 1) true).2=0) (j1:ax l (a + 2) + 1=l.length):ah Tryz.prog Γ ext 198 [.ptr k 0 9] s=zE s (vw (.error (a,7))):=by
 have p5:=fun (i:Nat) (c:Bool) (S:PS)=>cA (ext:=ext) l (by omega) i c S;obtain⟨p2,p3,p4,p6,p7,p8,p9,b2,b9⟩:=B;obtain⟨o11,o12,o13⟩:=ij l (ax l (a + 2) + 1) true;have o12:=o12 (by omega);unfold jL at hp;rcases hp with hp | hp | hp<;>first | (exfalso; omega) | (refine bL (fn:=ez) [.cell 2 true 5,.tmp 3] rfl rfl rfl rfl (by unfold ez; rfl) ?_; intro R hR; simp -implicitDefEqProofs (disch:=first | assumption | (apply Ar.mk; first | omega | (simp only [Zj]; omega)) | (apply Ar.mk; assumption) | (apply Kk.mk; simp -implicitDefEqProofs (disch:=(apply Ar.mk; (try simp only [aj,ak]); omega)) only [ap,ao,aj,ak,au,aI,hk]) | (apply Ak.mk; first | rfl | exact .inl rfl | exact .inr rfl | exact aq _ _ | exact av _ _ | (unfold aG az; simp<;>omega) | with_unfolding_all rfl | exact .inr (by with_unfolding_all rfl))) only [ZN,↓dt,↓df,ai,qA,↓reduceIte,qB,qC,reduceCtorEq,aa,aD,ad,ZM,ZV,aW,aZ,aS,hk,p2,p3,p4,p5,p6,p7]; exact hR.symm)
theorem Sf (r2:¬ 32 < ax l (a + 2) - (a + 2)) (r0:¬ l.length≤ax l (a + 2)) (r1:¬ ax l (a + 2)=a + 2) (r3:¬ bt l (ax l (a + 2))=125) (r4:bt l (ax l (a + 2))=58) (s0:(gN l (ax l (a + 2) + 1) true).2=0) (j1:¬ ax l (a + 2) + 1=l.length):ah Tryz.prog Γ ext 198 [.ptr k 0 9] s=zE s (vw (.error (ax l (a + 2) + 1,6))):=by
 have p5:=fun (i:Nat) (c:Bool) (S:PS)=>cA (ext:=ext) l (by omega) i c S;obtain⟨p2,p3,p4,p6,p7,p8,p9,b2,b9⟩:=B;obtain⟨o11,o12,o13⟩:=ij l (ax l (a + 2) + 1) true;have o12:=o12 (by omega);unfold jL at hp;rcases hp with hp | hp | hp<;>first | (exfalso; omega) | (refine bL (fn:=ez) [.cell 2 true 5,.tmp 3] rfl rfl rfl rfl (by unfold ez; rfl) ?_; intro R hR; simp -implicitDefEqProofs (disch:=first | assumption | (apply Ar.mk; first | omega | (simp only [Zj]; omega)) | (apply Ar.mk; assumption) | (apply Kk.mk; simp -implicitDefEqProofs (disch:=(apply Ar.mk; (try simp only [aj,ak]); omega)) only [ap,ao,aj,ak,au,aI,hk]) | (apply Ak.mk; first | rfl | exact .inl rfl | exact .inr rfl | exact aq _ _ | exact av _ _ | (unfold aG az; simp<;>omega) | with_unfolding_all rfl | exact .inr (by with_unfolding_all rfl))) only [ZN,↓dt,↓df,ai,qA,↓reduceIte,qB,qC,reduceCtorEq,aa,aD,ad,ZM,ZV,aW,aZ,aS,hk,p2,p3,p4,p5,p6,p7]; exact hR.symm)
theorem Ri (r2:¬ 32 < ax l (a + 2) - (a + 2)) (r0:¬ l.length≤ax l (a + 2)) (r1:¬ ax l (a + 2)=a + 2) (r3:¬ bt l (ax l (a + 2))=125) (r4:bt l (ax l (a + 2))=58) (s0:¬ (gN l (ax l (a + 2) + 1) true).2=0) (lv32 : 32≤lv):ah Tryz.prog Γ ext 198 [.ptr k 0 9] s=zE s (vw (.error (ax l (a + 2),5))):=by
 have p5:=fun (i:Nat) (c:Bool) (S:PS)=>cA (ext:=ext) l (by omega) i c S;obtain⟨p2,p3,p4,p6,p7,p8,p9,b2,b9⟩:=B;obtain⟨o11,o12,o13⟩:=ij l (ax l (a + 2) + 1) true;have o12:=o12 (by omega);unfold jL at hp;rcases hp with hp | hp | hp<;>first | (exfalso; omega) | (refine bL (fn:=ez) [.cell 2 true 5,.tmp 3] rfl rfl rfl rfl (by unfold ez; rfl) ?_; intro R hR; simp -implicitDefEqProofs (disch:=first | assumption | (apply Ar.mk; first | omega | (simp only [Zj]; omega)) | (apply Ar.mk; assumption) | (apply Kk.mk; simp -implicitDefEqProofs (disch:=(apply Ar.mk; (try simp only [aj,ak]); omega)) only [ap,ao,aj,ak,au,aI,hk]) | (apply Ak.mk; first | rfl | exact .inl rfl | exact .inr rfl | exact aq _ _ | exact av _ _ | (unfold aG az; simp<;>omega) | with_unfolding_all rfl | exact .inr (by with_unfolding_all rfl))) only [ZN,↓dt,↓df,ai,qA,↓reduceIte,qB,qC,reduceCtorEq,aa,aD,ad,ZM,ZV,aW,aZ,aS,hk,p2,p3,p5,p6,p7,dN]; exact hR.symm)
end
set_option maxRecDepth 3000
set_option maxHeartbeats 3000000
section
variable {l:List UInt8}{n:Nat} (hb:l.length < 16385) {k pl:Nat}{od:Bool}{lv:Nat}{fr:Option Nat}{a o:Nat}{tv v:PV}{low:Nat}{s:PS} (hlow:low≤9) (hk:s.h k=⟨lr l a pl od lv (gY fr) o tv v,low,169⟩) (B:BC ext l n k pl od lv fr a o tv v low) (hkn:k < s.n) (ha:a + 1 < l.length) (hlv:lv≤32) (hp:jL l a)
include hb hlow hk B hkn ha hlv hp
theorem S0 (r2:¬ 32 < ax l (a + 2) - (a + 2)) (r0:¬ l.length≤ax l (a + 2)) (r1:¬ ax l (a + 2)=a + 2) (r3:¬ bt l (ax l (a + 2))=125) (r4:bt l (ax l (a + 2))=58) (s0:¬ (gN l (ax l (a + 2) + 1) true).2=0) (lv32:¬ 32≤lv) (jo:bx l (ax l (a + 2) + 1 + (gN l (ax l (a + 2) + 1) true).2)=true):ah Tryz.prog Γ ext 198 [.ptr k 0 9] s=zE s (vw (.error (ax l (a + 2) + 1 + (gN l (ax l (a + 2) + 1) true).2,6))):=by
 have p5:=fun (i:Nat) (c:Bool) (S:PS)=>cA (ext:=ext) l (by omega) i c S;obtain⟨p2,p3,p4,p6,p7,p8,p9,b2,b9⟩:=B;obtain⟨o11,o12,o13⟩:=ij l (ax l (a + 2) + 1) true;have o12:=o12 (by omega);unfold jL at hp;rcases hp with hp | hp | hp<;>first | (exfalso; omega) | (refine bL (fn:=ez) [.cell 2 true 5,.tmp 3] rfl rfl rfl rfl (by unfold ez; rfl) ?_; intro R hR; simp -implicitDefEqProofs (disch:=first | assumption | (apply Ar.mk; first | omega | (simp only [Zj]; omega)) | (apply Ar.mk; assumption) | (apply Kk.mk; simp -implicitDefEqProofs (disch:=(apply Ar.mk; (try simp only [aj,ak]); omega)) only [ap,ao,aj,ak,au,aI,hk]) | (apply Ak.mk; first | rfl | exact .inl rfl | exact .inr rfl | exact aq _ _ | exact av _ _ | (unfold aG az; simp<;>omega) | with_unfolding_all rfl | exact .inr (by with_unfolding_all rfl))) only [ZN,↓dt,↓df,ai,qA,↓reduceIte,qB,qC,reduceCtorEq,aa,aD,ad,ZM,ZV,aW,aZ,aS,hk,p2,p3,p5,p6,p7,p8,jo,dN]; exact hR.symm)
end
set_option maxRecDepth 3000
set_option maxHeartbeats 3000000
section
variable {l:List UInt8}{n:Nat} (hb:l.length < 16385) {k pl:Nat}{od:Bool}{lv:Nat}{fr:Option Nat}{a o:Nat}{tv v:PV}{low:Nat}{s:PS} (hlow:low≤9) (hk:s.h k=⟨lr l a pl od lv (gY fr) o tv v,low,169⟩) (B:BC ext l n k pl od lv fr a o tv v low) (hkn:k < s.n) (ha:a + 1 < l.length) (hlv:lv≤32) (hp:jL l a)
include hb hlow hk B hkn ha hlv hp
theorem QW (r2:¬ 32 < ax l (a + 2) - (a + 2)) (r0:¬ l.length≤ax l (a + 2)) (r1:¬ ax l (a + 2)=a + 2) (r3:¬ bt l (ax l (a + 2))=125) (r4:bt l (ax l (a + 2))=58) (s0:¬ (gN l (ax l (a + 2) + 1) true).2=0) (lv32:¬ 32≤lv) (jo:¬ bx l (ax l (a + 2) + 1 + (gN l (ax l (a + 2) + 1) true).2)=true):ah Tryz.prog Γ ext 198 [.ptr k 0 9] s=zE s (vw (match wd 16384 l n (.loop (ax l (a + 2) + 1 + (gN l (ax l (a + 2) + 1) true).2) (bW pl true) (lv + 1) a 0 []) with | .error x=>.error x | .ok (ps,i)=>one (.mk 4 (sub l (a + 2) (ax l (a + 2))) (gN l (ax l (a + 2) + 1) true).1 true ps) (i + 1))):=by
 have p5:=fun (i:Nat) (c:Bool) (S:PS)=>cA (ext:=ext) l (by omega) i c S;obtain⟨p2,p3,p4,p6,p7,p8,p9,b2,b9⟩:=B;obtain⟨o11,o12,o13⟩:=ij l (ax l (a + 2) + 1) true;have o12:=o12 (by omega);have e24:decide ((gN l (ax l (a + 2) + 1) true).2≠0)=true:=decide_eq_true s0;have hw:=b9 (ax l (a + 2) + 1 + (gN l (ax l (a + 2) + 1) true).2) (by omega) (by omega);have hra:=ma hw;have p9:=fun S h=>p9 (ax l (a + 2) + 1 + (gN l (ax l (a + 2) + 1) true).2) S h ⟨by omega⟩;generalize wd 16384 l n (.loop (ax l (a + 2) + 1 + (gN l (ax l (a + 2) + 1) true).2) (bW pl true) (lv + 1) a 0 [])=r at *;unfold jL at hp;rcases hp with hp | hp | hp<;>first | (exfalso; omega) | (refine bL (fn:=ez) [.cell 2 true 5,.tmp 3] rfl rfl rfl rfl (by unfold ez; rfl) ?_; intro R hR; simp -implicitDefEqProofs (disch:=first | assumption | (apply Ar.mk; first | omega | (simp only [Zj]; omega)) | (apply Ar.mk; assumption) | (apply Kk.mk; simp -implicitDefEqProofs (disch:=(apply Ar.mk; (try simp only [aj,ak]); omega)) only [ap,ao,aj,ak,au,aI,hk]) | (apply Ak.mk; first | rfl | exact .inl rfl | exact .inr rfl | exact aq _ _ | exact av _ _ | (unfold aG az; simp<;>omega) | with_unfolding_all rfl | exact .inr (by with_unfolding_all rfl))) only [ZN,↓dt,↓df,ai,qA,↓reduceIte,qB,qC,reduceCtorEq,aa,aD,ae,frz,frz2,aX,ad,ZM,ZV,aW,aZ,aS,hk,p2,p3,p5,p6,p7,p8,p9,bU,eJ,kV]; subst hR; exact yG hw)
end
set_option maxRecDepth 3000
set_option maxHeartbeats 3000000
section
variable {l:List UInt8}{n:Nat} (hb:l.length < 16385) {k pl:Nat}{od:Bool}{lv:Nat}{fr:Option Nat}{a o:Nat}{tv v:PV}{low:Nat}{s:PS} (hlow:low≤9) (hk:s.h k=⟨lr l a pl od lv (gY fr) o tv v,low,169⟩) (B:BC ext l n k pl od lv fr a o tv v low) (hkn:k < s.n) (ha:a + 1 < l.length) (hlv:lv≤32) (hp:jL l a)
include hb hlow hk B hkn ha hlv hp
theorem Qx (r2:¬ 32 < ax l (a + 2) - (a + 2)) (r0:¬ l.length≤ax l (a + 2)) (r1:¬ ax l (a + 2)=a + 2) (r3:¬ bt l (ax l (a + 2))=125) (r4:¬ bt l (ax l (a + 2))=58) (s0:(gN l (ax l (a + 2)) false).2=0):ah Tryz.prog Γ ext 198 [.ptr k 0 9] s=zE s (vw (if bt l (a + 2)=35 then .error (ax l (a + 3),6) else .error (ax l (a + 2),6))):=by
 have p5:=fun (i:Nat) (c:Bool) (S:PS)=>cA (ext:=ext) l (by omega) i c S;obtain⟨p2,p3,p4,p6,p7,p8,p9,b2,b9⟩:=B;obtain⟨o11,o12,o13⟩:=ij l (ax l (a + 2)) false;have o12:=o12 (by omega);unfold jL at hp;rcases hp with hp | hp | hp
 ·rw [if_neg (by omega)];refine bL (fn:=ez) [.cell 2 true 5,.tmp 3] rfl rfl rfl rfl (by unfold ez; rfl) ?_; intro R hR;simp -implicitDefEqProofs (disch:=first | assumption | (apply Ar.mk; first | omega | (simp only [Zj]; omega)) | (apply Ar.mk; assumption) | (apply Kk.mk; simp -implicitDefEqProofs (disch:=(apply Ar.mk; (try simp only [aj,ak]); omega)) only [ap,ao,aj,ak,au,aI,hk]) | (apply Ak.mk; first | rfl | exact .inl rfl | exact .inr rfl | exact aq _ _ | exact av _ _ | (unfold aG az; simp<;>omega) | with_unfolding_all rfl | exact .inr (by with_unfolding_all rfl))) only [ZN,↓dt,↓df,ai,qA,↓reduceIte,qB,qC,reduceCtorEq,aa,aD,ad,ZM,ZV,aW,aZ,aS,hk,p2,p3,p4,p5,p6,p7];exact hR.symm
 ·rw [if_pos hp.2.1,show ax l (a + 3)=ax l (a + 2) from hp.2.2.2.trans hp.2.2.1.symm];refine bL (fn:=ez) [.cell 2 true 5,.tmp 3] rfl rfl rfl rfl (by unfold ez; rfl) ?_; intro R hR;simp -implicitDefEqProofs (disch:=first | assumption | (apply Ar.mk; first | omega | (simp only [Zj]; omega)) | (apply Ar.mk; assumption) | (apply Kk.mk; simp -implicitDefEqProofs (disch:=(apply Ar.mk; (try simp only [aj,ak]); omega)) only [ap,ao,aj,ak,au,aI,hk]) | (apply Ak.mk; first | rfl | exact .inl rfl | exact .inr rfl | exact aq _ _ | exact av _ _ | (unfold aG az; simp<;>omega) | with_unfolding_all rfl | exact .inr (by with_unfolding_all rfl))) only [ZN,↓dt,↓df,ai,qA,↓reduceIte,qB,qC,reduceCtorEq,aa,aD,ad,ZM,ZV,aW,aZ,aS,hk,p2,p3,p4,p5,p6,p7];exact hR.symm
 ·rw [hp.2.2.1] at s0;exact absurd s0 hp.2.2.2.2.2.2.2
theorem Sv (r2:¬ 32 < ax l (a + 2) - (a + 2)) (r0:¬ l.length≤ax l (a + 2)) (r1:¬ ax l (a + 2)=a + 2) (r3:¬ bt l (ax l (a + 2))=125) (r4:¬ bt l (ax l (a + 2))=58) (s0:¬ (gN l (ax l (a + 2)) false).2=0) (lv32 : 32≤lv):ah Tryz.prog Γ ext 198 [.ptr k 0 9] s=zE s (vw (.error (ax l (a + 2),5))):=by
 have p5:=fun (i:Nat) (c:Bool) (S:PS)=>cA (ext:=ext) l (by omega) i c S;obtain⟨p2,p3,p4,p6,p7,p8,p9,b2,b9⟩:=B;obtain⟨o11,o12,o13⟩:=ij l (ax l (a + 2)) false;have o12:=o12 (by omega);unfold jL at hp;rcases hp with hp | hp | hp<;>first | (exfalso; omega) | (refine bL (fn:=ez) [.cell 2 true 5,.tmp 3] rfl rfl rfl rfl (by unfold ez; rfl) ?_; intro R hR; simp -implicitDefEqProofs (disch:=first | assumption | (apply Ar.mk; first | omega | (simp only [Zj]; omega)) | (apply Ar.mk; assumption) | (apply Kk.mk; simp -implicitDefEqProofs (disch:=(apply Ar.mk; (try simp only [aj,ak]); omega)) only [ap,ao,aj,ak,au,aI,hk]) | (apply Ak.mk; first | rfl | exact .inl rfl | exact .inr rfl | exact aq _ _ | exact av _ _ | (unfold aG az; simp<;>omega) | with_unfolding_all rfl | exact .inr (by with_unfolding_all rfl))) only [ZN,↓dt,↓df,ai,qA,↓reduceIte,qB,qC,reduceCtorEq,aa,aD,ad,ZM,ZV,aW,aZ,aS,hk,p2,p3,p5,p6,p7,dN]; exact hR.symm)
theorem TR (r2:¬ 32 < ax l (a + 2) - (a + 2)) (r0:¬ l.length≤ax l (a + 2)) (r1:¬ ax l (a + 2)=a + 2) (r3:¬ bt l (ax l (a + 2))=125) (r4:¬ bt l (ax l (a + 2))=58) (s0:¬ (gN l (ax l (a + 2)) false).2=0) (lv32:¬ 32≤lv) (jo:bx l (ax l (a + 2) + (gN l (ax l (a + 2)) false).2)=true):ah Tryz.prog Γ ext 198 [.ptr k 0 9] s=zE s (vw (.error (ax l (a + 2) + (gN l (ax l (a + 2)) false).2,6))):=by
 have p5:=fun (i:Nat) (c:Bool) (S:PS)=>cA (ext:=ext) l (by omega) i c S;obtain⟨p2,p3,p4,p6,p7,p8,p9,b2,b9⟩:=B;obtain⟨o11,o12,o13⟩:=ij l (ax l (a + 2)) false;have o12:=o12 (by omega);unfold jL at hp;rcases hp with hp | hp | hp<;>first | (exfalso; omega) | (refine bL (fn:=ez) [.cell 2 true 5,.tmp 3] rfl rfl rfl rfl (by unfold ez; rfl) ?_; intro R hR; simp -implicitDefEqProofs (disch:=first | assumption | (apply Ar.mk; first | omega | (simp only [Zj]; omega)) | (apply Ar.mk; assumption) | (apply Kk.mk; simp -implicitDefEqProofs (disch:=(apply Ar.mk; (try simp only [aj,ak]); omega)) only [ap,ao,aj,ak,au,aI,hk]) | (apply Ak.mk; first | rfl | exact .inl rfl | exact .inr rfl | exact aq _ _ | exact av _ _ | (unfold aG az; simp<;>omega) | with_unfolding_all rfl | exact .inr (by with_unfolding_all rfl))) only [ZN,↓dt,↓df,ai,qA,↓reduceIte,qB,qC,reduceCtorEq,aa,aD,ad,ZM,ZV,aW,aZ,aS,hk,p2,p3,p5,p6,p7,p8,jo,dN]; exact hR.symm)
end
set_option maxRecDepth 3000
set_option maxHeartbeats 3000000
section
variable {l:List UInt8}{n:Nat} (hb:l.length < 16385) {k pl:Nat}{od:Bool}{lv:Nat}{fr:Option Nat}{a o:Nat}{tv v:PV}{low:Nat}{s:PS} (hlow:low≤9) (hk:s.h k=⟨lr l a pl od lv (gY fr) o tv v,low,169⟩) (B:BC ext l n k pl od lv fr a o tv v low) (hkn:k < s.n) (ha:a + 1 < l.length) (hlv:lv≤32) (hp:jL l a)
include hb hlow hk B hkn ha hlv hp
theorem Te (r2:¬ 32 < ax l (a + 2) - (a + 2)) (r0:¬ l.length≤ax l (a + 2)) (r1:¬ ax l (a + 2)=a + 2) (r3:¬ bt l (ax l (a + 2))=125) (r4:¬ bt l (ax l (a + 2))=58) (s0:¬ (gN l (ax l (a + 2)) false).2=0) (lv32:¬ 32≤lv) (jo:¬ bx l (ax l (a + 2) + (gN l (ax l (a + 2)) false).2)=true):ah Tryz.prog Γ ext 198 [.ptr k 0 9] s=zE s (vw (match wd 16384 l n (.loop (ax l (a + 2) + (gN l (ax l (a + 2)) false).2) (bW pl true) (lv + 1) a 0 []) with | .error x=>.error x | .ok (ps,i)=>one (.mk 4 (sub l (a + 2) (ax l (a + 2))) (gN l (ax l (a + 2)) false).1 false ps) (i + 1))):=by
 have p5:=fun (i:Nat) (c:Bool) (S:PS)=>cA (ext:=ext) l (by omega) i c S;obtain⟨p2,p3,p4,p6,p7,p8,p9,b2,b9⟩:=B;obtain⟨o11,o12,o13⟩:=ij l (ax l (a + 2)) false;have o12:=o12 (by omega);have hw:=b9 (ax l (a + 2) + (gN l (ax l (a + 2)) false).2) (by omega) (by omega);have hra:=ma hw;have p9:=fun S h=>p9 (ax l (a + 2) + (gN l (ax l (a + 2)) false).2) S h ⟨by omega⟩;generalize wd 16384 l n (.loop (ax l (a + 2) + (gN l (ax l (a + 2)) false).2) (bW pl true) (lv + 1) a 0 [])=r at *;unfold jL at hp;rcases hp with hp | hp | hp<;>first | (exfalso; omega) | (refine bL (fn:=ez) [.cell 2 true 5,.tmp 3] rfl rfl rfl rfl (by unfold ez; rfl) ?_; intro R hR; simp -implicitDefEqProofs (disch:=first | assumption | (apply Ar.mk; first | omega | (simp only [Zj]; omega)) | (apply Ar.mk; assumption) | (apply Kk.mk; simp -implicitDefEqProofs (disch:=(apply Ar.mk; (try simp only [aj,ak]); omega)) only [ap,ao,aj,ak,au,aI,hk]) | (apply Ak.mk; first | rfl | exact .inl rfl | exact .inr rfl | exact aq _ _ | exact av _ _ | (unfold aG az; simp<;>omega) | with_unfolding_all rfl | exact .inr (by with_unfolding_all rfl))) only [ZN,↓dt,↓df,ai,qA,↓reduceIte,qB,qC,reduceCtorEq,aa,aD,ae,frz,frz2,aX,ad,ZM,ZV,aW,aZ,aS,hk,p2,p3,p5,p6,p7,p8,p9,bU,eJ,kV]; subst hR; exact yG hw)
end
set_option maxRecDepth 3000
set_option maxHeartbeats 3000000
section
variable {l:List UInt8}{n:Nat} (hb:l.length < 16385) (ih:LQ ext l n) {k pl:Nat}{od:Bool}{lv:Nat}{fr:Option Nat}{a o:Nat}{tv v:PV}{low:Nat}{s:PS} (hlow:low≤9) (hk:s.h k=⟨lr l a pl od lv (gY fr) o tv v,low,169⟩)
include hb ih hlow hk
theorem GM (hkn:k < s.n) (ha:a + 1 < l.length) (hpl:pl≤3) (hlv:lv≤32) (hn : 4 * (l.length - a) < n + 1):ah Tryz.prog Γ ext 198 [.ptr k 0 9] s=zE s (vw (wd 16384 l (n + 1 + 1) (.brc a (bW pl od) lv))):=by
 have B:=TD (ext:=ext) (k:=k) (fr:=fr) (o:=o) (tv:=tv) (v:=v) (od:=od) hb ih hlow ha hpl hlv hn (by omega);have b2:=B.b2;have w32:=BN (od:=od) hpl;have p2:=B.p2;have p3:=B.p3;have p5:=fun (i:Nat) (c:Bool) (S:PS)=>cA (ext:=ext) l (by omega) i c S;have hpre:jL l a→
   wd 16384 l (n + 1 + 1) (.brc a (bW pl od) lv)=wd 16384 l (n + 1) (.brc2 a (bW pl od) lv)→ah Tryz.prog Γ ext 198 [.ptr k 0 9] s=zE s (vw (wd 16384 l (n + 1 + 1) (.brc a (bW pl od) lv))):=by
  intro hp hS;rw [hS,wd];by_cases r1:ax l (a + 2)=a + 2
  ·by_cases r0:ax l (a + 2)=l.length
   ·rw [if_neg (by omega),if_pos (by omega)];exact Ss hb hlow hk B hkn ha hlv hp r1 r0
   ·rw [if_neg (by omega),if_neg (by omega),if_pos (by omega),← r1];exact Sb hb hlow hk B hkn ha hlv hp r1 r0
  by_cases r2 : 32 < ax l (a + 2) - (a + 2)
  ·rw [if_pos r2];exact Tt hb hlow hk B hkn ha hlv hp r1 r2
  by_cases r0:l.length≤ax l (a + 2)
  ·rw [if_neg r2,if_pos r0];exact QA hb hlow hk B hkn ha hlv hp r1 r2 r0
  rw [if_neg r2,if_neg r0,if_neg r1];by_cases r3:bt l (ax l (a + 2))=125
  ·rw [if_pos r3];exact RE hb hlow hk B hkn ha hlv hp r2 r0 r1 r3
  rw [if_neg r3];by_cases r4:bt l (ax l (a + 2))=58
  ·obtain⟨o11,o12,o13⟩:=ij l (ax l (a + 2) + 1) true;rw [MZ r4];by_cases s0:(gN l (ax l (a + 2) + 1) true).2=0
   ·rw [if_pos (o13.1 s0),if_pos r4];by_cases j1:ax l (a + 2) + 1=l.length
    ·rw [if_pos j1];exact SN hb hlow hk B hkn ha hlv hp r2 r0 r1 r3 r4 s0 j1
    ·rw [if_neg j1];exact Sf hb hlow hk B hkn ha hlv hp r2 r0 r1 r3 r4 s0 j1
   ·rw [if_neg fun h=>s0 (o13.2 h)];by_cases lv32 : 32≤lv
    ·rw [if_pos lv32];exact Ri hb hlow hk B hkn ha hlv hp r2 r0 r1 r3 r4 s0 lv32
    rw [if_neg lv32];have e23:ax l (a + 2) + (if (gN l (ax l (a + 2) + 1) true).2=0 then 0 else (gN l (ax l (a + 2) + 1) true).2 + 1)=ax l (a + 2) + 1 + (gN l (ax l (a + 2) + 1) true).2:=by rw [if_neg s0]; omega
    have e24:decide ((gN l (ax l (a + 2) + 1) true).2≠0)=true:=decide_eq_true s0;simp only [e23,e24,w32];by_cases jo:bx l (ax l (a + 2) + 1 + (gN l (ax l (a + 2) + 1) true).2)=true
    ·rw [if_pos jo];exact S0 hb hlow hk B hkn ha hlv hp r2 r0 r1 r3 r4 s0 lv32 jo
    rw [if_neg jo];exact QW hb hlow hk B hkn ha hlv hp r2 r0 r1 r3 r4 s0 lv32 jo
  ·obtain⟨o11,o12,o13⟩:=ij l (ax l (a + 2)) false;rw [Fc r4 (by omega)];by_cases s0:(gN l (ax l (a + 2)) false).2=0
   ·rw [if_pos (o13.1 s0),if_neg r4];exact Qx hb hlow hk B hkn ha hlv hp r2 r0 r1 r3 r4 s0
   ·rw [if_neg fun h=>s0 (o13.2 h)];by_cases lv32 : 32≤lv
    ·rw [if_pos lv32];exact Sv hb hlow hk B hkn ha hlv hp r2 r0 r1 r3 r4 s0 lv32
    rw [if_neg lv32];simp only [w32];by_cases jo:bx l (ax l (a + 2) + (gN l (ax l (a + 2)) false).2)=true
    ·rw [if_pos jo];exact TR hb hlow hk B hkn ha hlv hp r2 r0 r1 r3 r4 s0 lv32 jo
    rw [if_neg jo];exact Te hb hlow hk B hkn ha hlv hp r2 r0 r1 r3 r4 s0 lv32 jo
 by_cases c35:a + 2 < l.length∧bt l (a + 2)=35
 ·have e35:=IL c35.1 c35.2;have b3:=fA (l:=l) (i:=a + 2 + 1) (by omega);have w3:ax l (a + 3)=ax l (a + 2 + 1):=rfl;by_cases cj:a + 2 + 1 < ax l (a + 2 + 1)
  ·have n3:=LC cj;by_cases d1 : 32 < ax l (a + 2 + 1) - (a + 2 + 1)
   ·rw [wd,if_pos c35,if_pos d1];refine bL (fn:=ez) [.cell 2 true 5,.tmp 3] rfl rfl rfl rfl (by unfold ez; rfl) ?_; intro R hR;simp -implicitDefEqProofs (disch:=first | assumption | (apply Ar.mk; first | omega | (simp only [Zj]; omega)) | (apply Ar.mk; assumption) | (apply Kk.mk; simp -implicitDefEqProofs (disch:=(apply Ar.mk; (try simp only [aj,ak]); omega)) only [ap,ao,aj,ak,au,aI,hk]) | (apply Ak.mk; first | rfl | exact .inl rfl | exact .inr rfl | exact aq _ _ | exact av _ _ | (unfold aG az; simp<;>omega) | with_unfolding_all rfl | exact .inr (by with_unfolding_all rfl))) only [ZN,↓dt,ai,qA,↓reduceIte,qB,qC,reduceCtorEq,aa,ad,ZM,hk,p2,p3];exact hR.symm
   by_cases d2:ax l (a + 2 + 1)=l.length
   ·rw [wd,if_pos c35,if_neg d1,if_neg (by omega),if_pos ⟨cj,d2⟩];refine bL (fn:=ez) [.cell 2 true 5,.tmp 3] rfl rfl rfl rfl (by unfold ez; rfl) ?_; intro R hR;simp -implicitDefEqProofs (disch:=first | assumption | (apply Ar.mk; first | omega | (simp only [Zj]; omega)) | (apply Ar.mk; assumption) | (apply Kk.mk; simp -implicitDefEqProofs (disch:=(apply Ar.mk; (try simp only [aj,ak]); omega)) only [ap,ao,aj,ak,au,aI,hk]) | (apply Ak.mk; first | rfl | exact .inl rfl | exact .inr rfl | exact aq _ _ | exact av _ _ | (unfold aG az; simp<;>omega) | with_unfolding_all rfl | exact .inr (by with_unfolding_all rfl))) only [ZN,↓dt,↓df,ai,qA,↓reduceIte,qB,qC,reduceCtorEq,aa,ad,ZM,hk,p2,p3,dN];exact hR.symm
   by_cases d3:bt l (ax l (a + 2 + 1))=125
   ·rw [wd,if_pos c35,if_neg d1,if_pos ⟨cj,by omega,d3⟩];refine bL (fn:=ez) [.cell 2 true 5,.tmp 3] rfl rfl rfl rfl (by unfold ez; rfl) ?_; intro R hR;simp -implicitDefEqProofs (disch:=first | assumption | (apply Ar.mk; first | omega | (simp only [Zj]; omega)) | (apply Ar.mk; assumption) | (apply Kk.mk; simp -implicitDefEqProofs (disch:=(apply Ar.mk; (try simp only [aj,ak]); omega)) only [ap,ao,aj,ak,au,aI,hk]) | (apply Ak.mk; first | rfl | exact .inl rfl | exact .inr rfl | exact aq _ _ | exact av _ _ | (unfold aG az; simp<;>omega) | with_unfolding_all rfl | exact .inr (by with_unfolding_all rfl))) only [ZN,↓dt,↓df,ai,qA,↓reduceIte,qB,qC,reduceCtorEq,aa,aD,ae,frz,frz2,aX,ad,ZM,hk,p2,p3];exact hR.symm
   by_cases d4:(gN l (a + 2 + 1) false).2=0
   ·rw [wd,if_pos c35,if_neg d1,if_neg (fun h=>d3 h.2.2),if_neg (fun h=>d2 h.2),wd,e35,Fc n3.2.1 n3.2.2];rw [if_neg (by omega),if_neg (by omega),if_neg (by omega),if_neg n3.1,if_pos ((ij l (a + 2 + 1) false).2.2.1 d4),if_neg n3.2.1,if_pos c35.2];refine bL (fn:=ez) [.cell 2 true 5,.tmp 3] rfl rfl rfl rfl (by unfold ez; rfl) ?_; intro R hR;simp -implicitDefEqProofs (disch:=first | assumption | (apply Ar.mk; first | omega | (simp only [Zj]; omega)) | (apply Ar.mk; assumption) | (apply Kk.mk; simp -implicitDefEqProofs (disch:=(apply Ar.mk; (try simp only [aj,ak]); omega)) only [ap,ao,aj,ak,au,aI,hk]) | (apply Ak.mk; first | rfl | exact .inl rfl | exact .inr rfl | exact aq _ _ | exact av _ _ | (unfold aG az; simp<;>omega) | with_unfolding_all rfl | exact .inr (by with_unfolding_all rfl))) only [ZN,↓dt,↓df,ai,qA,↓reduceIte,qB,qC,reduceCtorEq,aa,ad,ZM,hk,p2,p3,p5,dN];exact hR.symm
   exact hpre (.inr (.inr ⟨c35.1,c35.2,e35,cj,d1,by omega,d3,d4⟩)) (by rw [wd,if_pos c35,if_neg d1,if_neg (fun h=>d3 h.2.2),if_neg (fun h=>d2 h.2)])
  ·exact hpre (.inr (.inl ⟨c35.1,c35.2,e35,by omega⟩)) (by rw [wd,if_pos c35,if_neg (by omega),if_neg (fun h=>cj h.1),if_neg (fun h=>cj h.1)])
 ·exact hpre (.inl c35) (by rw [wd,if_neg c35])
end
end Go.Proofs.YtioblbopbilmaaaGreatDoor
namespace Go.Mir
theorem Gb {L:Nat}{l:List UInt8}{n a p lv:Nat}{ps:List aJ}{j:Nat} (h:wd L l n (.brc2 a p lv)=.ok (ps,j)):∃q,ps=[q]∧q.kind≠1:=by
 cases n with
 | zero=>cases h
 | succ n=>
  rw [wd] at h
  (try simp only at h)
  (repeat' split at h)<;>first | (cases h; done) | (injection h with h; injection h with h1 h2; subst h1; exact⟨_,rfl,by simp [dY,aJ.kind]⟩)
theorem KA {L:Nat}{l:List UInt8}{n a p lv:Nat}{ps:List aJ}{j:Nat} (h:wd L l n (.brc a p lv)=.ok (ps,j)):∃q,ps=[q]∧q.kind≠1:=by
 cases n with
 | zero=>cases h
 | succ n=>
  rw [wd] at h
  (try simp only at h)
  (repeat' split at h)<;>first | (cases h; done) | exact Gb h | (injection h with h; injection h with h1 h2; subst h1; exact⟨_,rfl,by simp [aJ.kind]⟩)
theorem Gz {l:List UInt8}{a:Nat} (h:bt l a=36):ch l a=true↔a + 1 < l.length∧(aF (bt l (a + 1))=true∨b7 (bt l (a + 1))=true∨bt l (a + 1)=123∨bt l (a + 1)=40):=by
 unfold ch;simp [h,or_assoc]
end Go.Mir
namespace Go.Proofs.YtioblbopbilmaaaGreatDoor
open Go Go.EvL Go.PE Go.Mir
variable {ext:aw}
theorem Rw:∀c,c < 256→ay c=true→b7 c=true:=by decide +kernel
theorem Mc:∀c,c < 256→b7 c=true→ay c=false→aF c=false∧c≠48∧uc c=false:=by decide +kernel
theorem LH:∀c,c < 256→aF c=true→ay c=false→uc c=true∧c≠48:=by decide +kernel
theorem SD:∀c,c < 256→aF c=true→b7 c=false→ay c=false:=by decide +kernel
theorem JZ {l:List UInt8}{i:Nat} (h:i < l.length) (hs:b7 (bt l i)=true) (hd:ay (bt l i)=false):ax l i=i + 1:=by
 have hc:=Mc _ (il l i) hs hd;unfold ax;rw [if_neg (by omega),if_neg hc.2.1,hd,hc.1,hs];simp
theorem Kl {l:List UInt8}{i:Nat} (h:i < l.length) (hs:aF (bt l i)=true) (hd:ay (bt l i)=false):ax l i=bm l i:=by
 have hc:=LH _ (il l i) hs hd;unfold ax;rw [if_neg (by omega),if_neg hc.2,hd,hs];simp
theorem Ha {l:List UInt8}{i:Nat} (h:i < l.length→aF (bt l i)=false∧b7 (bt l i)=false):ax l i=i:=by
 unfold ax;by_cases hi:l.length≤i
 ·rw [if_pos hi]
 ·have h:=h (by omega);have hd:ay (bt l i)=false:=by
   cases hd:ay (bt l i) with
   | false=>rfl
   | true=>rw [Rw _ (il l i) hd] at h; cases h.2
  rw [if_neg hi,if_neg (fun h0=>by rw [h0] at hd; cases hd),hd,h.1,h.2];simp
theorem Ds {l:List UInt8}{i:Nat} (h:i < l.length) (hw:aF (bt l i)=true):i < bm l i:=by
 unfold bm; rw [jE h hw]; exact lJ _ _ _
theorem zO {p:Prop} [Decidable p] (h:p):bv p=.sc (.bool true):=by simp only [bv,decide_eq_true h]
theorem mW {p:Prop} [Decidable p] (h:¬ p):bv p=.sc (.bool false):=by simp only [bv,decide_eq_false h]
section
variable {l:List UInt8} (hb:l.length < 16385)
include hb
theorem LX (i:Nat) (x:UInt8) (S:PS):ah Tryz.prog Γ ext 41 [sv (l.drop i),sv [x]] S=some (.ok (bv (i < l.length∧bt l i=x.toNat)) S):=by
 rw [eY (by rw [List.length_drop]; omega),KP]; simp
theorem Tx (i:Nat) (x y:UInt8) (S:PS):ah Tryz.prog Γ ext 41 [sv (l.drop i),sv [x,y]] S=some (.ok (bv (i + 1 < l.length∧bt l i=x.toNat∧bt l (i + 1)=y.toNat)) S):=by
 rw [eY (by rw [List.length_drop]; omega),yr]; simp [and_assoc]
end
set_option maxRecDepth 3000
set_option maxHeartbeats 3000000
section
variable {l:List UInt8}{n:Nat} (hb:l.length < 16385) (ih:∀m,m < n + 1 + 1 + 1→LQ ext l m) {k pl:Nat}{od:Bool}{lv:Nat}{fr:Option Nat}{a o:Nat}{acc:List aJ}{s:PS}
include hb ih
theorem I8 (h:Sc l k pl od lv (gY fr) a o acc s) (hpl:pl≤3) (hlv:lv≤32) (ha:a < l.length) (h36:bt l a=36) (hn : 4 * (l.length - a) + 2 < n + 1 + 1 + 1):MR l k pl od lv (gY fr) s (ah Tryz.prog Γ ext 169 [.ptr k 0 9] s) (T9 acc o (wd 16384 l (n + 1 + 1 + 1) (.part a (bW pl od) lv))):=by
 have h0:=h.at0 s.n;obtain⟨⟨tx,ls,tv,v,low,hlow,hk,ht,hl,hd,hacc,hno,hz⟩,hkn,hal⟩:=h;have hx:=Gz h36;have hdl:(l.drop (a + 1)).length=l.length - (a + 1):=List.length_drop;have hadd:=fun (q:aJ) (hq:q.kind≠1) (j:Nat) (hj:a < j) (hjl:j≤l.length)=>ln hkn (qM (ext:=ext) hb h0 hq hj hjl);have p2:∀(S:PS),Kk (S.h k=⟨lr l a pl od lv (gY fr) o tv v,low,169⟩)→ah Tryz.prog Γ ext 200 [.ptr k 0 9,iv (a + 1)] S=some (.ok (iv (ax l (a + 1))) S):=fun S h=>ox (ext:=ext) (s:=S) hb hlow h.h (by omega) (by omega);rw [wd,if_neg (by omega),if_neg (by omega),if_pos h36];by_cases he:ch l a=true
 ·rw [if_pos he];have ha1:=dD he;by_cases c123:bt l (a + 1)=123
  ·rw [if_pos c123];have g1:∀S,ah Tryz.prog Γ ext 41 [sv (l.drop (a + 1)),sv [40,40]] S=some (.ok (.sc (.bool false)) S):=fun S=>by rw [Tx hb,mW]; intro h; have h:=h.2.1; simp at h; omega
   have g2:∀S,ah Tryz.prog Γ ext 41 [sv (l.drop (a + 1)),sv [40]] S=some (.ok (.sc (.bool false)) S):=fun S=>by rw [LX hb,mW]; intro h; have h:=h.2; simp at h; omega
   have g3:∀S,ah Tryz.prog Γ ext 41 [sv (l.drop (a + 1)),sv [123]] S=some (.ok (.sc (.bool true)) S):=fun S=>by rw [LX hb,zO]; exact⟨ha1,c123⟩
   have hbr:=GM (ext:=ext) (n:=n) (s:=⟨s.h,s.n,s.n⟩) hb (ih n (by omega)) hlow hk hkn ha1 hpl hlv (by omega);have hok:=fw 16384 l (n + 1 + 1) (.brc a (bW pl od) lv) ha1 (by simp only [aT.size]; omega);generalize hr:wd 16384 l (n + 1 + 1) (.brc a (bW pl od) lv)=r at *;rcases r with ⟨x,e⟩ | ⟨ps,j⟩
   ·refine fh ?_ (Fr.min s hkn);have hbr:ah Tryz.prog Γ ext 198 [.ptr k 0 9] ⟨s.h,s.n,s.n⟩=some (.pan (lw x e) ⟨s.h,s.n,s.n⟩):=hbr;refine aK (fn:=eX) [] rfl rfl rfl rfl (by unfold eX; rfl) ?_; intro R hR;simp -implicitDefEqProofs (disch:=first | assumption | (apply Ar.mk; first | omega | (simp only [Zj]; omega)) | (apply Ak.mk; first | rfl | exact .inl rfl | exact .inr rfl | exact aq _ _ | exact av _ _ | (unfold aG az; simp<;>omega) | with_unfolding_all rfl | exact .inr (by with_unfolding_all rfl))) only [ZN,ai,qA,↓reduceIte,qB,qC,reduceCtorEq,aa,ad,ZM,ZV,aW,aZ,aS,hk,g1,g2,g3,hbr];exact hR.symm
   ·obtain⟨q,rfl,hq⟩:=KA hr;have hbr:ah Tryz.prog Γ ext 198 [.ptr k 0 9] ⟨s.h,s.n,s.n⟩=some (.ok (.tup [.agg (cJ q),iv j]) ⟨s.h,s.n,s.n⟩):=by rw [hbr]; simp [zE,vw]
    obtain⟨S1,z1,sc,f1⟩:=qM (ext:=ext) (s:=((⟨s.h,s.n,s.n⟩ : PS).new ⟨[iv 0,.sc (.string ⟨#[]⟩),iv 0,.sc (.bool false),nv],0,135⟩).put s.n ⟨cJ q,5,135⟩) hb (h0.fr0 (by (simp only [aj,ak]; omega)) fun j hj=>by have hj:j < s.n:=hj; simp -implicitDefEqProofs (disch:=(apply Ar.mk; (try simp only [aj,ak]); omega)) only [ap,ao,au]) hq (j:=j) hok.1 hok.2.1;obtain⟨qk,qt,qo,qc,qp⟩:=q;simp only [cL] at *;refine dn (q:=(j,o,dO acc (.mk qk qt qo qc qp))) (S1:=S1) ?_ sc ⟨?_,?_,?_⟩
    ·refine aK (fn:=eX) [] rfl rfl rfl rfl (by unfold eX; rfl) ?_; intro R hR;simp -implicitDefEqProofs (disch:=first | assumption | (apply Ar.mk; first | omega | (simp only [Zj]; omega)) | (apply Ak.mk; first | rfl | exact .inl rfl | exact .inr rfl | exact aq _ _ | exact av _ _ | (unfold aG az; simp<;>omega) | with_unfolding_all rfl | exact .inr (by with_unfolding_all rfl))) only [ZN,ai,qA,↓reduceIte,qB,qC,reduceCtorEq,aa,ae,ad,ZM,ZV,aW,aZ,aS,hk,g1,g2,g3,hbr,z1,bU];exact hR.symm
    ·have:=f1.n; exact Nat.le_trans (Nat.le_succ _) this
    ·intro i hi; rw [f1.h i hi]; simp -implicitDefEqProofs (disch:=(apply Ar.mk; (try simp only [aj,ak]); omega)) only [ap,ao,au]
    ·intro n0 x y; exact Nat.le_min.2 ⟨y,f1.w n0 x (by (simp only [cO,db]; omega))⟩
  rw [if_neg c123];have g3:∀S,ah Tryz.prog Γ ext 41 [sv (l.drop (a + 1)),sv [123]] S=some (.ok (.sc (.bool false)) S):=fun S=>by rw [LX hb,mW]; intro h; exact c123 h.2
  by_cases c40:bt l (a + 1)=40
  ·rw [if_pos c40];have g2:∀S,ah Tryz.prog Γ ext 41 [sv (l.drop (a + 1)),sv [40]] S=some (.ok (.sc (.bool true)) S):=fun S=>by rw [LX hb,zO]; exact⟨ha1,c40⟩
   by_cases c2:a + 2 < l.length∧bt l (a + 2)=40
   ·rw [if_pos c2];have g1:∀S,ah Tryz.prog Γ ext 41 [sv (l.drop (a + 1)),sv [40,40]] S=some (.ok (.sc (.bool true)) S):=fun S=>by rw [Tx hb,zO]; exact⟨c2.1,c40,c2.2⟩
    by_cases lv32 : 32≤lv
    ·rw [if_pos lv32];refine fh ?_ (Fr.min s hkn);refine aK (fn:=eX) [] rfl rfl rfl rfl (by unfold eX; rfl) ?_; intro R hR;simp -implicitDefEqProofs (disch:=first | assumption | (apply Ar.mk; first | omega | (simp only [Zj]; omega)) | (apply Ak.mk; first | rfl | exact .inl rfl | exact .inr rfl | exact aq _ _ | exact av _ _ | (unfold aG az; simp<;>omega) | with_unfolding_all rfl | exact .inr (by with_unfolding_all rfl))) only [ZN,↓dt,ai,qA,↓reduceIte,qB,qC,reduceCtorEq,aa,ad,ZM,ZV,aW,aZ,aS,hk,g1,dN];exact hR.symm
    rw [if_neg lv32];have hne:ah Tryz.prog Γ ext 196 [.ptr k 0 9,iv (a + 3),iv a,iv 2,.sc (.bool false)] ⟨s.h,s.n,s.n⟩=zE ⟨s.h,s.n,s.n⟩ (ya (wd 16384 l (n + 1 + 1) (.loop (a + 3) 4 (lv + 1) a 0 []))):=
     sy (ext:=ext) (s:=⟨s.h,s.n,s.n⟩) hb (ih (n + 1 + 1) (by omega)) hlow hk hal (at':=a + 3) (op:=a) (pl':=2) (od':=false) (by omega) (by omega) (by omega) ⟨(fun h=>by cases h),(fun h=>absurd h (by decide))⟩ (by omega)
    have hok:=fw 16384 l (n + 1 + 1) (.loop (a + 3) 4 (lv + 1) a 0 []) (by simp only [aT.ok]; omega) (by simp only [aT.size]; omega);generalize wd 16384 l (n + 1 + 1) (.loop (a + 3) 4 (lv + 1) a 0 [])=r at *;rcases r with ⟨x,e⟩ | ⟨ps,j⟩
    ·refine fh ?_ (Fr.min s hkn);have hne:ah Tryz.prog Γ ext 196 [.ptr k 0 9,iv (a + 3),iv a,iv 2,.sc (.bool false)] ⟨s.h,s.n,s.n⟩=some (.pan (lw x e) ⟨s.h,s.n,s.n⟩):=hne;refine aK (fn:=eX) [] rfl rfl rfl rfl (by unfold eX; rfl) ?_; intro R hR;simp -implicitDefEqProofs (disch:=first | assumption | (apply Ar.mk; first | omega | (simp only [Zj]; omega)) | (apply Ak.mk; first | rfl | exact .inl rfl | exact .inr rfl | exact aq _ _ | exact av _ _ | (unfold aG az; simp<;>omega) | with_unfolding_all rfl | exact .inr (by with_unfolding_all rfl))) only [ZN,↓df,ai,qA,↓reduceIte,qB,qC,reduceCtorEq,aa,ad,ZM,ZV,aW,aZ,aS,hk,g1,hne];exact hR.symm
    ·have hne:ah Tryz.prog Γ ext 196 [.ptr k 0 9,iv (a + 3),iv a,iv 2,.sc (.bool false)] ⟨s.h,s.n,s.n⟩=some (.ok (.tup [bK ps,iv j]) ⟨s.h,s.n,s.n⟩):=hne;have hj:a + 3≤j:=hok.1;have hj2:j + 1 < l.length:=hok.2.2.2 rfl;obtain⟨S1,z1,sc,f1,f2⟩:=hadd (.mk 6 [] 0 false ps) (by simp [aJ.kind]) (j + 2) (by omega) (by omega);rw [cL] at z1;have z1:ah Tryz.prog Γ ext 194 [.ptr k 0 9,.agg [iv 6,.sc (.string ⟨#[]⟩),iv 0,.sc (.bool false),bK ps],iv (j + 2)] ⟨s.h,s.n,s.n⟩=_:=z1;refine dn ?_ sc f2;refine aK (fn:=eX) [] rfl rfl rfl rfl (by unfold eX; rfl) ?_; intro R hR;simp -implicitDefEqProofs (disch:=first | assumption | (apply Ar.mk; first | omega | (simp only [Zj]; omega)) | (apply Ak.mk; first | rfl | exact .inl rfl | exact .inr rfl | exact aq _ _ | exact av _ _ | (unfold aG az; simp<;>omega) | with_unfolding_all rfl | exact .inr (by with_unfolding_all rfl))) only [ZN,↓df,ai,qA,↓reduceIte,qB,qC,reduceCtorEq,aa,aD,ae,ad,ZM,ZV,aW,aZ,aS,hk,g1,hne,z1,kV];exact hR.symm
   ·rw [if_neg c2];have g1:∀S,ah Tryz.prog Γ ext 41 [sv (l.drop (a + 1)),sv [40,40]] S=some (.ok (.sc (.bool false)) S):=fun S=>by rw [Tx hb,mW]; intro h; exact c2 ⟨h.1,h.2.2⟩
    have hcl:=rM (ext:=ext) (s:=⟨s.h,s.n,s.n⟩) hb hlow hk hal (by unfold oZ; rw [he]; rfl) ha;have e:lx l (.pass a 0)=lx l (.cmd (a + 2) a 1 true):=by
     unfold lx;rw [kQ (n:=ly l) (m:=3 * l.length + 3 + 1 + 1) (t:=.pass a 0) ha (by simp only [aV.size,ly]; omega) (by simp only [aV.size]; omega),kQ (n:=ly l) (m:=3 * l.length + 3) (t:=.cmd (a + 2) a 1 true) ⟨by omega,ha⟩ (by simp only [aV.size,ly]; omega) (by simp only [aV.size]; omega)];rw [rd,if_neg (by omega),if_neg (by omega),if_pos he,rd,if_neg c123,if_pos c40,if_neg c2]
    rw [e] at hcl;have hok:=jq (l:=l) (t:=.cmd (a + 2) a 1 true) ⟨by omega,ha⟩;simp only [aV.at] at hok;generalize lx l (.cmd (a + 2) a 1 true)=r at *;obtain⟨r,y⟩:=r;simp only at *;by_cases hy:y=0
    ·subst hy;rw [if_pos rfl] at hcl ⊢;have hr:=hok.2 rfl;have hcl:ah Tryz.prog Γ ext 197 [.ptr k 0 9] ⟨s.h,s.n,s.n⟩=some (.ok (iv r) ⟨s.h,s.n,s.n⟩):=hcl;obtain⟨S1,z1,sc,f1,f2⟩:=hadd (j7 (sub l (a + 2) (r - 1))) (by simp [j7,aJ.kind]) r (by omega) (by omega);rw [j7,cL,dl] at z1;have z1:ah Tryz.prog Γ ext 194 [.ptr k 0 9,.agg [iv 5,sv (sb l (a + 2) (r - 1)),iv 0,.sc (.bool false),nv],iv r] _=_:=z1;refine dn ?_ sc f2;refine aK (fn:=eX) [] rfl rfl rfl rfl (by unfold eX; rfl) ?_; intro R hR;simp -implicitDefEqProofs (disch:=first | assumption | (apply Ar.mk; first | omega | (simp only [Zj]; omega)) | (apply Ak.mk; first | rfl | exact .inl rfl | exact .inr rfl | exact aq _ _ | exact av _ _ | (unfold aG az; simp<;>omega) | with_unfolding_all rfl | exact .inr (by with_unfolding_all rfl))) only [ZN,ai,qA,↓reduceIte,qB,qC,reduceCtorEq,aa,aD,ae,ad,ZM,ZV,aW,aZ,aS,hk,g1,g2,hcl,z1];exact hR.symm
    ·rw [if_neg hy] at hcl ⊢;refine fh ?_ (Fr.min s hkn);have hcl:ah Tryz.prog Γ ext 197 [.ptr k 0 9] ⟨s.h,s.n,s.n⟩=some (.pan (lw r y) ⟨s.h,s.n,s.n⟩):=hcl;refine aK (fn:=eX) [] rfl rfl rfl rfl (by unfold eX; rfl) ?_; intro R hR;simp -implicitDefEqProofs (disch:=first | assumption | (apply Ar.mk; first | omega | (simp only [Zj]; omega)) | (apply Ak.mk; first | rfl | exact .inl rfl | exact .inr rfl | exact aq _ _ | exact av _ _ | (unfold aG az; simp<;>omega) | with_unfolding_all rfl | exact .inr (by with_unfolding_all rfl))) only [ZN,ai,qA,↓reduceIte,qB,qC,reduceCtorEq,aa,ad,ZM,ZV,aW,aZ,aS,hk,g1,g2,hcl];exact hR.symm
  rw [if_neg c40];have g2:∀S,ah Tryz.prog Γ ext 41 [sv (l.drop (a + 1)),sv [40]] S=some (.ok (.sc (.bool false)) S):=fun S=>by rw [LX hb,mW]; intro h; exact c40 h.2
  have g1:∀S,ah Tryz.prog Γ ext 41 [sv (l.drop (a + 1)),sv [40,40]] S=some (.ok (.sc (.bool false)) S):=fun S=>by rw [Tx hb,mW]; intro h; exact c40 h.2.1
  by_cases cs:b7 (bt l (a + 1))=true
  ·rw [if_pos cs];obtain⟨S1,z1,sc,f1,f2⟩:=hadd (dY (sub l (a + 1) (a + 2))) (by simp [dY,aJ.kind]) (a + 2) (by omega) (by omega);rw [dY,cL,dl] at z1;have z1:ah Tryz.prog Γ ext 194 [.ptr k 0 9,.agg [iv 4,sv (sb l (a + 1) (a + 2)),iv 0,.sc (.bool false),nv],iv (a + 2)] _=_:=z1;refine dn ?_ sc f2;by_cases cd:ay (bt l (a + 1))=true
   ·have g4:∀S,ah Tryz.prog Γ ext 199 [cv (bt l (a + 1))] S=some (.ok (.sc (.bool true)) S):=fun S=>by rw [i4,zO cd]
    have e1:List.take 1 (l.drop (a + 1))=sb l (a + 1) (a + 2):=by unfold sb; rw [show a + 2 - (a + 1)=1 by omega]
    refine aK (fn:=eX) [] rfl rfl rfl rfl (by unfold eX; rfl) ?_; intro R hR;simp -implicitDefEqProofs (disch:=first | assumption | (apply Ar.mk; first | omega | (simp only [Zj]; omega)) | (apply Ak.mk; first | rfl | exact .inl rfl | exact .inr rfl | exact aq _ _ | exact av _ _ | (unfold aG az; simp<;>omega) | with_unfolding_all rfl | exact .inr (by with_unfolding_all rfl))) only [ZN,ai,qA,↓reduceIte,qB,qC,reduceCtorEq,aa,aD,ae,ad,ZM,bk,↓bR,ZV,aW,aZ,aS,hk,g1,g2,g3,g4,gg,z1,e1,hdl];exact hR.symm
   ·have cd:ay (bt l (a + 1))=false:=by simpa using cd
    have g4:∀S,ah Tryz.prog Γ ext 199 [cv (bt l (a + 1))] S=some (.ok (.sc (.bool false)) S):=fun S=>by rw [i4,mW (by rw [cd]; simp)]
    have p2:∀(S:PS),Kk (S.h k=⟨lr l a pl od lv (gY fr) o tv v,low,169⟩)→ah Tryz.prog Γ ext 200 [.ptr k 0 9,iv (a + 1)] S=some (.ok (iv (a + 2)) S):=fun S h=>by rw [p2 S h,JZ ha1 cs cd]
    have p3:∀(S:PS),Kk (S.h k=⟨lr l a pl od lv (gY fr) o tv v,low,169⟩)→ah Tryz.prog Γ ext 201 [.ptr k 0 9,iv (a + 1),iv (a + 2),iv a] S=some (.ok (.tup []) S):=fun S h=>by
     rw [wJ (ext:=ext) (s:=S) hb hlow h.h hal ha1 (by omega) (by omega),if_neg fun hh=>by rw [(Mc _ (il l (a + 1)) cs cd).2.2] at hh; cases hh.1]; rfl
    refine aK (fn:=eX) [] rfl rfl rfl rfl (by unfold eX; rfl) ?_; intro R hR;simp -implicitDefEqProofs (disch:=first | assumption | (apply Ar.mk; first | omega | (simp only [Zj]; omega)) | (apply Ar.mk; assumption) | (apply Kk.mk; simp -implicitDefEqProofs (disch:=(apply Ar.mk; (try simp only [aj,ak]); omega)) only [ap,ao,aj,ak,au,aI,hk]) | (apply Ak.mk; first | rfl | exact .inl rfl | exact .inr rfl | exact aq _ _ | exact av _ _ | (unfold aG az; simp<;>omega) | with_unfolding_all rfl | exact .inr (by with_unfolding_all rfl))) only [ZN,↓dt,ai,qA,↓reduceIte,qB,qC,reduceCtorEq,aa,aD,ae,ad,ZM,bk,↓bR,ZV,aW,aZ,aS,hk,g1,g2,g3,g4,gg,p2,p3,z1,hdl];exact hR.symm
  rw [if_neg cs];have cs:b7 (bt l (a + 1))=false:=by simpa using cs
  have cw:aF (bt l (a + 1))=true:=by
   rcases (hx.1 he).2 with h | h | h | h
   ·exact h
   ·rw [cs] at h; cases h
   ·exact absurd h c123
   ·exact absurd h c40
  have cd:=SD _ (il l (a + 1)) cw cs;have ce:=Ds ha1 cw;have cl:bm l (a + 1)≤l.length:=gn (by omega);have g4:∀S,ah Tryz.prog Γ ext 199 [cv (bt l (a + 1))] S=some (.ok (.sc (.bool false)) S):=fun S=>by rw [i4,mW (by rw [cd]; simp)]
  have p2:∀(S:PS),Kk (S.h k=⟨lr l a pl od lv (gY fr) o tv v,low,169⟩)→ah Tryz.prog Γ ext 200 [.ptr k 0 9,iv (a + 1)] S=some (.ok (iv (bm l (a + 1))) S):=fun S h=>by rw [p2 S h,Kl ha1 cw cd]
  have p3:∀(S:PS),Kk (S.h k=⟨lr l a pl od lv (gY fr) o tv v,low,169⟩)→ah Tryz.prog Γ ext 201 [.ptr k 0 9,iv (a + 1),iv (bm l (a + 1)),iv a] S=zE S (if 32 < bm l (a + 1) - (a + 1) then .error (a,3) else .ok (.tup [])):=fun S h=>by
   rw [wJ (ext:=ext) (s:=S) hb hlow h.h hal ha1 (by omega) (by omega)];have:=(LH _ (il l (a + 1)) cw cd).1;simp only [this,true_and]
  generalize bm l (a + 1)=e at *;by_cases c32 : 32 < e - (a + 1)
  ·rw [if_pos c32];refine fh ?_ (Fr.min s hkn);have p3:∀(S:PS),Kk (S.h k=⟨lr l a pl od lv (gY fr) o tv v,low,169⟩)→ah Tryz.prog Γ ext 201 [.ptr k 0 9,iv (a + 1),iv e,iv a] S=some (.pan (lw a 3) S):=fun S h=>by rw [p3 S h,if_pos c32]; rfl
   refine aK (fn:=eX) [] rfl rfl rfl rfl (by unfold eX; rfl) ?_; intro R hR;simp -implicitDefEqProofs (disch:=first | assumption | (apply Ar.mk; first | omega | (simp only [Zj]; omega)) | (apply Ar.mk; assumption) | (apply Kk.mk; simp -implicitDefEqProofs (disch:=(apply Ar.mk; (try simp only [aj,ak]); omega)) only [ap,ao,aj,ak,au,aI,hk]) | (apply Ak.mk; first | rfl | exact .inl rfl | exact .inr rfl | exact aq _ _ | exact av _ _ | (unfold aG az; simp<;>omega) | with_unfolding_all rfl | exact .inr (by with_unfolding_all rfl))) only [ZN,↓dt,ai,qA,↓reduceIte,qB,qC,reduceCtorEq,aa,ad,ZM,bk,↓bR,ZV,aW,aZ,aS,hk,g1,g2,g3,g4,gg,p2,p3,hdl];exact hR.symm
  ·rw [if_neg c32];have p3:∀(S:PS),Kk (S.h k=⟨lr l a pl od lv (gY fr) o tv v,low,169⟩)→ah Tryz.prog Γ ext 201 [.ptr k 0 9,iv (a + 1),iv e,iv a] S=some (.ok (.tup []) S):=fun S h=>by rw [p3 S h,if_neg c32]; rfl
   obtain⟨S1,z1,sc,f1,f2⟩:=hadd (dY (sub l (a + 1) e)) (by simp [dY,aJ.kind]) e (by omega) (by omega);rw [dY,cL,dl] at z1;have z1:ah Tryz.prog Γ ext 194 [.ptr k 0 9,.agg [iv 4,sv (sb l (a + 1) e),iv 0,.sc (.bool false),nv],iv e] _=_:=z1;refine dn ?_ sc f2;refine aK (fn:=eX) [] rfl rfl rfl rfl (by unfold eX; rfl) ?_; intro R hR;simp -implicitDefEqProofs (disch:=first | assumption | (apply Ar.mk; first | omega | (simp only [Zj]; omega)) | (apply Ar.mk; assumption) | (apply Kk.mk; simp -implicitDefEqProofs (disch:=(apply Ar.mk; (try simp only [aj,ak]); omega)) only [ap,ao,aj,ak,au,aI,hk]) | (apply Ak.mk; first | rfl | exact .inl rfl | exact .inr rfl | exact aq _ _ | exact av _ _ | (unfold aG az; simp<;>omega) | with_unfolding_all rfl | exact .inr (by with_unfolding_all rfl))) only [ZN,↓dt,ai,qA,↓reduceIte,qB,qC,reduceCtorEq,aa,aD,ae,ad,ZM,bk,↓bR,ZV,aW,aZ,aS,hk,g1,g2,g3,g4,gg,p2,p3,z1,hdl];exact hR.symm
 rw [if_neg he];have hoff:a + 1 < l.length→aF (bt l (a + 1))=false∧b7 (bt l (a + 1))=false∧bt l (a + 1)≠123∧bt l (a + 1)≠40:=fun h=>by
  refine⟨?_,?_,?_,?_⟩
  ·cases c:aF (bt l (a + 1)) with
   | false=>rfl
   | true=>exact absurd (hx.2 ⟨h,.inl c⟩) he
  ·cases c:b7 (bt l (a + 1)) with
   | false=>rfl
   | true=>exact absurd (hx.2 ⟨h,.inr (.inl c)⟩) he
  ·exact fun c=>he (hx.2 ⟨h,.inr (.inr (.inl c))⟩)
  ·exact fun c=>he (hx.2 ⟨h,.inr (.inr (.inr c))⟩)
 have g1:∀S,ah Tryz.prog Γ ext 41 [sv (l.drop (a + 1)),sv [40,40]] S=some (.ok (.sc (.bool false)) S):=fun S=>by rw [Tx hb,mW]; intro h; exact (hoff (by omega)).2.2.2 h.2.1
 have g2:∀S,ah Tryz.prog Γ ext 41 [sv (l.drop (a + 1)),sv [40]] S=some (.ok (.sc (.bool false)) S):=fun S=>by rw [LX hb,mW]; intro h; exact (hoff h.1).2.2.2 h.2
 have g3:∀S,ah Tryz.prog Γ ext 41 [sv (l.drop (a + 1)),sv [123]] S=some (.ok (.sc (.bool false)) S):=fun S=>by rw [LX hb,mW]; intro h; exact (hoff h.1).2.2.1 h.2
 have g4:a + 1 < l.length→∀S,ah Tryz.prog Γ ext 199 [cv (bt l (a + 1))] S=some (.ok (.sc (.bool false)) S):=fun h S=>by
  rw [i4,mW]; intro c; have:=Rw _ (il l (a + 1)) c; rw [(hoff h).2.1] at this; cases this
 have p2:∀(S:PS),Kk (S.h k=⟨lr l a pl od lv (gY fr) o tv v,low,169⟩)→ah Tryz.prog Γ ext 200 [.ptr k 0 9,iv (a + 1)] S=some (.ok (iv (a + 1)) S):=fun S h=>by rw [p2 S h,Ha fun h=>⟨(hoff h).1,(hoff h).2.1⟩]
 have g5:∀S,ah Tryz.prog Γ ext 41 [sv (l.drop (a + 1)),sv [96]] S=some (.ok (bv (a + 1 < l.length∧bt l (a + 1)=96)) S):=fun S=>LX hb _ 96 S;have g6:∀S,ah Tryz.prog Γ ext 41 [sv (l.drop (a + 1)),sv [92,10]] S=some (.ok (bv (bx l (a + 1)=true)) S):=fun S=>by
  rw [eY (by rw [List.length_drop]; omega),yr]; rfl
 by_cases cc:eE (bW pl od)=true∧((a + 1 < l.length∧bt l (a + 1)=96)∨bx l (a + 1)=true)
 ·rw [if_pos cc];obtain⟨c1,c2⟩:=cc;obtain rfl:=(i8 hpl).1 c1;have hl1:a + 1 < l.length:=by
   rcases c2 with h | h
   ·exact h.1
   ·have:=dx h; omega
  refine fh ?_ (Fr.min s hkn);have g4:=g4 hl1;refine aK (fn:=eX) [] rfl rfl rfl rfl (by unfold eX; rfl) ?_; intro R hR;rcases c2 with h | h
  ·have g5:∀S,ah Tryz.prog Γ ext 41 [sv (l.drop (a + 1)),sv [96]] S=some (.ok (.sc (.bool true)) S):=fun S=>by rw [g5,zO h]
   simp -implicitDefEqProofs (disch:=first | assumption | (apply Ar.mk; first | omega | (simp only [Zj]; omega)) | (apply Ar.mk; assumption) | (apply Kk.mk; simp -implicitDefEqProofs (disch:=(apply Ar.mk; (try simp only [aj,ak]); omega)) only [ap,ao,aj,ak,au,aI,hk]) | (apply Ak.mk; first | rfl | exact .inl rfl | exact .inr rfl | exact aq _ _ | exact av _ _ | (unfold aG az; simp<;>omega) | with_unfolding_all rfl | exact .inr (by with_unfolding_all rfl))) only [ZN,↓df,ai,qA,↓reduceIte,qB,qC,reduceCtorEq,aa,ad,ZM,bk,↓bR,ZV,aW,aZ,aS,hk,g1,g2,g3,g4,g5,gg,p2,hdl,dN];exact hR.symm
  ·have g5:∀S,ah Tryz.prog Γ ext 41 [sv (l.drop (a + 1)),sv [96]] S=some (.ok (.sc (.bool false)) S):=fun S=>by rw [g5,mW]; intro hh; have:=sT h; omega
   have g6:∀S,ah Tryz.prog Γ ext 41 [sv (l.drop (a + 1)),sv [92,10]] S=some (.ok (.sc (.bool true)) S):=fun S=>by rw [g6,zO h]
   simp -implicitDefEqProofs (disch:=first | assumption | (apply Ar.mk; first | omega | (simp only [Zj]; omega)) | (apply Ar.mk; assumption) | (apply Kk.mk; simp -implicitDefEqProofs (disch:=(apply Ar.mk; (try simp only [aj,ak]); omega)) only [ap,ao,aj,ak,au,aI,hk]) | (apply Ak.mk; first | rfl | exact .inl rfl | exact .inr rfl | exact aq _ _ | exact av _ _ | (unfold aG az; simp<;>omega) | with_unfolding_all rfl | exact .inr (by with_unfolding_all rfl))) only [ZN,↓df,ai,qA,↓reduceIte,qB,qC,reduceCtorEq,aa,ad,ZM,bk,↓bR,ZV,aW,aZ,aS,hk,g1,g2,g3,g4,g5,g6,gg,p2,hdl,dN];exact hR.symm
 ·rw [if_neg cc];obtain⟨S1,z1,sc,f1,f2⟩:=ln hkn (nc (ext:=ext) hb h0 (c:=36) (x:=36) rfl (n:=1) (by omega) (by omega));refine dn (q:=(a + 1,o,([ck [36]]:List aJ).foldl dO acc)) ?_ sc f2;have key:∀(t:Bool),(decide (pl=0)=false∨(decide (a + 1 < l.length∧bt l (a + 1)=96)=false∧decide (bx l (a + 1)=true)=false)):=fun _=>by
   by_cases c0:pl=0
   ·right;constructor
    ·exact decide_eq_false fun h=>cc ⟨(i8 hpl).2 c0,.inl h⟩
    ·exact decide_eq_false fun h=>cc ⟨(i8 hpl).2 c0,.inr h⟩
   ·left; exact decide_eq_false c0
  by_cases hl1:a + 1 < l.length
  ·have g4:=g4 hl1;rcases key true with kk | ⟨k1,k2⟩
   ·have kk:=of_decide_eq_false kk;refine aK (fn:=eX) [] rfl rfl rfl rfl (by unfold eX; rfl) ?_; intro R hR;simp -implicitDefEqProofs (disch:=first | assumption | (apply Ar.mk; first | omega | (simp only [Zj]; omega)) | (apply Ar.mk; assumption) | (apply Kk.mk; simp -implicitDefEqProofs (disch:=(apply Ar.mk; (try simp only [aj,ak]); omega)) only [ap,ao,aj,ak,au,aI,hk]) | (apply Ak.mk; first | rfl | exact .inl rfl | exact .inr rfl | exact aq _ _ | exact av _ _ | (unfold aG az; simp<;>omega) | with_unfolding_all rfl | exact .inr (by with_unfolding_all rfl))) only [ZN,↓df,ai,qA,↓reduceIte,qB,qC,reduceCtorEq,aa,ae,ad,ZM,bk,bI,↓bR,↓ed,ZV,aW,aZ,aS,hk,g1,g2,g3,g4,gg,p2,hdl,z1];exact hR.symm
   ·have g5:∀S,ah Tryz.prog Γ ext 41 [sv (l.drop (a + 1)),sv [96]] S=some (.ok (.sc (.bool false)) S):=fun S=>by rw [g5]; simp only [bv,k1]
    have g6:∀S,ah Tryz.prog Γ ext 41 [sv (l.drop (a + 1)),sv [92,10]] S=some (.ok (.sc (.bool false)) S):=fun S=>by rw [g6]; simp only [bv,k2]
    by_cases c0:pl=0
    ·refine aK (fn:=eX) [] rfl rfl rfl rfl (by unfold eX; rfl) ?_; intro R hR;simp -implicitDefEqProofs (disch:=first | assumption | (apply Ar.mk; first | omega | (simp only [Zj]; omega)) | (apply Ar.mk; assumption) | (apply Kk.mk; simp -implicitDefEqProofs (disch:=(apply Ar.mk; (try simp only [aj,ak]); omega)) only [ap,ao,aj,ak,au,aI,hk]) | (apply Ak.mk; first | rfl | exact .inl rfl | exact .inr rfl | exact aq _ _ | exact av _ _ | (unfold aG az; simp<;>omega) | with_unfolding_all rfl | exact .inr (by with_unfolding_all rfl))) only [ZN,↓df,ai,qA,↓reduceIte,qB,qC,reduceCtorEq,aa,ae,ad,ZM,bk,↓bR,ZV,aW,aZ,aS,hk,g1,g2,g3,g4,g5,g6,gg,p2,hdl,z1];exact hR.symm
    ·refine aK (fn:=eX) [] rfl rfl rfl rfl (by unfold eX; rfl) ?_; intro R hR;simp -implicitDefEqProofs (disch:=first | assumption | (apply Ar.mk; first | omega | (simp only [Zj]; omega)) | (apply Ar.mk; assumption) | (apply Kk.mk; simp -implicitDefEqProofs (disch:=(apply Ar.mk; (try simp only [aj,ak]); omega)) only [ap,ao,aj,ak,au,aI,hk]) | (apply Ak.mk; first | rfl | exact .inl rfl | exact .inr rfl | exact aq _ _ | exact av _ _ | (unfold aG az; simp<;>omega) | with_unfolding_all rfl | exact .inr (by with_unfolding_all rfl))) only [ZN,↓df,ai,qA,↓reduceIte,qB,qC,reduceCtorEq,aa,ae,ad,ZM,bk,bI,↓bR,↓ed,ZV,aW,aZ,aS,hk,g1,g2,g3,g4,gg,p2,hdl,z1];exact hR.symm
  ·have g5:∀S,ah Tryz.prog Γ ext 41 [sv (l.drop (a + 1)),sv [96]] S=some (.ok (.sc (.bool false)) S):=fun S=>by rw [g5,mW]; intro h; exact hl1 h.1
   have g6:∀S,ah Tryz.prog Γ ext 41 [sv (l.drop (a + 1)),sv [92,10]] S=some (.ok (.sc (.bool false)) S):=fun S=>by rw [g6,mW]; intro h; have:=dx h; omega
   by_cases c0:pl=0
   ·refine aK (fn:=eX) [] rfl rfl rfl rfl (by unfold eX; rfl) ?_; intro R hR;simp -implicitDefEqProofs (disch:=first | assumption | (apply Ar.mk; first | omega | (simp only [Zj]; omega)) | (apply Ar.mk; assumption) | (apply Kk.mk; simp -implicitDefEqProofs (disch:=(apply Ar.mk; (try simp only [aj,ak]); omega)) only [ap,ao,aj,ak,au,aI,hk]) | (apply Ak.mk; first | rfl | exact .inl rfl | exact .inr rfl | exact aq _ _ | exact av _ _ | (unfold aG az; simp<;>omega) | with_unfolding_all rfl | exact .inr (by with_unfolding_all rfl))) only [ZN,↓df,ai,qA,↓reduceIte,qB,qC,reduceCtorEq,aa,ae,ad,ZM,bk,bI,↓bR,↓ed,ZV,aW,aZ,aS,hk,g1,g2,g3,g5,g6,p2,hdl,z1];exact hR.symm
   ·refine aK (fn:=eX) [] rfl rfl rfl rfl (by unfold eX; rfl) ?_; intro R hR;simp -implicitDefEqProofs (disch:=first | assumption | (apply Ar.mk; first | omega | (simp only [Zj]; omega)) | (apply Ar.mk; assumption) | (apply Kk.mk; simp -implicitDefEqProofs (disch:=(apply Ar.mk; (try simp only [aj,ak]); omega)) only [ap,ao,aj,ak,au,aI,hk]) | (apply Ak.mk; first | rfl | exact .inl rfl | exact .inr rfl | exact aq _ _ | exact av _ _ | (unfold aG az; simp<;>omega) | with_unfolding_all rfl | exact .inr (by with_unfolding_all rfl))) only [ZN,↓df,ai,qA,↓reduceIte,qB,qC,reduceCtorEq,aa,ae,ad,ZM,bI,↓ed,ZV,aW,aZ,aS,hk,g1,g2,g3,p2,hdl,z1];exact hR.symm
end
theorem IB {c:Nat} : bu c=true↔(c=9∨c=32∨c=10∨c=38∨c=124∨c=59∨c=40∨c=41∨c=60∨c=62):=by
 unfold bu bA cn;simp only [Bool.or_eq_true,beq_iff_eq];omega
set_option maxRecDepth 3000
set_option maxHeartbeats 3000000
section
variable {l:List UInt8}{n:Nat} (hb:l.length < 16385) (ih:LQ ext l n) {k:Nat}{od:Bool}{lv:Nat}{fr:Option Nat}{a o:Nat}{acc:List aJ}{s:PS}
include hb ih
theorem Be (h:Sc l k 0 od lv (gY fr) a o acc s) (hlv:lv≤32) (ha:a < l.length) (h92:bt l a≠92) (h96:bt l a≠96) (h36:bt l a≠36) (hn : 4 * (l.length - a) + 2 < n + 1):MR l k 0 od lv (gY fr) s (ah Tryz.prog Γ ext 171 [.ptr k 0 9,cv (bt l a)] s) (T9 acc o (if acc.isEmpty=true∧jC l a (bW 0 od) then .ok ([dr],a + 1) else wd 16384 l (n + 1) (.part a (bW 0 od) lv))):=by
 have h0:=h.at0 s.n;obtain⟨⟨tx,ls,tv,v,low,hlow,hk,ht,hl,hd,hacc,hno,hz⟩,hkn,hal⟩:=h;have hadd:=fun (q:aJ) (hq:q.kind≠1) (j:Nat) (hj:a < j) (hjl:j≤l.length)=>ln hkn (qM (ext:=ext) hb h0 hq hj hjl);have hout:eE (bW 0 od)=true:=(i8 (by omega)).2 rfl;have hxp:ch l a=false:=by cases c:ch l a with | false=>rfl | true=>exact absurd (kJ c) h36
 have elt:(l[a]).toNat=bt l a:=(cf ha).symm;have hlit:MR l k 0 od lv (gY fr) _ (ah Tryz.prog Γ ext 172 [.ptr k 0 9,cv (bt l a),iv 1] ⟨s.h,s.n,s.n⟩) (.ok (a + 1,o,fx acc [l[a]])):=nc (ext:=ext) hb h0 elt (n:=1) (by omega) (by omega);have hs1:sub l a (a + 1)=[l[a]]:=ju ha;rw [wd,if_neg h92,if_neg h96,if_neg h36];by_cases c39:bt l a=39
 ·rw [if_neg (fun h=>by have:=h.2.2.1; omega),if_pos ⟨hout,c39⟩];have hcl:=rM (ext:=ext) (s:=⟨s.h,s.n,s.n⟩) hb hlow hk hal (by unfold oZ; rw [c39]; simp) ha;have e:lx l (.pass a 0)=if aQ l 39 (a + 1) < l.length then (aQ l 39 (a + 1) + 1,0) else (a,7):=by
   unfold lx ly;rw [rd,if_neg h92,if_neg h96,if_neg (by rw [hxp]; simp),if_pos ⟨c39,rfl⟩]
  rw [e] at hcl;have hge:=eK l 39 (a + 1);generalize aQ l 39 (a + 1)=r at *;by_cases hr:r < l.length
  ·rw [if_pos hr] at hcl ⊢;have hcl:ah Tryz.prog Γ ext 197 [.ptr k 0 9] ⟨s.h,s.n,s.n⟩=some (.ok (iv (r + 1)) ⟨s.h,s.n,s.n⟩):=hcl;obtain⟨S1,z1,sc,f1,f2⟩:=hadd (fX (sub l (a + 1) r)) (by simp [fX,aJ.kind]) (r + 1) (by omega) (by omega);rw [fX,cL,dl] at z1;have z1:ah Tryz.prog Γ ext 194 [.ptr k 0 9,.agg [iv 2,sv (sb l (a + 1) r),iv 0,.sc (.bool false),nv],iv (r + 1)] _=_:=z1;have er:r + 1 - 1=r:=rfl;refine dn ?_ sc f2;refine aK (fn:=jA) [] rfl rfl rfl rfl (by unfold jA; rfl) ?_; intro R hR;simp -implicitDefEqProofs (disch:=first | assumption | (apply Ar.mk; first | omega | (simp only [Zj]; omega)) | (apply Ak.mk; first | rfl | exact .inl rfl | exact .inr rfl | exact aq _ _ | exact av _ _ | (unfold aG az; simp<;>omega) | with_unfolding_all rfl | exact .inr (by with_unfolding_all rfl))) only [ZN,↓dt,ai,qA,↓reduceIte,qB,qC,reduceCtorEq,aa,aD,ae,ad,ZM,ZV,aW,aZ,aS,hk,hcl,er,z1];exact hR.symm
  ·rw [if_neg hr] at hcl ⊢;have hcl:ah Tryz.prog Γ ext 197 [.ptr k 0 9] ⟨s.h,s.n,s.n⟩=some (.pan (lw a 7) ⟨s.h,s.n,s.n⟩):=hcl;refine fh ?_ (Fr.min s hkn);refine aK (fn:=jA) [] rfl rfl rfl rfl (by unfold jA; rfl) ?_; intro R hR;simp -implicitDefEqProofs (disch:=first | assumption | (apply Ar.mk; first | omega | (simp only [Zj]; omega)) | (apply Ak.mk; first | rfl | exact .inl rfl | exact .inr rfl | exact aq _ _ | exact av _ _ | (unfold aG az; simp<;>omega) | with_unfolding_all rfl | exact .inr (by with_unfolding_all rfl))) only [ZN,↓dt,ai,↓reduceIte,qB,reduceCtorEq,aa,ZM,hcl];exact hR.symm
 rw [if_neg (c:=eE (bW 0 od)=true∧bt l a=39) (fun h=>c39 h.2)];by_cases c34:bt l a=34
 ·rw [if_neg (c:=acc.isEmpty=true∧jC l a (bW 0 od)) (fun h=>by have:=h.2.2.1; omega),if_pos ⟨hout,c34⟩];by_cases lv32 : 32≤lv
  ·rw [if_pos lv32];refine fh ?_ (Fr.min s hkn);refine aK (fn:=jA) [] rfl rfl rfl rfl (by unfold jA; rfl) ?_; intro R hR;simp -implicitDefEqProofs (disch:=first | assumption | (apply Ar.mk; first | omega | (simp only [Zj]; omega)) | (apply Ak.mk; first | rfl | exact .inl rfl | exact .inr rfl | exact aq _ _ | exact av _ _ | (unfold aG az; simp<;>omega) | with_unfolding_all rfl | exact .inr (by with_unfolding_all rfl))) only [ZN,↓dt,↓df,ai,qA,↓reduceIte,qB,qC,reduceCtorEq,aa,ad,ZM,hk,dN];exact hR.symm
  rw [if_neg lv32];have hne:ah Tryz.prog Γ ext 196 [.ptr k 0 9,iv (a + 1),iv a,iv 1,.sc (.bool false)] ⟨s.h,s.n,s.n⟩=zE ⟨s.h,s.n,s.n⟩ (ya (wd 16384 l n (.loop (a + 1) 2 (lv + 1) a 0 []))):=
   sy (ext:=ext) (s:=⟨s.h,s.n,s.n⟩) hb ih hlow hk hal (at':=a + 1) (op:=a) (pl':=1) (od':=false) (by omega) (by omega) (by omega) ⟨(fun h=>by cases h),(fun h=>absurd h (by decide))⟩ (by omega)
  have hok:=fw 16384 l n (.loop (a + 1) 2 (lv + 1) a 0 []) (by simp only [aT.ok]; omega) (by simp only [aT.size]; omega);generalize wd 16384 l n (.loop (a + 1) 2 (lv + 1) a 0 [])=r at *;rcases r with ⟨x,e⟩ | ⟨ps,j⟩
  ·refine fh ?_ (Fr.min s hkn);have hne:ah Tryz.prog Γ ext 196 [.ptr k 0 9,iv (a + 1),iv a,iv 1,.sc (.bool false)] ⟨s.h,s.n,s.n⟩=some (.pan (lw x e) ⟨s.h,s.n,s.n⟩):=hne;refine aK (fn:=jA) [] rfl rfl rfl rfl (by unfold jA; rfl) ?_; intro R hR;simp -implicitDefEqProofs (disch:=first | assumption | (apply Ar.mk; first | omega | (simp only [Zj]; omega)) | (apply Ak.mk; first | rfl | exact .inl rfl | exact .inr rfl | exact aq _ _ | exact av _ _ | (unfold aG az; simp<;>omega) | with_unfolding_all rfl | exact .inr (by with_unfolding_all rfl))) only [ZN,↓dt,↓df,ai,qA,↓reduceIte,qB,qC,reduceCtorEq,aa,ad,ZM,ZV,aW,aZ,aS,hk,hne];exact hR.symm
  ·have hne:ah Tryz.prog Γ ext 196 [.ptr k 0 9,iv (a + 1),iv a,iv 1,.sc (.bool false)] ⟨s.h,s.n,s.n⟩=some (.ok (.tup [bK ps,iv j]) ⟨s.h,s.n,s.n⟩):=hne;have hj:a + 1≤j:=hok.1;have hj2:j < l.length:=hok.2.2.1 (by omega) (by omega);obtain⟨S1,z1,sc,f1,f2⟩:=hadd (.mk 3 [] 0 false ps) (by simp [aJ.kind]) (j + 1) (by omega) (by omega);rw [cL] at z1;have z1:ah Tryz.prog Γ ext 194 [.ptr k 0 9,.agg [iv 3,.sc (.string ⟨#[]⟩),iv 0,.sc (.bool false),bK ps],iv (j + 1)] ⟨s.h,s.n,s.n⟩=_:=z1;refine dn ?_ sc f2;refine aK (fn:=jA) [] rfl rfl rfl rfl (by unfold jA; rfl) ?_; intro R hR;simp -implicitDefEqProofs (disch:=first | assumption | (apply Ar.mk; first | omega | (simp only [Zj]; omega)) | (apply Ak.mk; first | rfl | exact .inl rfl | exact .inr rfl | exact aq _ _ | exact av _ _ | (unfold aG az; simp<;>omega) | with_unfolding_all rfl | exact .inr (by with_unfolding_all rfl))) only [ZN,↓dt,↓df,ai,qA,↓reduceIte,qB,qC,reduceCtorEq,aa,aD,ae,ad,ZM,ZV,aW,aZ,aS,hk,hne,z1,kV];exact hR.symm
 rw [if_neg (c:=eE (bW 0 od)=true∧bt l a=34) (fun h=>c34 h.2),if_neg (c:=bW 0 od=3∧bt l a=34) (fun h=>c34 h.2),hs1];by_cases cb:bu (bt l a)=true
 ·have cb':=IB.1 cb;rw [if_neg (c:=acc.isEmpty=true∧jC l a (bW 0 od)) (fun h=>by have:=h.2.2.1; omega)];cases od with
  | false=>
   rw [if_pos ⟨rfl,cb⟩];refine fh ?_ (Fr.min s hkn);rcases cb' with cb' | cb' | cb' | cb' | cb' | cb' | cb' | cb' | cb' | cb'<;>
   ·refine aK (fn:=jA) [] rfl rfl rfl rfl (by unfold jA; rfl) ?_; intro R hR;simp -implicitDefEqProofs (disch:=first | assumption | (apply Ar.mk; first | omega | (simp only [Zj]; omega)) | (apply Ak.mk; first | rfl | exact .inl rfl | exact .inr rfl | exact aq _ _ | exact av _ _ | (unfold aG az; simp<;>omega) | with_unfolding_all rfl | exact .inr (by with_unfolding_all rfl))) only [ZN,↓dt,↓df,ai,qA,↓reduceIte,qB,qC,reduceCtorEq,aa,ad,ZM,hk,dN];exact hR.symm
  | true=>
   rw [if_neg (fun h=>absurd h.1 (by decide))];obtain⟨S1,z1,sc,f1,f2⟩:=ln hkn hlit;refine dn (q:=(a + 1,o,([ck [l[a]]]:List aJ).foldl dO acc)) ?_ sc f2;rcases cb' with cb' | cb' | cb' | cb' | cb' | cb' | cb' | cb' | cb' | cb'<;>
   ·refine aK (fn:=jA) [] rfl rfl rfl rfl (by unfold jA; rfl) ?_; intro R hR;simp -implicitDefEqProofs (disch:=first | assumption | (apply Ar.mk; first | omega | (simp only [Zj]; omega)) | (apply Ak.mk; first | rfl | exact .inl rfl | exact .inr rfl | exact aq _ _ | exact av _ _ | (unfold aG az; simp<;>omega) | with_unfolding_all rfl | exact .inr (by with_unfolding_all rfl))) only [ZN,↓dt,↓df,ai,qA,↓reduceIte,qB,qC,reduceCtorEq,aa,ae,ad,ZM,hk,z1];exact hR.symm
 have cb':¬ (bt l a=9∨bt l a=32∨bt l a=10∨bt l a=38∨bt l a=124∨bt l a=59∨bt l a=40∨bt l a=41∨bt l a=60∨bt l a=62):=fun h=>cb (IB.2 h);rw [if_neg (c:=bW 0 od=0∧bu (bt l a)=true) (fun h=>cb h.2)];have hacc0:acc.isEmpty=true↔tx.length=0∧ls.length=0:=by
  rw [hacc];cases ls with
  | nil=>cases tx<;>simp [zA]
  | cons x y=>simp
 by_cases c126:bt l a=126
 ·have ht:=F7 (ext:=ext) (s:=⟨s.h,s.n,s.n⟩) hb hlow hk hal (y8 ht) (y8 hl) ha;have hti:((tx.length=0∧ls.length=0)∧(l.length≤fN l (a + 1)∨bt l (fN l (a + 1))=47∨od=true∧bt l (fN l (a + 1))=125))↔(acc.isEmpty=true∧jC l a (bW 0 od)):=by
   rw [hacc0];unfold jC;rw [show (bW 0 od=1)=(od=true) from by cases od<;>simp [bW]];simp only [hout,c126,true_and]
  by_cases ct:acc.isEmpty=true∧jC l a (bW 0 od)
  ·rw [if_pos ct];rw [zO (hti.2 ct)] at ht;obtain⟨S1,z1,sc,f1,f2⟩:=hadd dr (by simp [dr,aJ.kind]) (a + 1) (by omega) (by omega);rw [dr,cL,dl] at z1;have z1:ah Tryz.prog Γ ext 194 [.ptr k 0 9,.agg [iv 7,.sc (.string ⟨#[]⟩),iv 0,.sc (.bool false),nv],iv (a + 1)] _=_:=z1;refine dn ?_ sc f2;refine aK (fn:=jA) [] rfl rfl rfl rfl (by unfold jA; rfl) ?_; intro R hR;simp -implicitDefEqProofs (disch:=first | assumption | (apply Ar.mk; first | omega | (simp only [Zj]; omega)) | (apply Ak.mk; first | rfl | exact .inl rfl | exact .inr rfl | exact aq _ _ | exact av _ _ | (unfold aG az; simp<;>omega) | with_unfolding_all rfl | exact .inr (by with_unfolding_all rfl))) only [ZN,↓dt,↓df,ai,qA,↓reduceIte,qB,qC,reduceCtorEq,aa,aD,ae,ad,ZM,hk,ht,z1];exact hR.symm
  ·rw [if_neg ct];rw [mW (fun h=>ct (hti.1 h))] at ht;obtain⟨S1,z1,sc,f1,f2⟩:=ln hkn hlit;refine dn (q:=(a + 1,o,([ck [l[a]]]:List aJ).foldl dO acc)) ?_ sc f2;refine aK (fn:=jA) [] rfl rfl rfl rfl (by unfold jA; rfl) ?_; intro R hR;simp -implicitDefEqProofs (disch:=first | assumption | (apply Ar.mk; first | omega | (simp only [Zj]; omega)) | (apply Ak.mk; first | rfl | exact .inl rfl | exact .inr rfl | exact aq _ _ | exact av _ _ | (unfold aG az; simp<;>omega) | with_unfolding_all rfl | exact .inr (by with_unfolding_all rfl))) only [ZN,↓dt,↓df,ai,qA,↓reduceIte,qB,reduceCtorEq,aa,ae,ZM,ht,z1];exact hR.symm
 ·rw [if_neg (fun h=>c126 h.2.2.1)];obtain⟨S1,z1,sc,f1,f2⟩:=ln hkn hlit;refine dn (q:=(a + 1,o,([ck [l[a]]]:List aJ).foldl dO acc)) ?_ sc f2;refine aK (fn:=jA) [] rfl rfl rfl rfl (by unfold jA; rfl) ?_; intro R hR;simp -implicitDefEqProofs (disch:=first | assumption | (apply Ar.mk; first | omega | (simp only [Zj]; omega)) | (apply Ak.mk; first | rfl | exact .inl rfl | exact .inr rfl | exact aq _ _ | exact av _ _ | (unfold aG az; simp<;>omega) | with_unfolding_all rfl | exact .inr (by with_unfolding_all rfl))) only [ZN,↓df,ai,qA,↓reduceIte,qB,reduceCtorEq,aa,ae,ZM,z1];exact hR.symm
end
theorem rp {l:List UInt8}{k pl:Nat}{od:Bool}{lv:Nat}{fr:Int}{s:PS}{z Y:Option ZR}{q:Except (Nat × Nat) (Nat × Nat × List aJ)} (hkn:k < s.n) (hM:MR l k pl od lv fr ⟨s.h,s.n,s.n⟩ z q)
  (h1:∀S1,z=some (.ok (.tup []) S1)→Y=some (.ok (.tup []) ⟨S1.h,S1.n,min s.w S1.w⟩)) (h2:∀v S1,z=some (.pan v S1)→Y=some (.pan v ⟨S1.h,S1.n,min s.w S1.w⟩)):MR l k pl od lv fr s Y q:=by
 rcases q with ⟨x,e⟩ | ⟨a,o,acc⟩
 ·obtain⟨S1,z1,f⟩:=hM;exact⟨_,h2 _ S1 z1,f.up hkn⟩
 ·obtain⟨S1,z1,sc,f⟩:=hM;exact⟨_,h1 S1 z1,sc.at0 _,f.up hkn⟩
set_option maxRecDepth 3000
set_option maxHeartbeats 3000000
section
variable {l:List UInt8}{n:Nat} (hb:l.length < 16385) (ih:∀m,m < n + 1 + 1 + 1→LQ ext l m) {k pl:Nat}{od:Bool}{lv:Nat}{fr:Option Nat}{a o:Nat}{acc:List aJ}{s:PS}
include hb ih
theorem OE (h:Sc l k pl od lv (gY fr) a o acc s) (hpl:pl≤3) (hlv:lv≤32) (hoa:o≤a) (ha:a < l.length) (hend:ef (bt l a) (bW pl od) o=false) (hn : 4 * (l.length - a) + 2 < n + 1 + 1 + 1):MR l k pl od lv (gY fr) s (ah Tryz.prog Γ ext 142 [.ptr k 0 9] s) (T9 acc (if bW pl od=4 then bD (bt l a) o else o) (if acc.isEmpty=true∧jC l a (bW pl od) then .ok ([dr],a + 1) else wd 16384 l (n + 1 + 1 + 1) (.part a (bW pl od) lv))):=by
 have h0:=h.at0 s.n;have hop:bt l a≠40→bt l a≠41→(if bW pl od=4 then bD (bt l a) o else o)=o:=fun h1 h2=>by
  unfold bD; rw [if_neg h1,if_neg h2]; split<;>rfl
 have hnt:bt l a≠126∨pl≠0→(if acc.isEmpty=true∧jC l a (bW pl od) then .ok ([dr],a + 1) else wd 16384 l (n + 1 + 1 + 1) (.part a (bW pl od) lv))=wd 16384 l (n + 1 + 1 + 1) (.part a (bW pl od) lv):=fun hh=>if_neg fun hc=>by
  rcases hh with hh | hh
  ·exact hh hc.2.2.1
  ·exact hh ((i8 hpl).1 hc.2.1)
 have hsc:=h;obtain⟨⟨tx,ls,tv,v,low,hlow,hk,ht,hl,hd,hacc,hno,hz⟩,hkn,hal⟩:=h;by_cases c92:bt l a=92
 ·rw [hop (by omega) (by omega),hnt (.inl (by omega)),wd,if_pos c92];refine rp hkn (yI (ext:=ext) hb h0 hpl ha c92) (fun S1 z1=>?_) (fun v1 S1 z1=>?_)
  ·refine aK (fn:=eS) [] rfl rfl rfl rfl (by unfold eS; rfl) ?_; intro R hR;simp -implicitDefEqProofs (disch:=first | assumption | (apply Ar.mk; first | omega | (simp only [Zj]; omega)) | (apply Ak.mk; first | rfl | exact .inl rfl | exact .inr rfl | exact aq _ _ | exact av _ _ | (unfold aG az; simp<;>omega) | with_unfolding_all rfl | exact .inr (by with_unfolding_all rfl))) only [ZN,ai,qA,↓reduceIte,qB,qC,reduceCtorEq,aa,ae,ad,ZM,ZV,aW,aZ,aS,hk,c92,z1];exact hR.symm
  ·refine aK (fn:=eS) [] rfl rfl rfl rfl (by unfold eS; rfl) ?_; intro R hR;simp -implicitDefEqProofs (disch:=first | assumption | (apply Ar.mk; first | omega | (simp only [Zj]; omega)) | (apply Ak.mk; first | rfl | exact .inl rfl | exact .inr rfl | exact aq _ _ | exact av _ _ | (unfold aG az; simp<;>omega) | with_unfolding_all rfl | exact .inr (by with_unfolding_all rfl))) only [ZN,ai,qA,↓reduceIte,qB,qC,reduceCtorEq,aa,ad,ZM,ZV,aW,aZ,aS,hk,c92,z1];exact hR.symm
 by_cases c36:bt l a=36
 ·rw [hop (by omega) (by omega),hnt (.inl (by omega))];refine rp hkn (I8 (ext:=ext) (n:=n) hb ih h0 hpl hlv ha c36 hn) (fun S1 z1=>?_) (fun v1 S1 z1=>?_)
  ·refine aK (fn:=eS) [] rfl rfl rfl rfl (by unfold eS; rfl) ?_; intro R hR;simp -implicitDefEqProofs (disch:=first | assumption | (apply Ar.mk; first | omega | (simp only [Zj]; omega)) | (apply Ak.mk; first | rfl | exact .inl rfl | exact .inr rfl | exact aq _ _ | exact av _ _ | (unfold aG az; simp<;>omega) | with_unfolding_all rfl | exact .inr (by with_unfolding_all rfl))) only [ZN,ai,qA,↓reduceIte,qB,qC,reduceCtorEq,aa,ae,ad,ZM,ZV,aW,aZ,aS,hk,c36,z1];exact hR.symm
  ·refine aK (fn:=eS) [] rfl rfl rfl rfl (by unfold eS; rfl) ?_; intro R hR;simp -implicitDefEqProofs (disch:=first | assumption | (apply Ar.mk; first | omega | (simp only [Zj]; omega)) | (apply Ak.mk; first | rfl | exact .inl rfl | exact .inr rfl | exact aq _ _ | exact av _ _ | (unfold aG az; simp<;>omega) | with_unfolding_all rfl | exact .inr (by with_unfolding_all rfl))) only [ZN,ai,qA,↓reduceIte,qB,qC,reduceCtorEq,aa,ad,ZM,ZV,aW,aZ,aS,hk,c36,z1];exact hR.symm
 by_cases c96:bt l a=96
 ·rw [hop (by omega) (by omega),hnt (.inl (by omega)),wd,if_neg c92,if_pos c96];refine rp hkn (wT (ext:=ext) hb h0 ha c96) (fun S1 z1=>?_) (fun v1 S1 z1=>?_)
  ·refine aK (fn:=eS) [] rfl rfl rfl rfl (by unfold eS; rfl) ?_; intro R hR;simp -implicitDefEqProofs (disch:=first | assumption | (apply Ar.mk; first | omega | (simp only [Zj]; omega)) | (apply Ak.mk; first | rfl | exact .inl rfl | exact .inr rfl | exact aq _ _ | exact av _ _ | (unfold aG az; simp<;>omega) | with_unfolding_all rfl | exact .inr (by with_unfolding_all rfl))) only [ZN,ai,qA,↓reduceIte,qB,qC,reduceCtorEq,aa,ae,ad,ZM,ZV,aW,aZ,aS,hk,c96,z1];exact hR.symm
  ·refine aK (fn:=eS) [] rfl rfl rfl rfl (by unfold eS; rfl) ?_; intro R hR;simp -implicitDefEqProofs (disch:=first | assumption | (apply Ar.mk; first | omega | (simp only [Zj]; omega)) | (apply Ak.mk; first | rfl | exact .inl rfl | exact .inr rfl | exact aq _ _ | exact av _ _ | (unfold aG az; simp<;>omega) | with_unfolding_all rfl | exact .inr (by with_unfolding_all rfl))) only [ZN,ai,qA,↓reduceIte,qB,qC,reduceCtorEq,aa,ad,ZM,ZV,aW,aZ,aS,hk,c96,z1];exact hR.symm
 by_cases c0:pl=0
 ·subst c0;rw [show (if bW 0 od=4 then bD (bt l a) o else o)=o from if_neg (by cases od<;>decide)];refine rp hkn (Be (ext:=ext) (n:=n + 1 + 1) hb (ih (n + 1 + 1) (by omega)) h0 hlv ha c92 c96 c36 hn) (fun S1 z1=>?_) (fun v1 S1 z1=>?_)
  ·refine aK (fn:=eS) [] rfl rfl rfl rfl (by unfold eS; rfl) ?_; intro R hR;simp -implicitDefEqProofs (disch:=first | assumption | (apply Ar.mk; first | omega | (simp only [Zj]; omega)) | (apply Ak.mk; first | rfl | exact .inl rfl | exact .inr rfl | exact aq _ _ | exact av _ _ | (unfold aG az; simp<;>omega) | with_unfolding_all rfl | exact .inr (by with_unfolding_all rfl))) only [ZN,↓df,ai,qA,↓reduceIte,qB,qC,reduceCtorEq,aa,ae,ad,ZM,ZV,aW,aZ,aS,hk,z1];exact hR.symm
  ·refine aK (fn:=eS) [] rfl rfl rfl rfl (by unfold eS; rfl) ?_; intro R hR;simp -implicitDefEqProofs (disch:=first | assumption | (apply Ar.mk; first | omega | (simp only [Zj]; omega)) | (apply Ak.mk; first | rfl | exact .inl rfl | exact .inr rfl | exact aq _ _ | exact av _ _ | (unfold aG az; simp<;>omega) | with_unfolding_all rfl | exact .inr (by with_unfolding_all rfl))) only [ZN,↓df,ai,qA,↓reduceIte,qB,qC,reduceCtorEq,aa,ad,ZM,ZV,aW,aZ,aS,hk,z1];exact hR.symm
 rw [hnt (.inr c0)];have hno':¬ eE (bW pl od)=true:=fun hh=>c0 ((i8 hpl).1 hh);have hp0:bW pl od≠0:=fun hh=>by rw [hh] at hno'; exact hno' rfl
 have elt:(l[a]).toNat=bt l a:=(cf ha).symm;have hs1:sub l a (a + 1)=[l[a]]:=ju ha;rw [wd,if_neg c92,if_neg c96,if_neg c36,if_neg (c:=eE (bW pl od)=true∧bt l a=39) (fun h=>hno' h.1),if_neg (c:=eE (bW pl od)=true∧bt l a=34) (fun h=>hno' h.1),if_neg (c:=bW pl od=0∧bu (bt l a)=true) (fun h=>hp0 h.1),hs1];by_cases c34:pl=1∧bt l a=34
 ·obtain⟨rfl,c34⟩:=c34;cases od with
  | false=>exfalso; rw [c34] at hend; revert hend; simp [ef,bW]
  | true=>
   rw [if_pos (c:=bW 1 true=3∧bt l a=34) ⟨rfl,c34⟩];refine fh ?_ (Fr.min s hkn);refine aK (fn:=eS) [] rfl rfl rfl rfl (by unfold eS; rfl) ?_; intro R hR;simp -implicitDefEqProofs (disch:=first | assumption | (apply Ar.mk; first | omega | (simp only [Zj]; omega)) | (apply Ak.mk; first | rfl | exact .inl rfl | exact .inr rfl | exact aq _ _ | exact av _ _ | (unfold aG az; simp<;>omega) | with_unfolding_all rfl | exact .inr (by with_unfolding_all rfl))) only [ZN,↓df,ai,qA,↓reduceIte,qB,qC,reduceCtorEq,aa,ad,ZM,bk,↓bR,ZV,aW,aZ,aS,hk,dN];exact hR.symm
 rw [if_neg (c:=bW pl od=3∧bt l a=34) (fun h=>c34 ⟨((Qu hpl).1 h.1).1,h.2⟩)];by_cases c4:pl=2∧od=false
 ·obtain⟨rfl,rfl⟩:=c4;rw [if_pos (show bW 2 false=4 from rfl)];by_cases c40:bt l a=40
  ·rw [show bD (bt l a) o=o + 1 from if_pos c40];obtain⟨S1,z1,sc,f1⟩:=nc (ext:=ext) (s:=(⟨s.h,s.n,s.n⟩ : PS).put k ⟨lr l a 2 false lv (gY fr) (o + 1) tv v,9,169⟩) hb (By (a':=a) (o':=o + 1) hkn ht hl hd hacc hno hz (Nat.le_refl _) hal _) elt (n:=1) (by omega) (by omega);refine dn (q:=(a + 1,o + 1,([ck [l[a]]]:List aJ).foldl dO acc)) (S1:=S1) ?_ sc ⟨f1.n,fun j hj=>(f1.h j hj).trans (by simp -implicitDefEqProofs (disch:=(apply Ar.mk; (try simp only [aj,ak]); omega)) only [ao,au]),fun n0 g1 g2=>Nat.le_min.2 ⟨g2,f1.w n0 g1 (by (simp only [db]; omega))⟩⟩;refine aK (fn:=eS) [] rfl rfl rfl rfl (by unfold eS; rfl) ?_; intro R hR;simp -implicitDefEqProofs (disch:=first | assumption | (apply Ar.mk; first | omega | (simp only [Zj]; omega)) | (apply Ak.mk; first | rfl | exact .inl rfl | exact .inr rfl | exact aq _ _ | exact av _ _ | (unfold aG az; simp<;>omega) | with_unfolding_all rfl | exact .inr (by with_unfolding_all rfl))) only [ZN,↓dt,↓df,ai,qA,↓reduceIte,qB,qC,reduceCtorEq,aa,ae,ad,ZM,bI,↓ed,ZV,aW,aZ,aS,hk,z1];exact hR.symm
  by_cases c41:bt l a=41
  ·have ho:o≠0:=fun hh=>by rw [c41,hh] at hend; revert hend; simp [ef,bW]
   rw [show bD (bt l a) o=o - 1 from (if_neg c40).trans (if_pos c41)];obtain⟨S1,z1,sc,f1⟩:=nc (ext:=ext) (s:=(⟨s.h,s.n,s.n⟩ : PS).put k ⟨lr l a 2 false lv (gY fr) (o - 1) tv v,9,169⟩) hb (By (a':=a) (o':=o - 1) hkn ht hl hd hacc hno hz (Nat.le_refl _) hal _) elt (n:=1) (by omega) (by omega);refine dn (q:=(a + 1,o - 1,([ck [l[a]]]:List aJ).foldl dO acc)) (S1:=S1) ?_ sc ⟨f1.n,fun j hj=>(f1.h j hj).trans (by simp -implicitDefEqProofs (disch:=(apply Ar.mk; (try simp only [aj,ak]); omega)) only [ao,au]),fun n0 g1 g2=>Nat.le_min.2 ⟨g2,f1.w n0 g1 (by (simp only [db]; omega))⟩⟩;refine aK (fn:=eS) [] rfl rfl rfl rfl (by unfold eS; rfl) ?_; intro R hR;simp -implicitDefEqProofs (disch:=first | assumption | (apply Ar.mk; first | omega | (simp only [Zj]; omega)) | (apply Ak.mk; first | rfl | exact .inl rfl | exact .inr rfl | exact aq _ _ | exact av _ _ | (unfold aG az; simp<;>omega) | with_unfolding_all rfl | exact .inr (by with_unfolding_all rfl))) only [ZN,↓dt,↓df,ai,qA,↓reduceIte,qB,qC,reduceCtorEq,aa,ae,ad,ZM,bI,↓ed,ZV,aW,aZ,aS,hk,z1];exact hR.symm
  rw [show bD (bt l a) o=o from (if_neg c40).trans (if_neg c41)];obtain⟨S1,z1,sc,f1,f2⟩:=ln hkn (nc (ext:=ext) hb h0 elt (n:=1) (by omega) (by omega));refine dn (q:=(a + 1,o,([ck [l[a]]]:List aJ).foldl dO acc)) ?_ sc f2;refine aK (fn:=eS) [] rfl rfl rfl rfl (by unfold eS; rfl) ?_; intro R hR;simp -implicitDefEqProofs (disch:=first | assumption | (apply Ar.mk; first | omega | (simp only [Zj]; omega)) | (apply Ak.mk; first | rfl | exact .inl rfl | exact .inr rfl | exact aq _ _ | exact av _ _ | (unfold aG az; simp<;>omega) | with_unfolding_all rfl | exact .inr (by with_unfolding_all rfl))) only [ZN,↓df,ai,qA,↓reduceIte,qB,qC,reduceCtorEq,aa,ae,ad,ZM,ZV,aW,aZ,aS,hk,z1];exact hR.symm
 ·rw [show (if bW pl od=4 then bD (bt l a) o else o)=o from if_neg fun hh=>c4 ((FN hpl).1 hh)];obtain⟨S1,z1,sc,f1,f2⟩:=ln hkn (nc (ext:=ext) hb h0 elt (n:=1) (by omega) (by omega));refine dn (q:=(a + 1,o,([ck [l[a]]]:List aJ).foldl dO acc)) ?_ sc f2;cases od with
  | true=>
   by_cases c1:pl=1
   ·have c34:bt l a≠34:=fun hh=>c34 ⟨c1,hh⟩;refine aK (fn:=eS) [] rfl rfl rfl rfl (by unfold eS; rfl) ?_; intro R hR;simp -implicitDefEqProofs (disch:=first | assumption | (apply Ar.mk; first | omega | (simp only [Zj]; omega)) | (apply Ak.mk; first | rfl | exact .inl rfl | exact .inr rfl | exact aq _ _ | exact av _ _ | (unfold aG az; simp<;>omega) | with_unfolding_all rfl | exact .inr (by with_unfolding_all rfl))) only [ZN,↓df,ai,qA,↓reduceIte,qB,qC,reduceCtorEq,aa,ae,ad,ZM,bI,↓ed,ZV,aW,aZ,aS,hk,z1];exact hR.symm
   ·by_cases c2:pl=2
    ·refine aK (fn:=eS) [] rfl rfl rfl rfl (by unfold eS; rfl) ?_; intro R hR;simp -implicitDefEqProofs (disch:=first | assumption | (apply Ar.mk; first | omega | (simp only [Zj]; omega)) | (apply Ak.mk; first | rfl | exact .inl rfl | exact .inr rfl | exact aq _ _ | exact av _ _ | (unfold aG az; simp<;>omega) | with_unfolding_all rfl | exact .inr (by with_unfolding_all rfl))) only [ZN,↓df,ai,qA,↓reduceIte,qB,qC,reduceCtorEq,aa,ae,ad,ZM,bk,↓bR,ZV,aW,aZ,aS,hk,z1];exact hR.symm
    ·refine aK (fn:=eS) [] rfl rfl rfl rfl (by unfold eS; rfl) ?_; intro R hR;simp -implicitDefEqProofs (disch:=first | assumption | (apply Ar.mk; first | omega | (simp only [Zj]; omega)) | (apply Ak.mk; first | rfl | exact .inl rfl | exact .inr rfl | exact aq _ _ | exact av _ _ | (unfold aG az; simp<;>omega) | with_unfolding_all rfl | exact .inr (by with_unfolding_all rfl))) only [ZN,↓df,ai,qA,↓reduceIte,qB,qC,reduceCtorEq,aa,ae,ad,ZM,bI,↓ed,ZV,aW,aZ,aS,hk,z1];exact hR.symm
  | false=>
   have c2:pl≠2:=fun hh=>c4 ⟨hh,rfl⟩;by_cases c1:pl=1
   ·have c34:bt l a≠34:=fun hh=>c34 ⟨c1,hh⟩;refine aK (fn:=eS) [] rfl rfl rfl rfl (by unfold eS; rfl) ?_; intro R hR;simp -implicitDefEqProofs (disch:=first | assumption | (apply Ar.mk; first | omega | (simp only [Zj]; omega)) | (apply Ak.mk; first | rfl | exact .inl rfl | exact .inr rfl | exact aq _ _ | exact av _ _ | (unfold aG az; simp<;>omega) | with_unfolding_all rfl | exact .inr (by with_unfolding_all rfl))) only [ZN,↓df,ai,qA,↓reduceIte,qB,qC,reduceCtorEq,aa,ae,ad,ZM,bI,↓ed,ZV,aW,aZ,aS,hk,z1];exact hR.symm
   ·refine aK (fn:=eS) [] rfl rfl rfl rfl (by unfold eS; rfl) ?_; intro R hR;simp -implicitDefEqProofs (disch:=first | assumption | (apply Ar.mk; first | omega | (simp only [Zj]; omega)) | (apply Ak.mk; first | rfl | exact .inl rfl | exact .inr rfl | exact aq _ _ | exact av _ _ | (unfold aG az; simp<;>omega) | with_unfolding_all rfl | exact .inr (by with_unfolding_all rfl))) only [ZN,↓df,ai,qA,↓reduceIte,qB,qC,reduceCtorEq,aa,ae,ad,ZM,bI,↓ed,ZV,aW,aZ,aS,hk,z1];exact hR.symm
end
end Go.Proofs.YtioblbopbilmaaaGreatDoor
namespace Go.Mir
theorem Nf {L:Nat}{l:List UInt8}{n pl:Nat}{od:Bool}{lv a o:Nat}{fr:Option Nat}{acc:List aJ} (hpl:pl≤3) (ha:a≤l.length) (hfr:fr=none↔bW pl od=0∨bW pl od=5) :
  wd L l (n + 1) (.loop a (bW pl od) lv (fr.getD 0) o acc)=match u0 l pl od fr a o with
   | .error x=>.error x
   | .ok true=>.ok (acc,a)
   | .ok false=>match (if acc.isEmpty=true∧jC l a (bW pl od) then .ok ([dr],a + 1) else wd L l n (.part a (bW pl od) lv):R) with
    | .error x=>.error x
    | .ok (ps,j)=>wd L l n (.loop j (bW pl od) lv (fr.getD 0) (if bW pl od=4 then bD (bt l a) o else o) (ps.foldl dO acc)):=by
 rw [wd];by_cases h1:a=l.length
 ·rw [if_neg (by omega)];unfold u0;rw [if_pos h1];cases fr with
  | none=>rw [if_pos (hfr.1 rfl)]
  | some x=>rw [if_neg (fun h=>by cases hfr.2 h)]; rfl
 rw [if_pos (show a < l.length by omega)];have key:∀(b:Bool),ef (bt l a) (bW pl od) o=b→bW pl od≠4→(if ef (bt l a) (bW pl od) o=true then (if bW pl od=4 then (if a + 1=l.length then .error (fr.getD 0,7) else if bt l (a + 1)=41 then .ok (acc,a) else .error (a,6)) else .ok (acc,a):R)
   else if acc.isEmpty=true∧jC l a (bW pl od) then wd L l n (.loop (a + 1) (bW pl od) lv (fr.getD 0) o [dr])
   else match wd L l n (.part a (bW pl od) lv) with
    | .error x=>.error x
    | .ok (ps,j)=>wd L l n (.loop j (bW pl od) lv (fr.getD 0) (if bW pl od=4 then bD (bt l a) o else o) (ps.foldl dO acc)))=match (.ok b:Except (Nat × Nat) Bool) with
   | .error x=>.error x
   | .ok true=>.ok (acc,a)
   | .ok false=>match (if acc.isEmpty=true∧jC l a (bW pl od) then .ok ([dr],a + 1) else wd L l n (.part a (bW pl od) lv):R) with
    | .error x=>.error x
    | .ok (ps,j)=>wd L l n (.loop j (bW pl od) lv (fr.getD 0) (if bW pl od=4 then bD (bt l a) o else o) (ps.foldl dO acc)):=by
  intro b hb h4;rw [hb];cases b with
  | true=>rw [if_pos rfl,if_neg h4]
  | false=>
   rw [if_neg (by simp)];by_cases ht:acc.isEmpty=true∧jC l a (bW pl od)
   ·rw [if_pos ht,if_pos ht];have:acc=[]:=List.isEmpty_iff.1 ht.1;subst this;simp only [if_neg h4];rfl
   ·rw [if_neg ht,if_neg ht]
 cases od with
 | true=>
  have h4:bW pl true≠4:=by unfold bW; (repeat' split)<;>simp_all
  rw [show u0 l pl true fr a o=.ok (bt l a == 125) by unfold u0; rw [if_neg h1,if_pos rfl]];refine key _ ?_ h4;have h5:bW pl true=1∨bW pl true=3∨bW pl true=6:=by unfold bW; (repeat' split)<;>simp_all
  rcases h5 with h5 | h5 | h5<;>rw [h5]<;>simp [ef]
 | false=>
  have e0:u0 l pl false fr a o=if pl=1 then .ok (bt l a == 34) else if pl=2∧bt l a=41∧o=0 then (if a + 1=l.length then .error (fr.getD 0,7) else if bt l (a + 1)≠41 then .error (a,6) else .ok true) else .ok false:=by
   unfold u0; rw [if_neg h1,if_neg (by simp)]
  by_cases h3:pl=1
  ·subst h3;rw [if_pos rfl] at e0;rw [e0];exact key (bt l a == 34) (by simp [ef,bW]) (by decide)
  rw [if_neg h3] at e0;by_cases h4:pl=2
  ·subst h4;by_cases h5:bt l a=41∧o=0
   ·rw [if_pos ⟨rfl,h5⟩] at e0;have he:ef (bt l a) (bW 2 false) o=true:=by simp [ef,bW,h5.1,h5.2]
    rw [if_pos he,if_pos (show bW 2 false=4 from rfl)];by_cases h6:a + 1=l.length
    ·rw [if_pos h6] at e0;rw [if_pos h6,e0]
    ·rw [if_neg h6] at e0;rw [if_neg h6];by_cases h7:bt l (a + 1)=41
     ·rw [if_neg (by simpa using h7)] at e0;rw [if_pos h7,e0]
     ·rw [if_pos h7] at e0;rw [if_neg h7,e0]
   ·rw [if_neg (fun h=>h5 h.2)] at e0;have he:ef (bt l a) (bW 2 false) o=false:=by
     cases c:ef (bt l a) (bW 2 false) o with
     | false=>rfl
     | true=>simp [ef,bW] at c; exact absurd c h5
    have ht:¬ (acc.isEmpty=true∧jC l a (bW 2 false)):=fun h=>by have:=h.2.1; revert this; decide
    rw [if_neg (c:=ef (bt l a) (bW 2 false) o=true) (by rw [he]; simp),if_neg ht,e0];simp only [if_neg ht];rcases wd L l n (.part a (bW 2 false) lv) with x | ⟨ps,j⟩<;>rfl
  ·rw [if_neg (fun h=>h4 h.1)] at e0;rw [e0];have h5:bW pl false=0∨bW pl false=5:=by unfold bW; (repeat' split)<;>simp_all
   refine key false ?_ ?_
   ·rcases h5 with h5 | h5<;>rw [h5]<;>simp [ef]
   ·omega
theorem Hl {l:List UInt8}{pl:Nat}{od:Bool}{fr:Option Nat}{a o:Nat} (hpl:pl≤3) (ha:a≤l.length) (h:u0 l pl od fr a o=.ok false):a < l.length∧ef (bt l a) (bW pl od) o=false:=by
 unfold u0 at h;by_cases h1:a=l.length
 ·rw [if_pos h1] at h; cases fr<;>cases h
 refine⟨by omega,?_⟩;rw [if_neg h1] at h;cases od with
 | true=>
  rw [if_pos rfl] at h;injection h with h;have h5:bW pl true=1∨bW pl true=3∨bW pl true=6:=by unfold bW; (repeat' split)<;>simp_all
  rcases h5 with h5 | h5 | h5<;>rw [h5]<;>simp [ef]<;>simpa using h
 | false=>
  rw [if_neg (by simp)] at h;by_cases h3:pl=1
  ·subst h3;rw [if_pos rfl] at h;injection h with h;simp [ef,bW]; simpa using h
  rw [if_neg h3] at h;by_cases h4:pl=2
  ·subst h4;by_cases h5:bt l a=41∧o=0
   ·rw [if_pos ⟨rfl,h5⟩] at h;by_cases h6:a + 1=l.length
    ·rw [if_pos h6] at h; cases h
    ·rw [if_neg h6] at h;by_cases h7:bt l (a + 1)=41
     ·rw [if_neg (by simpa using h7)] at h; cases h
     ·rw [if_pos h7] at h; cases h
   ·cases c:ef (bt l a) (bW 2 false) o with
    | false=>rfl
    | true=>simp [ef,bW] at c; exact absurd c h5
  ·have h5:bW pl false=0∨bW pl false=5:=by unfold bW; (repeat' split)<;>simp_all
   rcases h5 with h5 | h5<;>rw [h5]<;>simp [ef]
end Go.Mir
namespace Go.Proofs.YtioblbopbilmaaaGreatDoor
open Go Go.EvL Go.PE Go.Mir
variable {ext:aw}
theorem FG {c o:Nat} : bD c o≤o + 1:=by unfold bD; (repeat' split)<;>omega
set_option maxRecDepth 3000
set_option maxHeartbeats 3000000
section
variable {l:List UInt8} (hb:l.length < 16385)
include hb
theorem B6:∀(n:Nat),(∀m,m < n→LQ ext l m)→∀(k pl:Nat) (od:Bool) (lv:Nat) (fr:Option Nat) (a o:Nat) (acc:List aJ) (s0 S:PS) (f:aE),pl≤3→lv≤32→o≤a→JK pl od fr→k < s0.n→Sc l k pl od lv (gY fr) a o acc S→Fr k ⟨s0.h,s0.n,s0.n⟩ S→f 0=.ptr k 0 9→4 * (l.length - a) + 3 < n→
  PR l k pl od lv (gY fr) s0 (rl Tryz.prog Γ ext (ZK [] s0) 0 nN nq f S []) (wd 16384 l n (.loop a (bW pl od) lv (fr.getD 0) o acc)):=by
 intro n
 induction n with
 | zero=>intro _ k pl od lv fr a o acc s0 S f _ _ _ _ _ _ _ _ hn; omega
 | succ m ihn=>
  intro ih k pl od lv fr a o acc s0 S f hpl hlv hoa hfr hkn h hF f0 hn;have hsc:=h;obtain⟨⟨tx,ls,tv,v,low,hlow,hk,ht,hl,hd,hacc,hno,hz⟩,hkS,hal⟩:=h;have hen:=Ja (ext:=ext) (s:=S) hb hlow hk hal (fun h1 h2 h3=>by subst h1; subst h2; have:=hfr.1 h3; revert this; decide);rw [Nf hpl hal hfr];cases he:u0 l pl od fr a o with
  | error x=>
   obtain⟨x,e⟩:=x;rw [he] at hen;have hen:ah Tryz.prog Γ ext 141 [.ptr k 0 9] S=some (.pan (lw x e) S):=hen;apply td (Q:=fun z=>PR l k pl od lv (gY fr) s0 z _)
   ·apply ar (by unfold nN; rfl) (by unfold nq; rfl); intro hr R hR;simp -implicitDefEqProofs (disch:=first | assumption | (apply Ar.mk; first | omega | (simp only [Zj]; omega))) only [ZN,↓reduceIte,aa,ZM,f0,hen];exact hR.symm
   ·exact⟨_,rfl,hF.up hkn⟩
  | ok b=>
   rw [he] at hen;cases b with
   | true=>
    have hen:ah Tryz.prog Γ ext 141 [.ptr k 0 9] S=some (.ok (.sc (.bool true)) S):=hen;obtain⟨S2,z2,v',low',hlow',hk',hA,_,f2⟩:=Cn (ext:=ext) hlow hk ht hl hd hkS (by omega);apply td (Q:=fun z=>PR l k pl od lv (gY fr) s0 z _)
    ·apply ar (by unfold nN; rfl) (by unfold nq; rfl); intro hr R hR;simp -implicitDefEqProofs (disch:=first | assumption | (apply Ar.mk; first | omega | (simp only [Zj]; omega))) only [ZN,↓reduceIte,aa,f0,hen];unfold nq;simp -implicitDefEqProofs (disch:=first | assumption | (apply Ar.mk; first | omega | (simp only [Zj]; omega))) only [ZN,↓reduceIte,reduceCtorEq,aa,ae,ZM,f0,z2];exact hR.symm
    ·refine⟨_,rfl,⟨o,v',low',hlow',hk',?_⟩,(hF.trans f2).up hkn⟩;rw [hacc];exact hA.fr (Nat.le_refl _) fun _ _ _ _ _ _=>rfl
   | false=>
    have hen:ah Tryz.prog Γ ext 141 [.ptr k 0 9] S=some (.ok (.sc (.bool false)) S):=hen;obtain⟨hal2,hend⟩:=Hl hpl hal he;obtain⟨n',rfl⟩ : ∃n',m=n' + 1 + 1 + 1:=⟨m - 3,by omega⟩
    have hne:=OE (ext:=ext) (n:=n') (s:=S) hb (fun m hm=>ih m (by omega)) hsc hpl hlv hoa hal2 hend (by omega);have hwk:rJ l (.part a (bW pl od) lv) (if acc.isEmpty=true∧jC l a (bW pl od) then .ok ([dr],a + 1) else wd 16384 l (n' + 1 + 1 + 1) (.part a (bW pl od) lv)):=by
     split
     ·exact⟨Nat.lt_succ_self _,hal2,Nat.le_refl _,fun q hq h1=>by simp only [List.mem_singleton] at hq; subst hq; exact absurd h1 (by simp [dr,aJ.kind])⟩
     ·exact fw 16384 l _ _ hal2 (by simp only [aT.size]; omega)
    generalize (if acc.isEmpty=true∧jC l a (bW pl od) then (.ok ([dr],a + 1):R) else wd 16384 l (n' + 1 + 1 + 1) (.part a (bW pl od) lv))=r at *;rcases r with ⟨x,e⟩ | ⟨ps,j⟩
    ·obtain⟨S1,z1,f1⟩:=hne;apply td (Q:=fun z=>PR l k pl od lv (gY fr) s0 z _)
     ·apply ar (by unfold nN; rfl) (by unfold nq; rfl); intro hr R hR;simp -implicitDefEqProofs (disch:=first | assumption | (apply Ar.mk; first | omega | (simp only [Zj]; omega))) only [ZN,↓reduceIte,reduceCtorEq,aa,ZM,f0,hen,z1];exact hR.symm
     ·exact⟨_,rfl,(hF.trans f1).up hkn⟩
    ·obtain⟨S1,z1,sc1,f1⟩:=hne;have hj:a < j:=hwk.1;have ho2:(if bW pl od=4 then bD (bt l a) o else o)≤j:=by
      have:=FG (c:=bt l a) (o:=o);split<;>omega
     apply td (Q:=fun z=>PR l k pl od lv (gY fr) s0 z _)
     ·apply ar (by unfold nN; rfl) (by unfold nq; rfl); intro hr R hR;simp -implicitDefEqProofs (disch:=first | assumption | (apply Ar.mk; first | omega | (simp only [Zj]; omega))) only [ZN,↓reduceIte,reduceCtorEq,aa,f0,hen,z1];exact hR.symm
     ·exact ihn (fun m hm=>ih m (by omega)) k pl od lv fr j _ _ s0 S1 _ hpl hlv ho2 hfr hkn sc1 (hF.trans f1) (by first | exact f0 | rfl) (by omega)
theorem Xm:∀n,LQ ext l n:=by
 intro n
 induction n using Nat.strongRecOn with
 | _ n ih=>
  intro k pl od lv fr a o acc s hpl hlv hoa hfr h hn;have h0:=h.at0 s.n;apply td (Q:=fun z=>PR l k pl od lv (gY fr) s z _)
  ·apply aK (fn:=Ob) [] rfl rfl rfl rfl (by unfold Ob; rfl); intro R hR;simp -implicitDefEqProofs (disch:=first | assumption | (apply Ar.mk; first | omega | (simp only [Zj]; omega))) only [ZN,ai];exact hR.symm
  exact B6 (ext:=ext) hb n ih k pl od lv fr a o acc s ⟨s.h,s.n,s.n⟩ _ hpl hlv hoa hfr h.n h0 .refl rfl hn
end
end Go.Proofs.YtioblbopbilmaaaGreatDoor
namespace Go.PE
open Go Go.EvL
section
variable (P:Program) (w:World) (H:Nat)
variable {P w H}
theorem AL {b:Nat}{o:Obj} (h:w.heap[b]?=some o):b < w.heap.size:=(Array.getElem?_eq_some_iff.1 h).1
end
end Go.PE
namespace Go.PE
open Go Go.EvL Go.RowKit
section
variable {P:Program}{Γ:Nat→Option fe}{ext:aw}
def WA:PS:=⟨fun _=>⟨[],0,0⟩,0,0⟩
def lU (w:World):Prop:=∀x∈di,∃C fz,w.heap[x.g]?=some (.cells C x.e fz)∧C.toList.take x.cells.length=x.cells∧fz.2≤x.cells.length
set_option maxRecDepth 100000 in
theorem sU (hl:∀x∈di,x.g < P.globals.size∧x.cells.all (plain 50)=true) {w:World} (hw:P.globals.size≤w.heap.size) (hlaid:lU w):gz P (r6 P w) (fun _=>True) (gX P di) w:=by
 have hfit:∀x∈di,ir x.g:=fun x hx=>lT (by have:=(hl x hx).1; omega);rw [fD];have hphi:∀b i,r6 P w b=some i→b < P.globals.size∧i=⟨b,0,Ld w b,Lj P w b,b,0⟩:=fun b i h=>by
  unfold r6 at h;split at h
  ·rename_i hb; injection h with h; exact⟨hb,h.symm⟩
  ·cases h
 refine⟨fun b i hb=>?_,fun b₁ b₂ i₁ i₂ h₁ h₂ he=>?_,fun b o hb _ _=>?_,fun b i hb=>?_,fun g hg=>?_,fun b i hb _=>by obtain⟨_,rfl⟩:=hphi b i hb; rfl⟩
 ·obtain⟨h1,rfl⟩:=hphi b i hb; exact Nat.lt_of_lt_of_le h1 hw
 ·obtain⟨_,rfl⟩:=hphi _ _ h₁;obtain⟨_,rfl⟩:=hphi _ _ h₂;exact⟨he,rfl⟩
 ·obtain⟨x,h1,rfl,rfl,h4⟩:=oU di hfit b o hb;obtain⟨C,fz,g1,g3,g2⟩:=hlaid x h1;have hlen:x.cells.length≤C.size:=by
   have:=congrArg List.length g3;rw [List.length_take] at this;simp at this;omega
  refine⟨⟨x.g,0,Ld w x.g,Lj P w x.g,x.g,0⟩,_,by unfold r6; rw [if_pos (hl x h1).1],g1,?_⟩;refine .row _ _ _ _ _ _ rfl rfl (by simp [Lj,g1]) (by simp [Ld,g1]) (by simpa using hlen) ?_ (.inr ⟨x.cells.length,h4,by simpa using g2⟩) _ (.inl ⟨rfl,Nat.dvd_zero _⟩);show b8 _ _ ((C.toList.drop 0).take x.cells.length);rw [List.drop_zero,g3];exact mP (cy _ 50) _ (hl x h1).2
 ·trivial
 ·exact⟨_,by unfold r6; rw [if_pos hg],rfl,rfl⟩
theorem xJ (hE:lW P) (hS:Qk P) (hm:P.follows .mixedOrders=true) {orc:IE} (hQ:Ct P orc) (hl:∀x∈di,x.g < P.globals.size∧x.cells.all (plain 50)=true) {n:Nat}{g:FuncId} (h:t8 P orc di n g=true)
  (w:World) (hw:P.globals.size≤w.heap.size) (hlaid:lU w) :
  Calls P g #[] w fun e w'=>e=.returned (.bool true)∧Below w.heap.size w w':=by
 unfold t8 zm at h;split at h
 ·rename_i A' hev;simp only [Bool.and_eq_true] at h;have h1:=Nat.eq_of_beq_eq_true h.1;have hs:=ME hE hS hm hQ n g #[] (gX P di) _ A' (v8 di (Nat.le_refl _) fun x hx=>(hl x hx).1) (Nat.le_refl _) hev;refine (hs.run (r6 P w) (fun _=>True) w #[] .nil (sU hl hw hlaid) (fun _ _ _=>trivial) fun b hb _=>?_).mono ?_
  ·rw [fD] at hb;unfold r6;rw [if_neg (by have:P.globals.size≤b:=hb; omega)]
  ·rintro e w' ⟨φ',hp,he⟩;refine⟨?_,hp.os,hp.tape,hp.output,hp.size,fun k hk=>hp.same k hk fun b i hb hi=>?_⟩
   ·cases he with
    | ret _ v' hv=>cases hv; rfl
   ·unfold r6 at hb;split at hb
    ·rename_i hlt;injection hb with hb;subst hb;show A'.w.testBit b=false;have h3:A'.w % 2 ^ P.globals.size=0:=by
      have e1:Nat.shiftLeft 1 P.globals.size=2 ^ P.globals.size:=Nat.one_shiftLeft _;rw [← e1]; exact h1
     have h4:(A'.w % 2 ^ P.globals.size).testBit b=(decide (b < P.globals.size) && A'.w.testBit b):=Nat.testBit_mod_two_pow _ _ _;rw [h3] at h4;simp [hlt] at h4;exact h4
    ·cases hb
 ·cases h
theorem Ic (hE:lW P) (hO:be P) (hm:P.follows .mixedOrders=true) (hP:hZ P) (hΓ:gx P Γ) (hX:bM P (cz Γ) ext) (hl:∀x∈di,x.g < P.globals.size∧x.cells.all (plain 50)=true) (hL:v5 (gX P di) (fun _=>0) 0) {g:Nat} (hpu:cz Γ g=true) {w:World}{args:Array Value}{pvs:List PV}{vs:List Value}
  (hG:P.globals.size≤w.heap.size) (hlaid:lU w) (hvr:b8 (r6 P w) vs args.toList) (hrs:Rs (gX P di) (fun _=>0) 0 vs pvs) {s':PS} (h:gp P Γ ext g pvs WA=some (.sc (.bool true),s')) :
  Calls P g args w fun e w'=>e=.returned (.bool true)∧Below w.heap.size w w':=by
 obtain⟨_,_,hh⟩:=oJ hE hO hm hP hΓ hX g pvs WA _ _ h;obtain⟨u,A',β',cs,_,_,r1,hw⟩:=hh (gX P di) (fun _=>0) vs (v8 di (Nat.le_refl _) fun x hx=>(hl x hx).1) ⟨fun k hk=>absurd hk (Nat.not_lt_zero _),fun j k hj=>absurd hj (Nat.not_lt_zero _),hL⟩ hrs;obtain⟨rfl,_⟩:=r1.sc;refine (cs.run (r6 P w) (fun _=>True) w args hvr (sU hl hG hlaid) (fun _ _ _=>trivial) fun b hb _=>?_).mono ?_
 ·rw [fD] at hb;unfold r6;rw [if_neg (by have:P.globals.size≤b:=hb; omega)]
 ·rintro e w' ⟨φ',hp,he⟩;refine⟨?_,hp.os,hp.tape,hp.output,hp.size,fun k hk=>hp.same k hk fun b i hb hi=>?_⟩
  ·cases he with
   | ret _ v' hv=>cases hv; rfl
  ·unfold r6 at hb;split at hb
   ·rename_i hlt;injection hb with hb;subst hb;show A'.w.testBit b=false;cases hbit:A'.w.testBit b with
    | false=>rfl
    | true=>
     have h0:=hw hpu b (by rw [fD]; exact hlt) hbit;rw [fD] at h0;have h0:(0:Nat).testBit b=true:=h0;rw [Nat.zero_testBit] at h0;cases h0
   ·cases hb
def OP (gA:Nat):aw:=fun g args s=>if g=gA∧args.isEmpty=true then some (.sc (.bool true),s) else none
theorem Jo {A:AS} (hi:EvL.bE A):∀l:List oS,(∀x∈l,x.g < A.next)→∃A',A'.heap=A.heap∧A'.next=A.next∧A'.fz=A.fz∧A'.w=A.w∧kW A A'∧∀x∈l,A'.r.testBit x.g=true:=by
 intro l
 induction l with
 | nil=>exact fun _=>⟨A,rfl,rfl,rfl,rfl,.refl hi,fun x hx=>by cases hx⟩
 | cons x l ih=>
  intro h;obtain⟨A1,h1,h2,h3,h4,h5,h6⟩:=ih fun y hy=>h y (List.mem_cons_of_mem _ hy);have hx:x.g < A1.next:=by rw [h2]; exact h x List.mem_cons_self
  refine⟨bO A1 x.g,by rw [aB]; exact h1,by rw [aB]; exact h2,by rw [aB]; exact h3,by rw [aB]; exact h4,h5.trans (fd h5.inv hx),fun y hy=>?_⟩;rcases List.mem_cons.1 hy with rfl | hy
  ·rw [aB];show (A1.r ||| 1 <<< y.g).testBit y.g=true;rw [cg]; simp
  ·exact (fd h5.inv hx).r _ (h6 y hy)
theorem Kn {gA:Nat} (hb:∃fn c,P.funcs[gA]?=some fn∧fn.body=some c) (hl:∀x∈di,x.g < P.globals.size∧x.cells.all (plain 50)=true) (hsm:∀x∈di,x.cells.length < 1000000) (hc:∀w:World,P.globals.size≤w.heap.size→lU w→Calls P gA #[] w fun e w'=>e=.returned (.bool true)∧Below w.heap.size w w') (pu:Nat→Bool):bM P pu (OP gA):=by
 intro g args s q s' h;unfold OP at h;split at h
 ·rename_i hg;obtain⟨rfl,ha⟩:=hg;injection h with h;injection h with h1 h2;subst h1;subst h2;have ha':args=[]:=List.isEmpty_iff.1 ha;subst ha';refine⟨hb,.refl _,fun A β vs hi hs hr=>?_⟩;have hvs:vs=[]:=by cases hr; rfl
  subst hvs;obtain⟨A',e1,e2,e3,e4,e5,e6⟩:=Jo hi di fun x hx=>(hs.lay x hx).2.1.1;refine⟨.bool true,A',β,⟨e5,fun φ T w args' hv hrel hft _=>?_⟩,.heap β s.n e1 e2 e4,hs.hp e1 e2 e3,.cl _ _ (.sc _ rfl),fun _ c _ h=>by rw [e4] at h; exact h⟩;have ha2:args' = #[]:=by
   cases args' with
   | mk l=>cases hv; rfl
  subst ha2;have hli:lU w:=fun x hx=>by
   obtain⟨a1,a2,a3⟩:=hs.lay x hx;have hT:T (cm x.g (eD.row x.cells x.e x.g 0 true)):=hft x.g a2.1 (.inl (e6 x hx));obtain⟨i,o',b1,b2,b3⟩:=hrel.obj _ _ a1 rfl hT;obtain⟨i',c1,c2,c3⟩:=hrel.glob x.g (hl x hx).1;rw [c1] at b1;injection b1 with b1;subst b1;rw [c2] at b2;cases b3 with
   | row _ _ _ _ C fz hc hst h1 hsz hlen hv hf e' hE=>
    rw [c3] at hlen hv hf;rw [List.drop_zero] at hv;have hv:=pd (cN φ 50) _ _ (hl x hx).2 hv;have hz:A.fz.get (cm x.g (eD.row x.cells x.e x.g 0 true))=some x.cells.length:=a3;rw [hz] at hf hE;have he:e'=x.e:=by
     rcases hE with h | ⟨h,h2,h3⟩
     ·exact h.1
     ·injection h2 with h2;have:=hsm x hx;omega
    subst he;refine⟨C,fz,b2,hv,?_⟩;rcases hf with rfl | ⟨h,h2,h3⟩
    ·exact Nat.zero_le _
    ·injection h2 with h2;omega
  refine (hc w (Dx hrel) hli).mono ?_;rintro e w' ⟨rfl,bel⟩;exact⟨φ,bG.below hrel e1 e3 e2 bel,.ret _ _ (.bool true)⟩
 ·cases h
end
end Go.PE
namespace Go.Proofs.YtioblbopbilmaaaGreatDoor
open Go Go.EvL Go.PE Go.Mir
def gO:So:=⟨23,[ob 4 (.alloc 78 (.slice none 0 0)),ob 5 (.alloc 3 (.int .i64 0)),ob 6 (.alloc 43 (.int .i64 0))],[ob 8 (.mkfn 109 [] [(tp 4),(tp 5),(tp 6)])],tp 8,
 (.seq (Qn [mt 9 0,ob 10 (.len true (tp 9)),ob 11 (bi .gtr 10 16384)] 11
 (.reg [ob 12 (cl 110 [(ki 0),(ki 3)])])
 .skip)
 (sr [mt 13 0,mt 14 1,ob 15 (.build [(.string ⟨#[]⟩),(.int .i64 0),(.int .i64 0),(.bool false),(.int .i64 0),(.int .i64 0),(.int .i64 0),(.slice none 0 0),(.slice none 0 0)] [(0,1,(tp 13)),(2,1,(tp 14)),(4,1,(ki 1)),(5,1,(ki (-1)))]),ob 16 (.box 169 (tp 15)),mt 7 16]
 (sr [mt 17 7,ob 18 (cl 111 [(tp 17)])]
 (sr [mt 19 7,ob 20 (.nck (tp 19)),ob 21 (.faddr 8 (tp 20)),ob 22 (.load 78 false 1 (tp 21)),o0 (.store 78 1 (tp 4) (tp 22)),o0 (.store 3 1 (tp 5) (ki 0)),o0 (.store 43 1 (tp 6) (ki 0))]
 .ret)))),[.cell 4 false 1,.cell 5 false 1,.cell 6 false 1],19,6,[mt 3 6],
 (Qn [mt 7 3,ob 8 (.inq true 20 (tp 7))] 8
 (sr [o0 (.store 78 1 (tp 0) (.const (.slice none 0 0))),o0 (.store 3 1 (tp 1) (ki 0)),o0 (.store 43 1 (tp 2) (ki 1))]
 (sr [mt 10 3,ob 11 (.asr 164 (.agg #[(.int .i64 0),(.int .i64 0)]) (tp 10)),mt 9 11,ob 12 (.ext (tp 9) 0),ob 13 (.ext (tp 9) 1),ob 4 (.alloc 164 (.agg #[(.int .i64 0),(.int .i64 0)])),o0 (.store 164 2 (tp 4) (tp 12)),mt 5 13]
 (Qn [mt 14 5] 14
 (.draw [(ob 15 (.faddr 0 (tp 4)),[4],[]),(ob 16 (.load 3 false 1 (tp 15)),[15],[]),(ob 17 (.faddr 1 (tp 4)),[4],[1,0]),(ob 18 (.load 43 false 1 (tp 17)),[17],[1,0]),(o0 (.store 3 1 (tp 1) (tp 16)),[1,16],[3,2]),(o0 (.store 43 1 (tp 2) (tp 18)),[2,18],[])])
 .skip)))
 .skip)⟩
theorem UI:Fj Tryz.prog Tryz.f66 Tryz.f109=some gO:=by kernel_rfl
end Go.Proofs.YtioblbopbilmaaaGreatDoor
