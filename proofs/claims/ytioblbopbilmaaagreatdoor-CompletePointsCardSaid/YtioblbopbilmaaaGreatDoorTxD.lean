/- What functions of the program and of the reference compute, on values. No statement is proved here. -/
import Derived.Test.YtioblbopbilmaaaGreatDoorTxC
import Derived.Test.YtioblbopbilmaaaGreatDoorProg
import Derived.Test.YtioblbopbilmaaaGreatDoorTxB
import Derived.Test.YtioblbopbilmaaaGreatDoorTxA
import Derived.Laws.StructEq
import Derived.Test.YtioblbopbilmaaaGreatDoorPeC
import Derived.Lib.Bytealg
set_option linter.all false
open Nat renaming reduceEqDiff → qA, reduceAdd → qB, reduceLeDiff → qC, reduceLT → qD, reduceBEq → qE, reduceMul → qF, reduceSub → qG
namespace Go.Proofs.YtioblbopbilmaaaGreatDoor
open Go Go.EvL Go.PE
def Γ1:Nat→Option fe
 | 3=>some p3
 | 5=>some p5
 | 6=>some p6
 | 7=>some p7
 | 11=>some p11
 | 12=>some Vq
 | 13=>some VJ
 | 14=>some UP
 | 15=>some m8
 | 16=>some Pu
 | 17=>some RU
 | 18=>some yf
 | 19=>some Vr
 | 26=>some Uv
 | 27=>some Oc
 | 28=>some UN
 | 29=>some VX
 | 30=>some Uh
 | 31=>some QR
 | 32=>some U3
 | 34=>some Ww
 | 35=>some S6
 | 36=>some Vy
 | 37=>some mS
 | 38=>some Mv
 | 39=>some Kj
 | 41=>some UG
 | 58=>some Wq
 | 59=>some W6
 | 60=>some Vz
 | 61=>some VP
 | 62=>some Wo
 | 63=>some Sz
 | 64=>some Wi
 | 65=>some Su
 | 67=>some W2
 | 68=>some TT
 | 69=>some Tp
 | 70=>some V4
 | 71=>some W5
 | 72=>some W0
 | 73=>some UT
 | 74=>some MQ
 | _=>none
def Γ2:Nat→Option fe
 | 75=>some TM
 | 76=>some VN
 | 77=>some K9
 | 78=>some Vm
 | 93=>some VV
 | 94=>some UA
 | 95=>some VQ
 | 96=>some Uu
 | 97=>some Wj
 | 98=>some UQ
 | 99=>some UW
 | 100=>some Mk
 | 101=>some OO
 | 102=>some Mf
 | 103=>some P5
 | 104=>some Mt
 | 105=>some Py
 | 110=>some MM
 | 111=>some Ob
 | 112=>some G3
 | 113=>some PD
 | 114=>some MJ
 | 115=>some mj
 | 116=>some P0
 | 138=>some OF
 | 141=>some NY
 | 142=>some eS
 | 143=>some BQ
 | 145=>some NC
 | 146=>some Ou
 | 147=>some Pb
 | 148=>some Pk
 | 149=>some Q5
 | 150=>some O0
 | 151=>some Na
 | 152=>some Nl
 | 153=>some vp
 | 168=>some nm
 | 169=>some eX
 | 170=>some Gi
 | 171=>some jA
 | 172=>some Ft
 | 173=>some Of
 | 174=>some N7
 | _=>none
def Γ3:Nat→Option fe
 | 175=>some Nx
 | 176=>some Pj
 | 177=>some OI
 | 178=>some MF
 | 179=>some P6
 | 180=>some Mw
 | 181=>some Mp
 | 182=>some N4
 | 183=>some MI
 | 184=>some Mn
 | 185=>some Ol
 | 186=>some Oj
 | 194=>some GL
 | 195=>some OR
 | 196=>some Bn
 | 197=>some Nv
 | 198=>some ez
 | 199=>some Q6
 | 200=>some Qb
 | 201=>some PU
 | 202=>some IC
 | 203=>some Qg
 | 204=>some Nm
 | 205=>some OL
 | 206=>some Ov
 | 207=>some Nh
 | 208=>some Oo
 | 209=>some OY
 | 210=>some NN
 | 211=>some Nn
 | 216=>some F9
 | 217=>some Iy
 | 218=>some OG
 | 219=>some Pv
 | 220=>some Q9
 | 221=>some Q3
 | 222=>some Oa
 | 223=>some Mx
 | 224=>some Od
 | 225=>some Pz
 | 226=>some Oi
 | 227=>some PN
 | 228=>some Pr
 | 229=>some Pf
 | _=>none
def Γ (g:Nat):Option fe:=(Γ1 g).or ((Γ2 g).or (Γ3 g))
end Go.Proofs.YtioblbopbilmaaaGreatDoor
namespace Go.Proofs.YtioblbopbilmaaaGreatDoor
open Go Go.EvL Go.PE Go.Mir
variable {ext:aw}
abbrev sv (l:List UInt8):PV:=.sc (.string ⟨⟨l⟩⟩)
abbrev iv (n:Nat):PV:=.sc (.int .i64 (n:Int))
abbrev cv (n:Nat):PV:=.sc (.int .u8 (n:Int))
abbrev bv (p:Prop) [Decidable p]:PV:=.sc (.bool (decide p))
theorem Hi (c:Nat) (s:PS):ah Tryz.prog Γ ext 113 [cv c] s=some (.ok (bv (cC c=true)) s):=by
 refine am (fn:=PD) [2] rfl rfl rfl rfl (by unfold PD; rfl) ?_; intro R hR;simp -implicitDefEqProofs (disch:=first | assumption | (apply Ar.mk; omega)) only [ZN,ai,qA,↓reduceIte,reduceCtorEq,aa,ae,frz,frz2,aP];subst hR
 (repeat' (apply DI_c<;>intro))<;>first | rfl | (apply eU; simp [cC, *]<;>omega) | (apply dT; simp [cC, *]<;>omega) | (apply cZ; simp [cC, *]<;>omega)
theorem gV (c:Nat) (s:PS):ah Tryz.prog Γ ext 114 [cv c] s=some (.ok (bv (ay c=true)) s):=by
 refine am (fn:=MJ) [2] rfl rfl rfl rfl (by unfold MJ; rfl) ?_; intro R hR;simp -implicitDefEqProofs (disch:=first | assumption | (apply Ar.mk; omega)) only [ZN,ai,qA,↓reduceIte,reduceCtorEq,aa,ae,frz,frz2,aP];subst hR
 (repeat' (apply DI_c<;>intro))<;>first | rfl | (apply eU; simp [ay, *]<;>omega) | (apply dT; simp [ay, *]<;>omega) | (apply cZ; simp [ay, *]<;>omega)
theorem nG (c:Nat) (s:PS):ah Tryz.prog Γ ext 70 [cv c] s=some (.ok (bv (aF c=true)) s):=by
 refine am (fn:=V4) [2] rfl rfl rfl rfl (by unfold V4; rfl) ?_; intro R hR;simp -implicitDefEqProofs (disch:=first | assumption | (apply Ar.mk; omega)) only [ZN,ai,qA,↓reduceIte,reduceCtorEq,aa,ae,frz,frz2,aP,Hi,gV];subst hR
 (repeat' (apply DI_c<;>intro))<;>first | rfl | (apply eU; simp [aF, *]<;>omega) | (apply dT; simp [aF, *]<;>omega) | (apply cZ; simp [aF, *]<;>omega)
theorem iw (c:Nat) (s:PS):ah Tryz.prog Γ ext 176 [cv c] s=some (.ok (bv (bA c=true)) s):=by
 refine am (fn:=Pj) [2] rfl rfl rfl rfl (by unfold Pj; rfl) ?_; intro R hR;simp -implicitDefEqProofs (disch:=first | assumption | (apply Ar.mk; omega)) only [ZN,ai,qA,↓reduceIte,reduceCtorEq,aa,ae,frz,frz2,aP];subst hR
 (repeat' (apply DI_c<;>intro))<;>first | rfl | (apply eU; simp [bA, *]<;>omega) | (apply dT; simp [bA, *]<;>omega) | (apply cZ; simp [bA, *]<;>omega)
theorem ka (c:Nat) (s:PS):ah Tryz.prog Γ ext 178 [cv c] s=some (.ok (bv (cn c=true)) s):=by
 refine am (fn:=MF) [2] rfl rfl rfl rfl (by unfold MF; rfl) ?_; intro R hR;simp -implicitDefEqProofs (disch:=first | assumption | (apply Ar.mk; omega)) only [ZN,ai,qA,↓reduceIte,reduceCtorEq,aa,ae,frz,frz2,aP];subst hR
 (repeat' (apply DI_c<;>intro))<;>first | rfl | (apply eU; simp [cn, *]<;>omega) | (apply dT; simp [cn, *]<;>omega) | (apply cZ; simp [cn, *]<;>omega)
theorem GG {l:List UInt8}{i:Nat} (h:i < l.length) (q:UInt8→Bool):(l.drop i).any q=(q l[i] || (l.drop (i + 1)).any q):=by rw [dp h,List.any_cons]
theorem AU {l:List UInt8} (hl:l.length < 4611686018427387904) (c:Nat) (s0:PS):∀(k i:Nat) (f:aE) (s:PS),i + k=l.length→s0.n≤s.w→f 0=sv l→f 1=cv c→f 5=iv i→rl Tryz.prog Γ ext (ZT [4] s0) 0 yE Cw f s []=some (.ok (bv ((l.drop i).any (fun x=>x.toNat == c)=true)) s0):=by
 intro k
 induction k with
 | zero=>
  intro i f s hk hw h0 h1 h5;refine ar (by unfold yE; rfl) (by unfold Cw; rfl) ?_; intro hr R hR;simp -implicitDefEqProofs (disch:=first | assumption | (apply Ar.mk; omega)) only [ZN,↓df,qA,↓reduceIte,reduceCtorEq,aa,ae,frz,frz2,aP,h0,h5,hr];rw [hR,List.drop_eq_nil_of_le (by omega)]; rfl
 | succ k ih=>
  intro i f s hk hw h0 h1 h5;refine ar (by unfold yE; rfl) (by unfold Cw; rfl) ?_; intro hr R hR;simp -implicitDefEqProofs (disch:=first | assumption | (apply Ar.mk; omega)) only [ZN,↓dt,qA,↓reduceIte,reduceCtorEq,aa,ae,frz,frz2,aP,h0,h1,h5];subst hR;apply DI_c<;>intro
  ·apply eU; rw [GG (by omega)]; rename_i h; rw [cf (by omega)] at h; simp [h]
  ·rw [GG (by omega)];refine Eq.trans (ih (i + 1) _ _ ?_ ?_ ?_ ?_ ?_) ?_
   all_goals first | omega | assumption | rfl | skip
   rename_i h; rw [cf (by omega)] at h; simp [h]
theorem HQ {l:List UInt8} (hl:l.length < 4611686018427387904) (c:Nat) (s:PS):ah Tryz.prog Γ ext 36 [sv l,cv c] s=some (.ok (bv (l.any (fun x=>x.toNat == c)=true)) s):=by
 refine am (fn:=Vy) [4] rfl rfl rfl rfl (by unfold Vy; rfl) ?_; intro R hR;simp -implicitDefEqProofs (disch:=first | assumption | (apply Ar.mk; omega)) only [ZN,ai,qB];subst hR;exact AU hl c s l.length 0 _ _ (by omega) (Nat.le_refl _) rfl rfl rfl
theorem mp (c:Nat) (s:PS):ah Tryz.prog Γ ext 220 [cv c] s=some (.ok (bv (b7 c=true)) s):=by
 refine am (fn:=Q9) [2] rfl rfl rfl rfl (by unfold Q9; rfl) ?_; intro R hR;have h:=fun s=>HQ (ext:=ext) (l:=[64,42,35,63,45,36,33]) (by simp) c s;simp -implicitDefEqProofs (disch:=first | assumption | (apply Ar.mk; omega)) only [ZN,ai,qA,↓reduceIte,reduceCtorEq,aa,ae,frz,frz2,aP,gV,h];subst hR;apply cZ;simp [b7]
 grind
theorem zu {l:List UInt8} (hb:l.length < 4611686018427387904) {i:Nat} (hi:i≤l.length) (s:PS):ah Tryz.prog Γ ext 175 [sv l,iv i] s=some (.ok (bv (bx l i=true)) s):=by
 refine am (fn:=Nx) [4] rfl rfl rfl rfl (by unfold Nx; rfl) ?_; intro R hR;simp -implicitDefEqProofs (disch:=first | assumption | (apply Ar.mk; omega)) only [ZN,ai,qA,↓reduceIte,qB,reduceCtorEq,aa,ae,frz,frz2,aP];subst hR;apply cZ;simp [bx,and_assoc]
theorem qL {l:List UInt8} (hb:l.length < 4611686018427387904) {i:Nat} (hi:i≤l.length) (s:PS):ah Tryz.prog Γ ext 205 [sv l,iv i] s=some (.ok (bv (ch l i=true)) s):=by
 refine am (fn:=OL) [4] rfl rfl rfl rfl (by unfold OL; rfl) ?_; intro R hR;simp -implicitDefEqProofs (disch:=first | assumption | (apply Ar.mk; omega)) only [ZN,ai,qA,↓reduceIte,qB,reduceCtorEq,aa,ae,frz,frz2,aP,nG,mp];subst hR
 (repeat' (apply DI_c<;>intro))<;>first | rfl | (apply eU; simp [ch, *]<;>omega) | (apply dT; simp [ch, *]<;>omega) | (apply cZ; simp [ch, *]<;>omega)
theorem xm {l:List UInt8} (hb:l.length < 4611686018427387904) (s0:PS):∀(k i:Nat) (f:aE) (s:PS),i + k=l.length→s0.n≤s.w→f 0=sv l→f 1=iv i→rl Tryz.prog Γ ext (ZT [4] s0) 0 xU BY f s []=some (.ok (iv (bm l i)) s0):=by
 intro k
 induction k with
 | zero=>
  intro i f s hk hw h0 h1;refine ar (by unfold xU; rfl) (by unfold BY; rfl) ?_; intro hr R hR;simp -implicitDefEqProofs (disch:=first | assumption | (apply Ar.mk; omega)) only [ZN,ai,qA,↓reduceIte,reduceCtorEq,aa,ae,frz,frz2,aP,bI,↓ed,h0,h1,hr];rw [hR,bm,nZ (by omega)]
 | succ k ih=>
  intro i f s hk hw h0 h1;refine ar (by unfold xU; rfl) (by unfold BY; rfl) ?_; intro hr R hR;simp -implicitDefEqProofs (disch:=first | assumption | (apply Ar.mk; omega)) only [ZN,qA,↓reduceIte,reduceCtorEq,aa,ae,frz,frz2,aP,bk,↓bR,h0,h1,hr,nG];subst hR;apply DI_c<;>intro
  ·refine Eq.trans (ih (i + 1) _ _ ?_ ?_ ?_ ?_) ?_
   all_goals first | omega | assumption | rfl | skip
   rw [show bm l i=bm l (i + 1) from jE (by omega) (by simp_all)]
  ·rw [show bm l i=i from mz (by omega) (by simp_all)]
theorem vz {l:List UInt8} (hb:l.length < 4611686018427387904) {i:Nat} (hi:i≤l.length) (s:PS):ah Tryz.prog Γ ext 76 [sv l,iv i] s=some (.ok (iv (bm l i)) s):=by
 refine am (fn:=VN) [4] rfl rfl rfl rfl (by unfold VN; rfl) ?_; intro R hR;simp -implicitDefEqProofs (disch:=first | assumption | (apply Ar.mk; omega)) only [ZN,ai,qB];subst hR;exact xm hb s (l.length - i) i _ _ (by omega) (Nat.le_refl _) rfl rfl
theorem tu {l:List UInt8} (hb:l.length < 4611686018427387904) (s0:PS):∀(k i:Nat) (f:aE) (s:PS),i + k=l.length→s0.n≤s.w→f 0=sv l→f 1=iv i→rl Tryz.prog Γ ext (ZT [4] s0) 0 tG vD f s []=some (.ok (iv (aQ l 10 i)) s0):=by
 intro k
 induction k with
 | zero=>
  intro i f s hk hw h0 h1;refine ar (by unfold tG; rfl) (by unfold vD; rfl) ?_; intro hr R hR;simp -implicitDefEqProofs (disch:=first | assumption | (apply Ar.mk; omega)) only [ZN,ai,qA,↓reduceIte,reduceCtorEq,aa,ae,frz,frz2,aP,bI,↓ed,h0,h1,hr];rw [hR,aQ,nZ (by omega)]
 | succ k ih=>
  intro i f s hk hw h0 h1;refine ar (by unfold tG; rfl) (by unfold vD; rfl) ?_; intro hr R hR;simp -implicitDefEqProofs (disch:=first | assumption | (apply Ar.mk; omega)) only [ZN,qA,↓reduceIte,reduceCtorEq,aa,ae,frz,frz2,aP,bk,↓bR,h0,h1,hr];subst hR;apply DI_c<;>intro
  ·refine Eq.trans (ih (i + 1) _ _ ?_ ?_ ?_ ?_) ?_
   all_goals first | omega | assumption | rfl | skip
   rw [show aQ l 10 i=aQ l 10 (i + 1) from jE (by omega) (by simp_all)]
  ·rw [show aQ l 10 i=i from mz (by omega) (by simp_all)]
theorem uN {l:List UInt8} (hb:l.length < 4611686018427387904) {i:Nat} (hi:i≤l.length) (s:PS):ah Tryz.prog Γ ext 174 [sv l,iv i] s=some (.ok (iv (aQ l 10 i)) s):=by
 refine am (fn:=N7) [4] rfl rfl rfl rfl (by unfold N7; rfl) ?_; intro R hR;simp -implicitDefEqProofs (disch:=first | assumption | (apply Ar.mk; omega)) only [ZN,ai,qB];subst hR;exact tu hb s (l.length - i) i _ _ (by omega) (Nat.le_refl _) rfl rfl
def RC (ext:aw) (l:List UInt8):aV→Nat × Nat→Prop
 | .pass a p,r=>∀s,ah Tryz.prog Γ ext 179 [sv l,iv a,iv p] s=some (.ok (.tup [iv r.1,iv r.2]) s)
 | .exp a p,r=>∀s,ah Tryz.prog Γ ext 206 [sv l,iv a,iv p] s=some (.ok (.tup [iv r.1,iv r.2]) s)
 | .bq i a,r=>∀s0 s f,s0.n≤s.w→f 0=sv l→f 1=iv a→f 6=iv i→rl Tryz.prog Γ ext (ZT [4,5] s0) 0 wU Bz f s []=some (.ok (.tup [iv r.1,iv r.2]) s0)
 | .dbl i a,r=>∀s0 s f,s0.n≤s.w→f 0=sv l→f 1=iv a→f 6=iv i→rl Tryz.prog Γ ext (ZT [4,5] s0) 0 wB BL f s []=some (.ok (.tup [iv r.1,iv r.2]) s0)
 | .brc i a p,r=>∀s0 s f,s0.n≤s.w→f 0=sv l→f 1=iv a→f 2=iv p→f 8=iv i→rl Tryz.prog Γ ext (ZT [6,7] s0) 0 vu BU f s []=some (.ok (.tup [iv r.1,iv r.2]) s0)
 | .cmd i a o g,r=>1≤o→o≤i→∀s0 s f,s0.n≤s.w→f 0=sv l→f 1=iv a→f 6=iv i→f 7=iv o→f 8=bv (g=true)→rl Tryz.prog Γ ext (ZT [4,5] s0) 0 wE AD f s []=some (.ok (.tup [iv r.1,iv r.2]) s0)
 | .ari i a o,r=>o≤i→∀s0 s f,s0.n≤s.w→f 0=sv l→f 1=iv a→f 6=iv i→f 7=iv o→rl Tryz.prog Γ ext (ZT [4,5] s0) 0 wZ zQ f s []=some (.ok (.tup [iv r.1,iv r.2]) s0)
def IH (ext:aw) (l:List UInt8) (n:Nat):Prop:=∀t:aV,t.ok l→t.size l < n→RC ext l t (rd l n t)
section
variable {l:List UInt8}{n:Nat} (hb:l.length < 4611686018427387904) (ih:IH ext l n)
include hb ih
theorem Wa {i a:Nat} (ok:(aV.bq i a).ok l) (hn:(aV.bq i a).size l < n + 1):RC ext l (.bq i a) (rd l (n + 1) (.bq i a)):=by
 intro s0 s f hw h0 h1 h6;simp only [aV.ok,aV.size] at ok hn;refine ar (by unfold wU; rfl) (by unfold Bz; rfl) ?_; intro hr R hR;simp -implicitDefEqProofs (disch:=first | assumption | (apply Ar.mk; omega)) only [ZN,qA,↓reduceIte,reduceCtorEq,aa,ae,frz,frz2,aP,aX,h0,h1,h6,hr];subst hR;rw [rd]
 (repeat' (apply DI_c<;>intro))<;>(repeat' split)<;>first | rfl | omega | (refine ih (.bq _ a) ?_ ?_ _ _ _ hw h0 h1 rfl<;>(try simp only [aV.ok,aV.size])<;>omega) | skip
theorem Ui {i a:Nat} (ok:(aV.dbl i a).ok l) (hn:(aV.dbl i a).size l < n + 1):RC ext l (.dbl i a) (rd l (n + 1) (.dbl i a)):=by
 intro s0 s f hw h0 h1 h6;simp only [aV.ok,aV.size] at ok hn;have hp:=fun h:Ar (i < l.length)=>ih (.pass i 1) h.h (by simp only [aV.size]; omega);simp only [RC] at hp;refine ar (by unfold wB; rfl) (by unfold BL; rfl) ?_; intro hr R hR;simp -implicitDefEqProofs (disch:=first | assumption | (apply Ar.mk; omega)) only [ZN,qA,↓reduceIte,reduceCtorEq,aa,ae,frz,frz2,aP,aX,h0,h1,h6,hr,hp];have hq:=fun h:i < l.length=>hJ l n (.pass i 1) h;simp only [aV.at] at hq;subst hR;rw [rd]
 (repeat' (apply DI_c<;>intro))<;>(repeat' split)<;>first | rfl | omega | (have hq:=hq (by assumption); refine ih (.dbl _ a) ?_ ?_ _ _ _ hw h0 h1 rfl<;>(try simp only [aV.ok,aV.size])<;>omega) | skip
theorem Rh {i a p:Nat} (ok:(aV.brc i a p).ok l) (hn:(aV.brc i a p).size l < n + 1):RC ext l (.brc i a p) (rd l (n + 1) (.brc i a p)):=by
 intro s0 s f hw h0 h1 h2 h8;simp only [aV.ok,aV.size] at ok hn;have hp:=fun h:Ar (i < l.length)=>ih (.pass i p) h.h (by simp only [aV.size]; omega);simp only [RC] at hp;refine ar (by unfold vu; rfl) (by unfold BU; rfl) ?_; intro hr R hR;simp -implicitDefEqProofs (disch:=first | assumption | (apply Ar.mk; omega)) only [ZN,qA,↓reduceIte,reduceCtorEq,aa,ae,frz,frz2,aP,aX,h0,h1,h2,h8,hr,hp];have hq:=fun h:i < l.length=>hJ l n (.pass i p) h;simp only [aV.at] at hq;subst hR;rw [rd]
 (repeat' (apply DI_c<;>intro))<;>(repeat' split)<;>first | rfl | omega | (have hq:=hq (by assumption); refine ih (.brc _ a p) ?_ ?_ _ _ _ hw h0 h1 h2 rfl<;>(try simp only [aV.ok,aV.size])<;>omega) | skip
theorem U7 {i a o:Nat}{g:Bool} (ok:(aV.cmd i a o g).ok l) (hn:(aV.cmd i a o g).size l < n + 1):RC ext l (.cmd i a o g) (rd l (n + 1) (.cmd i a o g)):=by
 intro ho hoi s0 s f hw h0 h1 h6 h7 h8;simp only [aV.ok,aV.size] at ok hn;have hp:=fun h:Ar (i < l.length)=>ih (.pass i 0) h.h (by simp only [aV.size]; omega);simp only [RC] at hp;have h9:=fun s=>uN (ext:=ext) (l:=l) hb ok.1 s;have h10:=fun s=>zu (ext:=ext) (l:=l) hb ok.1 s;have h11:decide ((bA (bt l i)=true∨bt l i=10)∨cn (bt l i)=true)=decide (bu (bt l i)=true):=by simp [bu]
 refine ar (by unfold wE; rfl) (by unfold AD; rfl) ?_; intro hr R hR;simp -implicitDefEqProofs (disch:=first | assumption | (apply Ar.mk; omega)) only [ZN,qA,↓reduceIte,reduceCtorEq,aa,ae,frz,frz2,aP,aX,h0,h1,h6,h7,h8,hr,hp,h9,h10,h11,iw,ka];subst hR;have hq:=fun h:i < l.length=>hJ l n (.pass i 0) h;have h12:=fc (c:=10) ok.1;have h13:=fun h:i < l.length=>qf (c:=10) h;have h14:=@dx l i;simp only [aV.at] at hq;rw [rd]
 (repeat' (apply DI_c<;>intro))<;>(repeat' split)<;>first | rfl | omega | skip
 ·refine ih (.cmd _ a o g) ?_ ?_ ho ?_ _ _ _ hw h0 h1 rfl h7 h8<;>(try simp only [aV.ok,aV.size])<;>have:=h13 (by assumption) (by omega)<;>omega
 ·have h14:=h14 (by assumption); refine ih (.cmd _ a o g) ?_ ?_ ho ?_ _ _ _ hw h0 h1 rfl h7 h8<;>(try simp only [aV.ok,aV.size])<;>omega
 all_goals have hq:=hq (by assumption); refine ih (.cmd _ a _ _) ?_ ?_ ?_ ?_ _ _ _ hw h0 h1 rfl ?_ rfl<;>first | first | rfl | (rw [show bD (bt l i) o=o + 1 by simp [bD, *]]; rfl) | (rw [show bD (bt l i) o=o - 1 by simp [bD, *]]; rfl) | (rw [show bD (bt l i) o=o by simp [bD, *]]; exact h7) | (simp only [aV.ok,aV.size,bD]<;>(repeat' split)<;>omega)
theorem Uf {i a o:Nat} (ok:(aV.ari i a o).ok l) (hn:(aV.ari i a o).size l < n + 1):RC ext l (.ari i a o) (rd l (n + 1) (.ari i a o)):=by
 intro hoi s0 s f hw h0 h1 h6 h7;simp only [aV.ok,aV.size] at ok hn;have hp:=fun h:Ar (i < l.length)=>ih (.pass i 2) h.h (by simp only [aV.size]; omega);simp only [RC] at hp;refine ar (by unfold wZ; rfl) (by unfold zQ; rfl) ?_; intro hr R hR;simp -implicitDefEqProofs (disch:=first | assumption | (apply Ar.mk; omega)) only [ZN,qA,↓reduceIte,reduceCtorEq,aa,ae,frz,frz2,aP,aX,h0,h1,h6,h7,hr,hp];subst hR;have hq:=fun h:i < l.length=>hJ l n (.pass i 2) h;simp only [aV.at] at hq;rw [rd]
 (repeat' (apply DI_c<;>intro))<;>(repeat' split)<;>first | rfl | omega | skip
 all_goals have hq:=hq (by assumption); refine ih (.ari _ a _) ?_ ?_ ?_ _ _ _ hw h0 h1 rfl ?_<;>first | first | rfl | (rw [show bD (bt l i) o=o + 1 by simp [bD, *]]; rfl) | (rw [show bD (bt l i) o=o - 1 by simp [bD, *]]; rfl) | (rw [show bD (bt l i) o=o by simp [bD, *]]; exact h7) | (simp only [aV.ok,aV.size,bD]<;>(repeat' split)<;>omega)
theorem Qw {a p:Nat} (ok:(aV.brc (a + 2) a p).ok l) (hn:(aV.brc (a + 2) a p).size l < n) (s:PS):ah Tryz.prog Γ ext 221 [sv l,iv a,iv p] s=some (.ok (.tup [iv (rd l n (.brc (a + 2) a p)).1,iv (rd l n (.brc (a + 2) a p)).2]) s):=by
 have:=ok.2;refine am (fn:=Q3) [6,7] rfl rfl rfl rfl (by unfold Q3; rfl) ?_; intro R hR;simp -implicitDefEqProofs (disch:=first | assumption | (apply Ar.mk; omega)) only [ZN,ai,qA,↓reduceIte,qB,aa];subst hR;exact ih _ ok hn _ _ _ (Nat.le_refl _) rfl rfl rfl rfl
theorem Qy {a:Nat} (ok:(aV.ari (a + 3) a 0).ok l) (hn:(aV.ari (a + 3) a 0).size l < n) (s:PS):ah Tryz.prog Γ ext 222 [sv l,iv a] s=some (.ok (.tup [iv (rd l n (.ari (a + 3) a 0)).1,iv (rd l n (.ari (a + 3) a 0)).2]) s):=by
 have:=ok.2;refine am (fn:=Oa) [4,5] rfl rfl rfl rfl (by unfold Oa; rfl) ?_; intro R hR;simp -implicitDefEqProofs (disch:=first | assumption | (apply Ar.mk; omega)) only [ZN,ai,qA,↓reduceIte,qB,aa];subst hR;exact ih _ ok hn (by omega) _ _ _ (Nat.le_refl _) rfl rfl rfl rfl
theorem QV {a:Nat} (ok:(aV.cmd (a + 2) a 1 true).ok l) (hn:(aV.cmd (a + 2) a 1 true).size l < n) (s:PS):ah Tryz.prog Γ ext 223 [sv l,iv a] s=some (.ok (.tup [iv (rd l n (.cmd (a + 2) a 1 true)).1,iv (rd l n (.cmd (a + 2) a 1 true)).2]) s):=by
 have:=ok.2;refine am (fn:=Mx) [4,5] rfl rfl rfl rfl (by unfold Mx; rfl) ?_; intro R hR;simp -implicitDefEqProofs (disch:=first | assumption | (apply Ar.mk; omega)) only [ZN,ai,qA,↓reduceIte,qB,aa];subst hR;exact ih _ ok hn (by omega) (by omega) _ _ _ (Nat.le_refl _) rfl rfl rfl rfl rfl
theorem VK {a:Nat} (ok:(aV.bq (a + 1) a).ok l) (hn:(aV.bq (a + 1) a).size l < n) (s:PS):ah Tryz.prog Γ ext 204 [sv l,iv a] s=some (.ok (.tup [iv (rd l n (.bq (a + 1) a)).1,iv (rd l n (.bq (a + 1) a)).2]) s):=by
 have:=ok.2;refine am (fn:=Nm) [4,5] rfl rfl rfl rfl (by unfold Nm; rfl) ?_; intro R hR;simp -implicitDefEqProofs (disch:=first | assumption | (apply Ar.mk; omega)) only [ZN,ai,qA,↓reduceIte,qB,aa];subst hR;exact ih _ ok hn _ _ _ (Nat.le_refl _) rfl rfl rfl
theorem QZ {a:Nat} (ok:(aV.dbl (a + 1) a).ok l) (hn:(aV.dbl (a + 1) a).size l < n) (s:PS):ah Tryz.prog Γ ext 208 [sv l,iv a] s=some (.ok (.tup [iv (rd l n (.dbl (a + 1) a)).1,iv (rd l n (.dbl (a + 1) a)).2]) s):=by
 have:=ok.2;refine am (fn:=Oo) [4,5] rfl rfl rfl rfl (by unfold Oo; rfl) ?_; intro R hR;simp -implicitDefEqProofs (disch:=first | assumption | (apply Ar.mk; omega)) only [ZN,ai,qA,↓reduceIte,qB,aa];subst hR;exact ih _ ok hn _ _ _ (Nat.le_refl _) rfl rfl rfl
omit ih in
theorem FX {a:Nat} (ha:a < l.length) (s:PS):ah Tryz.prog Γ ext 207 [sv l,iv a] s=some (.ok (.tup [iv (if aQ l 39 (a + 1) < l.length then aQ l 39 (a + 1) + 1 else a),iv (if aQ l 39 (a + 1) < l.length then 0 else 7)]) s):=by
 have key:∀(k i:Nat) (f:aE) (s0 s:PS),i + k=l.length→s0.n≤s.w→f 0=sv l→f 1=iv a→f 6=iv i→rl Tryz.prog Γ ext (ZT [4,5] s0) 0 rY vZ f s []=some (.ok (.tup [iv (if aQ l 39 i < l.length then aQ l 39 i + 1 else a),iv (if aQ l 39 i < l.length then 0 else 7)]) s0):=by
  intro k
  induction k with
  | zero=>
   intro i f s0 s hk hw h0 h1 h6;refine ar (by unfold rY; rfl) (by unfold vZ; rfl) ?_; intro hr R hR;simp -implicitDefEqProofs (disch:=first | assumption | (apply Ar.mk; omega)) only [ZN,↓df,qA,↓reduceIte,reduceCtorEq,aa,ae,frz,frz2,aP,aX,h0,h1,h6,hr];subst hR;rw [show aQ l 39 i=i from nZ (by omega),if_neg (by omega),if_neg (by omega)]
  | succ k ih=>
   intro i f s0 s hk hw h0 h1 h6;refine ar (by unfold rY; rfl) (by unfold vZ; rfl) ?_; intro hr R hR;simp -implicitDefEqProofs (disch:=first | assumption | (apply Ar.mk; omega)) only [ZN,↓dt,qA,↓reduceIte,reduceCtorEq,aa,ae,frz,frz2,aP,aX,h0,h6];subst hR;apply DI_c<;>intro
   ·rw [show aQ l 39 i=i from mz (by omega) (by simp_all),if_pos (by omega),if_pos (by omega)]
   ·rw [show aQ l 39 i=aQ l 39 (i + 1) from jE (by omega) (by simp_all)];exact ih (i + 1) _ _ _ (by omega) hw h0 h1 rfl
 refine am (fn:=Nh) [4,5] rfl rfl rfl rfl (by unfold Nh; rfl) ?_; intro R hR;simp -implicitDefEqProofs (disch:=first | assumption | (apply Ar.mk; omega)) only [ZN,ai,qA,↓reduceIte,qB,aa];subst hR;exact key (l.length - (a + 1)) (a + 1) _ _ _ (by omega) (Nat.le_refl _) rfl rfl rfl
theorem TI {a p:Nat} (ok:(aV.exp a p).ok l) (hn:(aV.exp a p).size l < n + 1):RC ext l (.exp a p) (rd l (n + 1) (.exp a p)):=by
 intro s;have hl:=dD ok;simp only [aV.size] at hn;have e1:=Qw (p:=p) hb ih (a:=a) ⟨hl,by omega⟩ (by simp only [aV.size]; omega);have e2:=fun h:Ar (a + 2 < l.length)=>Qy hb ih (a:=a) ⟨h.h,by omega⟩ (by simp only [aV.size]; omega);have e3:=QV hb ih (a:=a) ⟨hl,by omega⟩ (by simp only [aV.size]; omega);have e4:=fun s=>vz (ext:=ext) (l:=l) hb (i:=a + 1) (by omega) s;refine am (fn:=Ov) [6,7] rfl rfl rfl rfl (by unfold Ov; rfl) ?_; intro R hR;simp -implicitDefEqProofs (disch:=first | assumption | (apply Ar.mk; omega)) only [ZN,ai,qA,↓reduceIte,qB,reduceCtorEq,aa,ae,frz,frz2,aP,aX,e1,e2,e3,e4,mp];subst hR;rw [rd]
 (repeat' (apply DI_c<;>intro))<;>(repeat' split)<;>first | rfl | omega | skip
theorem PQ {a p:Nat} (ok:(aV.pass a p).ok l) (hn:(aV.pass a p).size l < n + 1):RC ext l (.pass a p) (rd l (n + 1) (.pass a p)):=by
 intro s;simp only [aV.ok,aV.size] at ok hn;have e1:=VK hb ih (a:=a) ⟨ok,ok⟩ (by simp only [aV.size]; omega);have e2:=QZ hb ih (a:=a) ⟨ok,ok⟩ (by simp only [aV.size]; omega);have e3:=FX (ext:=ext) hb (a:=a) ok;have e4:=fun s=>qL (ext:=ext) (l:=l) hb (i:=a) (by omega) s;have e5:=fun h:ch l a=true=>ih (.exp a p) h (by have:=dD h; simp only [aV.size]; omega);simp only [RC] at e5;refine am (fn:=P6) [6,7] rfl rfl rfl rfl (by unfold P6; rfl) ?_; intro R hR;simp -implicitDefEqProofs (disch:=first | assumption | (apply Ar.mk; omega)) only [ZN,ai,qA,↓reduceIte,qB,reduceCtorEq,aa,ae,frz,frz2,aP,aX,e1,e2,e3,e4,e5];subst hR;rw [rd]
 (repeat' (apply DI_c<;>intro))<;>(repeat' split)<;>first | rfl | omega | skip
end
theorem oO {l:List UInt8} (hb:l.length < 4611686018427387904):∀n,IH ext l n:=by
 intro n
 induction n with
 | zero=>intro t _ h; omega
 | succ n ih=>
  intro t ok hn;cases t with
  | pass a p=>exact PQ hb ih ok hn
  | exp a p=>exact TI hb ih ok hn
  | bq i a=>exact Wa hb ih ok hn
  | dbl i a=>exact Ui hb ih ok hn
  | brc i a p=>exact Rh hb ih ok hn
  | cmd i a o g=>exact U7 hb ih ok hn
  | ari i a o=>exact Uf hb ih ok hn
end Go.Proofs.YtioblbopbilmaaaGreatDoor
namespace Go.PE
open Go Go.EvL
section
variable {P:Program}{Γ:Nat→Option fe}{ext:aw}{K:KX}
end
end Go.PE
namespace Go.Proofs.YtioblbopbilmaaaGreatDoor
open Go Go.EvL Go.PE Go.Mir
variable {ext:aw}
def idxI (l:List UInt8) (c:Nat):Int:=if (l.takeWhile fun x=>x.toNat != c).length < l.length then ((l.takeWhile fun x=>x.toNat != c).length:Int) else -1
theorem Pp (l:List UInt8) (c:UInt8):Lib.indexByte l c=idxI l c.toNat:=by
 induction l with
 | nil=>rfl
 | cons b l ih=>
  unfold Lib.indexByte idxI;rw [List.takeWhile_cons];by_cases hb:(b == c)=true
  ·have e:(b.toNat != c.toNat)=false:=by simp at hb; simp [hb]
   rw [if_pos hb,e];simp
  ·have e:(b.toNat != c.toNat)=true:=by
    simp at hb ⊢;intro h;exact hb (UInt8.toNat_inj.1 h)
   rw [if_neg hb,e,ih];unfold idxI;simp only [if_true,List.length_cons];generalize (l.takeWhile fun x=>x.toNat != c.toNat).length=t;by_cases hl:t < l.length
   ·have h1:(((t:Nat):Int) == -1)=false:=by rw [Bool.eq_false_iff]; simp only [ne_eq,beq_iff_eq]; omega
    have h2:t + 1 < l.length + 1:=by omega
    simp only [if_pos hl,h1,if_pos h2];rw [if_neg (by simp)];omega
   ·have h2:¬ t + 1 < l.length + 1:=by omega
    simp only [if_neg hl,if_neg h2];rfl
theorem zZ (b:ByteArray) (c:Int):cF Tryz.prog (Extern.BytealgIndexByte.indexByte #[.string b,.int .u8 c])=some (.int .i64 (idxI b.data.toList c.toNat.toUInt8.toNat)):=by
 have hex:∃x,cF Tryz.prog (Extern.BytealgIndexByte.indexByte #[.string b,.int .u8 c])=some x:=by
  show ∃x,cF Tryz.prog (match (List.range b.size).find? fun i=>b[i]! == c.toNat.toUInt8 with
   | some i=>pure (goInt i)
   | none=>pure (goInt (-1)):Sem Value)=some x
  cases (List.range b.size).find? fun i=>b[i]! == c.toNat.toUInt8 with
  | none=>exact⟨_,rfl⟩
  | some i=>exact⟨_,rfl⟩
 obtain⟨x,hx⟩:=hex;have h1:=gJ Tryz.prog _ hx default;rw [Lib.run_indexByteString,Pp] at h1;injection h1 with h1;rw [hx,h1]
theorem Cp:Extern.findNext Tryz.f139=none∧Extern.find Tryz.f139=some Extern.BytealgIndexByte.indexByte:=⟨by kernel_rfl,by kernel_rfl⟩
theorem K7 (args:Array Value):cF Tryz.prog (callFunc 139 args)=(cF Tryz.prog (Extern.BytealgIndexByte.indexByte args)).map Next.value:=by
 unfold callFunc;rw [kS,show cF Tryz.prog program=some Tryz.prog from rfl];simp only [Option.bind_some];rw [Tryz.func139];simp only;rw [if_neg (by rw [show (Tryz.f139.name == "runtime.NumGoroutine")=false from by kernel_rfl]; simp)];rw [if_pos (by kernel_rfl)];have hmk:∀m,cF Tryz.prog (mark m)=some ():=fun _=>rfl;rw [kS,hmk];simp only [Option.bind_some];rw [Cp.1,Cp.2];show cF Tryz.prog (Extern.BytealgIndexByte.indexByte args >>= fun v=>pure (Next.value v))=_;rw [kS];cases cF Tryz.prog (Extern.BytealgIndexByte.indexByte args)<;>rfl
theorem D8 (b:ByteArray) {c:Nat} (hc:c < 256):G1 Tryz.prog 139 [.sc (.string b),.sc (.int .u8 (c:Int))]=some (.sc (.int .i64 (idxI b.data.toList c))):=by
 unfold G1;simp only [Ly,dP,if_true,Option.map_some];rw [K7];show (match (cF Tryz.prog (Extern.BytealgIndexByte.indexByte #[.string b,.int .u8 (c:Int)])).map Next.value with | some (.value u)=>if dP u then some (PV.sc u) else none | _=>none)=_;rw [zZ];have:((c:Int).toNat.toUInt8).toNat=c:=by
  show (UInt8.ofNat c).toNat=c;rw [UInt8.toNat_ofNat'];omega
 rw [this];rfl
theorem vR (x y:UInt8):(x == y)=(y.toNat == x.toNat):=by
 rw [Bool.eq_iff_iff,beq_iff_eq,beq_iff_eq];exact⟨fun h=>by rw [h],fun h=>(UInt8.toNat_inj.1 h).symm⟩
theorem KP (l:List UInt8) (i:Nat) (x:UInt8):[x].isPrefixOf (l.drop i)=(decide (i < l.length) && bt l i == x.toNat):=by
 by_cases hi:i < l.length
 ·rw [dp hi,cf hi,decide_eq_true hi];simp [List.isPrefixOf,vR]
 ·rw [List.drop_of_length_le (by omega),decide_eq_false hi];simp [List.isPrefixOf]
theorem yr (l:List UInt8) (i:Nat) (x y:UInt8):[x,y].isPrefixOf (l.drop i)=(decide (i + 1 < l.length) && bt l i == x.toNat && bt l (i + 1) == y.toNat):=by
 by_cases hi:i < l.length
 ·have h:=KP l (i + 1) y;rw [dp hi];show ((x == l[i]) && [y].isPrefixOf (l.drop (i + 1)))=_;rw [h,vR,← cf hi];cases (bt l i == x.toNat)<;>cases decide (i + 1 < l.length)<;>rfl
 ·rw [List.drop_of_length_le (by omega),decide_eq_false (by omega)];simp [List.isPrefixOf]
theorem TZ (l:List UInt8) (i:Nat) (x y z:UInt8):[x,y,z].isPrefixOf (l.drop i)=(decide (i + 2 < l.length) && bt l i == x.toNat && bt l (i + 1) == y.toNat && bt l (i + 2) == z.toNat):=by
 by_cases hi:i < l.length
 ·have h:=yr l (i + 1) y z;rw [dp hi];show ((x == l[i]) && [y,z].isPrefixOf (l.drop (i + 1)))=_;rw [h,vR,← cf hi,show i + 1 + 1=i + 2 from rfl];cases (bt l i == x.toNat)<;>cases decide (i + 2 < l.length)<;>rfl
 ·rw [List.drop_of_length_le (by omega),decide_eq_false (by omega)];simp [List.isPrefixOf]
theorem Ih {l:List UInt8}{i c:Nat} (hi:i≤l.length):idxI (l.drop i) c=if aQ l c i < l.length then ((aQ l c i - i:Nat):Int) else -1:=by
 unfold idxI aQ run;rw [List.length_drop];show (if ((l.drop i).takeWhile fun x=>x.toNat != c).length < l.length - i then (((l.drop i).takeWhile fun x=>x.toNat != c).length:Int) else -1)=if i + ((l.drop i).takeWhile fun x=>x.toNat != c).length < l.length then ((i + ((l.drop i).takeWhile fun x=>x.toNat != c).length - i:Nat):Int) else -1;by_cases h:((l.drop i).takeWhile fun x=>x.toNat != c).length < l.length - i
 ·rw [if_pos h,if_pos (by omega)];congr 1;omega
 ·rw [if_neg h,if_neg (by omega)]
theorem BI {l:List UInt8}{i c:Nat} (hi:i≤l.length):idxI (l.drop i) c=ix (aQ l c i < l.length) (aQ l c i - i):=Ih hi
theorem sk (l:List UInt8) {c:Nat} (hc:c < 256) (s:PS):ah Tryz.prog Γ ext 105 [sv l,cv c] s=some (.ok (.sc (.int .i64 (idxI l c))) s):=by
 have h:=D8 ⟨⟨l⟩⟩ hc;refine am (fn:=Py) [4] rfl rfl rfl rfl (by unfold Py; rfl) ?_; intro R hR;simp -implicitDefEqProofs (disch:=first | assumption | (apply Ar.mk; omega)) only [ZN,ai,qA,↓reduceIte,qB,reduceCtorEq,aa,ae,frz,frz2,aP,h];subst hR; rfl
theorem xA (l:List UInt8) {c:Nat} (hc:c < 256) (s:PS):ah Tryz.prog Γ ext 97 [sv l,cv c] s=some (.ok (.sc (.int .i64 (idxI l c))) s):=by
 have h:=fun s=>sk (ext:=ext) l hc s;refine am (fn:=Wj) [4] rfl rfl rfl rfl (by unfold Wj; rfl) ?_; intro R hR;simp -implicitDefEqProofs (disch:=first | assumption | (apply Ar.mk; omega)) only [ZN,ai,qA,↓reduceIte,qB,reduceCtorEq,aa,ae,frz,frz2,aP,h];subst hR; rfl
theorem zl {a b:List UInt8} (ha:a.length < 4611686018427387904) (s:PS):ah Tryz.prog Γ ext 78 [sv a,sv b] s=some (.ok (bv (b.isPrefixOf a=true)) s):=by
 refine am (fn:=Vm) [4] rfl rfl rfl rfl (by unfold Vm; rfl) ?_; intro R hR;simp -implicitDefEqProofs (disch:=first | assumption | (apply Ar.mk; omega)) only [ZN,ai,qA,↓reduceIte,qB,reduceCtorEq,aa,ae,frz,frz2,aP];subst hR;apply cZ;rw [List.isPrefixOf_iff_prefix,List.prefix_iff_eq_take,eq_comm (a:=b)];refine⟨fun h=>h.2,fun h=>⟨?_,h⟩⟩;have:=congrArg List.length h;rw [List.length_take] at this;omega
theorem eY {a b:List UInt8} (ha:a.length < 4611686018427387904) (s:PS):ah Tryz.prog Γ ext 41 [sv a,sv b] s=some (.ok (bv (b.isPrefixOf a=true)) s):=by
 have h:=fun s=>zl (ext:=ext) (b:=b) ha s;refine am (fn:=UG) [4] rfl rfl rfl rfl (by unfold UG; rfl) ?_; intro R hR;simp -implicitDefEqProofs (disch:=first | assumption | (apply Ar.mk; omega)) only [ZN,ai,qA,↓reduceIte,qB,reduceCtorEq,aa,ae,frz,frz2,aP,h];subst hR; rfl
def uc (c:Nat):Bool:=cC c || c == 95
theorem sR (c:Nat) (s:PS):ah Tryz.prog Γ ext 103 [cv c] s=some (.ok (bv (uc c=true)) s):=by
 refine am (fn:=P5) [2] rfl rfl rfl rfl (by unfold P5; rfl) ?_; intro R hR;simp -implicitDefEqProofs (disch:=first | assumption | (apply Ar.mk; omega)) only [ZN,ai,qA,↓reduceIte,reduceCtorEq,aa,ae,frz,frz2,aP];subst hR
 (repeat' (apply DI_c<;>intro))<;>first | rfl | (apply eU; simp [uc,cC, *]<;>omega) | (apply dT; simp [uc,cC, *]<;>omega) | (apply cZ; simp [uc,cC, *]<;>omega)
theorem pm (c:Nat) (s:PS):ah Tryz.prog Γ ext 104 [cv c] s=some (.ok (bv (ay c=true)) s):=by
 refine am (fn:=Mt) [2] rfl rfl rfl rfl (by unfold Mt; rfl) ?_; intro R hR;simp -implicitDefEqProofs (disch:=first | assumption | (apply Ar.mk; omega)) only [ZN,ai,qA,↓reduceIte,reduceCtorEq,aa,ae,frz,frz2,aP];subst hR
 (repeat' (apply DI_c<;>intro))<;>first | rfl | (apply eU; simp [ay, *]<;>omega) | (apply dT; simp [ay, *]<;>omega) | (apply cZ; simp [ay, *]<;>omega)
theorem lY (c:Nat) (s:PS):ah Tryz.prog Γ ext 93 [cv c] s=some (.ok (bv (bA c=true)) s):=by
 refine am (fn:=VV) [2] rfl rfl rfl rfl (by unfold VV; rfl) ?_; intro R hR;simp -implicitDefEqProofs (disch:=first | assumption | (apply Ar.mk; omega)) only [ZN,ai,qA,↓reduceIte,reduceCtorEq,aa,ae,frz,frz2,aP];subst hR
 (repeat' (apply DI_c<;>intro))<;>first | rfl | (apply eU; simp [bA, *]<;>omega) | (apply dT; simp [bA, *]<;>omega) | (apply cZ; simp [bA, *]<;>omega)
theorem gM (c:Nat) (s:PS):ah Tryz.prog Γ ext 61 [cv c] s=some (.ok (bv (bu c=true)) s):=by
 refine am (fn:=VP) [2] rfl rfl rfl rfl (by unfold VP; rfl) ?_; intro R hR;simp -implicitDefEqProofs (disch:=first | assumption | (apply Ar.mk; omega)) only [ZN,↓dt,ai,qA,↓reduceIte,reduceCtorEq,aa,ae,frz,frz2,aP,lY];subst hR
 (repeat' (apply DI_c<;>intro))<;>first | rfl | (apply eU; simp [bu,cn,bA, *]<;>omega) | (apply dT; simp [bu,cn,bA, *]<;>omega) | (apply cZ; simp [bu,cn,bA, *]<;>omega)
section
variable {l:List UInt8} (hb:l.length < 4611686018427387904)
include hb
theorem wa {i:Nat} (hi:i≤l.length) (s:PS):ah Tryz.prog Γ ext 94 [sv l,iv i] s=some (.ok (bv (bx l i=true)) s):=by
 have h:=fun b s=>eY (ext:=ext) (a:=l.drop i) (b:=b) (by rw [List.length_drop]; omega) s;refine am (fn:=UA) [4] rfl rfl rfl rfl (by unfold UA; rfl) ?_; intro R hR;simp -implicitDefEqProofs (disch:=first | assumption | (apply Ar.mk; omega)) only [ZN,ai,qA,↓reduceIte,qB,reduceCtorEq,aa,ae,frz,frz2,aP,h];subst hR;apply cZ;rw [yr]; simp [bx]
theorem s9 {i:Nat} (hi:i≤l.length) (s:PS):ah Tryz.prog Γ ext 95 [sv l,iv i] s=some (.ok (iv (aQ l 10 i)) s):=by
 have h:=fun s=>xA (ext:=ext) (l.drop i) (c:=10) (by omega) s;have hle:=fc (l:=l) (c:=10) hi;have hge:=eK l 10 i;refine am (fn:=VQ) [4] rfl rfl rfl rfl (by unfold VQ; rfl) ?_; intro R hR;simp -implicitDefEqProofs (disch:=first | assumption | (apply Ar.mk; omega)) only [ZN,ai,qA,↓reduceIte,qB,reduceCtorEq,aa,ae,frz,frz2,aP,h,BI hi];subst hR;apply DI_c<;>intro
 ·rw [show aQ l 10 i=l.length by omega]
 ·rw [show i + (aQ l 10 i - i)=aQ l 10 i by omega]
end
def NT:List UInt8:=[64,42,35,63,45,36,33,123,40]
def Lr (l:List UInt8) (i:Nat):Bool:=decide (i < l.length) && (aF (bt l i) || b7 (bt l i) || bt l i == 123 || bt l i == 40)
def oZ (l:List UInt8) (a:Nat):Bool:=ch l a || bt l a == 92 || bt l a == 39 || bt l a == 34 || bt l a == 96
theorem Oq:∀c,c < 256→(aF c || b7 c || c == 123 || c == 40)=(uc c || ay c || decide (idxI NT c ≥ 0)):=by decide +kernel
theorem BM {l:List UInt8}{a:Nat} (h:bt l a=36):oZ l a=Lr l (a + 1):=by
 unfold oZ ch Lr; simp [h]
theorem xa {l:List UInt8}{a:Nat} (h:¬ bt l a=36):oZ l a=(bt l a == 92 || bt l a == 39 || bt l a == 34 || bt l a == 96):=by
 have e:(bt l a == 36)=false:=by simpa using h
 unfold oZ ch; rw [e]; simp
section
variable {l:List UInt8} (hb:l.length < 4611686018427387904)
include hb
theorem HZ {i:Nat} (hi:i≤l.length) (s:PS):ah Tryz.prog Γ ext 96 [sv l,iv i] s=some (.ok (bv (Lr l i=true)) s):=by
 have h:=fun s=>xA (ext:=ext) NT (il l i) s;unfold NT at h;refine am (fn:=Uu) [4] rfl rfl rfl rfl (by unfold Uu; rfl) ?_; intro R hR;simp -implicitDefEqProofs (disch:=first | assumption | (apply Ar.mk; omega)) only [ZN,ai,qA,↓reduceIte,qB,reduceCtorEq,aa,ae,frz,frz2,aP,h,sR,pm];subst hR;apply cZ;have e:=Oq _ (il l i);unfold Lr;rw [e];simp only [Bool.and_eq_true,Bool.or_eq_true,decide_eq_true_eq];rfl
theorem md {i:Nat} (hi:i < l.length) (s:PS):ah Tryz.prog Γ ext 62 [sv l,iv i] s=some (.ok (bv (oZ l i=true)) s):=by
 have h:=fun s=>HZ (ext:=ext) hb (i:=i + 1) (by omega) s;refine am (fn:=Wo) [4] rfl rfl rfl rfl (by unfold Wo; rfl) ?_; intro R hR;simp -implicitDefEqProofs (disch:=first | assumption | (apply Ar.mk; omega)) only [ZN,↓dt,ai,qA,↓reduceIte,qB,reduceCtorEq,aa,ae,frz,frz2,aP,h];subst hR
 (repeat' (apply DI_c<;>intro))<;>first | (apply eU; simp_all [BM,xa]; done) | (apply dT; simp_all [BM,xa]; done) | (apply cZ; simp_all [BM,xa]; done)
end
theorem wR {l:List UInt8}{n a p:Nat} (hn:n≠0) (h:oZ l a=false∨p≠0∧(bt l a=39∨bt l a=34)):rd l n (.pass a p)=(a + 1,0):=by
 obtain⟨n,rfl⟩ : ∃m,n=m + 1:=⟨n - 1,by omega⟩
 rw [rd];rcases h with h | ⟨hp,h | h⟩
 ·simp [oZ] at h; simp_all
 ·simp [ch,h,hp]
 ·simp [ch,h,hp]
theorem EC {l:List UInt8}{a:Nat} (h:oZ l a=true):bu (bt l a)=false∧bt l a≠40∧bt l a≠41:=by
 unfold oZ ch at h;simp at h;have:bt l a=36∨bt l a=92∨bt l a=39∨bt l a=34∨bt l a=96:=by
  rcases h with (((⟨h,_⟩ | h) | h) | h) | h
  ·exact .inl h.2
  ·exact .inr (.inl h)
  ·exact .inr (.inr (.inl h))
  ·exact .inr (.inr (.inr (.inl h)))
  ·exact .inr (.inr (.inr (.inr h)))
 rcases this with h | h | h | h | h<;>rw [h]<;>decide
theorem Ts:∀c,c < 256→(aF c || b7 c || c == 123 || c == 40)=true→c≠123→c≠40→(b7 c=true↔¬ uc c=true):=by decide +kernel
theorem Ac (c:Nat):aF c=(uc c || ay c):=by unfold aF uc; cases cC c<;>cases ay c<;>cases c == 95<;>rfl
def Co (p:Nat):PV:=.agg [.sc (.bool (decide (p≠0))),.sc (.bool (decide (p=1)))]
def RP (ext:aw) (l:List UInt8):aV→Nat × Nat→Prop
 | .pass a p,r=>p≤2→oZ l a=true→(p=0∨bt l a≠39∧bt l a≠34)→∀s,ah Tryz.prog Γ ext 63 [sv l,iv a,Co p] s=some (.ok (.tup [iv r.1,iv r.2]) s)
 | .exp a p,r=>p≤2→∀s,ah Tryz.prog Γ ext 63 [sv l,iv a,Co p] s=some (.ok (.tup [iv r.1,iv r.2]) s)
 | .bq i a,r=>∀s0 s f,s0.n≤s.w→f 0=sv l→f 1=iv a→f 6=iv i→rl Tryz.prog Γ ext (ZT [4,5] s0) 0 D3 ES f s []=some (.ok (.tup [iv r.1,iv r.2]) s0)
 | .dbl i a,r=>∀s0 s f,s0.n≤s.w→f 0=sv l→f 1=iv a→f 6=iv i→rl Tryz.prog Γ ext (ZT [4,5] s0) 0 CN GB f s []=some (.ok (.tup [iv r.1,iv r.2]) s0)
 | .brc i a p,r=>p≤2→∀s0 s f k,s0.n≤s.w→f 0=sv l→f 1=iv a→f 5=.ptr k 0 2→s.h k=⟨[.sc (.bool (decide (p≠0))),.sc (.bool (decide (p=1)))],0,127⟩→f 8=iv i→rl Tryz.prog Γ ext (ZT [6,7] s0) 0 vB B1 f s []=some (.ok (.tup [iv r.1,iv r.2]) s0)
 | .cmd i a o g,r=>1≤o→o≤i→∀s0 s f,s0.n≤s.w→f 0=sv l→f 1=iv a→f 8=iv i→f 6=iv (o - 1)→f 7=bv (g=true)→rl Tryz.prog Γ ext (ZT [4,5] s0) 0 vC AZ f s []=some (.ok (.tup [iv r.1,iv r.2]) s0)
 | .ari i a o,r=>o≤i→∀s0 s f,s0.n≤s.w→f 0=sv l→f 1=iv a→f 7=iv i→f 6=iv o→rl Tryz.prog Γ ext (ZT [4,5] s0) 0 vQ Aa f s []=some (.ok (.tup [iv r.1,iv r.2]) s0)
def IP (ext:aw) (l:List UInt8) (n:Nat):Prop:=∀t:aV,t.ok l→t.size l < n→RP ext l t (rd l n t)
section
variable {l:List UInt8}{n:Nat} (hb:l.length < 4611686018427387904) (ih:IP ext l n)
include hb ih
theorem yY {i p:Nat} (hp:p≤2) (hp0:p≠0) (hi:i < l.length) (hn:(aV.pass i p).size l < n) (s:PS):ah Tryz.prog Γ ext 138 [sv l,iv i,Co p] s=some (.ok (.tup [iv (rd l n (.pass i p)).1,iv (rd l n (.pass i p)).2]) s):=by
 have h1:=fun s=>md (ext:=ext) hb hi s;have h2:¬((bt l i=39∨bt l i=34)∨¬oZ l i=true)→_:=fun h=>ih (.pass i p) hi hn hp (by simp_all) (.inr (by simp_all));have h3:=wR (l:=l) (n:=n) (a:=i) (p:=p) (by simp only [aV.size] at hn; omega);unfold Co at *;refine am (fn:=OF) [6,7] rfl rfl rfl rfl (by unfold OF; rfl) ?_; intro R hR;simp -implicitDefEqProofs (disch:=first | assumption | (apply Ar.mk; omega)) only [ZN,ai,qA,↓reduceIte,qB,reduceCtorEq,aa,ae,frz,frz2,aP,aX,qT,ad,h1,h2];subst hR;apply DI_c<;>intro h
 ·rw [h3 (by rcases h with h | h; exact .inr ⟨hp0,h⟩; exact .inl (by simpa using h))]
 ·rfl
theorem Wl {i a:Nat} (ok:(aV.bq i a).ok l) (hn:(aV.bq i a).size l < n + 1):RP ext l (.bq i a) (rd l (n + 1) (.bq i a)):=by
 intro s0 s f hw h0 h1 h6;simp only [aV.ok,aV.size] at ok hn;refine ar (by unfold D3; rfl) (by unfold ES; rfl) ?_; intro hr R hR;simp -implicitDefEqProofs (disch:=first | assumption | (apply Ar.mk; omega)) only [ZN,qA,↓reduceIte,reduceCtorEq,aa,ae,frz,frz2,aP,aX,h0,h1,h6,hr];subst hR;rw [rd]
 (repeat' (apply DI_c<;>intro))<;>(repeat' split)<;>first | rfl | omega | (refine ih (.bq _ a) ?_ ?_ _ _ _ hw h0 h1 rfl<;>(try simp only [aV.ok,aV.size])<;>omega) | skip
theorem TL {i a:Nat} (ok:(aV.dbl i a).ok l) (hn:(aV.dbl i a).size l < n + 1):RP ext l (.dbl i a) (rd l (n + 1) (.dbl i a)):=by
 intro s0 s f hw h0 h1 h6;simp only [aV.ok,aV.size] at ok hn;have hp:=fun h:Ar (i < l.length)=>yY hb ih (i:=i) (p:=1) (by omega) (by omega) h.h (by simp only [aV.size]; omega);rw [show Co 1=.agg [.sc (.bool true),.sc (.bool true)] from rfl] at hp;refine ar (by unfold CN; rfl) (by unfold GB; rfl) ?_; intro hr R hR;simp -implicitDefEqProofs (disch:=first | assumption | (apply Ar.mk; omega)) only [ZN,qA,↓reduceIte,qB,qC,reduceCtorEq,aa,aD,ae,frz,frz2,aP,aX,h0,h1,h6,hr,hp];have hq:=fun h:i < l.length=>hJ l n (.pass i 1) h;simp only [aV.at] at hq;subst hR;rw [rd]
 (repeat' (apply DI_c<;>intro))<;>(repeat' split)<;>first | rfl | omega | (have hq:=hq (by assumption); refine ih (.dbl _ a) ?_ ?_ _ _ _ hw h0 h1 rfl<;>(try simp only [aV.ok,aV.size])<;>omega) | skip
theorem Re {i a p:Nat} (ok:(aV.brc i a p).ok l) (hn:(aV.brc i a p).size l < n + 1):RP ext l (.brc i a p) (rd l (n + 1) (.brc i a p)):=by
 intro hp2 s0 s f k hw h0 h1 h5 hk h8;simp only [aV.ok,aV.size] at ok hn;have hp:Ar (i < l.length)→¬((bt l i=34∨bt l i=39)∧p≠0∨¬oZ l i=true)→_:=fun h h2=>ih (.pass i p) h.h (by simp only [aV.size]; omega) hp2 (by simp_all) (by simp_all; omega);have hbg:=fun (h:Ar (i < l.length)) s=>md (ext:=ext) hb (i:=i) h.h s;unfold Co at hp;refine ar (by unfold vB; rfl) (by unfold B1; rfl) ?_; intro hr R hR;simp -implicitDefEqProofs (disch:=first | assumption | (apply Ar.mk; omega)) only [ZN,qA,↓reduceIte,qB,qC,reduceCtorEq,aa,ae,frz,frz2,aP,aX,ad,h0,h1,h5,hk,h8,hr,hbg,hp];have hq:=fun h:i < l.length=>hJ l n (.pass i p) h;have h3:(bt l i=34∨bt l i=39)∧p≠0∨¬oZ l i=true→rd l n (.pass i p)=(i + 1,0):=fun h=>wR (by omega) (by rcases h with ⟨h,h'⟩ | h; exact .inr ⟨h',h.symm⟩; exact .inl (by simpa using h));simp only [aV.at] at hq;subst hR;rw [rd]
 (repeat' (apply DI_c<;>intro))<;>(repeat' split)<;>first | rfl | omega | skip
 all_goals first
  | (have e:=h3 (by assumption); have e2:=congrArg Prod.snd e; simp only at e2; first | omega | (rw [e]; refine ih (.brc _ a p) ?_ ?_ hp2 _ _ _ k hw h0 h1 h5 hk rfl<;>(try simp only [aV.ok,aV.size])<;>omega))
  | (have hq:=hq (by assumption); refine ih (.brc _ a p) ?_ ?_ hp2 _ _ _ k hw h0 h1 h5 hk rfl<;>(try simp only [aV.ok,aV.size])<;>omega)
theorem Rn {i a o:Nat}{g:Bool} (ok:(aV.cmd i a o g).ok l) (hn:(aV.cmd i a o g).size l < n + 1):RP ext l (.cmd i a o g) (rd l (n + 1) (.cmd i a o g)):=by
 intro ho hoi s0 s f hw h0 h1 h8 h6 h7;simp only [aV.ok,aV.size] at ok hn;have hp:Ar (i < l.length)→oZ l i=true→_:=fun h h2=>ih (.pass i 0) h.h (by simp only [aV.size]; omega) (by omega) h2 (.inl rfl);simp only [show Co 0=.agg [.sc (.bool false),.sc (.bool false)] from rfl] at hp;have hbg:=fun (h:Ar (i < l.length)) s=>md (ext:=ext) hb (i:=i) h.h s;have h9:=fun s=>s9 (ext:=ext) (l:=l) hb ok.1 s;have h10:=fun s=>wa (ext:=ext) (l:=l) hb ok.1 s;refine ar (by unfold vC; rfl) (by unfold AZ; rfl) ?_; intro hr R hR;simp -implicitDefEqProofs (disch:=first | assumption | (apply Ar.mk; omega)) only [ZN,qA,↓reduceIte,reduceCtorEq,aa,aD,ae,frz,frz2,aP,aX,h0,h1,h6,h7,h8,hr,hp,hbg,h9,h10,gM];have hq:=fun h:i < l.length=>hJ l n (.pass i 0) h;have h3:¬oZ l i=true→rd l n (.pass i 0)=(i + 1,0):=fun h=>wR (by omega) (.inl (by simpa using h));have h4:oZ l i=true→bu (bt l i)=false∧bD (bt l i) o=o∧bt l i≠41:=fun h=>by
  have:=EC h;exact⟨this.1,by unfold bD; rw [if_neg this.2.1,if_neg this.2.2],this.2.2⟩
 have h12:=fc (c:=10) ok.1;have h13:=fun h:i < l.length=>qf (c:=10) h;have h14:=@dx l i;have h15:=@sT l i;simp only [aV.at] at hq;subst hR;rw [rd];clear hp hbg h9 h10 hr
 (repeat' (apply DI_c<;>intro))<;>(repeat' split)<;>first | rfl | omega | (have h15:=h15 (by assumption); omega) | (exfalso; clear ih; grind) | skip
 ·have h14:=h14 (by assumption);refine ih (.cmd _ a o g) ?_ ?_ ho ?_ _ _ _ hw h0 h1 rfl h6 h7<;>(try simp only [aV.ok,aV.size])<;>omega
 ·have h13:=h13 (by assumption) (by omega);refine ih (.cmd _ a o g) ?_ ?_ ho ?_ _ _ _ hw h0 h1 rfl h6 h7<;>(try simp only [aV.ok,aV.size])<;>omega
 ·have hq:=hq (by assumption);rw [(h4 (by assumption)).1,(h4 (by assumption)).2.1];refine ih (.cmd _ a o false) ?_ ?_ ho ?_ _ _ _ hw h0 h1 rfl h6 rfl<;>(try simp only [aV.ok,aV.size])<;>omega
 ·rw [h3 (by assumption),show bD (bt l i) o=o + 1 by simp [bD, *]];refine ih (.cmd _ a _ _) ?_ ?_ ?_ ?_ _ _ _ hw h0 h1 rfl (by rw [show o + 1 - 1=o - 1 + 1 by omega]; rfl) rfl<;>(try simp only [aV.ok,aV.size])<;>omega
 ·rw [h3 (by assumption),show bD (bt l i) o=o - 1 by simp [bD, *]];refine ih (.cmd _ a _ _) ?_ ?_ ?_ ?_ _ _ _ hw h0 h1 rfl rfl rfl<;>(try simp only [aV.ok,aV.size])<;>omega
 ·rw [h3 (by assumption),show bD (bt l i) o=o by simp [bD, *]];refine ih (.cmd _ a _ _) ?_ ?_ ?_ ?_ _ _ _ hw h0 h1 rfl h6 rfl<;>(try simp only [aV.ok,aV.size])<;>omega
theorem Rm {i a o:Nat} (ok:(aV.ari i a o).ok l) (hn:(aV.ari i a o).size l < n + 1):RP ext l (.ari i a o) (rd l (n + 1) (.ari i a o)):=by
 intro hoi s0 s f hw h0 h1 h7 h6;simp only [aV.ok,aV.size] at ok hn;have hp:=fun h:Ar (i < l.length)=>yY hb ih (i:=i) (p:=2) (by omega) (by omega) h.h (by simp only [aV.size]; omega);rw [show Co 2=.agg [.sc (.bool true),.sc (.bool false)] from rfl] at hp;refine ar (by unfold vQ; rfl) (by unfold Aa; rfl) ?_; intro hr R hR;simp -implicitDefEqProofs (disch:=first | assumption | (apply Ar.mk; omega)) only [ZN,qA,↓reduceIte,qB,qC,reduceCtorEq,aa,aD,ae,frz,frz2,aP,aX,h0,h1,h6,h7,hr,hp];have hq:=fun h:i < l.length=>hJ l n (.pass i 2) h;simp only [aV.at] at hq;subst hR;rw [rd]
 (repeat' (apply DI_c<;>intro))<;>(repeat' split)<;>first | rfl | omega | skip
 all_goals have hq:=hq (by assumption); refine ih (.ari _ a _) ?_ ?_ ?_ _ _ _ hw h0 h1 rfl ?_<;>first | first | rfl | (rw [show bD (bt l i) o=o + 1 by simp [bD, *]]; rfl) | (rw [show bD (bt l i) o=o - 1 by simp [bD, *]]; rfl) | (rw [show bD (bt l i) o=o by simp [bD, *]]; assumption) | ((try simp only [aV.ok,aV.size,bD])<;>(repeat' split)<;>omega)
theorem U2 {a:Nat} (ok:(aV.ari (a + 3) a 0).ok l) (hn:(aV.ari (a + 3) a 0).size l < n) (s:PS):ah Tryz.prog Γ ext 100 [sv l,iv a] s=some (.ok (.tup [iv (rd l n (aV.ari (a + 3) a 0)).1,iv (rd l n (aV.ari (a + 3) a 0)).2]) s):=by
 have:=ok.2;refine am (fn:=Mk) [4,5] rfl rfl rfl rfl (by unfold Mk; rfl) ?_; intro R hR;simp -implicitDefEqProofs (disch:=first | assumption | (apply Ar.mk; omega)) only [ZN,ai,qA,↓reduceIte,qB,aa];subst hR;exact ih _ ok hn (by omega) _ _ _ (Nat.le_refl _) rfl rfl rfl rfl
theorem To {a:Nat} (ok:(aV.cmd (a + 2) a 1 true).ok l) (hn:(aV.cmd (a + 2) a 1 true).size l < n) (s:PS):ah Tryz.prog Γ ext 101 [sv l,iv a] s=some (.ok (.tup [iv (rd l n (aV.cmd (a + 2) a 1 true)).1,iv (rd l n (aV.cmd (a + 2) a 1 true)).2]) s):=by
 have:=ok.2;refine am (fn:=OO) [4,5] rfl rfl rfl rfl (by unfold OO; rfl) ?_; intro R hR;simp -implicitDefEqProofs (disch:=first | assumption | (apply Ar.mk; omega)) only [ZN,ai,qA,↓reduceIte,qB,aa];subst hR;exact ih _ ok hn (by omega) (by omega) _ _ _ (Nat.le_refl _) rfl rfl rfl rfl rfl
theorem Vg {a:Nat} (ok:(aV.bq (a + 1) a).ok l) (hn:(aV.bq (a + 1) a).size l < n) (s:PS):ah Tryz.prog Γ ext 99 [sv l,iv a] s=some (.ok (.tup [iv (rd l n (aV.bq (a + 1) a)).1,iv (rd l n (aV.bq (a + 1) a)).2]) s):=by
 have:=ok.2;refine am (fn:=UW) [4,5] rfl rfl rfl rfl (by unfold UW; rfl) ?_; intro R hR;simp -implicitDefEqProofs (disch:=first | assumption | (apply Ar.mk; omega)) only [ZN,ai,qA,↓reduceIte,qB,aa];subst hR;exact ih _ ok hn _ _ _ (Nat.le_refl _) rfl rfl rfl
theorem SY {a:Nat} (ok:(aV.dbl (a + 1) a).ok l) (hn:(aV.dbl (a + 1) a).size l < n) (s:PS):ah Tryz.prog Γ ext 98 [sv l,iv a] s=some (.ok (.tup [iv (rd l n (aV.dbl (a + 1) a)).1,iv (rd l n (aV.dbl (a + 1) a)).2]) s):=by
 have:=ok.2;refine am (fn:=UQ) [4,5] rfl rfl rfl rfl (by unfold UQ; rfl) ?_; intro R hR;simp -implicitDefEqProofs (disch:=first | assumption | (apply Ar.mk; omega)) only [ZN,ai,qA,↓reduceIte,qB,aa];subst hR;exact ih _ ok hn _ _ _ (Nat.le_refl _) rfl rfl rfl
theorem RQ {a p:Nat} (hp:p≤2) (ok:(aV.brc (a + 2) a p).ok l) (hn:(aV.brc (a + 2) a p).size l < n) (s:PS):ah Tryz.prog Γ ext 102 [sv l,iv a,Co p] s=some (.ok (.tup [iv (rd l n (.brc (a + 2) a p)).1,iv (rd l n (.brc (a + 2) a p)).2]) s):=by
 have:=ok.2;unfold Co;refine am (fn:=Mf) [6,7] rfl rfl rfl rfl (by unfold Mf; rfl) ?_; intro R hR;simp -implicitDefEqProofs (disch:=first | assumption | (apply Ar.mk; omega)) only [ZN,ai,qA,↓reduceIte,qB,reduceCtorEq,aa];subst hR;exact ih _ ok hn hp _ _ _ s.n (Nat.le_refl _) rfl rfl rfl (if_pos rfl) rfl
omit ih in
theorem MC (s0:PS):∀(k i:Nat) (f:aE) (s:PS),i + k=l.length→s0.n≤s.w→f 0=sv l→f 9=iv i→rl Tryz.prog Γ ext (ZT [6,7] s0) 2 xr C6 f s []=some (.ok (.tup [iv (bm l i),iv 0]) s0):=by
 intro k
 induction k with
 | zero=>
  intro i f s hk hw h0 h9;refine ar (by unfold xr; rfl) (by unfold C6; rfl) ?_; intro hr R hR;simp -implicitDefEqProofs (disch:=first | assumption | (apply Ar.mk; omega)) only [ZN,ai,qA,↓reduceIte,reduceCtorEq,aa,ae,frz,frz2,aP,aX,bI,↓ed,h0,h9,hr];rw [hR,show bm l i=i from nZ (by omega)]
 | succ k ih=>
  intro i f s hk hw h0 h9;refine ar (by unfold xr; rfl) (by unfold C6; rfl) ?_; intro hr R hR;simp -implicitDefEqProofs (disch:=first | assumption | (apply Ar.mk; omega)) only [ZN,qA,↓reduceIte,reduceCtorEq,aa,ae,frz,frz2,aP,aX,bk,↓bR,h0,h9,hr,sR,pm];subst hR;apply DI_c<;>intro
  ·refine Eq.trans (ih (i + 1) _ _ ?_ ?_ ?_ ?_) ?_
   all_goals first | omega | assumption | rfl | skip
   rw [show bm l i=bm l (i + 1) from jE (by omega) (by rw [Ac]; simp_all)]
  ·rw [show bm l i=i from mz (by omega) (by rw [Ac]; simp_all)]
theorem Tg {a p:Nat} (ok:(aV.exp a p).ok l) (hn:(aV.exp a p).size l < n + 1):RP ext l (.exp a p) (rd l (n + 1) (.exp a p)):=by
 intro hp s;have hl:=dD ok;have h36:=kJ ok;simp only [aV.size] at hn;have e1:=RQ hb ih hp (a:=a) ⟨hl,by omega⟩ (by simp only [aV.size]; omega);have e2:=fun h:[36,40,40].isPrefixOf (l.drop a)=true=>U2 hb ih (a:=a) ⟨by rw [TZ] at h; simp at h; omega,by omega⟩ (by simp only [aV.size]; omega);have e3:=To hb ih (a:=a) ⟨hl,by omega⟩ (by simp only [aV.size]; omega);have e4:=fun b s=>eY (ext:=ext) (a:=l.drop a) (b:=b) (by rw [List.length_drop]; omega) s;unfold Co at *;refine am (fn:=Sz) [6,7] rfl rfl rfl rfl (by unfold Sz; rfl) ?_; intro R hR;simp -implicitDefEqProofs (disch:=first | assumption | (apply Ar.mk; omega)) only [ZN,↓df,ai,qA,↓reduceIte,qB,reduceCtorEq,aa,ae,frz,frz2,aP,aX,qT,ad,e1,e2,e3,e4,sR];have h5:=Ts _ (il l (a + 1)) (by have ok:ch l a=true:=ok; unfold ch at ok; simp at ok; simpa using ok.2);have h6:[36,40,40].isPrefixOf (l.drop a)=true↔a + 2 < l.length∧bt l (a + 1)=40∧bt l (a + 2)=40:=by rw [TZ]; simp [h36,and_assoc]
 subst hR;rw [rd];clear e1 e2 e3 e4
 (repeat' (apply DI_c<;>intro))<;>(repeat' split)<;>first | rfl | omega | (exfalso; clear ih; grind) | skip
 have h7:aF (bt l (a + 1))=true:=by rw [Ac]; simp_all
 rw [show bm l (a + 1)=bm l (a + 2) from jE hl h7];exact MC hb s (l.length - (a + 2)) (a + 2) _ _ (by omega) (Nat.le_refl _) rfl rfl
theorem Mq {a p:Nat} (ok:(aV.pass a p).ok l) (hn:(aV.pass a p).size l < n + 1):RP ext l (.pass a p) (rd l (n + 1) (.pass a p)):=by
 intro hp hbg hqt s;simp only [aV.ok,aV.size] at ok hn;cases hx:ch l a with
 | true=>
  rw [rd,if_neg (by rw [kJ hx]; omega),if_neg (by rw [kJ hx]; omega),if_pos hx];exact ih (.exp a p) hx (by have:=dD hx; simp only [aV.size]; omega) hp s
 | false=>
 have e1:=Vg hb ih (a:=a) ⟨ok,ok⟩ (by simp only [aV.size]; omega);have e2:=SY hb ih (a:=a) ⟨ok,ok⟩ (by simp only [aV.size]; omega);have e3:=fun s=>xA (ext:=ext) (l.drop (a + 1)) (c:=39) (by omega) s;have e4:=BI (l:=l) (i:=a + 1) (c:=39) (by omega);have e5:=eK l 39 (a + 1);have e6:bt l a=92∨bt l a=39∨bt l a=34∨bt l a=96:=by simp [oZ,hx] at hbg; omega
 unfold Co;refine am (fn:=Sz) [6,7] rfl rfl rfl rfl (by unfold Sz; rfl) ?_; intro R hR;simp -implicitDefEqProofs (disch:=first | assumption | (apply Ar.mk; omega)) only [ZN,↓dt,ai,qA,↓reduceIte,qB,reduceCtorEq,aa,ae,frz,frz2,aP,aX,e1,e2,e3,e4];subst hR;rw [rd];clear e1 e2 e3 e4 hbg
 (repeat' (apply DI_c<;>intro))<;>(repeat' split)<;>first | rfl | omega | (exfalso; clear ih; simp_all; done) | (exfalso; clear ih; grind) | skip
 rw [show a + (aQ l 39 (a + 1) - (a + 1)) + 2=aQ l 39 (a + 1) + 1 by omega]
end
theorem yl {l:List UInt8} (hb:l.length < 4611686018427387904):∀n,IP ext l n:=by
 intro n
 induction n with
 | zero=>intro t _ h; omega
 | succ n ih=>
  intro t ok hn;cases t with
  | pass a p=>exact Mq hb ih ok hn
  | exp a p=>exact Tg hb ih ok hn
  | bq i a=>exact Wl hb ih ok hn
  | dbl i a=>exact TL hb ih ok hn
  | brc i a p=>exact Re hb ih ok hn
  | cmd i a o g=>exact Rn hb ih ok hn
  | ari i a o=>exact Rm hb ih ok hn
theorem CB {l:List UInt8} (hb:l.length < 16385) {a:Nat} (s:PS):ah Tryz.prog Γ ext 216 [sv l,iv a] s=some (.ok (.tup (if a < l.length∧oZ l a=true then [iv (lx l (.pass a 0)).1,iv (lx l (.pass a 0)).2] else [iv 0,iv 1])) s):=by
 have h1:=fun (h:Ar (a < l.length)) s=>md (ext:=ext) (l:=l) (by omega) h.h s;have h2:=fun (h:¬((a ≥ l.length)∨¬oZ l a=true))=>yl (ext:=ext) (l:=l) (by omega) (ly l) (.pass a 0) (by simp only [aV.ok]; omega) (by simp only [aV.size,ly]; omega) (by omega) (by simp_all) (.inl rfl);simp only [show Co 0=.agg [.sc (.bool false),.sc (.bool false)] from rfl] at h2;refine am (fn:=F9) [4,5] rfl rfl rfl rfl (by unfold F9; rfl) ?_; intro R hR;simp -implicitDefEqProofs (disch:=first | assumption | (apply Ar.mk; omega)) only [ZN,↓df,ai,qA,↓reduceIte,qB,reduceCtorEq,aa,aD,ae,frz,frz2,aP,aX,bI,↓bR,h1,h2];subst hR;apply DI_c<;>intro h
 ·rw [if_neg (by rintro⟨x,y⟩; rcases h with h | h; omega; exact h y)]
 ·rw [if_pos (by simp_all)]; rfl
end Go.Proofs.YtioblbopbilmaaaGreatDoor
namespace Go.Mir
open Go Go.PE
mutual
def cJ:aJ→List PV
 | .mk k t o c ps=>[.sc (.int .i64 k),.sc (.string ⟨⟨t⟩⟩),.sc (.int .i64 o),.sc (.bool c),bK ps]
def bK:List aJ→PV
 | []=>.sc (.slice none 0 0)
 | p :: ps=>.lit 135 (ps.length + 1) (cJ p ++ eG ps)
def eG:List aJ→List PV
 | []=>[]
 | p :: ps=>cJ p ++ eG ps
end
theorem oa:∀l:List aJ,eG l=l.flatMap cJ:=by
 intro l
 induction l with
 | nil=>rw [eG]; rfl
 | cons p l ih=>rw [eG,ih,List.flatMap_cons]
theorem CJ (l:List aJ):bK l=wO 135 cJ (jF l):=by
 cases l with
 | nil=>rw [bK]; rfl
 | cons p l=>rw [bK,oa]; rfl
def iQ:R→PV
 | .ok (l,j)=>.agg [bK l,.sc (.int .i64 (j:Int)),.sc (.int .i64 0)]
 | .error (a,e)=>.agg [.sc (.slice none 0 0),.sc (.int .i64 (a:Int)),.sc (.int .i64 (e:Int))]
theorem fq (p:aJ):(cJ p).length=5:=by cases p; rw [cJ]; rfl
theorem Gf (p:aJ):(cJ p).all eQ=true:=by
 cases p with
 | mk k t o c ps=>
  rw [cJ];have:eQ (bK ps)=true:=by cases ps<;>(rw [bK]; rfl)
  simp only [List.all_cons,List.all_nil,this,Bool.and_true];rfl
theorem tZ (p:aJ):(cJ p).all dQ=true:=by
 cases p with
 | mk k t o c ps=>
  rw [cJ];have:dQ (bK ps)=true:=by cases ps<;>(rw [bK]; rfl)
  simp only [List.all_cons,List.all_nil,this,Bool.and_true];rfl
theorem bU (l:List aJ):eQ (bK l)=true:=by cases l<;>(rw [bK]; rfl)
theorem Ag (l:List aJ):dQ (bK l)=true:=by cases l<;>(rw [bK]; rfl)
theorem eJ (n:Nat) (s:PS) (l:List aJ):aP n s (bK l)=some (bK l):=by cases l<;>(rw [bK]; rfl)
theorem kV (l:List aJ):cI (bK l)=[bK l]:=by cases l<;>(rw [bK]; rfl)
theorem cL (k:Int) (t:List UInt8) (o:Int) (c:Bool) (ps:List aJ):cJ (.mk k t o c ps)=[.sc (.int .i64 k),.sc (.string ⟨⟨t⟩⟩),.sc (.int .i64 o),.sc (.bool c),bK ps]:=by rw [cJ]
theorem GT (p:aJ):bK [p]=.lit 135 1 (cJ p):=by rw [bK,eG,List.append_nil]; rfl
theorem dl:bK []=.sc (.slice none 0 0):=by rw [bK]
end Go.Mir
namespace Go.Proofs.YtioblbopbilmaaaGreatDoor
open Go Go.EvL Go.PE Go.Mir
variable {ext:aw}
abbrev LL:Nat:=1000000000
abbrev nv:PV:=.sc (.slice none 0 0)
theorem kP (a e:Nat) (s:PS):ah Tryz.prog Γ ext 150 [iv a,iv e] s=some (.ok (.agg [nv,iv a,iv e]) s):=by
 refine bF (fn:=O0) 4 3 rfl rfl rfl rfl (by unfold O0; rfl) ?_; intro R hR;simp -implicitDefEqProofs (disch:=first | assumption | (apply Ar.mk; omega)) only [ZN,ai,qA,↓reduceIte,qB,qC,reduceCtorEq,aa,aD,ZM];subst hR;rfl
theorem C3 (k:Int) (t:List UInt8) (o:Int) (c:Bool) (ps:List aJ) (j:Nat) (s:PS):ah Tryz.prog Γ ext 186 [.agg [.sc (.int .i64 k),.sc (.string ⟨⟨t⟩⟩),.sc (.int .i64 o),.sc (.bool c),bK ps],iv j] s=some (.ok (.agg [bK [.mk k t o c ps],iv j,iv 0]) s):=by
 refine bF (fn:=Oj) 4 3 rfl rfl rfl rfl (by unfold Oj; rfl) ?_; intro R hR;simp -implicitDefEqProofs (disch:=first | assumption | (apply Ar.mk; omega)) only [ZN,ai,qA,↓reduceIte,qB,qC,aa,aD,ad,ZM,Ag];subst hR;rw [GT,cL]
theorem nK (k:Int) (t:List UInt8) (o:Int) (c:Bool) (j:Nat) (s:PS):ah Tryz.prog Γ ext 186 [.agg [.sc (.int .i64 k),.sc (.string ⟨⟨t⟩⟩),.sc (.int .i64 o),.sc (.bool c),nv],iv j] s=some (.ok (.agg [bK [.mk k t o c []],iv j,iv 0]) s):=by
 have h:=C3 (ext:=ext) k t o c [] j s;rw [dl] at h; exact h
theorem BX (p:Nat) (s:PS):ah Tryz.prog Γ ext 180 [iv p] s=some (.ok (bv (eE p=true)) s):=by
 refine am (fn:=Mw) [2] rfl rfl rfl rfl (by unfold Mw; rfl) ?_; intro R hR;simp -implicitDefEqProofs (disch:=first | assumption | (apply Ar.mk; omega)) only [ZN,ai,qA,↓reduceIte,reduceCtorEq,aa,ae,frz,frz2,aP];subst hR
 (repeat' (apply DI_c<;>intro))<;>first | rfl | (apply eU; simp [eE, *]<;>omega) | (apply dT; simp [eE, *]<;>omega) | (apply cZ; simp [eE, *]<;>omega)
theorem FU (p:Nat) (s:PS):ah Tryz.prog Γ ext 225 [iv p] s=some (.ok (iv (rq p)) s):=by
 refine am (fn:=Pz) [2] rfl rfl rfl rfl (by unfold Pz; rfl) ?_; intro R hR;simp -implicitDefEqProofs (disch:=first | assumption | (apply Ar.mk; omega)) only [ZN,↓dt,ai,qA,↓reduceIte,reduceCtorEq,aa,ae,frz,frz2,aP];subst hR;unfold rq; (repeat' (apply DI_c<;>intro))<;>(repeat' split)<;>first | rfl | omega
theorem G7 (p:Nat) (s:PS):ah Tryz.prog Γ ext 228 [iv p] s=some (.ok (iv (cX p)) s):=by
 refine am (fn:=Pr) [2] rfl rfl rfl rfl (by unfold Pr; rfl) ?_; intro R hR;simp -implicitDefEqProofs (disch:=first | assumption | (apply Ar.mk; omega)) only [ZN,↓dt,ai,qA,↓reduceIte,reduceCtorEq,aa,ae,frz,frz2,aP];subst hR;unfold cX; (repeat' (apply DI_c<;>intro))<;>(repeat' split)<;>first | rfl | omega
theorem Sy (c p:Nat) (s:PS):ah Tryz.prog Γ ext 209 [cv c,iv p] s=some (.ok (bv (ng c p=true)) s):=by
 refine am (fn:=OY) [4] rfl rfl rfl rfl (by unfold OY; rfl) ?_; intro R hR;simp -implicitDefEqProofs (disch:=first | assumption | (apply Ar.mk; omega)) only [ZN,ai,qA,↓reduceIte,qB,reduceCtorEq,aa,ae,frz,frz2,aP];subst hR
 (repeat' (apply DI_c<;>intro))<;>first | rfl | (apply eU; simp [ng, *]<;>omega) | (apply dT; simp [ng, *]<;>omega) | (apply cZ; simp [ng, *]<;>omega)
section
variable {l:List UInt8} (hb:l.length < 1000000000)
include hb
theorem N1 {a:Nat} (ha:a < l.length) (p o:Nat) (s:PS):ah Tryz.prog Γ ext 149 [sv l,iv a,iv p,iv o] s=some (.ok (bv (ef (bt l a) p o=true)) s):=by
 refine am (fn:=Q5) [8] rfl rfl rfl rfl (by unfold Q5; rfl) ?_; intro R hR;simp -implicitDefEqProofs (disch:=first | assumption | (apply Ar.mk; omega)) only [ZN,↓dt,ai,qA,↓reduceIte,qB,reduceCtorEq,aa,ae,frz,frz2,aP];subst hR
 (repeat' (apply DI_c<;>intro))<;>first | rfl | (apply eU; simp [ef, *]<;>omega) | (apply dT; simp [ef, *]<;>omega) | (apply cZ; simp [ef, *]<;>omega)
theorem pG {i:Nat} (hi:i≤l.length) (s:PS):ah Tryz.prog Γ ext 181 [sv l,iv i] s=some (.ok (bv (bx l i=true)) s):=by
 refine am (fn:=Mp) [4] rfl rfl rfl rfl (by unfold Mp; rfl) ?_; intro R hR;simp -implicitDefEqProofs (disch:=first | assumption | (apply Ar.mk; omega)) only [ZN,ai,qA,↓reduceIte,qB,reduceCtorEq,aa,ae,frz,frz2,aP];subst hR;apply cZ;simp [bx,and_assoc]
theorem KN {a p:Nat} (ha:a < l.length) (s:PS):ah Tryz.prog Γ ext 151 [sv l,iv a,iv p] s=some (.ok (bv (jC l a p)) s):=by
 have key:∀(k i:Nat) (f:aE) (s0 s:PS),l.length < i + k→i≤l.length→s0.n≤s.w→f 0=sv l→f 2=iv p→f 7=iv i→rl Tryz.prog Γ ext (ZT [6] s0) 0 w8 Ao f s []=some (.ok (bv (l.length≤fN l i∨bt l (fN l i)=47∨p=1∧bt l (fN l i)=125)) s0):=by
  intro k
  induction k with
  | zero=>intro i f s0 s hk hi; omega
  | succ k ih=>
   intro i f s0 s hk hi hw h0 h2 h7;have h9:=fun s=>pG (ext:=ext) hb hi s;refine ar (by unfold w8; rfl) (by unfold Ao; rfl) ?_; intro hr R hR;simp -implicitDefEqProofs (disch:=first | assumption | (apply Ar.mk; omega)) only [ZN,qA,↓reduceIte,reduceCtorEq,aa,ae,frz,frz2,aP,h0,h2,h7,hr,h9];subst hR;apply DI_c<;>intro h
   ·have hj:=dx h;rw [yD h];refine ih (i + 2) _ _ _ ?_ ?_ hw h0 h2 rfl<;>omega
   ·rw [yS (by simpa using h)];apply cZ;simp [or_assoc]
 refine am (fn:=Na) [6] rfl rfl rfl rfl (by unfold Na; rfl) ?_; intro R hR;simp -implicitDefEqProofs (disch:=first | assumption | (apply Ar.mk; omega)) only [ZN,ai,qA,↓reduceIte,qB,reduceCtorEq,aa,ae,frz,frz2,aP,BX];subst hR;apply DI_c<;>intro h
 ·exact dT (by unfold jC; grind) s
 ·rw [key (l.length - a) (a + 1) _ _ _ (by omega) (by omega) (Nat.le_refl _) rfl rfl rfl];exact cZ (by unfold jC; grind) s
theorem Gp {t:List UInt8} (ht:t.length < 999999990) (s:PS):ah Tryz.prog Γ ext 210 [sv t] s=some (.ok (bv (ik LL t)) s):=by
 have h1:∀s,ah Tryz.prog Γ ext 179 [sv (36 :: 40 :: (t ++ [41])),iv 0,iv 0] s=_:=oO (ext:=ext) (l:=wrap t) (by simp [wrap]; omega) (ly (wrap t)) (.pass 0 0) (by simp [aV.ok,wrap]) (by simp only [aV.size,ly]; omega);refine am (fn:=NN) [2] rfl rfl rfl rfl (by unfold NN; rfl) ?_; intro R hR;simp -implicitDefEqProofs (disch:=first | assumption | (apply Ar.mk; first | omega | (simp only [Zj]; omega))) only [ZN,ai,qA,↓reduceIte,reduceCtorEq,aa,ae,frz,frz2,aP,h1];subst hR;apply cZ;unfold ik lx;have e:(t=[]∨t.head?≠some 40)↔(t.length=0∨¬ bt t 0=40):=by
  cases t with
  | nil=>simp
  | cons c t=>
   have:bt (c :: t) 0=c.toNat:=rfl;rw [this];simp;exact⟨fun h h'=>h (UInt8.toNat_inj.1 h'),fun h h'=>h (by rw [h']; rfl)⟩
 rw [e];have e0:t.length + 3≤LL:=by unfold LL; omega
 simp [and_assoc,e0]
theorem AI {a:Nat} (ha:a < l.length) (s:PS):ah Tryz.prog Γ ext 227 [sv l,iv a] s=some (.ok (.tup [.sc (.int .i64 (nR l a).1),bv ((nR l a).2.1=true),iv (nR l a).2.2]) s):=by
 refine am (fn:=PN) [4,5,6] rfl rfl rfl rfl (by unfold PN; rfl) ?_; intro R hR;simp -implicitDefEqProofs (disch:=first | assumption | (apply Ar.mk; omega)) only [ZN,↓dt,↓df,ai,qA,↓reduceIte,qB,reduceCtorEq,aa,ae,frz,frz2,aP,aX];subst hR
 (repeat' (apply DI_c<;>intro))<;>simp [nR,Gs,Gx, *]<;>(try split)<;>simp_all<;>omega
end
theorem xK {t:List UInt8} (hne : 0 < t.length) (hs:t.length < 1000000000) (hd:∀i,i < t.length→ay (bt t i)=true) (s:PS):ah Tryz.prog Γ ext 229 [sv t] s=some (.ok (.tup [iv (if mZ t=true then dj t else 0),bv (mZ t=true)]) s):=by
 have key:t.length≤10→∀(k i:Nat) (f:aE) (s0 s:PS),i + k=t.length→s0.n≤s.w→f 0=sv t→f 4=iv (dj (t.take i))→f 5=iv i→rl Tryz.prog Γ ext (ZT [2,3] s0) 0 tq wX f s []=some (.ok (.tup [iv (if dj t≤2147483647 then dj t else 0),bv (dj t≤2147483647)]) s0):=by
  intro hl k
  induction k with
  | zero=>
   intro i f s0 s hk hw h0 h4 h5;refine ar (by unfold tq; rfl) (by unfold wX; rfl) ?_; intro hr R hR;simp -implicitDefEqProofs (disch:=first | assumption | (apply Ar.mk; omega)) only [ZN,↓df,qA,↓reduceIte,reduceCtorEq,aa,ae,frz,frz2,aP,aX,h0,h4,h5,hr];subst hR;rw [show i=t.length by omega,List.take_length];apply DI_c<;>intro h
   ·simp only [bv,if_neg (show ¬ dj t≤2147483647 by omega),decide_eq_false (show ¬ dj t≤2147483647 by omega)]
   ·simp only [bv,if_pos (show dj t≤2147483647 by omega),decide_eq_true (show dj t≤2147483647 by omega)]
  | succ k ih=>
   intro i f s0 s hk hw h0 h4 h5;have h6:=hd i (by omega);have h7:=pO h6;have h8:=EF hd i (by omega);have h9 : 10 ^ i≤10 ^ 9:=Nat.pow_le_pow_right (by omega) (by omega);have h10:=il t i;refine ar (by unfold tq; rfl) (by unfold wX; rfl) ?_; intro hr R hR;simp -implicitDefEqProofs (disch:=first | assumption | (apply Ar.mk; omega)) only [ZN,↓dt,qA,↓reduceIte,reduceCtorEq,aa,ae,frz,frz2,aP,aX,h0,h4,h5,gV];subst hR;apply DI_c<;>intro h
   ·exact absurd h6 h
   ·exact ih (i + 1) _ _ _ (by omega) hw h0 (by rw [jd (by omega)]; rfl) rfl
 refine am (fn:=Pf) [2,3] rfl rfl rfl rfl (by unfold Pf; rfl) ?_; intro R hR;simp -implicitDefEqProofs (disch:=first | assumption | (apply Ar.mk; omega)) only [ZN,ai,qA,↓reduceIte,reduceCtorEq,aa,ae,frz,frz2,aP,aX];subst hR;apply DI_c<;>intro h
 ·have e:mZ t=false:=by rw [Bool.eq_false_iff]; intro hh; unfold mZ at hh; simp at hh; omega
  simp only [bv,e]; rfl
 ·have e:mZ t=decide (dj t≤2147483647):=by
   unfold mZ; simp at h ⊢; omega
  rw [key (by simp at h; omega) t.length 0 _ _ _ (by omega) (Nat.le_refl _) rfl rfl rfl];simp only [bv,e,decide_eq_true_eq]
section
variable {l:List UInt8} (hb:l.length < 1000000000)
include hb
theorem qw {a:Nat} (ha:a≤l.length) (s:PS):ah Tryz.prog Γ ext 226 [sv l,iv a] s=some (.ok (iv (ax l a)) s):=by
 have key:ay (bt l a)=true→bt l a≠48→a < l.length→∀(k e:Nat) (f:aE) (s0 s:PS) (K:List KI),e + k=l.length→a < e→(∀i,a≤i→i < e→ay (bt l i)=true)→s0.n≤s.w→f 0=sv l→f 1=iv a→f 5=iv e→rl Tryz.prog Γ ext (ZT [4] s0) 0 nA q9 f s K=some (.ok (iv (e + mY (l.drop e) (dj (sub l a e)))) s0):=by
  intro hda h48 hal k
  induction k with
  | zero=>
   intro e f s0 s K hk hae hd hw h0 h1 h5;refine ar (by unfold nA; rfl) (by unfold q9; rfl) ?_; intro hr R hR;simp -implicitDefEqProofs (disch:=first | assumption | (apply Ar.mk; omega)) only [ZN,ai,qA,↓reduceIte,reduceCtorEq,aa,ae,frz,frz2,aP,bI,↓ed,h0,h5,hr];rw [hR,iJ (.inl (by omega))]; rfl
  | succ k ih=>
   intro e f s0 s K hk hae hd hw h0 h1 h5;have hsl:=de (l:=l) (a:=a) (e:=e + 1) (by omega);have hd2:ay (bt l e)=true→∀i,i < (sub l a (e + 1)).length→ay (bt (sub l a (e + 1)) i)=true:=fun h i hi=>by
    rw [pY (by omega) (by omega)];by_cases he:a + i=e
    ·rw [he]; exact h
    ·exact hd _ (by omega) (by omega)
   have hdg:=fun (h:ay (bt l e)=true)=>xK (ext:=ext) (t:=sub l a (e + 1)) (by omega) (by omega) (hd2 h);simp only [show sub l a (e + 1)=sb l a (e + 1) from rfl] at hdg;refine ar (by unfold nA; rfl) (by unfold q9; rfl) ?_; intro hr R hR;simp -implicitDefEqProofs (disch:=first | assumption | (apply Ar.mk; omega)) only [ZN,qA,↓reduceIte,reduceCtorEq,aa,ae,frz,frz2,aP,bk,↓bR,h0,h1,h5,hr,gV,hdg];subst hR;have hv:=Cb (l:=l) (a:=a) (e:=e) (by omega) (by omega);have hok:=fun h=>NI (t:=sub l a (e + 1)) (by omega) (hd2 h) (by rw [pY (by omega) (by omega)]; exact h48);simp only [show sub l a (e + 1)=sb l a (e + 1) from rfl] at hok hv
   (repeat' (apply DI_c<;>intro))
   ·rename_i hg hh;rw [hok hg,hv] at hh;rw [iJ (.inr (.inr (by simp at hh; omega)))]; rfl
   ·rename_i hg hh;rw [hok hg,hv] at hh;refine Eq.trans (ih (e + 1) _ _ _ K ?_ ?_ ?_ ?_ ?_ ?_ ?_) ?_
    all_goals first | omega | assumption | rfl | skip
    ·intro i h1 h2;by_cases he:i=e
     ·rw [he]; exact hg
     ·exact hd i h1 (by omega)
    ·rw [vP (i:=e) (by omega) hg (by simp at hh; omega),show dj (sub l a (e + 1))=_ from hv];simp only [Nat.add_assoc,Nat.add_comm 1]
   ·rename_i hg;rw [iJ (.inr (.inl (by simpa using hg)))]; rfl
 have key0:bt l a=48→a < l.length→∀(f:aE) (s0 s:PS) (K:List KI),s0.n≤s.w→f 0=sv l→f 1=iv a→f 5=iv (a + 1)→rl Tryz.prog Γ ext (ZT [4] s0) 0 nA q9 f s K=some (.ok (iv (a + 1)) s0):=by
  intro h48 hal f s0 s K hw h0 h1 h5;have hdg:=fun (h:ay (bt l (a + 1))=true) (h':a + 1 < l.length)=>xK (ext:=ext) (t:=sub l a (a + 2)) (by rw [de (by omega)]; omega) (by rw [de (by omega)]; omega) (fun i hi=>by
   rw [de (by omega)] at hi;rw [pY (by omega) (by omega)];by_cases he:i=0
   ·rw [he,Nat.add_zero,h48]; rfl
   ·rw [show a + i=a + 1 by omega]; exact h)
  have hdg:a + 1 < l.length∧ay (bt l (a + 1))=true→∀s,ah Tryz.prog Γ ext 229 [sv (sb l a (a + 1 + 1))] s=_:=fun h=>hdg h.2 h.1;refine ar (by unfold nA; rfl) (by unfold q9; rfl) ?_; intro hr R hR;simp -implicitDefEqProofs (disch:=first | assumption | (apply Ar.mk; omega)) only [ZN,qA,↓reduceIte,reduceCtorEq,aa,ae,frz,frz2,aP,h0,h1,h5,hr,gV,hdg];subst hR
  (repeat' (apply DI_c<;>intro))<;>first | rfl | skip
  rename_i h hh;exfalso;have e:mZ (sub l a (a + 2))=false:=by
   unfold mZ;rw [de (by omega),pY (by omega) (by omega),show bt l (a + 0)=48 from h48];simp
  exact hh (by rw [e]; simp)
 refine am (fn:=Oi) [4] rfl rfl rfl rfl (by unfold Oi; rfl) ?_; intro R hR;have h1:=fun (h:Ar (a < l.length)) s=>vz (ext:=ext) (l:=l) (by omega) (i:=a) (by omega) s;simp -implicitDefEqProofs (disch:=first | assumption | (apply Ar.mk; omega)) only [ZN,ai,qA,↓reduceIte,qB,reduceCtorEq,aa,ae,frz,frz2,aP,h1,gV,nG,mp];subst hR;unfold ax
 (repeat' (apply DI_c<;>intro))<;>(repeat' split)<;>first | rfl | omega | skip
 ·exact key0 (by assumption) (by omega) _ _ _ _ (Nat.le_refl _) rfl rfl rfl
 ·rename_i hd _ h48;have e0:sub l a a=[]:=by unfold sub; rw [Nat.sub_self,List.take_zero]
  have e1:=Cb (l:=l) (a:=a) (e:=a) (by omega) (by omega);rw [e0,show dj []=0 from rfl] at e1;have hdl:=pO hd;rw [key hd h48 (by omega) (l.length - (a + 1)) (a + 1) _ _ _ _ (by omega) (by omega) (fun i h1 h2=>by rw [show i=a by omega]; exact hd) (Nat.le_refl _) rfl rfl rfl,e1,vP (i:=a) (by omega) hd (by omega)];simp only [Nat.add_assoc,Nat.add_comm 1]
 all_goals (exfalso; simp_all [ay]; done)
theorem Ij {a p:Nat} (ha:a < l.length) (s:PS):ah Tryz.prog Γ ext 182 [sv l,iv a,iv p] s=some (.ok (iQ (ii l a p)) s):=by
 refine bF (fn:=N4) 6 3 rfl rfl rfl rfl (by unfold N4; rfl) ?_; intro R hR;simp -implicitDefEqProofs (disch:=first | assumption | (apply Ar.mk; omega)) only [ZN,ai,qA,↓reduceIte,qB,qC,reduceCtorEq,aa,aD,ZM,BX,Sy,kP,nK,bU,eJ];subst hR;unfold ii one
 (repeat' (apply DI_c<;>intro))<;>(repeat' split)<;>first | rfl | omega | (exfalso; grind) | skip
end
end Go.Proofs.YtioblbopbilmaaaGreatDoor
namespace Go.Mir
theorem U4 (l:List UInt8):∀(n:Nat) (t:aV),t.ok l→t.size l < n→rd l (n + 1) t=rd l n t:=by
 intro n
 induction n with
 | zero=>intro t _ h; omega
 | succ n ih=>
  intro t ok hn;cases t with
  | pass a p=>
   simp only [aV.ok,aV.size] at ok hn;have h1:=ih (.bq (a + 1) a) ⟨ok,ok⟩ (by simp only [aV.size]; omega);have h2:=ih (.dbl (a + 1) a) ⟨ok,ok⟩ (by simp only [aV.size]; omega);have h3:ch l a=true→rd l (n + 1) (.exp a p)=rd l n (.exp a p):=fun h=>ih (.exp a p) h (by simp only [aV.size]; omega);show (if _ then _ else _)=(if _ then _ else _)
   rw [h1,h2];by_cases c:ch l a=true
   ·rw [h3 c]
   ·simp only [c]; rfl
  | exp a p=>
   have hl:=dD ok;simp only [aV.size] at hn;have h1:=ih (.brc (a + 2) a p) ⟨hl,by omega⟩ (by simp only [aV.size]; omega);have h2:=fun h:a + 2 < l.length=>ih (.ari (a + 3) a 0) ⟨h,by omega⟩ (by simp only [aV.size]; omega);have h3:=ih (.cmd (a + 2) a 1 true) ⟨hl,by omega⟩ (by simp only [aV.size]; omega);show (if _ then _ else _)=(if _ then _ else _)
   rw [h1,h3];by_cases c:a + 2 < l.length
   ·rw [h2 c]
   ·simp only [c,false_and,if_false]
  | bq i a=>
   simp only [aV.ok,aV.size] at ok hn;have h1:=fun h:i + 2≤l.length=>ih (.bq (i + 2) a) ⟨h,ok.2⟩ (by simp only [aV.size]; omega);have h2:=fun h:i + 1≤l.length=>ih (.bq (i + 1) a) ⟨h,ok.2⟩ (by simp only [aV.size]; omega);show (if _ then _ else _)=(if _ then _ else _)
   by_cases c:i < l.length
   ·rw [if_pos c,if_pos c,h2 c];by_cases c2:i + 1=l.length
    ·simp only [if_pos c2]
    ·rw [h1 (by omega)]
   ·rw [if_neg c,if_neg c]
  | dbl i a=>
   simp only [aV.ok,aV.size] at ok hn;show (if _ then _ else _)=(if _ then _ else _)
   by_cases c:i < l.length
   ·have h1:=ih (.pass i 1) c (by simp only [aV.size]; omega);have hb:=hJ l n (.pass i 1) c;simp only [aV.at] at hb;rw [if_pos c,if_pos c,h1];by_cases c2:(rd l n (.pass i 1)).2=0
    ·rw [ih (.dbl (rd l n (.pass i 1)).1 a) ⟨hb.1,ok.2⟩ (by simp only [aV.size]; have:=hb.2 c2; omega)]
    ·simp only [if_neg c2]
   ·rw [if_neg c,if_neg c]
  | brc i a p=>
   simp only [aV.ok,aV.size] at ok hn;show (if _ then _ else _)=(if _ then _ else _)
   by_cases c:i < l.length
   ·have h1:=ih (.pass i p) c (by simp only [aV.size]; omega);have hb:=hJ l n (.pass i p) c;simp only [aV.at] at hb;rw [if_pos c,if_pos c,h1];by_cases c2:(rd l n (.pass i p)).2=0
    ·rw [ih (.brc (rd l n (.pass i p)).1 a p) ⟨hb.1,ok.2⟩ (by simp only [aV.size]; have:=hb.2 c2; omega)]
    ·simp only [if_neg c2]
   ·rw [if_neg c,if_neg c]
  | cmd i a o b=>
   simp only [aV.ok,aV.size] at ok hn;show (if _ then _ else _)=(if _ then _ else _)
   by_cases c:i < l.length
   ·have h1:=ih (.pass i 0) c (by simp only [aV.size]; omega);have hb:=hJ l n (.pass i 0) c;simp only [aV.at] at hb;rw [if_pos c,if_pos c,h1];by_cases c3:b=true∧bt l i=35
    ·have h4:=qf (l:=l) (c:=10) c (by omega);have h5:aQ l 10 i≤l.length:=fc ok.1;rw [if_pos c3,if_pos c3,ih (.cmd (aQ l 10 i) a o b) ⟨h5,ok.2⟩ (by simp only [aV.size]; omega)]
    ·rw [if_neg c3,if_neg c3];by_cases c4:bx l i=true
     ·have hj:=dx c4;rw [if_pos c4,if_pos c4,ih (.cmd (i + 2) a o b) ⟨by omega,ok.2⟩ (by simp only [aV.size]; omega)]
     ·rw [if_neg c4,if_neg c4];by_cases c2:(rd l n (.pass i 0)).2=0
      ·rw [ih (.cmd (rd l n (.pass i 0)).1 a (bD (bt l i) o) (bu (bt l i))) ⟨hb.1,ok.2⟩ (by simp only [aV.size]; have:=hb.2 c2; omega)]
      ·simp only [if_neg c2]
   ·rw [if_neg c,if_neg c]
  | ari i a o=>
   simp only [aV.ok,aV.size] at ok hn;show (if _ then _ else _)=(if _ then _ else _)
   by_cases c:i < l.length
   ·have h1:=ih (.pass i 2) c (by simp only [aV.size]; omega);have hb:=hJ l n (.pass i 2) c;simp only [aV.at] at hb;rw [if_pos c,if_pos c,h1];by_cases c2:(rd l n (.pass i 2)).2=0
    ·rw [ih (.ari (rd l n (.pass i 2)).1 a (bD (bt l i) o)) ⟨hb.1,ok.2⟩ (by simp only [aV.size]; have:=hb.2 c2; omega)]
    ·simp only [if_neg c2]
   ·rw [if_neg c,if_neg c]
theorem Ig {l:List UInt8}{t:aV} (ok:t.ok l) {n:Nat} (h:t.size l < n) (k:Nat):rd l (n + k) t=rd l n t:=by
 induction k with
 | zero=>rfl
 | succ k ih=>rw [← Nat.add_assoc,U4 l _ t ok (by omega),ih]
theorem kQ {l:List UInt8}{t:aV} (ok:t.ok l) {n m:Nat} (h:t.size l < n) (h2:t.size l < m):rd l n t=rd l m t:=by
 rw [← Ig ok h m,← Ig ok h2 n,Nat.add_comm]
end Go.Mir
namespace Go.Mir
theorem zP {c:UInt8}{l:List UInt8} (h:c≠92):kH (c :: l)=c :: kH l:=by
 cases l with
 | nil=>rfl
 | cons d l=>
  conv=>lhs; unfold kH
  rw [if_neg (fun hh=>h hh.1)]
theorem Hg {d:UInt8}{l:List UInt8} (h:d=96∨d=92∨d=36):kH (92 :: d :: l)=d :: kH l:=by
 conv=>lhs; unfold kH
 rw [if_pos ⟨rfl,h⟩]
theorem Mh {d:UInt8}{l:List UInt8} (h:¬ (d=96∨d=92∨d=36)):kH (92 :: d :: l)=92 :: d :: kH l:=by
 conv=>lhs; unfold kH
 rw [if_neg (fun hh=>h hh.2),zP (fun hh=>h (.inr (.inl hh)))]
theorem lB {l:List UInt8}{i j:Nat} (h:i < j) (hj:j≤l.length):sub l i j=l[i] :: sub l (i + 1) j:=by
 unfold sub;rw [dp (show i < l.length by omega),show j - i=(j - (i + 1)) + 1 by omega,List.take_succ_cons]
theorem Cy {l:List UInt8}{i j:Nat} (h:j≤i):sub l i j=[]:=by
 unfold sub; rw [show j - i=0 by omega,List.take_zero]
theorem ro {l:List UInt8}{i:Nat} (h:i < l.length) {c:UInt8} (hc:bt l i=c.toNat):l[i]=c:=UInt8.toNat_inj.1 (by rw [← cf h,hc])
theorem ju {l:List UInt8}{i:Nat} (h:i < l.length):sub l i (i + 1)=[l[i]]:=by
 rw [lB (by omega) h,Cy (Nat.le_refl _)]
end Go.Mir
namespace Go.Proofs.YtioblbopbilmaaaGreatDoor
open Go Go.EvL Go.PE Go.Mir
variable {ext:aw}
theorem unq_len:∀l:List UInt8,(kH l).length≤l.length
 | []=>Nat.le_refl _
 | [c]=>Nat.le_refl _
 | c :: d :: l=>by
  unfold kH;split
  ·have:=unq_len l; simp only [List.length_cons]; omega
  ·have:=unq_len (d :: l); simp only [List.length_cons] at *; omega
theorem KT {l:List UInt8} (i j:Nat) (hb:l.length < 1000000) (h:j≤l.length):(kH (sub l i j)).length < 1000000:=by
 have:=unq_len (sub l i j);rw [de h] at this;omega
section
variable {l:List UInt8} (hb:l.length < 1000000)
include hb
theorem Kq {a r:Nat} (ha:a < l.length) (R:Option ZR) (F:ZC→Option ZR) (ht:(kH (sub l (a + 1) (r - 1))).length < 1000000) (s:PS) (x:PV) (hend:∀f,f 0=sv l→f 5=iv r→f 7=sv (kH (sub l (a + 1) (r - 1)))→f 1=iv a→f 4=x→zr Tryz.prog Γ ext F kA f s []=R) :
  ∀(n i:Nat) (t:List UInt8) (f:aE),i≤l.length→rd l n (.bq i a)=(r,0)→t ++ kH (sub l i (r - 1))=kH (sub l (a + 1) (r - 1))→f 0=sv l→f 1=iv a→f 4=x→f 5=iv r→f 7=sv t→f 8=iv i→rl Tryz.prog Γ ext (F) 0 lV kA f s []=R:=by
 intro n
 induction n with
 | zero=>intro i t f hi h; cases h
 | succ n ih=>
  intro i t f hi h he h0 h1 h4 h5 h7 h8;have hil:i < l.length:=by
   rw [rd] at h;by_cases hh:i < l.length
   ·exact hh
   ·rw [if_neg hh] at h; cases h
  have hr1:i < r:=by
   have:=(hJ l (n + 1) (.bq i a) ⟨hi,ha⟩).2 (by rw [h]);rw [h] at this; exact this
  have hrl:r≤l.length:=by
   have:=(hJ l (n + 1) (.bq i a) ⟨hi,ha⟩).1;rw [h] at this; exact this
  have hlt:=congrArg List.length he;rw [List.length_append] at hlt;have hsb1:(sb l i (i + 1)).length=1:=congrArg List.length (ju hil);have hsb2:i + 1 < l.length→(sb l (i + 1) (i + 1 + 1)).length=1:=fun h=>congrArg List.length (ju h);rw [rd,if_pos hil] at h;by_cases c96:bt l i=96
  ·rw [if_pos c96] at h;have hr2:r=i + 1:=by injection h with h _; exact h.symm
   rw [Cy (by omega),show kH []=[] from rfl,List.append_nil] at he;subst he;refine ar (by unfold lV; rfl) (by unfold kA; rfl) ?_; intro hr R hR;simp -implicitDefEqProofs (disch:=first | assumption | (apply Ar.mk; omega)) only [ZN,↓df,qA,↓reduceIte,aa,h5,h8];subst hR;exact hend _ h0 h5 h7 h1 h4
  ·rw [if_neg c96] at h;by_cases c92:bt l i=92
   ·rw [if_pos c92] at h;by_cases he1:i + 1=l.length
    ·rw [if_pos he1] at h; cases h
    ·rw [if_neg he1] at h;have hr2:i + 2 < r:=by
      have:=(hJ l n (.bq (i + 2) a) ⟨by omega,ha⟩).2 (by rw [h]);rw [h] at this; exact this
     rw [lB (by omega) (by omega),lB (i:=i + 1) (by omega) (by omega),ro hil (c:=92) c92] at he;have hs1:=ju (l:=l) (i:=i + 1) (by omega);have hsb2:=hsb2 (by omega);have e1:l[i + 1].toNat=bt l (i + 1):=(cf (by omega)).symm;by_cases sp:bt l (i + 1)=96∨bt l (i + 1)=92∨bt l (i + 1)=36
     ·rw [Hg (by rcases sp with h | h | h; exact .inl (UInt8.toNat_inj.1 (by rw [e1,h]; rfl)); exact .inr (.inl (UInt8.toNat_inj.1 (by rw [e1,h]; rfl))); exact .inr (.inr (UInt8.toNat_inj.1 (by rw [e1,h]; rfl))))] at he;refine ar (by unfold lV; rfl) (by unfold kA; rfl) ?_; intro hr R hR;simp -implicitDefEqProofs (disch:=first | assumption | (apply Ar.mk; first | omega | (simp only [Zj]; omega))) only [ZN,↓dt,qA,↓reduceIte,reduceCtorEq,aa,bk,↓bR,h0,h5,h7,h8];subst hR;refine ih (i + 2) (t ++ [l[i + 1]]) _ ?_ h ?_ ?_ ?_ ?_ ?_ ?_ ?_
      all_goals first | omega | assumption | rfl | skip
      ·rw [← he,List.append_assoc]; rfl
      ·show sv (t ++ sub l (i + 1) (i + 1 + 1))=_; rw [hs1]
     ·rw [Mh (fun hh=>sp (by rw [← e1]; rcases hh with h | h | h<;>rw [h]<;>simp))] at he;have hs0:=ju (l:=l) (i:=i) (by omega);refine ar (by unfold lV; rfl) (by unfold kA; rfl) ?_; intro hr R hR;simp -implicitDefEqProofs (disch:=first | assumption | (apply Ar.mk; first | omega | (simp only [Zj]; omega))) only [ZN,↓dt,↓df,qA,↓reduceIte,reduceCtorEq,aa,bk,bI,↓bR,h0,h5,h7,h8];subst hR;refine ar (by unfold lV; rfl) (by unfold kA; rfl) ?_; intro hr R hR;simp -implicitDefEqProofs (disch:=first | assumption | (apply Ar.mk; first | omega | (simp only [Zj]; omega))) only [ZN,↓dt,ai,qA,↓reduceIte,reduceCtorEq,aa,bI,↓ed,h0,h5];subst hR;refine ih (i + 2) (t ++ [92] ++ [l[i + 1]]) _ ?_ h ?_ ?_ ?_ ?_ ?_ ?_ ?_
      all_goals first | omega | assumption | rfl | skip
      ·rw [← he]; simp
      ·show sv (t ++ sub l i (i + 1) ++ sub l (i + 1) (i + 1 + 1))=_; rw [hs1,hs0,ro hil (c:=92) c92]
   ·rw [if_neg c92] at h;have hr2:i + 1 < r:=by
     have:=(hJ l n (.bq (i + 1) a) ⟨by omega,ha⟩).2 (by rw [h]);rw [h] at this; exact this
    rw [lB (by omega) (by omega),zP (fun hh=>c92 (by rw [cf hil,hh]; rfl))] at he;have hs1:=ju (l:=l) (i:=i) (by omega);refine ar (by unfold lV; rfl) (by unfold kA; rfl) ?_; intro hr R hR;simp -implicitDefEqProofs (disch:=first | assumption | (apply Ar.mk; first | omega | (simp only [Zj]; omega))) only [ZN,↓dt,ai,qA,↓reduceIte,reduceCtorEq,aa,bI,↓ed,h0,h5,h7,h8];subst hR;refine ih (i + 1) (t ++ [l[i]]) _ ?_ h ?_ ?_ ?_ ?_ ?_ ?_ ?_
    all_goals first | omega | assumption | rfl | skip
    ·rw [← he,List.append_assoc]; rfl
    ·show sv (t ++ sub l i (i + 1))=_; rw [hs1]
theorem HN {a:Nat} (ha:a < l.length) (h96:bt l a=96) (s:PS):ah Tryz.prog Γ ext 183 [sv l,iv a] s=some (.ok (iQ (fJ LL l a)) s):=by
 have h1:∀s,ah Tryz.prog Γ ext 179 [sv l,iv a,iv 0] s=_:=oO (ext:=ext) (l:=l) (by omega) (ly l) (.pass a 0) ha (by simp only [aV.size,ly]; omega);have e:lx l (.pass a 0)=lx l (.bq (a + 1) a):=by
  unfold lx;rw [kQ (n:=ly l) (m:=3 * l.length + 2 + 1) (t:=.pass a 0) ha (by simp only [aV.size,ly]; omega) (by simp only [aV.size]; omega),kQ (n:=ly l) (m:=3 * l.length + 2) (t:=.bq (a + 1) a) ⟨ha,ha⟩ (by simp only [aV.size,ly]; omega) (by simp only [aV.size]; omega)];rw [rd,if_neg (by omega),if_pos h96]
 have h1:∀s,ah Tryz.prog Γ ext 179 [sv l,iv a,iv 0] s=some (.ok (.tup [iv (lx l (.pass a 0)).1,iv (lx l (.pass a 0)).2]) s):=h1;rw [e] at h1;have hok:=jq (l:=l) (t:=.bq (a + 1) a) ⟨ha,ha⟩;simp only [aV.at] at hok;have hul:=fun h=>KT (l:=l) (a + 1) ((lx l (.bq (a + 1) a)).1 - 1) (by omega) h;unfold fJ;generalize hr:lx l (.bq (a + 1) a)=r at *;obtain⟨r,y⟩:=r;simp only at *;generalize hu:kH (sub l (a + 1) (r - 1))=u at *;refine bF (fn:=MI) 4 3 rfl rfl rfl rfl (by unfold MI; rfl) ?_; intro R hR;simp -implicitDefEqProofs (disch:=first | assumption | (apply Ar.mk; omega)) only [ZN,ai,qA,↓reduceIte,qB,reduceCtorEq,aa,ZM,h1,kP];apply DI_c<;>intro h0
 ·subst hR;rw [if_pos h0]; rfl
 have h0:y=0:=by omega
 subst h0;have hu2:(kH (sub l (a + 1) (r - 1))).length < 1000000:=by rw [hu]; exact hul (by omega)
 refine Kq hb ha R _ hu2 _ (.ptr s.n 0 3) ?_ (ly l) (a + 1) [] _ (by omega) hr rfl rfl rfl rfl rfl rfl rfl;intro f f0 f5 f7 f1 f4;have f7:f 7=sv u:=by rw [f7,hu]
 have hc:=fun t (ht:Ar (List.length t < 999999990))=>Gp (ext:=ext) (l:=t) (t:=t) (by have:=ht.h; omega) ht.h;clear hr h1;have hul:=hul (by omega);unfold kA;simp -implicitDefEqProofs (disch:=first | assumption | (apply Ar.mk; first | omega | (simp only [Zj]; omega))) only [ZN,↓df,ai,qA,↓reduceIte,qB,qC,aa,aD,ZM,f1,f4,f5,f7,hc,kP,nK,bU,eJ];subst hR;rw [if_neg (by omega)];have hsp:(¬u.length=0∧bt u 0=40)↔u.head?=some 40:=by
  cases u with
  | nil=>simp
  | cons c t=>
   show (¬ (t.length + 1)=0∧c.toNat=40)↔some c=some 40;constructor
   ·rintro⟨_,h⟩; rw [UInt8.toNat_inj.1 (show c.toNat=(40:UInt8).toNat from h)]
   ·intro h; injection h with h; subst h; exact⟨by omega,rfl⟩
 apply DI_c<;>intro h
 ·rw [show lH u=32 :: u from if_pos (hsp.1 h)]
  (repeat' (apply DI_c<;>intro))<;>(repeat' split)<;>first | rfl | contradiction | omega | (exfalso; simp_all; done)
 ·rw [show lH u=u from if_neg fun hh=>h (hsp.2 hh)]
  (repeat' (apply DI_c<;>intro))<;>(repeat' split)<;>first | rfl | contradiction | omega | (exfalso; simp_all; done)
end
end Go.Proofs.YtioblbopbilmaaaGreatDoor
namespace Go.Mir
open Go Go.PE
def bC (c:UInt8):List PV:=[.sc (.int .u8 (c.toNat:Int))]
theorem tK (c:UInt8):(bC c).length=1:=rfl
theorem zf (l:List UInt8):fC (l.flatMap bC)=some l:=by
 induction l with
 | nil=>rfl
 | cons c l ih=>
  show (fC (l.flatMap bC)).map _=_;rw [ih];simp [UInt8.ofNat_toNat]
def zA (t:List UInt8):List aJ:=if t.length=0 then [] else [ck t]
def xR (l:List aJ):Prop:=∀q,l.getLast?=some q→q.kind≠1
theorem Ej {ls:List aJ}{tx t:List UInt8} (h:xR ls) (ht:t≠[]):fx (ls ++ zA tx) t=ls ++ zA (tx ++ t):=by
 have hl:(tx ++ t).length≠0:=by simpa using fun _=>ht
 unfold zA;rw [if_neg hl];by_cases h0:tx.length=0
 ·rw [if_pos h0,List.append_nil];have e:tx=[]:=List.length_eq_zero_iff.1 h0;subst e;unfold fx;cases hg:ls.getLast? with
  | none=>rw [List.getLast?_eq_none_iff] at hg; subst hg; rfl
  | some q=>simp only; rw [if_neg (h q hg)]; rfl
 ·rw [if_neg h0];unfold fx;rw [List.getLast?_append];simp [ck,aJ.kind,aJ.text]
theorem uP:xR []:=fun q h=>by cases h
theorem BB {l:List aJ}{q:aJ} (h:q.kind≠1):xR (l ++ [q]):=fun x hx=>by
 rw [List.getLast?_append] at hx; simp at hx; subst hx; exact h
end Go.Mir
namespace Go.PE
open Go Go.EvL
theorem oD.fr {α:Type}{e es b:Nat}{c:α→List PV}{X:Nat→Prop}{l:List α}{v:PV}{s s':PS} (h:oD e es c b X l v s) (hn:s.n≤s'.n) (hh:∀j,b≤j→j < s.n→(∀m f,v=.own j 0 m f→s'.h j=s.h j)):oD e es c b X l v s':=by
 rcases h with h | ⟨hl,k,low,k1,k2,kx,rfl,k3,k4⟩
 ·exact .inl h
 ·exact .inr ⟨hl,k,low,k1,by omega,kx,rfl,by rw [hh k k1 k2 _ _ rfl]; exact k3,k4⟩
end Go.PE
namespace Go.Proofs.YtioblbopbilmaaaGreatDoor
open Go Go.EvL Go.PE Go.Mir
variable {ext:aw}
theorem lX {z:Option ZR}{v:PV}{s:PS}{Q:PS→Prop} (h:z=some (.ok v s)) (q:Q s):∃s,z=some (.ok v s)∧Q s:=⟨s,h,q⟩
theorem dN (a e:Nat) (s:PS):ah Tryz.prog Γ ext 110 [iv a,iv e] s=some (.pan (lw a e) s):=by
 refine am (fn:=MM) [] rfl rfl rfl rfl (by unfold MM; rfl) ?_; intro R hR;simp -implicitDefEqProofs (disch:=first | assumption | (apply Ar.mk; omega)) only [ZN,ai,qA,↓reduceIte,qB,qC,aa,aD,ZM];subst hR;rfl
abbrev lr (l:List UInt8) (a pl:Nat) (od:Bool) (lv:Nat) (fr:Int) (o:Nat) (tv v:PV):List PV:=[sv l,iv a,iv pl,.sc (.bool od),iv lv,.sc (.int .i64 fr),iv o,tv,v]
def ID:Nat→Prop:=fun _=>False
structure Sc (l:List UInt8) (k pl:Nat) (od:Bool) (lv:Nat) (fr:Int) (a o:Nat) (acc:List aJ) (s:PS):Prop where
 ex:∃(tx:List UInt8) (ls:List aJ) (tv v:PV) (low:Nat),low≤9∧s.h k=⟨lr l a pl od lv fr o tv v,low,169⟩∧oD 5 1 bC (k + 1) ID tx tv s∧oD 135 5 cJ (k + 1) ID ls v s∧(∀j m f m' f',tv=.own j 0 m f→v≠.own j 0 m' f')∧acc=ls ++ zA tx∧xR ls∧tx.length + ls.length≤a
 n:k < s.n
 a:a≤l.length
structure Fr (k:Nat) (s s':PS):Prop where
 n:s.n≤s'.n
 h:∀j,j < k→s'.h j=s.h j
 w:∀n0,n0≤k→n0≤s.w→n0≤s'.w
theorem Fr.refl {k:Nat}{s:PS} : Fr k s s:=⟨Nat.le_refl _,fun _ _=>rfl,fun _ _ h=>h⟩
theorem Fr.trans {k:Nat}{s s' s'':PS} (h:Fr k s s') (h':Fr k s' s''):Fr k s s'':=⟨Nat.le_trans h.n h'.n,fun j hj=>(h'.h j hj).trans (h.h j hj),fun n0 a c=>h'.w n0 a (h.w n0 a c)⟩
def MR (l:List UInt8) (k pl:Nat) (od:Bool) (lv:Nat) (fr:Int) (s:PS) (z:Option ZR):Except (Nat × Nat) (Nat × Nat × List aJ)→Prop
 | .ok (a,o,acc)=>∃s',z=some (.ok (.tup []) s')∧Sc l k pl od lv fr a o acc s'∧Fr k s s'
 | .error (x,e)=>∃s',z=some (.pan (lw x e) s')∧Fr k s s'
section
variable {l:List UInt8} (hb:l.length < 16385) {k pl:Nat}{od:Bool}{lv:Nat}{fr:Int}{a o:Nat}{acc:List aJ}{s:PS}
include hb
theorem EB (h:Sc l k pl od lv fr a o acc s) (c:UInt8) {n:Nat} (hn : 1≤n) (ha:a + n≤l.length):MR l k pl od lv fr s (ah Tryz.prog Γ ext 172 [.ptr k 0 9,cv c.toNat,iv n] s) (.ok (a + n,o,fx acc [c])):=by
 obtain⟨⟨tx,ls,tv,v,low,hlow,hk,ht,hl,hd,rfl,hno,hz⟩,hkn,_⟩:=h;rw [MR,Ej hno (by simp)];rcases ht with ⟨rfl,rfl⟩ | ⟨htx,kt,lt,t1,t2,_,rfl,t3,t4⟩
 ·apply lX
  ·refine aK (fn:=Ft) [] rfl rfl rfl rfl (by unfold Ft; rfl) ?_; intro R hR;simp -implicitDefEqProofs (disch:=first | assumption | (apply Ar.mk; first | omega | (simp only [Zj]; omega))) only [ZN,ai,qA,↓reduceIte,qB,qC,reduceCtorEq,aa,aD,ae,ad,ZM,qF,hk];exact hR.symm
  ·refine⟨⟨⟨[c],ls,.own (s.n + 1) 0 1 1,v,9,Nat.le_refl _,?_,?_,?_,?_,rfl,hno,?_⟩,?_,ha⟩,?_,fun j hj=>?_,fun n0 h1 h2=>?_⟩
   ·simp -implicitDefEqProofs (disch:=(apply Ar.mk; (try simp only [aj,ak]); omega)) only [ap,ao,aj,au,aI]
   ·refine .inr ⟨by simp,s.n + 1,0,by omega,?_,id,rfl,?_,Nat.zero_le _⟩
    ·(simp only []; omega)
    ·simp -implicitDefEqProofs (disch:=(apply Ar.mk; (try simp only [aj,ak]); omega)) only [ap,ao,aj,au,aI]; rfl
   ·exact hl.fr (by (simp only []; omega)) fun j h1 h2 _ _ _=>by simp -implicitDefEqProofs (disch:=(apply Ar.mk; (try simp only [aj,ak]); omega)) only [ap,ao,aj,au]
   ·intro j m f m' f' h1 h2;injection h1 with h1;rcases hl with ⟨_,rfl⟩ | ⟨_,k',low',_,k2,_,rfl,_⟩
    ·cases h2
    ·injection h2 with h2; omega
   ·simp at hz ⊢; omega
   ·(simp only []; omega)
   ·(simp only []; omega)
   ·simp -implicitDefEqProofs (disch:=(apply Ar.mk; (try simp only [aj,ak]); omega)) only [ap,ao,aj,au]
   ·(simp only []; omega)
 ·have htl:=bB tK tx;have hb1:=tK;generalize hT:tx.flatMap bC=T at *;have hkt:v≠.own kt 0 ls.length (ls.length * 5):=hd kt _ _ _ _ rfl;apply lX
  ·refine aK (fn:=Ft) [] rfl rfl rfl rfl (by unfold Ft; rfl) ?_; intro R hR;simp -implicitDefEqProofs (disch:=first | assumption | (apply Ar.mk; first | omega | (simp only [Zj]; omega))) only [ZN,ai,qA,↓reduceIte,qB,qC,reduceCtorEq,aa,aD,ae,ad,ZM,qF,hk,t3];exact hR.symm
  ·refine⟨⟨⟨tx ++ [c],ls,.own kt 0 (tx.length + 1) (tx.length * 1 + 1),v,9,Nat.le_refl _,?_,?_,?_,?_,rfl,hno,?_⟩,?_,ha⟩,?_,fun j hj=>?_,fun n0 h1 h2=>?_⟩
   ·simp -implicitDefEqProofs (disch:=(apply Ar.mk; (try simp only [aj,ak]); omega)) only [ap,ao,au,aI]
   ·refine .inr ⟨by simp,kt,lt,t1,?_,id,by simp,?_,by simp; omega⟩
    ·(simp only []; omega)
    ·simp -implicitDefEqProofs (disch:=(apply Ar.mk; (try simp only [aj,ak]); omega)) only [ap,ao,au,aI]; simp only [List.flatMap_append,hT]; rfl
   ·refine hl.fr (by (simp only []; omega)) fun j h1 h2 m f he=>?_;have:j≠kt:=fun h=>hd kt _ _ m f rfl (h ▸ he);simp -implicitDefEqProofs (disch:=(apply Ar.mk; (try simp only [aj,ak]); omega)) only [ap,ao,au]
   ·intro j m f m' f' h1 h2;injection h1 with h1 _ _ _;exact hd kt _ _ m' f' rfl (h1 ▸ h2)
   ·simp at hz ⊢; omega
   ·(simp only []; omega)
   ·(simp only []; omega)
   ·simp -implicitDefEqProofs (disch:=(apply Ar.mk; (try simp only [aj,ak]); omega)) only [ap,ao,au]
   ·(simp only []; omega)
omit hb in
theorem Cn {tx:List UInt8}{ls:List aJ}{tv v:PV}{low:Nat} (hlow:low≤9) (hk:s.h k=⟨lr l a pl od lv fr o tv v,low,169⟩) (ht:oD 5 1 bC (k + 1) ID tx tv s) (hl:oD 135 5 cJ (k + 1) ID ls v s) (hd:∀j m f m' f',tv=.own j 0 m f→v≠.own j 0 m' f') (hkn:k < s.n) (hz:tx.length + ls.length < 1000000) :
  ∃s',ah Tryz.prog Γ ext 143 [.ptr k 0 9] s=some (.ok (.tup []) s')∧∃v' low',low'≤9∧s'.h k=⟨lr l a pl od lv fr o nv v',low',169⟩∧oD 135 5 cJ (k + 1) ID (ls ++ zA tx) v' s'∧(∀j,j < s.n→j≠k→(∀m f,v≠.own j 0 m f)→s'.h j=s.h j)∧Fr k s s':=by
 rcases ht with ⟨rfl,rfl⟩ | ⟨htx,kt,lt,t1,t2,_,rfl,t3,t4⟩
 ·apply lX
  ·refine aK (fn:=BQ) [] rfl rfl rfl rfl (by unfold BQ; rfl) ?_; intro R hR;simp -implicitDefEqProofs (disch:=first | assumption | (apply Ar.mk; first | omega | (simp only [Zj]; omega))) only [ZN,ai,↓reduceIte,qB,qC,qD,reduceCtorEq,aa,ae,ad,ZM,hk];exact hR.symm
  ·refine⟨v,low,hlow,hk,?_,fun _ _ _ _=>rfl,Nat.le_refl _,fun j hj=>rfl,fun n0 h1 h2=>by (simp only []; omega)⟩;rw [show ls ++ zA []=ls from List.append_nil _];exact hl.fr (Nat.le_refl _) fun _ _ _ _ _ _=>rfl
 ·have htl:=bB tK tx;have htp : 0 < tx.length:=List.length_pos_iff.2 htx;have hT0:=zf tx;generalize hT:tx.flatMap bC=T at *;have hT1:T.take (tx.length * 1)=T:=List.take_of_length_le (by omega);have hkt:v≠.own kt 0 ls.length (ls.length * 5):=hd kt _ _ _ _ rfl;rcases hl with ⟨rfl,rfl⟩ | ⟨hls,kl,ll,l1,l2,_,rfl,l3,l4⟩
  ·apply lX
   ·refine aK (fn:=BQ) [] rfl rfl rfl rfl (by unfold BQ; rfl) ?_; intro R hR;simp -implicitDefEqProofs (disch:=first | assumption | (apply Ar.mk; first | omega | (simp only [Zj]; omega)) | (apply Ak.mk; first | rfl | exact .inl rfl | exact .inr rfl | exact aq _ _ | exact av _ _ | (unfold aG az; simp<;>omega) | with_unfolding_all rfl | exact .inr (by with_unfolding_all rfl))) only [ZN,↓dt,ai,qA,↓reduceIte,qB,qC,qD,reduceCtorEq,aa,aD,ae,ad,ZM,qF,ZV,aW,aZ,aS,hk,t3,hT0,hT1];exact hR.symm
   ·refine⟨.own (s.n + 1) 0 1 5,9,Nat.le_refl _,?_,?_,fun j _ _ _=>by simp -implicitDefEqProofs (disch:=(apply Ar.mk; (try simp only [aj,ak]); omega)) only [ap,ao,aj,au],?_,fun j hj=>?_,fun n0 h1 h2=>?_⟩
    ·simp -implicitDefEqProofs (disch:=(apply Ar.mk; (try simp only [aj,ak]); omega)) only [ap,ao,aj,au,aI]
    ·rw [show [] ++ zA tx=[ck tx] from if_neg (by omega)];refine .inr ⟨by simp,s.n + 1,5,by omega,by (simp only []; omega),id,rfl,?_,Nat.le_refl _⟩;simp -implicitDefEqProofs (disch:=(apply Ar.mk; (try simp only [aj,ak]); omega)) only [ap,ao,aj,au,aI];simp only [ck,List.flatMap_cons,List.flatMap_nil,cJ,dl]; rfl
    ·(simp only []; omega)
    ·simp -implicitDefEqProofs (disch:=(apply Ar.mk; (try simp only [aj,ak]); omega)) only [ap,ao,aj,au]
    ·(simp only []; omega)
  ·have hkl:kl≠kt:=fun h=>hkt (by rw [h]);have hll:=bB fq ls;generalize hL:ls.flatMap cJ=L at *;apply lX
   ·refine aK (fn:=BQ) [] rfl rfl rfl rfl (by unfold BQ; rfl) ?_; intro R hR;simp -implicitDefEqProofs (disch:=first | assumption | (apply Ar.mk; first | omega | (simp only [Zj]; omega)) | (apply Ak.mk; first | rfl | exact .inl rfl | exact .inr rfl | exact aq _ _ | exact av _ _ | (unfold aG az; simp<;>omega) | with_unfolding_all rfl | exact .inr (by with_unfolding_all rfl))) only [ZN,↓dt,ai,qA,↓reduceIte,qB,qC,reduceCtorEq,aa,aD,ae,ad,ZM,qF,ZV,aW,aZ,aS,hk,t3,l3,hT0,hT1];exact hR.symm
   ·refine⟨.own kl 0 (ls.length + 1) (ls.length * 5 + 5),9,Nat.le_refl _,?_,?_,fun j _ _ hv=>by have:j≠kl:=fun h=>hv ls.length (ls.length * 5) (by rw [h]); simp -implicitDefEqProofs (disch:=(apply Ar.mk; (try simp only [aj,ak]); omega)) only [ap,ao,au],?_,fun j hj=>?_,fun n0 h1 h2=>?_⟩
    ·simp -implicitDefEqProofs (disch:=(apply Ar.mk; (try simp only [aj,ak]); omega)) only [ap,ao,au,aI]
    ·rw [show ls ++ zA tx=ls ++ [ck tx] from by rw [zA,if_neg (by omega)]];refine .inr ⟨by simp,kl,ls.length * 5 + 5,l1,by (simp only []; omega),id,?_,?_,by simp; omega⟩
     ·simp only [List.length_append,List.length_cons,List.length_nil]; congr 1; omega
     ·simp -implicitDefEqProofs (disch:=(apply Ar.mk; (try simp only [aj,ak]); omega)) only [ap,ao,au,aI];rw [List.take_left' hll,List.drop_eq_nil_of_le (by simp; omega)];simp only [List.flatMap_append,hL,ck,List.flatMap_cons,List.flatMap_nil,cJ,dl,List.append_nil]; rfl
    ·(simp only []; omega)
    ·simp -implicitDefEqProofs (disch:=(apply Ar.mk; (try simp only [aj,ak]); omega)) only [ap,ao,au]
    ·(simp only []; omega)
theorem qM (h:Sc l k pl od lv fr a o acc s) {q:aJ} (hq:q.kind≠1) {j:Nat} (hj:a < j) (hjl:j≤l.length):MR l k pl od lv fr s (ah Tryz.prog Γ ext 194 [.ptr k 0 9,.agg (cJ q),iv j] s) (.ok (j,o,dO acc q)):=by
 obtain⟨⟨tx,ls,tv,v,low,hlow,hk,ht,hl,hd,rfl,hno,hz⟩,hkn,_⟩:=h;have hf:=Cn (ext:=ext) (s:=(⟨s.h,s.n,s.n⟩ : PS).new ⟨cJ q,0,135⟩) hlow (by simp -implicitDefEqProofs (disch:=(apply Ar.mk; (try simp only [aj,ak]); omega)) only [ap,au]; exact hk) (ht.fr (by (simp only [aj]; omega)) fun j h1 h2 _ _ _=>by simp -implicitDefEqProofs (disch:=(apply Ar.mk; (try simp only [aj,ak]); omega)) only [ap,au]) (hl.fr (by (simp only [aj]; omega)) fun j h1 h2 _ _ _=>by simp -implicitDefEqProofs (disch:=(apply Ar.mk; (try simp only [aj,ak]); omega)) only [ap,au]) hd (by (simp only [aj]; omega)) (by omega);obtain⟨s1,z1,v1,low1,hlow1,hk1,hl1,hfr,fr1⟩:=hf;have hn1:s.n + 1≤s1.n:=fr1.n;rw [MR,show dO (ls ++ zA tx) q=ls ++ zA tx ++ [q] from if_neg hq];have hno1:=BB (l:=ls ++ zA tx) hq;have hq4:s1.h s.n=⟨cJ q,0,135⟩:=by
  rw [hfr s.n (by (simp only [aj]; omega)) (by omega) fun m f he=>?_]
  ·simp -implicitDefEqProofs (disch:=(apply Ar.mk; (try simp only [aj,ak]); omega)) only [ap,aI]
  ·rcases hl with ⟨_,rfl⟩ | ⟨_,k',low',_,k2,_,rfl,_⟩
   ·cases he
   ·injection he with he; omega
 generalize hls:ls ++ zA tx=ls1 at *;have hlen:ls1.length≤tx.length + ls.length:=by
  rw [← hls,List.length_append,zA]; split<;>simp; omega
 obtain⟨qk,qt,qo,qc,qp⟩:=q;simp only [cL] at *;rcases hl1 with ⟨rfl,rfl⟩ | ⟨hls,kl,ll,l1,l2,_,rfl,l3,l4⟩
 ·apply lX
  ·refine aK (fn:=GL) [] rfl rfl rfl rfl (by unfold GL; rfl) ?_; intro R hR;simp -implicitDefEqProofs (disch:=first | assumption | (apply Ar.mk; first | omega | (simp only [Zj]; omega)) | (apply Ak.mk; first | rfl | exact .inl rfl | exact .inr rfl | exact aq _ _ | exact av _ _ | (unfold aG az; simp<;>omega) | with_unfolding_all rfl | exact .inr (by with_unfolding_all rfl))) only [ZN,ai,qA,↓reduceIte,qB,qC,qD,reduceCtorEq,aa,aD,ae,ad,ZM,qF,ZV,aW,aZ,aS,z1,hk1,hq4,bU];exact hR.symm
  ·refine⟨⟨⟨[],[.mk qk qt qo qc qp],nv,.own (s1.n + 1) 0 1 5,9,Nat.le_refl _,?_,.inl ⟨rfl,rfl⟩,?_,?_,rfl,hno1,?_⟩,?_,hjl⟩,?_,fun i hi=>?_,fun n0 h1 h2=>?_⟩
   ·simp -implicitDefEqProofs (disch:=(apply Ar.mk; (try simp only [aj,ak]); omega)) only [ap,ao,aj,au,aI]
   ·refine .inr ⟨by simp,s1.n + 1,5,by omega,by (simp only []; omega),id,rfl,?_,Nat.le_refl _⟩;simp -implicitDefEqProofs (disch:=(apply Ar.mk; (try simp only [aj,ak]); omega)) only [ap,ao,aj,au,aI];simp only [List.flatMap_cons,List.flatMap_nil,cJ]; rfl
   ·intro j m f m' f' h; cases h
   ·simp; omega
   ·(simp only []; omega)
   ·(simp only []; omega)
   ·simp -implicitDefEqProofs (disch:=(apply Ar.mk; (try simp only [aj,ak]); omega)) only [ap,ao,aj,au]; rw [fr1.h i hi]; simp -implicitDefEqProofs (disch:=(apply Ar.mk; (try simp only [aj,ak]); omega)) only [ap,au]
   ·have:=fr1.w n0 h1 (show n0≤s.n by omega)
    (simp only []; omega)
 ·have hll:=bB fq ls1;generalize hL:ls1.flatMap cJ=L at *;apply lX
  ·refine aK (fn:=GL) [] rfl rfl rfl rfl (by unfold GL; rfl) ?_; intro R hR;simp -implicitDefEqProofs (disch:=first | assumption | (apply Ar.mk; first | omega | (simp only [Zj]; omega)) | (apply Ak.mk; first | rfl | exact .inl rfl | exact .inr rfl | exact aq _ _ | exact av _ _ | (unfold aG az; simp<;>omega) | with_unfolding_all rfl | exact .inr (by with_unfolding_all rfl))) only [ZN,ai,qA,↓reduceIte,qB,qC,reduceCtorEq,aa,aD,ae,ad,ZM,qF,ZV,aW,aZ,aS,z1,hk1,hq4,l3,bU];exact hR.symm
  ·refine⟨⟨⟨[],ls1 ++ [.mk qk qt qo qc qp],nv,.own kl 0 (ls1.length + 1) (ls1.length * 5 + 5),9,Nat.le_refl _,?_,.inl ⟨rfl,rfl⟩,?_,?_,(List.append_nil _).symm,hno1,?_⟩,?_,hjl⟩,?_,fun i hi=>?_,fun n0 h1 h2=>?_⟩
   ·simp -implicitDefEqProofs (disch:=(apply Ar.mk; (try simp only [aj,ak]); omega)) only [ap,ao,au,aI]
   ·refine .inr ⟨by simp,kl,ls1.length * 5 + 5,l1,by (simp only []; omega),id,?_,?_,by simp; omega⟩
    ·simp only [List.length_append,List.length_cons,List.length_nil]; congr 1; omega
    ·simp -implicitDefEqProofs (disch:=(apply Ar.mk; (try simp only [aj,ak]); omega)) only [ap,ao,au,aI];rw [List.take_left' hll,List.drop_eq_nil_of_le (by simp; omega)];simp only [List.flatMap_append,hL,List.flatMap_cons,List.flatMap_nil,cJ,List.append_nil]
   ·intro j m f m' f' h; cases h
   ·simp only [List.length_append,List.length_cons,List.length_nil]; omega
   ·(simp only []; omega)
   ·(simp only []; omega)
   ·simp -implicitDefEqProofs (disch:=(apply Ar.mk; (try simp only [aj,ak]); omega)) only [ap,ao,au]; rw [fr1.h i hi]; simp -implicitDefEqProofs (disch:=(apply Ar.mk; (try simp only [aj,ak]); omega)) only [ap,au]
   ·have:=fr1.w n0 h1 (show n0≤s.n by omega)
    (simp only []; omega)
end
end Go.Proofs.YtioblbopbilmaaaGreatDoor
namespace Go.Mir
def bW (pl:Nat) (od:Bool):Nat:=if pl=0 then (if od then 1 else 0) else if pl=1 then (if od then 3 else 2) else if pl=2 then (if od then 6 else 4) else (if od then 6 else 5)
theorem gg (l:List UInt8) (i j:Nat):bt (l.drop i) j=bt l (i + j):=by
 unfold bt; rw [List.getD_eq_getElem?_getD,List.getD_eq_getElem?_getD,List.getElem?_drop]
def gN (l:List UInt8) (i:Nat) (colon:Bool):Int × Nat:=
 if l.length≤i then (0,0) else if bt l i=45 then (1,1) else if bt l i=61 then (2,1) else if bt l i=63 then (3,1) else if bt l i=43 then (4,1) else
 if colon=true then (0,0) else if i + 1 < l.length∧bt l i=37∧bt l (i + 1)=37 then (7,2) else if i + 1 < l.length∧bt l i=35∧bt l (i + 1)=35 then (9,2) else
 if bt l i=37 then (6,1) else if bt l i=35 then (8,1) else (0,0)
def gY:Option Nat→Int
 | none=>-1
 | some n=>n
def u0 (l:List UInt8) (pl:Nat) (od:Bool) (fr:Option Nat) (a o:Nat):Except (Nat × Nat) Bool:=
 if a=l.length then (match fr with
  | none=>.ok true
  | some n=>.error (n,7))
 else if od=true then .ok (bt l a == 125) else if pl=1 then .ok (bt l a == 34) else
 if pl=2∧bt l a=41∧o=0 then (if a + 1=l.length then .error (fr.getD 0,7) else if bt l (a + 1)≠41 then .error (a,6) else .ok true) else .ok false
end Go.Mir
namespace Go.Proofs.YtioblbopbilmaaaGreatDoor
open Go Go.EvL Go.PE Go.Mir
variable {ext:aw}
theorem pg {β:Type}{p c:Prop} [Decidable p] [Decidable c] {A:p→Option ZR}{B:¬ p→Option ZR}{X Y:β} (f:β→Option ZR) (e:p↔c) (h1:∀h,A h=f X) (h2:∀h,B h=f Y):DI p A B=f (if c then X else Y):=by
 apply DI_c<;>intro h
 ·rw [if_pos (e.1 h)]; exact h1 h
 ·rw [if_neg fun hh=>h (e.2 hh)]; exact h2 h
theorem qe (c:Nat) (s:PS):ah Tryz.prog Γ ext 219 [cv c] s=some (.ok (bv (uc c=true)) s):=by
 refine am (fn:=Pv) [2] rfl rfl rfl rfl (by unfold Pv; rfl) ?_; intro R hR;simp -implicitDefEqProofs (disch:=first | assumption | (apply Ar.mk; omega)) only [ZN,ai,qA,↓reduceIte,reduceCtorEq,aa,ae,frz,frz2,aP];subst hR
 (repeat' (apply DI_c<;>intro))<;>first | rfl | (apply eU; simp [uc,cC, *]<;>omega) | (apply dT; simp [uc,cC, *]<;>omega) | (apply cZ; simp [uc,cC, *]<;>omega)
theorem i4 (c:Nat) (s:PS):ah Tryz.prog Γ ext 199 [cv c] s=some (.ok (bv (ay c=true)) s):=by
 refine am (fn:=Q6) [2] rfl rfl rfl rfl (by unfold Q6; rfl) ?_; intro R hR;simp -implicitDefEqProofs (disch:=first | assumption | (apply Ar.mk; omega)) only [ZN,ai,qA,↓reduceIte,reduceCtorEq,aa,ae,frz,frz2,aP];subst hR
 (repeat' (apply DI_c<;>intro))<;>first | rfl | (apply eU; simp [ay, *]<;>omega) | (apply dT; simp [ay, *]<;>omega) | (apply cZ; simp [ay, *]<;>omega)
theorem DT (pl c:Nat) (od:Bool) (hp:pl≤3) (s:PS):ah Tryz.prog Γ ext 195 [iv pl,cv c,.sc (.bool od)] s=some (.ok (bv (pl≠0∧ng c (bW pl od)=true)) s):=by
 cases od
 all_goals
  refine am (fn:=OR) [6] rfl rfl rfl rfl (by unfold OR; rfl) ?_; intro R hR;simp -implicitDefEqProofs (disch:=first | assumption | (apply Ar.mk; omega)) only [ZN,↓dt,ai,qA,↓reduceIte,qB,reduceCtorEq,aa,ae,frz,frz2,aP];subst hR
  (repeat' (apply DI_c<;>intro))<;>first | (apply eU; unfold ng bW; grind) | (apply dT; unfold ng bW; grind) | (apply cZ; unfold ng bW; grind)
theorem wg {l:List UInt8} (hb : 16384 < l.length) (hb2:l.length < 1000000) {a:Nat} (s:PS):ah Tryz.prog Γ ext 216 [sv l,iv a] s=some (.ok (.tup [iv 0,iv 3]) s):=by
 refine am (fn:=F9) [4,5] rfl rfl rfl rfl (by unfold F9; rfl) ?_; intro R hR;simp -implicitDefEqProofs (disch:=first | assumption | (apply Ar.mk; omega)) only [ZN,↓dt,ai,qA,↓reduceIte,qB,reduceCtorEq,aa,ae,frz,frz2,aP,aX];rw [hR]
theorem rF {t:List UInt8} (ht:t.length < 100000) (h40:t.head?≠some 40) (s:PS):ah Tryz.prog Γ ext 202 [sv t] s=some (.ok (bv (ik 16384 t)) s):=by
 have hw:(wrap t).length=t.length + 3:=by simp [wrap]
 have hbeg:ch (wrap t) 0=true:=by unfold ch wrap; simp [bt]
 have h1:∀s,ah Tryz.prog Γ ext 216 [sv (36 :: 40 :: (t ++ [41])),iv 0] s=some (.ok (.tup (if t.length + 3≤16384 then [iv (lx (wrap t) (.pass 0 0)).1,iv (lx (wrap t) (.pass 0 0)).2] else [iv 0,iv 3])) s):=fun s=>by
  by_cases h:t.length + 3≤16384
  ·rw [if_pos h,show (36 :: 40 :: (t ++ [41]))=wrap t from rfl,CB (by omega),if_pos ⟨by omega,by unfold oZ; rw [hbeg]; rfl⟩]
  ·rw [if_neg h,show (36 :: 40 :: (t ++ [41]))=wrap t from rfl,wg (by omega) (by omega)]
 have h2:(t=[]∨t.head?≠some 40):=.inr h40;generalize hx:lx (wrap t) (.pass 0 0)=x at h1;by_cases h:t.length + 3≤16384
 ·simp only [if_pos h] at h1;refine am (fn:=IC) [2] rfl rfl rfl rfl (by unfold IC; rfl) ?_; intro R hR;simp -implicitDefEqProofs (disch:=first | assumption | (apply Ar.mk; first | omega | (simp only [Zj]; omega))) only [ZN,ai,qA,↓reduceIte,reduceCtorEq,aa,ae,frz,frz2,aP,h1];subst hR;apply cZ;unfold ik;rw [hx];simp [h2,h]
 ·simp only [if_neg h] at h1;refine am (fn:=IC) [2] rfl rfl rfl rfl (by unfold IC; rfl) ?_; intro R hR;simp -implicitDefEqProofs (disch:=first | assumption | (apply Ar.mk; first | omega | (simp only [Zj]; omega))) only [ZN,ai,qA,↓reduceIte,reduceCtorEq,aa,ae,frz,frz2,aP,h1];subst hR
  (repeat' (apply DI_c<;>intro))<;>first | (apply dT; unfold ik; simp [h]; done) | skip
theorem cA (l:List UInt8) (hb:l.length < 1000000) (i:Nat) (colon:Bool) (s:PS):ah Tryz.prog Γ ext 217 [sv (l.drop i),.sc (.bool colon)] s=some (.ok (.tup [.sc (.int .i64 (gN l i colon).1),iv (gN l i colon).2]) s):=by
 have h:=fun b s=>eY (ext:=ext) (a:=l.drop i) (b:=b) (by rw [List.length_drop]; omega) s;have h0:=gg l i 0;rw [Nat.add_zero] at h0;have hld:(l.drop i).length=l.length - i:=List.length_drop;cases colon
 ·refine am (fn:=Iy) [4,5] rfl rfl rfl rfl (by unfold Iy; rfl) ?_; intro R hR;simp -implicitDefEqProofs (disch:=first | assumption | (apply Ar.mk; omega)) only [ZN,ai,qA,↓reduceIte,qB,reduceCtorEq,aa,ae,frz,frz2,aP,aX,h,h0];subst hR;unfold gN;let F:Int × Nat→Option ZR:=fun q=>some (.ok (.tup [.sc (.int .i64 q.1),iv q.2]) s);refine pg F (by first | exact Iff.rfl | omega) (fun h=>?_) fun h=>?_
  ·rfl
  refine pg F (by first | exact Iff.rfl | omega) (fun h=>?_) fun h=>?_
  ·rfl
  refine pg F (by first | exact Iff.rfl | omega) (fun h=>?_) fun h=>?_
  ·rfl
  refine pg F (by first | exact Iff.rfl | omega) (fun h=>?_) fun h=>?_
  ·rfl
  refine pg F (by first | exact Iff.rfl | omega) (fun h=>?_) fun h=>?_
  ·rfl
  rw [if_neg (by simp)];refine pg F (by rw [yr]; simp [and_assoc]) (fun h=>?_) fun h=>?_
  ·rfl
  refine pg F (by rw [yr]; simp [and_assoc]) (fun h=>?_) fun h=>?_
  ·rfl
  refine pg F (by first | exact Iff.rfl | omega) (fun h=>?_) fun h=>?_
  ·rfl
  refine pg F (by first | exact Iff.rfl | omega) (fun h=>?_) fun h=>?_
  ·rfl
  rfl
 ·refine am (fn:=Iy) [4,5] rfl rfl rfl rfl (by unfold Iy; rfl) ?_; intro R hR;simp -implicitDefEqProofs (disch:=first | assumption | (apply Ar.mk; omega)) only [ZN,ai,qA,↓reduceIte,qB,reduceCtorEq,aa,ae,frz,frz2,aP,aX,h0];subst hR;unfold gN;let F:Int × Nat→Option ZR:=fun q=>some (.ok (.tup [.sc (.int .i64 q.1),iv q.2]) s);refine pg F (by first | exact Iff.rfl | omega) (fun h=>?_) fun h=>?_
  ·rfl
  refine pg F (by first | exact Iff.rfl | omega) (fun h=>?_) fun h=>?_
  ·rfl
  refine pg F (by first | exact Iff.rfl | omega) (fun h=>?_) fun h=>?_
  ·rfl
  refine pg F (by first | exact Iff.rfl | omega) (fun h=>?_) fun h=>?_
  ·rfl
  refine pg F (by first | exact Iff.rfl | omega) (fun h=>?_) fun h=>?_
  ·rfl
  rw [if_pos rfl];rfl
def zE (s:PS) (r:Except (Nat × Nat) PV):Option ZR:=match r with
 | .ok v=>some (.ok v s)
 | .error (a,e)=>some (.pan (lw a e) s)
def zB (s:PS) (r:Except (Nat × Nat) Bool):Option ZR:=match r with
 | .ok b=>some (.ok (.sc (.bool b)) s)
 | .error (a,e)=>some (.pan (lw a e) s)
section
variable {l:List UInt8} (hb:l.length < 16385) {k pl:Nat}{od:Bool}{lv:Nat}{fr:Option Nat}{a o:Nat}{tv v:PV}{low:Nat}{s:PS} (hlow:low≤9) (hk:s.h k=⟨lr l a pl od lv (gY fr) o tv v,low,169⟩) (ha:a≤l.length)
include hb hlow hk ha
theorem Ja (hfr:pl=2→od=false→fr≠none):ah Tryz.prog Γ ext 141 [.ptr k 0 9] s=zB s (u0 l pl od fr a o):=by
 unfold u0;cases fr<;>cases od
 all_goals
  refine am (fn:=NY) [2] rfl rfl rfl rfl (by unfold NY; rfl) ?_; intro R hR;simp -implicitDefEqProofs (disch:=first | assumption | (apply Ar.mk; first | omega | (simp only [Zj]; omega)) | (apply Ak.mk; first | rfl | exact .inl rfl | exact .inr rfl | exact aq _ _ | exact av _ _ | (unfold aG az; simp<;>omega) | with_unfolding_all rfl | exact .inr (by with_unfolding_all rfl))) only [ZN,↓df,ai,qA,↓reduceIte,qB,qC,reduceCtorEq,aa,ae,frz,frz2,ad,ZM,ZV,aW,aZ,aS,hk,gY,dN];subst hR;simp only [Bool.false_eq_true,if_false,if_true]
  (repeat' (apply DI_c<;>intro))<;>(repeat' split)<;>first | rfl | omega | (exfalso; exact hfr (by omega) rfl rfl) | (exfalso; simp_all; done) | skip
theorem I7 {i:Nat} (hi:i≤l.length):ah Tryz.prog Γ ext 218 [.ptr k 0 9,iv i] s=zE s (.error (if i=l.length then (a,7) else (i,6))):=by
 refine am (fn:=OG) [] rfl rfl rfl rfl (by unfold OG; rfl) ?_; intro R hR;simp -implicitDefEqProofs (disch:=first | assumption | (apply Ar.mk; first | omega | (simp only [Zj]; omega)) | (apply Ak.mk; first | rfl | exact .inl rfl | exact .inr rfl | exact aq _ _ | exact av _ _ | (unfold aG az; simp<;>omega) | with_unfolding_all rfl | exact .inr (by with_unfolding_all rfl))) only [ZN,ai,qA,↓reduceIte,qB,qC,reduceCtorEq,aa,ad,ZM,hk,dN];subst hR
 (repeat' (apply DI_c<;>intro))<;>(repeat' split)<;>first | rfl | omega
theorem wJ {i e x:Nat} (hi:i < l.length) (he:i≤e) (hel:e≤l.length):ah Tryz.prog Γ ext 201 [.ptr k 0 9,iv i,iv e,iv x] s=zE s (if uc (bt l i)=true∧32 < e - i then .error (x,3) else .ok (.tup [])):=by
 refine am (fn:=PU) [] rfl rfl rfl rfl (by unfold PU; rfl) ?_; intro R hR;simp -implicitDefEqProofs (disch:=first | assumption | (apply Ar.mk; first | omega | (simp only [Zj]; omega)) | (apply Ak.mk; first | rfl | exact .inl rfl | exact .inr rfl | exact aq _ _ | exact av _ _ | (unfold aG az; simp<;>omega) | with_unfolding_all rfl | exact .inr (by with_unfolding_all rfl))) only [ZN,ai,qA,↓reduceIte,qB,qC,reduceCtorEq,aa,ae,frz,aX,ad,ZM,hk,dN,qe];subst hR
 (repeat' (apply DI_c<;>intro))<;>(repeat' split)<;>first | rfl | omega | (exfalso; simp_all; done)
theorem rM (hbeg:oZ l a=true) (hal:a < l.length):ah Tryz.prog Γ ext 197 [.ptr k 0 9] s=zE s (if (lx l (.pass a 0)).2=0 then .ok (iv (lx l (.pass a 0)).1) else .error (lx l (.pass a 0))):=by
 have h1:=fun s=>CB (ext:=ext) hb (a:=a) s;simp only [if_pos (⟨hal,hbeg⟩ : a < l.length∧oZ l a=true)] at h1;refine am (fn:=Nv) [2] rfl rfl rfl rfl (by unfold Nv; rfl) ?_; intro R hR;simp -implicitDefEqProofs (disch:=first | assumption | (apply Ar.mk; first | omega | (simp only [Zj]; omega)) | (apply Ak.mk; first | rfl | exact .inl rfl | exact .inr rfl | exact aq _ _ | exact av _ _ | (unfold aG az; simp<;>omega) | with_unfolding_all rfl | exact .inr (by with_unfolding_all rfl))) only [ZN,ai,qA,↓reduceIte,qB,qC,reduceCtorEq,aa,ae,frz,frz2,ad,ZM,ZV,aW,aZ,aS,hk,h1,dN];subst hR
 (repeat' (apply DI_c<;>intro))<;>(repeat' split)<;>first | rfl | omega
end
end Go.Proofs.YtioblbopbilmaaaGreatDoor
namespace Go.Mir
end Go.Mir
namespace Go.Proofs.YtioblbopbilmaaaGreatDoor
open Go Go.EvL Go.PE Go.Mir
variable {ext:aw}
theorem Vk:∀c,c < 256→(idxI [64,42,35,63,45,36,33,48] c ≥ ((0:Nat):Int)↔(c=48∨b7 c=true∧ay c=false∧aF c=false)):=by decide +kernel
section
variable {l:List UInt8} (hb:l.length < 16385) {k pl:Nat}{od:Bool}{lv:Nat}{fr:Option Nat}{a o:Nat}{tv v:PV}{low:Nat}{s:PS} (hlow:low≤9) (hk:s.h k=⟨lr l a pl od lv (gY fr) o tv v,low,169⟩) (ha:a≤l.length)
include hb hlow hk ha
theorem Jb {F:ZC→Option ZR}{K:List KI}{R:Option ZR} : ∀(n i w:Nat) (f:aE),i + n=l.length→w≤2147483647→f 0=.ptr k 0 9→f 1=iv i→f 6=iv w→(∀f',f' 1=iv (i + mY (l.drop i) w)→rn Tryz.prog Γ ext F f' s K=R)→zr Tryz.prog Γ ext F (.loop sd) f s (.b 1 :: K)=R:=by
 intro n
 induction n with
 | zero=>
  intro i w f hn hw f0 f1 f6 H;rw [tB]
  conv=>lhs; arg 5; unfold sd
  simp -implicitDefEqProofs (disch:=first | assumption | (apply Ar.mk; first | omega | (simp only [Zj]; omega))) only [ZN,ai,qA,↓reduceIte,qB,qC,reduceCtorEq,aa,ad,ZM,bI,↓ed,f0,f1,hk];apply H;rw [iJ (.inl (by omega))]; exact f1
 | succ n ih=>
  intro i w f hn hw f0 f1 f6 H;rw [tB]
  conv=>lhs; arg 5; unfold sd
  have hbt:=il l i;by_cases hd:ay (bt l i)=true
  ·have hdg:=pO hd;simp -implicitDefEqProofs (disch:=first | assumption | (apply Ar.mk; first | omega | (simp only [Zj]; omega))) only [ZN,qA,↓reduceIte,qB,qC,reduceCtorEq,aa,ad,ZM,bk,↓bR,f0,f1,f6,hk,i4,hd];apply DI_c<;>intro h
   ·refine ih (i + 1) _ _ (by omega) h f0 rfl rfl fun f' h1=>H f' ?_;rw [h1,vP (i:=i) (by omega) hd h];simp only [Nat.add_assoc,Nat.add_comm 1]
   ·apply H;rw [iJ (.inr (.inr (by omega)))]; exact f1
  ·have hd0:∀s,ah Tryz.prog Γ ext 199 [cv (bt l i)] s=some (.ok (.sc (.bool false)) s):=fun s=>by rw [i4]; simp only [bv,decide_eq_false hd]
   simp -implicitDefEqProofs (disch:=first | assumption | (apply Ar.mk; first | omega | (simp only [Zj]; omega))) only [ZN,ai,qA,↓reduceIte,qB,qC,reduceCtorEq,aa,ad,ZM,bk,↓bR,f0,f1,hk,hd0];apply H;rw [iJ (.inr (.inl (by simpa using hd)))]; exact f1
theorem H6 {F:ZC→Option ZR}{K:List KI}{R:Option ZR} : ∀(n i:Nat) (f:aE),i + n=l.length→f 0=.ptr k 0 9→f 1=iv i→(∀f',f' 1=iv (bm l i)→rn Tryz.prog Γ ext F f' s K=R)→zr Tryz.prog Γ ext F (.loop wF) f s (.b 3 :: K)=R:=by
 intro n
 induction n with
 | zero=>
  intro i f hn f0 f1 H;rw [tB]
  conv=>lhs; arg 5; unfold wF
  simp -implicitDefEqProofs (disch:=first | assumption | (apply Ar.mk; first | omega | (simp only [Zj]; omega))) only [ZN,ai,qA,↓reduceIte,qB,qC,reduceCtorEq,aa,ad,ZM,bI,↓ed,f0,f1,hk];apply H;rw [show bm l i=i from nZ (by omega)]; exact f1
 | succ n ih=>
  intro i f hn f0 f1 H;rw [tB]
  conv=>lhs; arg 5; unfold wF
  simp -implicitDefEqProofs (disch:=first | assumption | (apply Ar.mk; first | omega | (simp only [Zj]; omega))) only [ZN,qA,↓reduceIte,qB,qC,reduceCtorEq,aa,ad,ZM,bk,↓bR,f0,f1,hk,i4,qe];have e:aF (bt l i)=(uc (bt l i) || ay (bt l i)):=by
   unfold aF uc; cases cC (bt l i)<;>cases ay (bt l i)<;>simp
  apply DI_c<;>intro h
  ·refine ih (i + 1) _ (by omega) f0 rfl fun f' h1=>H f' ?_;rw [h1,show bm l i=bm l (i + 1) from jE (by omega) (by rw [e]; simpa using h)]
  ·apply H;rw [show bm l i=i from mz (by omega) (by rw [e]; simpa using h)]; exact f1
theorem ox {i:Nat} (hi:i≤l.length):ah Tryz.prog Γ ext 200 [.ptr k 0 9,iv i] s=some (.ok (iv (ax l i)) s):=by
 have hx:=fun s=>xA (ext:=ext) [64,42,35,63,45,36,33,48] (il l i) s;refine am (fn:=Qb) [4] rfl rfl rfl rfl (by unfold Qb; rfl) ?_; intro R hR;simp -implicitDefEqProofs (disch:=first | assumption | (apply Ar.mk; first | omega | (simp only [Zj]; omega))) only [ZN,ai,qA,↓reduceIte,qB,qC,reduceCtorEq,aa,ae,frz,frz2,ad,ZM,hk,hx,i4,qe];subst hR;have hix:=Vk _ (il l i);unfold ax;apply DI_c<;>intro h0
 ·rw [if_pos (by omega)]
 rw [if_neg (by omega)];apply DI_c<;>intro h1
 ·have h1:=hix.1 h1;by_cases h48:bt l i=48
  ·rw [if_pos h48]
  ·have hs:=h1.resolve_left h48;rw [if_neg h48,if_neg (by rw [hs.2.1]; simp),if_neg (by rw [hs.2.2]; simp),if_pos hs.1]
 have h1:¬ (bt l i=48∨b7 (bt l i)=true∧ay (bt l i)=false∧aF (bt l i)=false):=fun h=>h1 (hix.2 h);rw [if_neg fun h=>h1 (.inl h)];have e:aF (bt l i)=(uc (bt l i) || ay (bt l i)):=by
  unfold aF uc; cases cC (bt l i)<;>cases ay (bt l i)<;>simp
 apply DI_c<;>intro h2
 ·rw [if_pos h2];refine Jb (s:=⟨s.h,s.n,s.n⟩) hb hlow hk ha (l.length - i) i 0 _ (by omega) (by omega) rfl rfl rfl fun f' h=>?_;simp -implicitDefEqProofs (disch:=first | assumption | (apply Ar.mk; omega)) only [ZN,↓reduceIte,ae,frz,frz2,aP,h]
 ·rw [if_neg h2];have h2:ay (bt l i)=false:=by simpa using h2
  apply DI_c<;>intro h3
  ·rw [if_pos (by rw [e,h3]; rfl)];refine H6 (s:=⟨s.h,s.n,s.n⟩) hb hlow hk ha (l.length - i) i _ (by omega) rfl rfl fun f' h=>?_;simp -implicitDefEqProofs (disch:=first | assumption | (apply Ar.mk; omega)) only [ZN,↓reduceIte,ae,frz,frz2,aP,h]
  ·have hw:aF (bt l i)=false:=by rw [e,h2]; simpa using h3
   rw [if_neg (by rw [hw]; simp),if_neg];intro hs;exact h1 (.inr ⟨hs,h2,hw⟩)
end
theorem y8 {α:Type}{e es b:Nat}{c:α→List PV}{X:Nat→Prop}{l:List α}{v:PV}{s:PS} (h:oD e es c b X l v s):oC false v=some (iv l.length):=by
 rcases h with ⟨rfl,rfl⟩ | ⟨_,k,low,_,_,_,rfl,_⟩<;>rfl
section
variable {l:List UInt8} (hb:l.length < 16385) {k pl:Nat}{od:Bool}{lv:Nat}{fr:Option Nat}{a o:Nat}{tv v:PV}{low:Nat}{s:PS} (hlow:low≤9) (hk:s.h k=⟨lr l a pl od lv (gY fr) o tv v,low,169⟩) (ha:a≤l.length)
include hb hlow hk ha
theorem F7 {x y:Nat} (hx:oC false tv=some (iv x)) (hy:oC false v=some (iv y)) (hal:a < l.length):ah Tryz.prog Γ ext 203 [.ptr k 0 9] s=some (.ok (bv ((x=0∧y=0)∧(l.length≤fN l (a + 1)∨bt l (fN l (a + 1))=47∨od=true∧bt l (fN l (a + 1))=125))) s):=by
 have hp:=fun i b s=>eY (ext:=ext) (a:=l.drop i) (b:=b) (by rw [List.length_drop]; omega) s;have hod:(Value.bool od)=.bool (decide (od=true)):=by simp
 have key:∀(n i:Nat) (f:aE) (s0 S:PS),l.length < i + n→i≤l.length→s0.n≤S.w→S.h k=⟨lr l a pl od lv (gY fr) o tv v,low,169⟩→f 0=.ptr k 0 9→f 3=sv (l.drop i)→rl Tryz.prog Γ ext (ZT [2] s0) 0 sF wM f S []=some (.ok (bv (l.length≤fN l i∨bt l (fN l i)=47∨od=true∧bt l (fN l i)=125)) s0):=by
  intro n
  induction n with
  | zero=>intro i f s0 S hn hi; omega
  | succ n ih=>
   intro i f s0 S hn hi hw hk f0 f3;have hld:(l.drop i).length=l.length - i:=List.length_drop;have hb0:=gg l i 0;rw [Nat.add_zero] at hb0;have hj:([92,10].isPrefixOf (l.drop i)=true)=(bx l i=true):=by rw [yr]; rfl
   have hdd:(l.drop i).drop 2=l.drop (i + 2):=List.drop_drop;by_cases hjj:bx l i=true
   ·have hlt:=dx hjj;have hp0:∀s,ah Tryz.prog Γ ext 41 [sv (l.drop i),sv [92,10]] s=some (.ok (.sc (.bool true)) s):=fun s=>by rw [hp]; simp only [bv,hj,hjj,decide_true]
    refine ar (by unfold sF; rfl) (by unfold wM; rfl) ?_; intro hr R hR;simp -implicitDefEqProofs (disch:=first | assumption | (apply Ar.mk; first | omega | (simp only [Zj]; omega))) only [ZN,qA,↓reduceIte,aa,f3,hp0,hdd];subst hR;rw [yD hjj];exact ih (i + 2) _ _ _ (by omega) (by omega) hw hk f0 rfl
   ·have hp0:∀s,ah Tryz.prog Γ ext 41 [sv (l.drop i),sv [92,10]] s=some (.ok (.sc (.bool false)) s):=fun s=>by rw [hp]; simp only [bv,hj,decide_eq_false hjj]
    rw [yS (by simpa using hjj)];refine ar (by unfold sF; rfl) (by unfold wM; rfl) ?_; intro hr R hR;simp -implicitDefEqProofs (disch:=first | assumption | (apply Ar.mk; first | omega | (simp only [Zj]; omega))) only [ZN,qA,↓reduceIte,qB,qC,reduceCtorEq,aa,ae,frz,frz2,ad,ZM,f0,f3,hk,hod,hp0,hb0,hr];subst hR;apply cZ;rw [hld,Nat.sub_eq_zero_iff_le,or_assoc]
 refine am (fn:=Qg) [2] rfl rfl rfl rfl (by unfold Qg; rfl) ?_; intro R hR;simp -implicitDefEqProofs (disch:=first | assumption | (apply Ar.mk; first | omega | (simp only [Zj]; omega)) | (apply Ak.mk; first | rfl | exact .inl rfl | exact .inr rfl | exact aq _ _ | exact av _ _ | (unfold aG az; simp<;>omega) | with_unfolding_all rfl | exact .inr (by with_unfolding_all rfl))) only [ZN,ai,qA,↓reduceIte,qB,qC,reduceCtorEq,aa,ae,frz,frz2,ad,ZM,ZV,aW,aZ,aS,hk,hx,hy,hod];subst hR;apply DI_c<;>intro h
 ·exact dT (by omega) s
 ·refine Eq.trans (key (l.length - a) (a + 1) _ _ _ ?_ ?_ ?_ ?_ ?_ ?_) ?_
  ·omega
  ·omega
  ·exact Nat.le_refl _
  ·exact hk
  ·rfl
  ·rfl
  ·exact cZ (by simp; omega) s
end
end Go.Proofs.YtioblbopbilmaaaGreatDoor
namespace Go.Mir
open Go Go.PE
theorem fb (r:R):iQ r=.agg [bK (rP r),.sc (.int .i64 (rA r:Int)),.sc (.int .i64 (rE r:Int))]:=by
 rcases r with ⟨x,e⟩ | ⟨q,j⟩
 ·rw [iQ,show rP (.error (x,e))=[] from rfl,dl]; rfl
 ·rw [iQ]; rfl
theorem pU (t:List UInt8):fx [] t=[ck t]:=rfl
theorem eA (i:List aJ) (q:aJ) (t:List UInt8):fx (i ++ [q]) t=if q.kind=1 then i ++ [ck (q.text ++ t)] else i ++ [q] ++ [ck t]:=by
 unfold fx;rw [List.getLast?_append];simp
theorem ry {α:Type}{l:List α} (h:l≠[]):∃i q,l=i ++ [q]:=⟨l.dropLast,l.getLast h,(List.dropLast_concat_getLast h).symm⟩
end Go.Mir
namespace Go.Proofs.YtioblbopbilmaaaGreatDoor
open Go Go.EvL Go.PE Go.Mir
variable {ext:aw}
theorem Cd {z:Option ZR}{v:PV}{s:PS}{Q:PV→PS→Prop} (h:z=some (.ok v s)) (q:Q v s):∃v s,z=some (.ok v s)∧Q v s:=⟨v,s,h,q⟩
theorem O3 {acc:List aJ}{t:List UInt8}{v:PV}{s:PS}{b:Nat} (h:fF 135 5 cJ b acc v s) (hb:b≤s.n) (hn:acc.length < 1000000) (ht:t.length < 1000000) (hq:∀q∈acc,q.kind=1→q.text.length < 1000000) :
  ∃v' s',ah Tryz.prog Γ ext 153 [v,sv t] s=some (.ok v' s')∧fF 135 5 cJ b (fx acc t) v' s'∧(∀j,j < s.n→(∀m f,v≠.own j 0 m f)→s'.h j=s.h j)∧s.n≤s'.n∧(∀n0,n0≤b→n0≤s.w→n0≤s'.w):=by
 rcases h with ⟨rfl,rfl⟩ | ⟨hl,k,k1,k2,rfl,k3⟩
 ·apply Cd
  ·refine aK (fn:=vp) [4] rfl rfl rfl rfl (by unfold vp; rfl) ?_; intro R hR;simp -implicitDefEqProofs (disch:=first | assumption | (apply Ar.mk; first | omega | (simp only [Zj]; omega))) only [ZN,ai,qA,↓reduceIte,qB,qC,qD,reduceCtorEq,aa,aD,ae,ZM,qF];exact hR.symm
  ·refine⟨.inr ⟨by simp [pU],s.n + 1,by omega,?_,rfl,?_⟩,fun j hj _=>?_,?_,fun n0 h1 h2=>?_⟩
   ·simp only []; omega
   ·simp only [ap,aj,aI,pU,ck,List.flatMap_cons,List.flatMap_nil,cJ,dl]; rfl
   ·simp -implicitDefEqProofs (disch:=(apply Ar.mk; (try simp only [aj,ak]); omega)) only [ap,au]
   ·simp only []; omega
   ·simp only []; omega
 ·obtain⟨i,q,rfl⟩:=ry hl;have hln:(i ++ [q]).length=i.length + 1:=by simp
  have hfl:(i.flatMap cJ).length=i.length * 5:=bB fq i;have hq:=hq q (by simp);obtain⟨k',t',o',c',p'⟩:=q;have hC:(i ++ [aJ.mk k' t' o' c' p']).flatMap cJ=i.flatMap cJ ++ [.sc (.int .i64 k'),.sc (.string ⟨⟨t'⟩⟩),.sc (.int .i64 o'),.sc (.bool c'),bK p']:=by simp [cJ]
  rw [hC] at k3;rw [hln] at hn ⊢;clear hln;generalize hD:i.flatMap cJ=D at *;have hd0:(D ++ [.sc (.int .i64 k'),.sc (.string ⟨⟨t'⟩⟩),.sc (.int .i64 o'),.sc (.bool c'),bK p']).drop (i.length * 5)=[.sc (.int .i64 k'),.sc (.string ⟨⟨t'⟩⟩),.sc (.int .i64 o'),.sc (.bool c'),bK p']:=by rw [← hfl,List.drop_left]
  have hd1:(D ++ [.sc (.int .i64 k'),.sc (.string ⟨⟨t'⟩⟩),.sc (.int .i64 o'),.sc (.bool c'),bK p']).drop (i.length * 5 + 1)=[.sc (.string ⟨⟨t'⟩⟩),.sc (.int .i64 o'),.sc (.bool c'),bK p']:=by rw [← List.drop_drop,hd0]; rfl
  have hd2:(D ++ [.sc (.int .i64 k'),.sc (.string ⟨⟨t'⟩⟩),.sc (.int .i64 o'),.sc (.bool c'),bK p']).take (i.length * 5)=D:=by rw [← hfl,List.take_left]
  have hd3:i.length + 1 - 1=i.length:=by omega
  simp only [aJ.kind,aJ.text] at hq;by_cases hk:k'=1
  ·have hq:=hq hk;have hk1:(k' == ((1:Nat):Int))=true:=by rw [hk]; rfl
   by_cases hi:i=[]
   ·subst hi;have hD:D=[]:=hD.symm;subst hD;apply Cd
    ·refine aK (fn:=vp) [4] rfl rfl rfl rfl (by unfold vp; rfl) ?_; intro R hR;simp -implicitDefEqProofs (disch:=first | assumption | (apply Ar.mk; first | omega | (simp only [Zj]; omega))) only [ZN,ai,qA,↓reduceIte,qB,qC,qD,reduceCtorEq,aa,aD,ae,ad,ZM,I2,qF,qG,k3,hk1];exact hR.symm
    ·rw [eA,if_pos (by exact hk)];refine⟨.inr ⟨by simp,s.n + 1,by omega,?_,rfl,?_⟩,fun j hj _=>?_,?_,fun n0 h1 h2=>?_⟩
     ·simp only []; omega
     ·simp only [ap,aj,aI,List.nil_append,ck,List.flatMap_cons,List.flatMap_nil,cJ,dl]; rfl
     ·simp -implicitDefEqProofs (disch:=(apply Ar.mk; (try simp only [aj,ak]); omega)) only [ap,au]
     ·simp only []; omega
     ·simp only []; omega
   ·have hil : 0 < i.length:=List.length_pos_iff.2 hi;have hone:D.all eQ=true:=by rw [← hD]; exact pH fun x _=>Gf x
    apply Cd
    ·refine aK (fn:=vp) [4] rfl rfl rfl rfl (by unfold vp; rfl) ?_; intro R hR;simp -implicitDefEqProofs (disch:=first | assumption | (apply Ar.mk; first | omega | (simp only [Zj]; omega))) only [ZN,ai,qA,↓reduceIte,qB,qC,reduceCtorEq,aa,aD,ae,ad,ZM,I2,qF,bk,↓bR,List.length_append,k3,hd0,hd1,hd2,hd3,hone,hk1];exact hR.symm
    ·rw [eA,if_pos (by exact hk)];refine⟨.inr ⟨by simp,s.n,hb,?_,?_,?_⟩,fun j hj _=>?_,?_,fun n0 h1 h2=>?_⟩
     ·simp only []; omega
     ·simp only [List.length_append,List.length_cons,List.length_nil]; congr 1; omega
     ·simp only [ao,aI,ap,List.flatMap_append,hD,ck,List.flatMap_cons,List.flatMap_nil,cJ,dl,List.append_nil]; rfl
     ·simp -implicitDefEqProofs (disch:=(apply Ar.mk; (try simp only [aj,ak]); omega)) only [ap,ao,au]
     ·simp only []; omega
     ·simp only []; omega
  ·have hk:(k' == ((1:Nat):Int))=false:=by simpa using hk
   apply Cd
   ·refine aK (fn:=vp) [4] rfl rfl rfl rfl (by unfold vp; rfl) ?_; intro R hR;simp -implicitDefEqProofs (disch:=first | assumption | (apply Ar.mk; first | omega | (simp only [Zj]; omega))) only [ZN,ai,qA,↓reduceIte,qB,qC,reduceCtorEq,aa,aD,ae,ad,ZM,qF,bk,↓bR,List.length_append,k3,hd0,hd3,hk];exact hR.symm
   ·rw [eA,if_neg (by simpa [aJ.kind] using hk)];refine⟨.inr ⟨by simp,k,k1,?_,?_,?_⟩,fun j hj hv=>?_,?_,fun n0 h1 h2=>?_⟩
    ·simp only []; omega
    ·simp only [List.length_append,List.length_cons,List.length_nil]; congr 1; omega
    ·simp only [ao,aI,List.flatMap_append,hD,ck,List.flatMap_cons,List.flatMap_nil,cJ,dl,List.append_nil]; rfl
    ·have:=hv (i.length + 1) ((i.length + 1) * 5);have:j≠k:=fun h=>this (by rw [h]);simp -implicitDefEqProofs (disch:=(apply Ar.mk; (try simp only [aj,ak]); omega)) only [ap,ao,au]
    ·simp only []; omega
    ·simp only []; omega
def Sm (f' f:aE):Prop:=f' 0=f 0∧f' 1=f 1∧f' 2=f 2∧f' 3=f 3∧f' 4=f 4∧f' 10=f 10∧f' 12=f 12∧f' 13=f 13
theorem Sm.trans {a b c:aE} (h:Sm a b) (g:Sm b c):Sm a c:=⟨h.1.trans g.1,h.2.1.trans g.2.1,h.2.2.1.trans g.2.2.1,h.2.2.2.1.trans g.2.2.2.1,h.2.2.2.2.1.trans g.2.2.2.2.1,h.2.2.2.2.2.1.trans g.2.2.2.2.2.1,h.2.2.2.2.2.2.1.trans g.2.2.2.2.2.2.1,h.2.2.2.2.2.2.2.trans g.2.2.2.2.2.2.2⟩
theorem mC {F:ZC→Option ZR}{f:aE}{s:PS}{K:List KI}{R:Option ZR}{k n e:Nat}{x y z:PV} (h13:f 13=.ptr k 0 3) (hk:s.h k=⟨[x,y,z],3,e⟩) (hx:oC false x=some (iv n)) (h14:f 14=iv n)
  (H:∀f',Sm f' f→f' 11=f 11→zr Tryz.prog Γ ext F fg f' s K=R):rl Tryz.prog Γ ext (F) 2 gK fg f s K=R:=by
 have hd:∀r:Option ZR,DI (n < n) (fun _=>r) (fun _=>R)=R:=fun r=>DI_c (fun h=>absurd h (Nat.lt_irrefl _)) fun _=>rfl;refine ar (by unfold gK; rfl) (by unfold fg; rfl) ?_; intro hr R hR;simp -implicitDefEqProofs (disch:=first | assumption | (apply Ar.mk; omega)) only [ZN,↓df,qA,↓reduceIte,qB,qC,reduceCtorEq,aa,ad,h13,h14,hk,hx];rw [hR];exact H _ ⟨rfl,rfl,rfl,rfl,rfl,rfl,rfl,rfl⟩ rfl
theorem E4 {F:ZC→Option ZR}{f:aE}{s:PS}{K:List KI}{R:Option ZR}{b k e:Nat}{acc:List aJ}{v y z:PV}{p:aJ} (hA:fF 135 5 cJ b acc v s) (h11:f 11=v) (h13:f 13=.ptr k 0 3) (hk:s.h k=⟨[bK [p],y,z],3,e⟩) (hkn:k < s.n) (hbn:b≤s.n) (hv:∀m f,v≠.own k 0 m f) (h14:f 14=iv 0)
  (hn:acc.length < 1000000) (ht:p.kind=1→p.text.length < 1000000) (hq:∀q∈acc,q.kind=1→q.text.length < 1000000)
  (H:∀f' v' s',fF 135 5 cJ b (dO acc p) v' s'→f' 11=v'→Sm f' f→s'.h k=s.h k→(∀j,j < b→s'.h j=s.h j)→s.n≤s'.n→(∀n0,n0≤b→n0≤s.w→n0≤s'.w)→zr Tryz.prog Γ ext F fg f' s' K=R):rl Tryz.prog Γ ext (F) 2 gK fg f s K=R:=by
 obtain⟨kk,t,o,c,q⟩:=p;rw [GT,cL] at hk;by_cases h1:kk=1
 ·have ht:=ht h1;obtain⟨v',s',hz,hA',fr,hn',hw'⟩:=O3 (ext:=ext) hA hbn hn ht hq;have hk1:(kk == ((1:Nat):Int))=true:=by rw [h1]; rfl
  have e1:dO acc (.mk kk t o c q)=fx acc t:=if_pos h1;have hk':s'.h k=_:=(fr k hkn hv).trans hk;have hb':∀j,j < b→s'.h j=s.h j:=fun j hj=>fr j (by omega) fun m f he=>by
   rcases hA with ⟨_,rfl⟩ | ⟨_,k',k1,_,rfl,_⟩
   ·cases he
   ·injection he with he; omega
  simp only [aJ.text] at hz;refine ar (by unfold gK; rfl) (by unfold fg; rfl) ?_; intro hr R hR;simp -implicitDefEqProofs (disch:=first | assumption | (apply Ar.mk; first | omega | (simp only [Zj]; omega))) only [ZN,qA,↓reduceIte,qB,qC,qD,reduceCtorEq,aa,ad,ZM,qF,h11,h13,h14,hk,hk1,hz];rw [hR];apply mC (n:=1)
  ·exact h13
  ·exact hk'
  ·rfl
  ·rfl
  ·intro f' sm e11; exact H f' v' s' (by rw [e1]; exact hA') e11 (sm.trans ⟨rfl,rfl,rfl,rfl,rfl,rfl,rfl,rfl⟩) (hk'.trans hk.symm) hb' hn' hw'
 ·have hk1:(kk == ((1:Nat):Int))=false:=by simpa using h1
  have e1:dO acc (.mk kk t o c q)=acc ++ [.mk kk t o c q]:=if_neg h1;rcases hA with ⟨rfl,rfl⟩ | ⟨hl,k',k1,k2,rfl,k3⟩
  ·refine ar (by unfold gK; rfl) (by unfold fg; rfl) ?_; intro hr R hR;simp -implicitDefEqProofs (disch:=first | assumption | (apply Ar.mk; first | omega | (simp only [Zj]; omega))) only [ZN,qA,↓reduceIte,qB,qC,qD,reduceCtorEq,aa,aD,ad,ZM,qF,h11,h13,h14,hk,hk1,bU];rw [hR];apply mC (n:=1)
   ·exact h13
   ·simp -implicitDefEqProofs (disch:=(apply Ar.mk; (try simp only [aj,ak]); omega)) only [ap,au]; exact hk
   ·rfl
   ·rfl
   intro f' sm e11;refine H f' (.own (s.n + 1) 0 1 5) _ ?_ e11 (sm.trans ⟨rfl,rfl,rfl,rfl,rfl,rfl,rfl,rfl⟩) ?_ (fun j hj=>?_) ?_ fun n0 g1 g2=>?_
   ·rw [e1];refine .inr ⟨by simp,s.n + 1,by omega,?_,rfl,?_⟩
    ·simp only [aj]; omega
    ·simp only [ap,aj,aI,List.nil_append,List.flatMap_cons,List.flatMap_nil,cJ]; rfl
   ·simp -implicitDefEqProofs (disch:=(apply Ar.mk; (try simp only [aj,ak]); omega)) only [ap,au]
   ·simp -implicitDefEqProofs (disch:=(apply Ar.mk; (try simp only [aj,ak]); omega)) only [ap,au]
   ·simp only [aj]; omega
   ·simp only [cO]; omega
  ·have hfl:=bB fq acc;generalize hD:acc.flatMap cJ=D at *;refine ar (by unfold gK; rfl) (by unfold fg; rfl) ?_; intro hr R hR;simp -implicitDefEqProofs (disch:=first | assumption | (apply Ar.mk; first | omega | (simp only [Zj]; omega))) only [ZN,qA,↓reduceIte,qB,qC,qD,reduceCtorEq,aa,aD,ad,ZM,qF,h11,h13,h14,hk,hk1,k3,bU];rw [hR];have hkk:k≠k':=fun h=>hv acc.length (acc.length * 5) (by rw [h]);apply mC (n:=1)
   ·exact h13
   ·simp -implicitDefEqProofs (disch:=(apply Ar.mk; (try simp only [aj,ak]); omega)) only [ap,ao,au]; exact hk
   ·rfl
   ·rfl
   intro f' sm e11;refine H f' (.own k' 0 (acc.length + 1) (acc.length * 5 + 5)) _ ?_ e11 (sm.trans ⟨rfl,rfl,rfl,rfl,rfl,rfl,rfl,rfl⟩) ?_ (fun j hj=>?_) ?_ fun n0 g1 g2=>?_
   ·rw [e1];refine .inr ⟨by simp,k',by omega,?_,?_,?_⟩
    ·simp only [aj,ak]; omega
    ·simp only [List.length_append,List.length_cons,List.length_nil]; congr 1; omega
    ·simp only [ao,aI,List.flatMap_append,hD,List.flatMap_cons,List.flatMap_nil,cJ,List.append_nil]
   ·simp -implicitDefEqProofs (disch:=(apply Ar.mk; (try simp only [aj,ak]); omega)) only [ap,ao,au]
   ·simp -implicitDefEqProofs (disch:=(apply Ar.mk; (try simp only [aj,ak]); omega)) only [ap,ao,au]
   ·simp only [aj,ak]; omega
   ·simp only [cO,db]; omega
end Go.Proofs.YtioblbopbilmaaaGreatDoor
namespace Go.Mir
def T9 (acc:List aJ) (o:Nat):R→Except (Nat × Nat) (Nat × Nat × List aJ)
 | .error x=>.error x
 | .ok (ps,j)=>.ok (j,o,ps.foldl dO acc)
theorem i8 {pl:Nat}{od:Bool} (hp:pl≤3):eE (bW pl od)=true↔pl=0:=by
 unfold bW eE; cases od<;>(repeat' split)<;>simp_all<;>omega
theorem FN {pl:Nat}{od:Bool} (hp:pl≤3):bW pl od=4↔pl=2∧od=false:=by
 unfold bW; cases od<;>(repeat' split)<;>simp_all<;>omega
theorem LY {pl:Nat}{od:Bool} (hp:pl≤3):bW pl od=5↔pl=3∧od=false:=by
 unfold bW; cases od<;>(repeat' split)<;>simp_all<;>omega
theorem Qu {pl:Nat}{od:Bool} (hp:pl≤3):bW pl od=3↔pl=1∧od=true:=by
 unfold bW; cases od<;>(repeat' split)<;>simp_all<;>omega
theorem E3 (acc:List aJ) (x y:List UInt8):fx (fx acc x) y=fx acc (x ++ y):=by
 by_cases h:acc=[]
 ·subst h; rfl
 ·obtain⟨i,q,rfl⟩:=ry h;rw [eA,eA];split
  ·rw [eA,if_pos (show (ck _).kind=1 from rfl)]; simp [ck,aJ.text,List.append_assoc]
  ·rw [eA,if_pos (show (ck _).kind=1 from rfl)]; simp [ck,aJ.text]
end Go.Mir
namespace Go.Proofs.YtioblbopbilmaaaGreatDoor
open Go Go.EvL Go.PE Go.Mir
variable {ext:aw}
section
variable {l:List UInt8} (hb:l.length < 16385) {k pl:Nat}{od:Bool}{lv:Nat}{fr:Int}{a o:Nat}{acc:List aJ}{s:PS}
theorem Sc.at0 (h:Sc l k pl od lv fr a o acc s) (w:Nat):Sc l k pl od lv fr a o acc ⟨s.h,s.n,w⟩:=by
 obtain⟨⟨tx,ls,tv,v,low,h1,h2,h3,h4,h5⟩,h6,h7⟩:=h;exact⟨⟨tx,ls,tv,v,low,h1,h2,h3.fr (Nat.le_refl _) fun _ _ _ _ _ _=>rfl,h4.fr (Nat.le_refl _) fun _ _ _ _ _ _=>rfl,h5⟩,h6,h7⟩
theorem Fr.up {s':PS} (hk:k < s.n) (h:Fr k ⟨s.h,s.n,s.n⟩ s'):Fr k s ⟨s'.h,s'.n,min s.w s'.w⟩:=
 ⟨h.n,h.h,fun n0 a c=>Nat.le_min.2 ⟨c,h.w n0 a (show n0≤s.n by omega)⟩⟩
theorem ln {z:Option ZR}{q:Nat × Nat × List aJ} (hk:k < s.n) (h:MR l k pl od lv fr ⟨s.h,s.n,s.n⟩ z (.ok q)):∃S1,z=some (.ok (.tup []) S1)∧Sc l k pl od lv fr q.1 q.2.1 q.2.2 S1∧Fr k ⟨s.h,s.n,s.n⟩ S1∧Fr k s ⟨S1.h,S1.n,min s.w S1.w⟩:=by
 obtain⟨a,o,acc⟩:=q;obtain⟨S1,z1,sc,f⟩:=h;exact⟨S1,z1,sc,f,f.up hk⟩
theorem dn {z:Option ZR}{q:Nat × Nat × List aJ}{S1:PS} (h:z=some (.ok (.tup []) ⟨S1.h,S1.n,min s.w S1.w⟩)) (sc:Sc l k pl od lv fr q.1 q.2.1 q.2.2 S1) (f:Fr k s ⟨S1.h,S1.n,min s.w S1.w⟩):MR l k pl od lv fr s z (.ok q):=⟨_,h,sc.at0 _,f⟩
theorem fh {z:Option ZR}{x e:Nat}{S1:PS} (h:z=some (.pan (lw x e) S1)) (f:Fr k s S1):MR l k pl od lv fr s z (.error (x,e)):=⟨_,h,f⟩
theorem Fr.min (s:PS) (hk:k < s.n):Fr k s ⟨s.h,s.n,Min.min s.w s.n⟩:=⟨Nat.le_refl _,fun _ _=>rfl,fun n0 a c=>Nat.le_min.2 ⟨c,by omega⟩⟩
theorem By {tx:List UInt8}{ls:List aJ}{tv v:PV}{a' o':Nat} (hkn:k < s.n) (ht:oD 5 1 bC (k + 1) ID tx tv s) (hl:oD 135 5 cJ (k + 1) ID ls v s) (hd:∀j m f m' f',tv=.own j 0 m f→v≠.own j 0 m' f') (hacc:acc=ls ++ zA tx) (hno:xR ls) (hz:tx.length + ls.length≤a) (ha:a≤a') (hal:a'≤l.length) (w:Nat) :
  Sc l k pl od lv fr a' o' acc ⟨((⟨s.h,s.n,s.n⟩ : PS).put k ⟨lr l a' pl od lv fr o' tv v,9,169⟩).h,s.n,w⟩:=
 ⟨⟨tx,ls,tv,v,9,Nat.le_refl _,(by simp -implicitDefEqProofs (disch:=(apply Ar.mk; (try simp only [aj,ak]); omega)) only [ao,aI]),ht.fr (Nat.le_refl _) fun j h1 h2 _ _ _=>(by simp -implicitDefEqProofs (disch:=(apply Ar.mk; (try simp only [aj,ak]); omega)) only [ao,au]),hl.fr (Nat.le_refl _) fun j h1 h2 _ _ _=>(by simp -implicitDefEqProofs (disch:=(apply Ar.mk; (try simp only [aj,ak]); omega)) only [ao,au]),hd,hacc,hno,by omega⟩,hkn,hal⟩
theorem NG (hkn:k < s.n) (b:pD) (n0:Nat):Fr k s ⟨((⟨s.h,s.n,s.n⟩ : PS).put k b).h,s.n,Min.min s.w (Min.min s.n k)⟩:=
 ⟨Nat.le_refl _,fun j hj=>(by simp -implicitDefEqProofs (disch:=(apply Ar.mk; (try simp only [aj,ak]); omega)) only [ao,au]),fun n0 g1 g2=>by show n0≤Min.min s.w (Min.min s.n k); omega⟩
include hb
theorem nc (h:Sc l k pl od lv fr a o acc s) {c:Nat}{x:UInt8} (hx:x.toNat=c) {n:Nat} (hn : 1≤n) (ha:a + n≤l.length):MR l k pl od lv fr s (ah Tryz.prog Γ ext 172 [.ptr k 0 9,cv c,iv n] s) (.ok (a + n,o,fx acc [x])):=by
 subst hx; exact EB hb h x hn ha
theorem yI (h:Sc l k pl od lv fr a o acc s) (hp:pl≤3) (ha:a < l.length) (h92:bt l a=92):MR l k pl od lv fr s (ah Tryz.prog Γ ext 168 [.ptr k 0 9] s) (T9 acc o (ii l a (bW pl od))):=by
 have h0:=h.at0 s.n;obtain⟨⟨tx,ls,tv,v,low,hlow,hk,ht,hl,hd,hacc,hno,hz⟩,hkn,hal⟩:=h;have hod:(Value.bool od)=.bool (decide (od=true)):=by simp
 have e92:l[a]=92:=ro ha (c:=92) h92;have he:=fun (c:Nat) s=>DT (ext:=ext) pl c od hp s;unfold ii;by_cases c1:a + 1=l.length
 ·rw [if_pos c1];by_cases c2:bW pl od=5
  ·rw [if_pos c2];obtain⟨S1,z1,sc,f1,f2⟩:=ln hkn (nc (ext:=ext) hb h0 (c:=92) (x:=92) rfl (n:=1) (by omega) (by omega));refine dn ?_ sc f2;refine aK (fn:=nm) [] rfl rfl rfl rfl (by unfold nm; rfl) ?_; intro R hR;obtain⟨rfl,rfl⟩:=(LY hp).1 c2;simp -implicitDefEqProofs (disch:=first | assumption | (apply Ar.mk; first | omega | (simp only [Zj]; omega)) | (apply Ak.mk; first | rfl | exact .inl rfl | exact .inr rfl | exact aq _ _ | exact av _ _ | (unfold aG az; simp<;>omega) | with_unfolding_all rfl | exact .inr (by with_unfolding_all rfl))) only [ZN,↓dt,ai,qA,↓reduceIte,qB,qC,reduceCtorEq,aa,ae,ad,ZM,ZV,aW,aZ,aS,hk,z1];exact hR.symm
  ·rw [if_neg c2];refine fh ?_ (Fr.min s hkn);refine aK (fn:=nm) [] rfl rfl rfl rfl (by unfold nm; rfl) ?_; intro R hR;simp -implicitDefEqProofs (disch:=first | assumption | (apply Ar.mk; first | omega | (simp only [Zj]; omega)) | (apply Ak.mk; first | rfl | exact .inl rfl | exact .inr rfl | exact aq _ _ | exact av _ _ | (unfold aG az; simp<;>omega) | with_unfolding_all rfl | exact .inr (by with_unfolding_all rfl))) only [ZN,↓dt,ai,qA,↓reduceIte,qB,qC,reduceCtorEq,aa,ad,ZM,ZV,aW,aZ,aS,hk,hod,dN];subst hR;apply DI_c
   ·intro _; rfl
   ·intro h; exact absurd ((LY hp).2 (by simpa using h)) c2
 rw [if_neg c1];have e2:l[a + 1].toNat=bt l (a + 1):=(cf (by omega)).symm;have hs1:sub l (a + 1) (a + 2)=[l[a + 1]]:=ju (l:=l) (i:=a + 1) (by omega);by_cases c2:bt l (a + 1)=10
 ·rw [if_pos c2];show ∃s',ah Tryz.prog Γ ext 168 [.ptr k 0 9] s=some (.ok (.tup []) s')∧Sc l k pl od lv fr (a + 2) o acc s'∧Fr k s s';apply lX
  ·refine aK (fn:=nm) [] rfl rfl rfl rfl (by unfold nm; rfl) ?_; intro R hR;simp -implicitDefEqProofs (disch:=first | assumption | (apply Ar.mk; first | omega | (simp only [Zj]; omega)) | (apply Ak.mk; first | rfl | exact .inl rfl | exact .inr rfl | exact aq _ _ | exact av _ _ | (unfold aG az; simp<;>omega) | with_unfolding_all rfl | exact .inr (by with_unfolding_all rfl))) only [ZN,↓dt,↓df,ai,qA,↓reduceIte,qB,qC,reduceCtorEq,aa,ae,ad,ZM,ZV,aW,aZ,aS,hk];exact hR.symm
  ·exact⟨By (l:=l) (a:=a) (a':=a + 2) hkn ht hl hd hacc hno hz (by omega) (by omega) _,NG hkn _ 0⟩
 rw [if_neg c2];by_cases c3:pl=0
 ·rw [if_pos ((i8 hp).2 c3)];subst c3;obtain⟨S1,z1,sc,f1,f2⟩:=ln hkn (qM (ext:=ext) hb h0 (q:=fX (sub l (a + 1) (a + 2))) (by simp [fX,aJ.kind]) (j:=a + 2) (by omega) (by omega));rw [fX,cL,dl] at z1;have z1:ah Tryz.prog Γ ext 194 [.ptr k 0 9,.agg [iv 2,sv (sb l (a + 1) (a + 2)),iv 0,.sc (.bool false),nv],iv (a + 2)] _=_:=z1;refine dn ?_ sc f2;refine aK (fn:=nm) [] rfl rfl rfl rfl (by unfold nm; rfl) ?_; intro R hR;simp -implicitDefEqProofs (disch:=first | assumption | (apply Ar.mk; first | omega | (simp only [Zj]; omega)) | (apply Ak.mk; first | rfl | exact .inl rfl | exact .inr rfl | exact aq _ _ | exact av _ _ | (unfold aG az; simp<;>omega) | with_unfolding_all rfl | exact .inr (by with_unfolding_all rfl))) only [ZN,↓df,ai,qA,↓reduceIte,qB,qC,reduceCtorEq,aa,aD,ae,ad,ZM,ZV,aW,aZ,aS,hk,hod,z1];exact hR.symm
 rw [if_neg fun hh=>c3 ((i8 hp).1 hh)];by_cases c4:ng (bt l (a + 1)) (bW pl od)=true
 ·rw [if_pos c4];obtain⟨S1,z1,sc,f1,f2⟩:=ln hkn (nc (ext:=ext) hb h0 e2 (n:=2) (by omega) (by omega));refine dn (q:=(a + 2,o,([ck (sub l (a + 1) (a + 2))]:List aJ).foldl dO acc)) ?_ (by rw [hs1]; exact sc) f2;have he:∀s,ah Tryz.prog Γ ext 195 [iv pl,cv (bt l (a + 1)),.sc (.bool od)] s=some (.ok (.sc (.bool true)) s):=fun s=>by rw [he]; simp only [bv,decide_eq_true (show pl≠0∧_ from ⟨c3,c4⟩)]
  refine aK (fn:=nm) [] rfl rfl rfl rfl (by unfold nm; rfl) ?_; intro R hR;simp -implicitDefEqProofs (disch:=first | assumption | (apply Ar.mk; first | omega | (simp only [Zj]; omega)) | (apply Ak.mk; first | rfl | exact .inl rfl | exact .inr rfl | exact aq _ _ | exact av _ _ | (unfold aG az; simp<;>omega) | with_unfolding_all rfl | exact .inr (by with_unfolding_all rfl))) only [ZN,↓df,ai,qA,↓reduceIte,qB,qC,reduceCtorEq,aa,ae,ad,ZM,ZV,aW,aZ,aS,hk,he,z1];exact hR.symm
 rw [if_neg c4];have he:∀s,ah Tryz.prog Γ ext 195 [iv pl,cv (bt l (a + 1)),.sc (.bool od)] s=some (.ok (.sc (.bool false)) s):=fun s=>by rw [he]; simp only [bv,decide_eq_false (show ¬ (pl≠0∧_) from fun hh=>c4 hh.2)]
 by_cases c5:bW pl od=4∧(bt l (a + 1)=40∨bt l (a + 1)=41)
 ·rw [if_pos c5];obtain⟨rfl,rfl⟩:=(FN hp).1 c5.1;have c6:=c5.2;refine fh ?_ (Fr.min s hkn);refine aK (fn:=nm) [] rfl rfl rfl rfl (by unfold nm; rfl) ?_; intro R hR;simp -implicitDefEqProofs (disch:=first | assumption | (apply Ar.mk; first | omega | (simp only [Zj]; omega)) | (apply Ak.mk; first | rfl | exact .inl rfl | exact .inr rfl | exact aq _ _ | exact av _ _ | (unfold aG az; simp<;>omega) | with_unfolding_all rfl | exact .inr (by with_unfolding_all rfl))) only [ZN,↓dt,↓df,ai,qA,↓reduceIte,qB,qC,reduceCtorEq,aa,ad,ZM,ZV,aW,aZ,aS,hk,he,dN];exact hR.symm
 ·rw [if_neg c5];obtain⟨S1,z1,sc,f1,f2⟩:=ln hkn (nc (ext:=ext) hb h0 (c:=92) (x:=92) rfl (n:=1) (by omega) (by omega));obtain⟨S2,z2,sc2,f3⟩:=nc (ext:=ext) hb sc e2 (n:=1) (by omega) (by show a + 1 + 1≤l.length; omega);have f4:=(f1.trans f3).up hkn;refine dn (q:=(a + 2,o,([ck (sub l a (a + 2))]:List aJ).foldl dO acc)) ?_ ?_ f4
  ·rw [hod] at he;refine aK (fn:=nm) [] rfl rfl rfl rfl (by unfold nm; rfl) ?_; intro R hR;simp -implicitDefEqProofs (disch:=first | assumption | (apply Ar.mk; first | omega | (simp only [Zj]; omega)) | (apply Ak.mk; first | rfl | exact .inl rfl | exact .inr rfl | exact aq _ _ | exact av _ _ | (unfold aG az; simp<;>omega) | with_unfolding_all rfl | exact .inr (by with_unfolding_all rfl))) only [ZN,↓df,ai,qA,↓reduceIte,qB,qC,reduceCtorEq,aa,ae,ad,ZM,ZV,aW,aZ,aS,hk,hod,he,z1,z2];subst hR;apply DI_c
   ·intro hh; exact absurd ⟨(FN hp).2 ⟨by omega,by simpa using hh.1.2⟩,hh.2⟩ c5
   ·intro _; rfl
  ·rw [E3] at sc2;have:sub l a (a + 2)=[92] ++ [l[a + 1]]:=by rw [lB (by omega) (by omega),hs1,e92]; rfl
   rw [this]; exact sc2
end
end Go.Proofs.YtioblbopbilmaaaGreatDoor
