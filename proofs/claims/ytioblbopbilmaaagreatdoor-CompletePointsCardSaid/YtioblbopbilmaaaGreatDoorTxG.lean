/- What functions of the program and of the reference compute, on values. No statement is proved here. -/
import Derived.Test.YtioblbopbilmaaaGreatDoorTxF
set_option linter.all false
open Nat renaming reduceEqDiff → qA, reduceAdd → qB, reduceLeDiff → qC, reduceLT → qD, reduceBEq → qE, reduceMul → qF, reduceSub → qG
namespace Go.Proofs.YtioblbopbilmaaaGreatDoor
open Go Go.EvL Go.PE Go.Mir
variable {ext:aw}
set_option maxHeartbeats 4000000
section
variable {s0 S:PS}{m n:Nat}{cs:List PV}{kd:Int}{tx:List UInt8}{o:Int}{c:Bool} (hS:s0.n≤S.w) (hcs:cs.length=n * 5) (hn:n < 1000000) (hm:S.h m=⟨[.sc (.int .i64 kd),sv tx,.sc (.int .i64 o),.sc (.bool c),.lit 135 n cs],5,135⟩)
include hcs hn hm
theorem NP {K:List KI}{R:Option ZR}{p0 p5:PV} (w:List UInt8)
  (H:∀f:aE,f 0=p0→f 4=sv w→f 5=p5→rn Tryz.prog Γ ext (ZT [2,3] s0) f S K=R) :
  ∀(l:List aJ) (i:Nat) (t u:List UInt8) (f:aE),j8 l=some u→t ++ u=w→cs.drop (i * 5)=eG l→i + l.length=n→t.length + ud l < 100000000→f 0=p0→f 5=p5→f 4=sv t→f 6=.ptr m 0 5→f 7=iv i→zr Tryz.prog Γ ext (ZT [2,3] s0) (.loop iR) f S (.b 2 :: K)=R:=by
 intro l
 induction l with
 | nil=>
  intro i t u f hq hw hd hi ht f0 f5 f4 f6 f7;injection hq with hq;subst hq;rw [List.append_nil] at hw;subst hw;have hi:i=n:=hi;subst hi;rw [gR (b:=iR) (by unfold iR; rfl)];simp -implicitDefEqProofs (disch:=first | assumption | (apply Ar.mk; first | omega | (simp only [Zj]; omega))) only [ZN,↓df,qA,↓reduceIte,qB,reduceCtorEq,aa,ad,ZM,f6,f7,hm];refine H _ ?_ ?_ ?_
  all_goals first | assumption | rfl
 | cons p l ih=>
  intro i t u f hq hw hd hi ht f0 f5 f4 f6 f7;obtain⟨kp,tp',op',cp,ps⟩:=p;rw [rB] at hq;by_cases c1:kp=1
  ·have e1:(kp != ((1:Nat):Int))=false:=by rw [c1]; rfl
   rw [if_pos c1] at hq;rw [vA,if_pos c1] at ht;cases hq2:j8 l with
   | none=>rw [hq2] at hq; cases hq
   | some v=>
    rw [hq2] at hq;injection hq with hq;have hq:tp' ++ v=u:=hq;have ht:t.length + (tp'.length + ud l) < 100000000:=ht;rw [eG,cL] at hd;simp only [List.cons_append,List.nil_append] at hd;have hil:i < n:=by rw [← hi,List.length_cons]; omega
    rw [gR (b:=iR) (by unfold iR; rfl)];simp -implicitDefEqProofs (disch:=first | assumption | (apply Ar.mk; first | omega | (simp only [Zj]; omega))) only [ZN,↓dt,qA,↓reduceIte,qB,reduceCtorEq,aa,ad,ZM,f4,f6,f7,hm,hd,e1,hcs];refine ih (i + 1) (t ++ tp') v _ hq2 (by rw [List.append_assoc,hq]; exact hw) ?_ (by rw [← hi,List.length_cons]; omega) (by rw [List.length_append]; omega) ?_ ?_ ?_ ?_ ?_
    ·have:=congrArg (List.drop 5) hd;rw [List.drop_drop] at this;rw [show (i + 1) * 5=i * 5 + 5 by omega]; exact this
    all_goals first | assumption | rfl
  ·rw [if_neg c1] at hq; cases hq
include hS in
theorem Po {K:List KI} :
  ∀(l:List aJ) (i:Nat) (t:List UInt8) (f:aE),j8 l=none→cs.drop (i * 5)=eG l→i + l.length=n→t.length + ud l < 100000000→f 4=sv t→f 6=.ptr m 0 5→f 7=iv i→zr Tryz.prog Γ ext (ZT [2,3] s0) (.loop iR) f S (.b 2 :: K)=some (.ok (iM none) s0):=by
 intro l
 induction l with
 | nil=>intro i t f hq; cases hq
 | cons p l ih=>
  intro i t f hq hd hi ht f4 f6 f7;obtain⟨kp,tp',op',cp,ps⟩:=p;have hil:i < n:=by rw [← hi,List.length_cons]; omega
  rw [rB] at hq;rw [eG,cL] at hd;simp only [List.cons_append,List.nil_append] at hd;by_cases c1:kp=1
  ·have e1:(kp != ((1:Nat):Int))=false:=by rw [c1]; rfl
   rw [if_pos c1] at hq;rw [vA,if_pos c1] at ht;cases hq2:j8 l with
   | some v=>rw [hq2] at hq; cases hq
   | none=>
    have ht:t.length + (tp'.length + ud l) < 100000000:=ht;rw [gR (b:=iR) (by unfold iR; rfl)];simp -implicitDefEqProofs (disch:=first | assumption | (apply Ar.mk; first | omega | (simp only [Zj]; omega))) only [ZN,↓dt,qA,↓reduceIte,qB,reduceCtorEq,aa,ad,ZM,f4,f6,f7,hm,hd,e1,hcs];refine ih (i + 1) (t ++ tp') _ hq2 ?_ (by rw [← hi,List.length_cons]; omega) (by rw [List.length_append]; omega) ?_ ?_ ?_
    ·have:=congrArg (List.drop 5) hd;rw [List.drop_drop] at this;rw [show (i + 1) * 5=i * 5 + 5 by omega]; exact this
    all_goals first | assumption | rfl
  ·have e1:(kp != ((1:Nat):Int))=true:=by rw [bne_iff_ne]; exact c1
   rw [gR (b:=iR) (by unfold iR; rfl)];simp -implicitDefEqProofs (disch:=first | assumption | (apply Ar.mk; first | omega | (simp only [Zj]; omega))) only [ZN,↓dt,qA,↓reduceIte,qB,reduceCtorEq,aa,ae,frz,frz2,aX,ad,ZM,f6,f7,hm,hd,e1,hcs];rfl
end
theorem DX {s0:PS}{n:Nat}{Y:PV} (hY:oC false Y=some (iv n)) {t:List UInt8}{f:aE}{S:PS} (hS:s0.n≤S.w) (f0:f 0=Y) (f4:f 4=sv t) (f5:f 5=iv n):rl Tryz.prog Γ ext (ZT [2,3] s0) 0 jM lc f S []=some (.ok (.tup [sv t,.sc (.bool true)]) s0):=by
 refine ar (by unfold jM; rfl) (by unfold lc; rfl) ?_; intro hr R hR;simp -implicitDefEqProofs (disch:=first | assumption | (apply Ar.mk; first | omega | (simp only [Zj]; omega))) only [ZN,↓df,qA,↓reduceIte,reduceCtorEq,aa,ae,frz,frz2,aX,ZM,f0,f4,f5,hr,hY];exact hR.symm
theorem AY {s0:PS}{n:Nat}{cs:List PV} (hcs:cs.length=n * 5) (hn:n < 1000000) {Y:PV} (hY:Y=.lit 135 n cs) :
  ∀(l:List aJ) (i:Nat) (t:List UInt8) (f:aE) (S:PS),(∀p∈l,p.parts.length < 1000000)→cs.drop (i * 5)=eG l→i + l.length=n→s0.n≤S.n→s0.n≤S.w→t.length + fS l < 100000000→f 0=Y→f 4=sv t→f 5=iv i→rl Tryz.prog Γ ext (ZT [2,3] s0) 0 jM lc f S []=some (.ok (iM ((fZ l).map (t ++ ·))) s0):=by
 intro l
 induction l with
 | nil=>
  intro i t f S hps hd hi hk0 hS ht f0 f4 f5;have hi:i=n:=hi;subst hi;rw [hY] at f0;have e:iM ((fZ []).map (t ++ ·))=.tup [sv t,.sc (.bool true)]:=by
   show PV.tup [sv (t ++ []),.sc (.bool true)]=_;rw [List.append_nil]
  rw [e];refine ar (by unfold jM; rfl) (by unfold lc; rfl) ?_; intro hr R hR;simp -implicitDefEqProofs (disch:=first | assumption | (apply Ar.mk; first | omega | (simp only [Zj]; omega))) only [ZN,↓df,qA,↓reduceIte,reduceCtorEq,aa,ae,frz,frz2,aX,ZM,f0,f4,f5,hr];exact hR.symm
 | cons p l ih=>
  intro i t f S hps hd hi hk0 hS ht f0 f4 f5;have hpl:=hps p (List.mem_cons_self ..);obtain⟨kd,tx,o,c,ps⟩:=p;have hpl:ps.length < 1000000:=hpl;have hil:i < n:=by rw [← hi,List.length_cons]; omega
  have hoV:eQ (bK ps)=true:=bU ps;rw [eG,cL] at hd;simp only [List.cons_append,List.nil_append] at hd;have hd2:cs.drop ((i + 1) * 5)=eG l:=by
   have:=congrArg (List.drop 5) hd;rw [List.drop_drop] at this;rw [show (i + 1) * 5=i * 5 + 5 by omega]; exact this
  have hi2:i + 1 + l.length=n:=by rw [← hi,List.length_cons]; omega
  have hps2:∀p∈l,p.parts.length < 1000000:=fun p hp=>hps p (List.mem_cons_of_mem _ hp);rw [HU] at ht;rw [Cq];rw [hY] at f0;have key:∀(u:List UInt8) (x:Nat) (s1:PS),s0.n≤s1.n→s0.n≤s1.w→u.length=x→t.length + (x + fS l) < 100000000→∀f':aE,f' 0=.lit 135 n cs→f' 4=sv (t ++ u)→f' 5=iv (i + 1)→rl Tryz.prog Γ ext (ZT [2,3] s0) 0 jM lc f' s1 []=some (.ok (iM ((fZ l).map ((t ++ u) ++ ·))) s0):=by
   intro u x s1 h1 h2 h3 h4 f' g0 g4 g5;exact ih (i + 1) (t ++ u) f' s1 hps2 hd2 hi2 h1 h2 (by rw [List.length_append]; omega) (by rw [hY]; exact g0) g4 g5
  by_cases c1:kd=1∨kd=2
  ·rw [if_pos c1,← mD];have ht:t.length + (tx.length + fS l) < 100000000:=by
    rw [if_pos c1] at ht; exact ht
   rcases c1 with c1 | c1
   ·have e1:(kd != ((1:Nat):Int))=false:=by rw [c1]; rfl
    have e3:(kd != ((3:Nat):Int))=true:=by rw [c1]; rfl
    refine ar (by unfold jM; rfl) (by unfold lc; rfl) ?_; intro hr R hR;simp -implicitDefEqProofs (disch:=first | assumption | (apply Ar.mk; first | omega | (simp only [Zj]; omega))) only [ZN,↓dt,ai,qA,↓reduceIte,qB,qC,reduceCtorEq,aa,ad,ZM,f0,f4,f5,hd,e1,e3,hcs,hoV];rw [hR];apply key tx tx.length _ (by (simp only [aj,ak]; omega)) (by (simp only [cO,db]; omega)) rfl ht
    all_goals first | assumption | rfl
   ·have e1:(kd != ((1:Nat):Int))=true:=by rw [c1]; rfl
    have e2:(kd != ((2:Nat):Int))=false:=by rw [c1]; rfl
    have e3:(kd != ((3:Nat):Int))=true:=by rw [c1]; rfl
    refine ar (by unfold jM; rfl) (by unfold lc; rfl) ?_; intro hr R hR;simp -implicitDefEqProofs (disch:=first | assumption | (apply Ar.mk; first | omega | (simp only [Zj]; omega))) only [ZN,↓dt,ai,qA,↓reduceIte,qB,qC,reduceCtorEq,aa,ad,ZM,f0,f4,f5,hd,e1,e2,e3,hcs,hoV];rw [hR];apply key tx tx.length _ (by (simp only [aj,ak]; omega)) (by (simp only [cO,db]; omega)) rfl ht
    all_goals first | assumption | rfl
  rw [if_neg c1];have e1:(kd != ((1:Nat):Int))=true:=by rw [bne_iff_ne]; exact fun h=>c1 (.inl h)
  have e2:(kd != ((2:Nat):Int))=true:=by rw [bne_iff_ne]; exact fun h=>c1 (.inr h)
  by_cases c3:kd=3
  ·rw [if_pos c3];have e3:(kd != ((3:Nat):Int))=false:=by rw [c3]; rfl
   have ht:t.length + (ud ps + fS l) < 100000000:=by
    rw [if_neg c1,if_pos c3] at ht; exact ht
   show _=some (ZR.ok (iM (((j8 ps).bind fun u=>(fZ l).map (u ++ ·)).map (t ++ ·))) s0);cases ps with
   | nil=>
    rw [show j8 []=some [] from rfl];show _=some (ZR.ok (iM (((fZ l).map ([] ++ ·)).map (t ++ ·))) s0);rw [← mD];rw [dl] at hd hoV;have key:=key [] 0 ((S.new ⟨Un,0,135⟩).put S.n ⟨[.sc (.int .i64 kd),sv tx,.sc (.int .i64 o),.sc (.bool c),nv],5,135⟩) (by (simp only [aj,ak]; omega)) (by (simp only [cO,db]; omega)) rfl ht;rw [List.append_nil] at key ⊢;refine ar (by unfold jM; rfl) (by unfold lc; rfl) ?_; intro hr R hR;simp -implicitDefEqProofs (disch:=first | assumption | (apply Ar.mk; first | omega | (simp only [Zj]; omega))) only [ZN,↓dt,ai,qA,↓reduceIte,qB,qC,reduceCtorEq,aa,ad,ZM,f0,f5,hd,e1,e2,e3,hcs];rw [gR (b:=iR) (by unfold iR; rfl)];simp -implicitDefEqProofs (disch:=first | assumption | (apply Ar.mk; first | omega | (simp only [Zj]; omega))) only [ZN,qA,↓reduceIte,qB,qD,reduceCtorEq,aa,ad,ZM,f5];rw [hR];apply key
    all_goals first | assumption | rfl
   | cons q ps=>
    rw [bK] at hd hoV;have hec:(cJ q ++ eG ps)=eG (q :: ps):=by rw [eG]
    have hcs':(eG (q :: ps)).length=(ps.length + 1) * 5:=by
     rw [oa]; exact bB fq (q :: ps)
    rw [hec] at hd hoV;have hm:((S.new ⟨Un,0,135⟩).put S.n ⟨[.sc (.int .i64 kd),sv tx,.sc (.int .i64 o),.sc (.bool c),.lit 135 (ps.length + 1) (eG (q :: ps))],5,135⟩).h S.n=⟨[.sc (.int .i64 kd),sv tx,.sc (.int .i64 o),.sc (.bool c),.lit 135 (ps.length + 1) (eG (q :: ps))],5,135⟩:=by simp -implicitDefEqProofs (disch:=(apply Ar.mk; (try simp only [aj,ak]); omega)) only [ap,ao,aI]
    cases hq:j8 (q :: ps) with
    | none=>
     refine ar (by unfold jM; rfl) (by unfold lc; rfl) ?_; intro hr R hR;simp -implicitDefEqProofs (disch:=first | assumption | (apply Ar.mk; first | omega | (simp only [Zj]; omega))) only [ZN,↓dt,ai,qA,↓reduceIte,qB,qC,reduceCtorEq,aa,ad,ZM,f0,f5,hd,e1,e2,e3,hcs];subst hR;refine Po (ext:=ext) (by (simp only [cO,db]; omega)) hcs' hpl hm (q :: ps) 0 t _ hq rfl (Nat.zero_add _) (by omega) ?_ ?_ ?_
     all_goals first | assumption | rfl
    | some u=>
     show _=some (ZR.ok (iM (((fZ l).map (u ++ ·)).map (t ++ ·))) s0);rw [← mD];have hu:=rV _ _ hq;refine ar (by unfold jM; rfl) (by unfold lc; rfl) ?_; intro hr R hR;simp -implicitDefEqProofs (disch:=first | assumption | (apply Ar.mk; first | omega | (simp only [Zj]; omega))) only [ZN,↓dt,ai,qA,↓reduceIte,qB,qC,reduceCtorEq,aa,ad,ZM,f0,f5,hd,e1,e2,e3,hcs];refine NP (ext:=ext) hcs' hpl hm (p0:=.lit 135 n cs) (p5:=iv i) (t ++ u) ?_ (q :: ps) 0 t u _ hq rfl rfl (Nat.zero_add _) (by omega) ?_ ?_ ?_ ?_ ?_
     ·intro f' g0 g4 g5;simp -implicitDefEqProofs (disch:=first | assumption | (apply Ar.mk; first | omega | (simp only [Zj]; omega))) only [ZN,↓reduceIte,aa,g5];rw [hR];apply key u _ _ (by (simp only [aj,ak]; omega)) (by (simp only [cO,db]; omega)) hu ht
      all_goals first | assumption | rfl
     all_goals first | assumption | rfl
  ·rw [if_neg c3];have e3:(kd != ((3:Nat):Int))=true:=by rw [bne_iff_ne]; exact c3
   refine ar (by unfold jM; rfl) (by unfold lc; rfl) ?_; intro hr R hR;simp -implicitDefEqProofs (disch:=first | assumption | (apply Ar.mk; first | omega | (simp only [Zj]; omega))) only [ZN,↓dt,ai,qA,↓reduceIte,qB,qC,reduceCtorEq,aa,ae,frz,frz2,aX,ad,ZM,f0,f5,hd,e1,e2,e3,hcs,hoV];exact hR.symm
theorem Ew {l:List aJ} (hl:l.length < 1000000) (hps:∀p∈l,p.parts.length < 1000000) (ht:fS l < 100000000) (s:PS):ah Tryz.prog Γ ext 75 [bK l] s=some (.ok (iM (fZ l)) s):=by
 have e0:iM (fZ l)=iM ((fZ l).map ([] ++ ·)):=by cases fZ l<;>rfl
 cases l with
 | nil=>
  rw [dl];refine am (fn:=TM) [2,3] rfl rfl rfl rfl (by unfold TM; rfl) ?_; intro R hR;simp -implicitDefEqProofs (disch:=first | assumption | (apply Ar.mk; first | omega | (simp only [Zj]; omega))) only [ZN,ai];subst hR;refine DX (n:=0) (Y:=nv) rfl (Nat.le_refl _) ?_ ?_ ?_
  all_goals rfl
 | cons p l=>
  have hec:(cJ p ++ eG l)=eG (p :: l):=by rw [eG]
  have hcs':(eG (p :: l)).length=(l.length + 1) * 5:=by
   rw [oa]; exact bB fq (p :: l)
  rw [e0,bK,hec];have hlp:=AY (ext:=ext) (s0:=s) hcs' hl rfl (p :: l) 0 [];refine am (fn:=TM) [2,3] rfl rfl rfl rfl (by unfold TM; rfl) ?_; intro R hR;simp -implicitDefEqProofs (disch:=first | assumption | (apply Ar.mk; first | omega | (simp only [Zj]; omega))) only [ZN,ai];subst hR;refine hlp _ _ hps rfl (Nat.zero_add _) (Nat.le_refl _) (Nat.le_refl _) (by simpa using ht) ?_ ?_ ?_
  all_goals rfl
theorem Ib {t:List UInt8} (ht:t.length≤16384):match nL 16384 t 0 with
  | .error x=>x.2≠0
  | .ok x=>x.1.length < 1000000∧(∀p∈x.1,p.parts.length < 1000000)∧fS x.1≤t.length:=by
 unfold nL;rw [if_neg (by omega)];have h1:=fw 16384 t (4 * t.length + 4) (.loop 0 0 1 0 0 []) (Nat.zero_le _) (by simp only [aT.size]; omega);have h2:=Qr 16384 t (4 * t.length + 4) (.loop 0 0 1 0 0 []) (Nat.zero_le _) (by simp only [aT.size]; omega) ⟨Nat.zero_le _,fun q hq=>by cases hq⟩;have h3:=SO 16384 t (4 * t.length + 4) (.loop 0 0 1 0 0 []) (Nat.zero_le _) (by simp only [aT.size]; omega);generalize wd 16384 t (4 * t.length + 4) (.loop 0 0 1 0 0 [])=r at *;rcases r with ⟨x,e⟩ | ⟨ps,j⟩
 ·exact h1.1
 ·have h3:fS ps + 0≤0 + j:=h3;have hj:j≤t.length:=h1.2.1;have hl:ps.length≤j:=h2.1;refine⟨by show ps.length < _; omega,fun p hp=>?_,by show fS ps≤_; omega⟩;have:=h2.2 p hp;cases this with
  | mk _ _ h _=>exact Nat.lt_of_le_of_lt h (by omega)
section
variable (hx:JW ext)
include hx
theorem IA {t:List UInt8} (ht:t.length≤16384) (s:PS):ah Tryz.prog Γ ext 16 [sv t] s=some (.ok (iM (np t)) s):=by
 have hp:=fun s=>Jw (ext:=ext) hx (l:=t) (by omega) s;have hk:=Ib ht;unfold np;generalize nL 16384 t 0=r at *;rcases r with ⟨x,e⟩ | ⟨ps,j⟩
 ·simp only at hk;have hp:∀s,ah Tryz.prog Γ ext 30 [sv t] s=some (.ok (.tup [nv,iv x,iv e]) s):=hp;show _=some (ZR.ok (.tup [sv [],.sc (.bool false)]) s);refine am (fn:=Pu) [2,3] rfl rfl rfl rfl (by unfold Pu; rfl) ?_; intro R hR;simp -implicitDefEqProofs (disch:=first | assumption | (apply Ar.mk; first | omega | (simp only [Zj]; omega))) only [ZN,↓dt,ai,qA,↓reduceIte,reduceCtorEq,aa,ae,frz,frz2,aX,ZM,hp];exact hR.symm
 ·obtain⟨h1,h2,h3⟩:=hk;have hL:=fun s=>E1 (ext:=ext) h1 h2 (by omega) s;have hp:∀s,ah Tryz.prog Γ ext 30 [sv t] s=some (.ok (.tup [bK ps,.sc (.int .i64 ((0:Nat):Int)),.sc (.int .i64 ((0:Nat):Int))]) s):=hp;simp only at hL ⊢;cases hq:fZ ps with
  | none=>
   rw [hq] at hL;have hL:∀s,ah Tryz.prog Γ ext 31 [bK ps] s=some (.ok (.tup [sv [],.sc (.bool false)]) s):=hL;refine am (fn:=Pu) [2,3] rfl rfl rfl rfl (by unfold Pu; rfl) ?_; intro R hR;simp -implicitDefEqProofs (disch:=first | assumption | (apply Ar.mk; first | omega | (simp only [Zj]; omega))) only [ZN,ai,qA,↓reduceIte,reduceCtorEq,aa,ae,frz,frz2,aX,ZM,hp,hL];exact hR.symm
  | some u=>
   rw [hq] at hL;have hL:∀s,ah Tryz.prog Γ ext 31 [bK ps] s=some (.ok (.tup [sv u,.sc (.bool true)]) s):=hL;refine am (fn:=Pu) [2,3] rfl rfl rfl rfl (by unfold Pu; rfl) ?_; intro R hR;simp -implicitDefEqProofs (disch:=first | assumption | (apply Ar.mk; first | omega | (simp only [Zj]; omega))) only [ZN,ai,qA,↓reduceIte,reduceCtorEq,aa,ae,frz,frz2,aX,ZM,hp,hL];exact hR.symm
end
theorem uM {t:List UInt8} (ht:t.length≤10000) (s:PS):ah Tryz.prog Γ ext 38 [sv t] s=some (.ok (iM (np t)) s):=by
 have hp:=fun s=>Bb (ext:=ext) (l:=t) s;have hk:=Ib (t:=t) (by omega);rw [OQ (L:=LL) (L':=16384) (by show t.length + 3≤1000000000; omega) (by omega)] at hp;unfold np;generalize nL 16384 t 0=r at *;rcases r with ⟨x,e⟩ | ⟨ps,j⟩
 ·simp only at hk;have hp:∀s,ah Tryz.prog Γ ext 74 [sv t] s=some (.ok (.tup [nv,iv x,iv e]) s):=hp;show _=some (ZR.ok (.tup [sv [],.sc (.bool false)]) s);refine am (fn:=Mv) [2,3] rfl rfl rfl rfl (by unfold Mv; rfl) ?_; intro R hR;simp -implicitDefEqProofs (disch:=first | assumption | (apply Ar.mk; first | omega | (simp only [Zj]; omega))) only [ZN,↓dt,ai,qA,↓reduceIte,reduceCtorEq,aa,ae,frz,frz2,aX,ZM,hp];exact hR.symm
 ·obtain⟨h1,h2,h3⟩:=hk;have hL:=fun s=>Ew (ext:=ext) h1 h2 (by omega) s;have hp:∀s,ah Tryz.prog Γ ext 74 [sv t] s=some (.ok (.tup [bK ps,.sc (.int .i64 ((0:Nat):Int)),.sc (.int .i64 ((0:Nat):Int))]) s):=hp;simp only at hL ⊢;cases hq:fZ ps with
  | none=>
   rw [hq] at hL;have hL:∀s,ah Tryz.prog Γ ext 75 [bK ps] s=some (.ok (.tup [sv [],.sc (.bool false)]) s):=hL;refine am (fn:=Mv) [2,3] rfl rfl rfl rfl (by unfold Mv; rfl) ?_; intro R hR;simp -implicitDefEqProofs (disch:=first | assumption | (apply Ar.mk; first | omega | (simp only [Zj]; omega))) only [ZN,ai,qA,↓reduceIte,reduceCtorEq,aa,ae,frz,frz2,aX,ZM,hp,hL];exact hR.symm
  | some u=>
   rw [hq] at hL;have hL:∀s,ah Tryz.prog Γ ext 75 [bK ps] s=some (.ok (.tup [sv u,.sc (.bool true)]) s):=hL;refine am (fn:=Mv) [2,3] rfl rfl rfl rfl (by unfold Mv; rfl) ?_; intro R hR;simp -implicitDefEqProofs (disch:=first | assumption | (apply Ar.mk; first | omega | (simp only [Zj]; omega))) only [ZN,ai,qA,↓reduceIte,reduceCtorEq,aa,ae,frz,frz2,aX,ZM,hp,hL];exact hR.symm
set_option maxHeartbeats 4000000
def EK (ext:aw):Prop:=∀(l:List UInt8) (s:PS),l.length < 1000000000→ext 33 [sv l] s=some (.sc (.bool (dG l)),s)
theorem QD (b:Bool):bv (b=true)=.sc (.bool b):=by cases b<;>rfl
theorem Ve (hx:EK ext) {l:List UInt8} (hl:l.length < 1000000000) (s:PS):ah Tryz.prog Γ ext 33 [sv l] s=some (.ok (bv (dG l=true)) s):=by
 rw [QD,pV (by rfl),hx l s hl]; rfl
theorem LI (vj:EK ext) {t:List UInt8} (ht:t.length < 1000000) (s:PS):ah Tryz.prog Γ ext 17 [sv t] s=some (.ok (bv (0 < kr t)) s):=by
 have hcut:=fun s=>Ru (ext:=ext) (t:=t) (by omega) s;have hnm:=fun s=>Ve (ext:=ext) vj (l:=t.take (aQ t 61 0)) (by rw [List.length_take]; omega) s;have hae:=NJ t;rw [show (bv (0 < kr t))=.sc (.bool (decide (0 < kr t))) from rfl,← hae];generalize aQ t 61 0=e at *;by_cases hc:e < t.length
 ·simp only [if_pos hc] at hcut;rw [decide_eq_true hc,Bool.true_and];rw [← QD];refine am (fn:=RU) [2] rfl rfl rfl rfl (by unfold RU; rfl) ?_; intro R hR;simp -implicitDefEqProofs (disch:=first | assumption | (apply Ar.mk; first | omega | (simp only [Zj]; omega))) only [ZN,ai,qA,↓reduceIte,reduceCtorEq,aa,ae,frz,frz2,aP,hcut,hnm];exact hR.symm
 ·simp only [if_neg hc] at hcut;rw [decide_eq_false hc,Bool.false_and];refine am (fn:=RU) [2] rfl rfl rfl rfl (by unfold RU; rfl) ?_; intro R hR;simp -implicitDefEqProofs (disch:=first | assumption | (apply Ar.mk; first | omega | (simp only [Zj]; omega))) only [ZN,ai,qA,↓reduceIte,reduceCtorEq,aa,ae,frz,frz2,aP,hcut];exact hR.symm
theorem Es (vj:EK ext) {t:List UInt8} (ht:t.length < 1000000) (s:PS):ah Tryz.prog Γ ext 29 [sv t] s=some (.ok (bv (im t=true)) s):=by
 have ha:=fun s=>LI (ext:=ext) vj ht s;refine am (fn:=VX) [2] rfl rfl rfl rfl (by unfold VX; rfl) ?_; intro R hR;simp -implicitDefEqProofs (disch:=first | assumption | (apply Ar.mk; first | omega | (simp only [Zj]; omega))) only [ZN,↓dt,ai,qA,↓reduceIte,reduceCtorEq,aa,ae,frz,frz2,aP,ha];subst hR
 (repeat' (apply DI_c<;>intro))<;>first | rfl | (apply eU; simp [im,ge,nh, *]; done) | (apply dT; simp [im,ge,nh, *]; done) | (apply cZ; simp [im,ge,nh, *]; done)
theorem JD (t:List UInt8) (s:PS):ah Tryz.prog Γ ext 72 [sv t] s=some (.ok (bv (jD t=true)) s):=by
 refine am (fn:=W0) [2] rfl rfl rfl rfl (by unfold W0; rfl) ?_; intro R hR;simp -implicitDefEqProofs (disch:=first | assumption | (apply Ar.mk; first | omega | (simp only [Zj]; omega))) only [ZN,ai,qA,↓reduceIte,reduceCtorEq,aa,ae,frz,frz2,aP];subst hR
 first | rfl | (apply cZ; simp [jD,tj]; done) | (apply cZ; simp [jD,tj,or_assoc]; done)
theorem CO (t:List UInt8) (s:PS):ah Tryz.prog Γ ext 73 [sv t] s=some (.ok (bv (ge t=true)) s):=by
 refine am (fn:=UT) [2] rfl rfl rfl rfl (by unfold UT; rfl) ?_; intro R hR;simp -implicitDefEqProofs (disch:=first | assumption | (apply Ar.mk; first | omega | (simp only [Zj]; omega))) only [ZN,↓dt,ai,qA,↓reduceIte,reduceCtorEq,aa,ae,frz,frz2,aP];subst hR
 (repeat' (apply DI_c<;>intro))<;>first | rfl | (apply eU; simp [ge,nh, *]<;>omega) | (apply dT; simp [ge,nh, *]<;>omega) | (apply cZ; simp [ge,nh, *]<;>omega)
theorem yU {l:List UInt8} (hl:l.length < 4611686018427387904) (s0:PS):∀(k i:Nat) (f:aE) (s:PS),i + k=l.length→s0.n≤s.w→f 0=sv l→f 3=iv i→rl Tryz.prog Γ ext (ZT [2] s0) 0 v6 yH f s []=some (.ok (bv ((l.drop i).all (fun x=>aF x.toNat)=true)) s0):=by
 intro k
 induction k with
 | zero=>
  intro i f s hk hw h0 h3;refine ar (by unfold v6; rfl) (by unfold yH; rfl) ?_; intro hr R hR;simp -implicitDefEqProofs (disch:=first | assumption | (apply Ar.mk; omega)) only [ZN,↓df,qA,↓reduceIte,reduceCtorEq,aa,ae,frz,frz2,aP,h0,h3,hr];rw [hR,List.drop_eq_nil_of_le (by omega)]; rfl
 | succ k ih=>
  intro i f s hk hw h0 h3;have hi:i < l.length:=by omega
  rw [Ap hi];have hg:=cf hi;by_cases c:aF (bt l i)=true
  ·have k1:Ar (aF (bt l i)=true):=⟨c⟩
   have k2:Ar (¬ ¬ aF (bt l i)=true):=⟨fun h=>h c⟩
   refine ar (by unfold v6; rfl) (by unfold yH; rfl) ?_; intro hr R hR;simp -implicitDefEqProofs (disch:=first | assumption | (apply Ar.mk; omega)) only [ZN,↓dt,↓df,qA,↓reduceIte,reduceCtorEq,aa,h0,h3,nG];subst hR;rw [← hg,c,Bool.true_and];refine ih (i + 1) _ _ ?_ ?_ ?_ ?_
   all_goals first | omega | assumption | rfl
  ·have k1:Ar (¬ aF (bt l i)=true):=⟨c⟩
   refine ar (by unfold v6; rfl) (by unfold yH; rfl) ?_; intro hr R hR;simp -implicitDefEqProofs (disch:=first | assumption | (apply Ar.mk; omega)) only [ZN,↓dt,qA,↓reduceIte,reduceCtorEq,aa,ae,frz,frz2,aP,h0,h3,nG];rw [hR];apply dT;rw [← hg];simp [c]
theorem OB {l:List UInt8} (hl:l.length < 4611686018427387904) (s:PS):ah Tryz.prog Γ ext 77 [sv l] s=some (.ok (bv (dG l=true)) s):=by
 by_cases c0:l=[]
 ·subst c0;refine am (fn:=K9) [2] rfl rfl rfl rfl (by unfold K9; rfl) ?_; intro R hR;simp -implicitDefEqProofs (disch:=first | assumption | (apply Ar.mk; omega)) only [ZN,ai,qA,↓reduceIte,reduceCtorEq,aa,ae,frz,frz2,aP];rw [hR]; rfl
 have hpos : 0 < l.length:=List.length_pos_iff.2 c0;have k0:Ar (¬ l.length=0):=⟨by omega⟩
 by_cases c1 : 32 < l.length
 ·have e:dG l=false:=by unfold dG; rw [decide_eq_false (by omega)]; simp
  rw [e];refine am (fn:=K9) [2] rfl rfl rfl rfl (by unfold K9; rfl) ?_; intro R hR;simp -implicitDefEqProofs (disch:=first | assumption | (apply Ar.mk; omega)) only [ZN,ai,qA,↓reduceIte,reduceCtorEq,aa,ae,frz,frz2,aP,bk,bI,↓bR,↓ed];rw [hR]; rfl
 by_cases c2:ay (bt l 0)=true
 ·have e:dG l=false:=by unfold dG; rw [c2]; simp
  rw [e];have k1:Ar (ay (bt l 0)=true):=⟨c2⟩
  refine am (fn:=K9) [2] rfl rfl rfl rfl (by unfold K9; rfl) ?_; intro R hR;simp -implicitDefEqProofs (disch:=first | assumption | (apply Ar.mk; omega)) only [ZN,↓dt,ai,qA,↓reduceIte,reduceCtorEq,aa,ae,frz,frz2,aP,bI,↓bR,gV];rw [hR]; rfl
 ·have e:dG l=(l.drop 0).all fun x=>aF x.toNat:=by
   unfold dG;rw [decide_eq_true (by omega:l.length≤32),(by simpa using c2:ay (bt l 0)=false),List.drop_zero];cases l with
   | nil=>exact absurd rfl c0
   | cons a b=>rfl
  rw [e];have k1:Ar (¬ ay (bt l 0)=true):=⟨c2⟩
  refine am (fn:=K9) [2] rfl rfl rfl rfl (by unfold K9; rfl) ?_; intro R hR;simp -implicitDefEqProofs (disch:=first | assumption | (apply Ar.mk; omega)) only [ZN,↓df,ai,qA,↓reduceIte,reduceCtorEq,aa,bI,↓bR,gV];subst hR;exact yU hl s l.length 0 _ _ (by omega) (Nat.le_refl _) rfl rfl
def GN (t:List UInt8):PV:=if 0 < kr t then .tup [sv (t.take (bm t 0)),sv (t.drop (bm t 0 + 1)),.sc (.bool true)] else .tup [sv [],sv [],.sc (.bool false)]
theorem GZ {t:List UInt8} (ht:t.length < 1000000) (s:PS):ah Tryz.prog Γ ext 39 [sv t] s=some (.ok (GN t) s):=by
 have hn:=fun s=>vz (ext:=ext) (l:=t) (by omega) (i:=0) (Nat.zero_le _) s;have hle:bm t 0≤t.length:=gn (Nat.zero_le _);have hm:=fun s=>OB (ext:=ext) (l:=t.take (bm t 0)) (by rw [List.length_take]; omega) s;unfold GN kr;generalize bm t 0=e at *;have hn:∀s,ah Tryz.prog Γ ext 76 [sv t,.sc (.int .i64 ((0:Nat):Int))] s=some (.ok (iv e) s):=hn;by_cases c1:e < t.length
 ·by_cases c2:bt t e=61
  ·by_cases c3:dG (t.take e)=true
   ·have k1:Ar (dG (t.take e)=true):=⟨c3⟩
    rw [decide_eq_true c1,c3,c2];refine am (fn:=Kj) [2,3,4] rfl rfl rfl rfl (by unfold Kj; rfl) ?_; intro R hR;simp -implicitDefEqProofs (disch:=first | assumption | (apply Ar.mk; first | omega | (simp only [Zj]; omega)) | (apply Ak.mk; first | rfl | exact .inl rfl | exact .inr rfl | exact aq _ _ | exact av _ _ | (unfold aG az; simp<;>omega) | with_unfolding_all rfl | exact .inr (by with_unfolding_all rfl))) only [ZN,↓dt,ai,qA,↓reduceIte,qB,reduceCtorEq,aa,ae,frz,frz2,aP,aX,bk,↓bR,ZV,aW,aS,hn,hm];exact hR.symm
   ·have k1:Ar (¬ dG (t.take e)=true):=⟨c3⟩
    rw [(by simpa using c3:dG (t.take e)=false),Bool.and_false];refine am (fn:=Kj) [2,3,4] rfl rfl rfl rfl (by unfold Kj; rfl) ?_; intro R hR;simp -implicitDefEqProofs (disch:=first | assumption | (apply Ar.mk; first | omega | (simp only [Zj]; omega)) | (apply Ak.mk; first | rfl | exact .inl rfl | exact .inr rfl | exact aq _ _ | exact av _ _ | (unfold aG az; simp<;>omega) | with_unfolding_all rfl | exact .inr (by with_unfolding_all rfl))) only [ZN,↓df,ai,qA,↓reduceIte,reduceCtorEq,aa,ae,frz,frz2,aP,aX,bk,↓bR,hn,hm];exact hR.symm
  ·have k1:Ar (¬ bt t e=61):=⟨c2⟩
   rw [show (bt t e == 61)=false by simpa using c2,Bool.and_false,Bool.false_and];refine am (fn:=Kj) [2,3,4] rfl rfl rfl rfl (by unfold Kj; rfl) ?_; intro R hR;simp -implicitDefEqProofs (disch:=first | assumption | (apply Ar.mk; first | omega | (simp only [Zj]; omega)) | (apply Ak.mk; first | rfl | exact .inl rfl | exact .inr rfl | exact aq _ _ | exact av _ _ | (unfold aG az; simp<;>omega) | with_unfolding_all rfl | exact .inr (by with_unfolding_all rfl))) only [ZN,ai,qA,↓reduceIte,reduceCtorEq,aa,ae,frz,frz2,aP,aX,bk,bI,↓bR,↓ed,hn];exact hR.symm
 ·rw [decide_eq_false c1,Bool.false_and,Bool.false_and];refine am (fn:=Kj) [2,3,4] rfl rfl rfl rfl (by unfold Kj; rfl) ?_; intro R hR;simp -implicitDefEqProofs (disch:=first | assumption | (apply Ar.mk; first | omega | (simp only [Zj]; omega)) | (apply Ak.mk; first | rfl | exact .inl rfl | exact .inr rfl | exact aq _ _ | exact av _ _ | (unfold aG az; simp<;>omega) | with_unfolding_all rfl | exact .inr (by with_unfolding_all rfl))) only [ZN,ai,qA,↓reduceIte,reduceCtorEq,aa,ae,frz,frz2,aP,aX,bI,↓ed,hn];exact hR.symm
def lu (w:List UInt8):List PV:=[sv w]
theorem eO (w:List UInt8):(lu w).length=1:=rfl
theorem Jk (w:List UInt8):(lu w).all eQ=true:=rfl
theorem uH (w:List UInt8):(lu w).all dQ=true:=rfl
def gi (ws:List (List UInt8)):PV:=wO 9 lu (jF ws)
theorem J1 {ws:List (List UInt8)} (hl:ws.length < 1000000) (s:PS):ah Tryz.prog Γ ext 7 [gi ws,gi ws] s=some (.ok (.sc (.bool true)) s):=by
 cases ws with
 | nil=>
  show ah Tryz.prog Γ ext 7 [nv,nv] s=_;refine am (fn:=p7) [4] rfl rfl rfl rfl (by unfold p7; rfl) ?_; intro R hR;simp -implicitDefEqProofs (disch:=first | assumption | (apply Ar.mk; first | omega | (simp only [Zj]; omega))) only [ZN,ai,qA,↓reduceIte,qB,reduceCtorEq,aa,ZM];subst hR;refine ar (by unfold DC; rfl) (by unfold Hv; rfl) ?_; intro hr R hR;simp -implicitDefEqProofs (disch:=first | assumption | (apply Ar.mk; first | omega | (simp only [Zj]; omega))) only [ZN,qA,↓reduceIte,qD,reduceCtorEq,aa,ae,frz,frz2,ZM,hr];exact hR.symm
 | cons w ws=>
  have hfl:=bB eO (w :: ws);have hlo:∀(k i:Nat) (f:aE) (S:PS),i + k=(w :: ws).length→s.n≤S.w→f 0=.lit 9 (w :: ws).length ((w :: ws).flatMap lu)→f 1=.lit 9 (w :: ws).length ((w :: ws).flatMap lu)→f 5=iv i→rl Tryz.prog Γ ext (ZT [4] s) 0 DC Hv f S []=some (.ok (.sc (.bool true)) s):=by
   intro k
   induction k with
   | zero=>
    intro i f S hi hw f0 f1 f5;have hi:i=(w :: ws).length:=hi;subst hi;refine ar (by unfold DC; rfl) (by unfold Hv; rfl) ?_; intro hr R hR;simp -implicitDefEqProofs (disch:=first | assumption | (apply Ar.mk; first | omega | (simp only [Zj]; omega)) | (apply Ak.mk; first | rfl | exact .inl rfl | exact .inr rfl | exact aq _ _ | exact av _ _ | (unfold aG az; simp<;>omega) | with_unfolding_all rfl | exact .inr (by with_unfolding_all rfl))) only [ZN,↓df,qA,↓reduceIte,reduceCtorEq,aa,ae,frz,frz2,ZM,f0,f5,hr];exact hR.symm
   | succ k ih=>
    intro i f S hi hw f0 f1 f5;have hil:i < (w :: ws).length:=by omega
    have hd:((w :: ws).flatMap lu).drop (i * 1)=sv ((w :: ws)[i]) :: ((w :: ws).drop (i + 1)).flatMap lu:=by
     have e:∀(l:List (List UInt8)) (i:Nat) (h:i < l.length),(l.flatMap lu).drop i=sv l[i] :: (l.drop (i + 1)).flatMap lu:=by
      intro l
      induction l with
      | nil=>intro i h; exact absurd h (Nat.not_lt_zero _)
      | cons x l ih2=>
       intro i h;cases i with
       | zero=>rfl
       | succ i=>exact ih2 i (by simpa using h)
     rw [Nat.mul_one]; exact e _ i hil
    generalize (w :: ws)[i]=x at *;generalize ((w :: ws).drop (i + 1)).flatMap lu=y at *;generalize (w :: ws).flatMap lu=cs at *;generalize (w :: ws).length=n at *;have k1:Ar (¬ ¬ x=x):=⟨fun h=>h rfl⟩
    have e1:decide (x=x)=true:=by simp
    refine ar (by unfold DC; rfl) (by unfold Hv; rfl) ?_; intro hr R hR;simp -implicitDefEqProofs (disch:=first | assumption | (apply Ar.mk; first | omega | (simp only [Zj]; omega)) | (apply Ak.mk; first | rfl | exact .inl rfl | exact .inr rfl | exact aq _ _ | exact av _ _ | (unfold aG az; simp<;>omega) | with_unfolding_all rfl | exact .inr (by with_unfolding_all rfl))) only [ZN,↓dt,qA,↓reduceIte,qB,reduceCtorEq,aa,ad,ZM,ZV,aW,aZ,aS,f0,f1,f5,hd,hfl];subst hR;refine ih (i + 1) _ _ ?_ ?_ ?_ ?_ ?_
    all_goals first | omega | assumption | rfl
  show ah Tryz.prog Γ ext 7 [.lit 9 (w :: ws).length ((w :: ws).flatMap lu),.lit 9 (w :: ws).length ((w :: ws).flatMap lu)] s=_;have hlo:=hlo (w :: ws).length 0;have hl':(w :: ws).length < 1000000:=hl;generalize (w :: ws).flatMap lu=cs at *;generalize (w :: ws).length=n at *;refine am (fn:=p7) [4] rfl rfl rfl rfl (by unfold p7; rfl) ?_; intro R hR;simp -implicitDefEqProofs (disch:=first | assumption | (apply Ar.mk; first | omega | (simp only [Zj]; omega))) only [ZN,ai,qA,↓reduceIte,qB,reduceCtorEq,aa,ZM];subst hR;exact hlo _ _ (Nat.zero_add _) (Nat.le_refl _) rfl rfl rfl
set_option maxHeartbeats 4000000
def xe (x:Pt):PV:=.agg [gi x.ws,.sc (.bool x.fi),.sc (.bool x.ta)]
theorem l5 (ws:List (List UInt8)):eQ (gi ws)=true:=by cases ws<;>rfl
theorem wA (n:Nat) (s:PS) (ws:List (List UInt8)):aP n s (gi ws)=some (gi ws):=by cases ws<;>rfl
theorem Pq (s:PS) (ws:List (List UInt8)):eM s 1 (gi ws)=some (ws.flatMap lu,ws.length):=by
 have:=Hx (e:=9) eO (jF ws) s;rw [I3] at this;exact this
theorem JU {ws:List (List UInt8)} (hn:ws.length < 100000) (w:List UInt8) (T:PS) {n0:Nat} (h0:n0≤T.n) (hw:n0≤T.w) :
  ∃v1 S1 v2 S2,fo T 9 1 16 nv (ws.flatMap lu) ws.length=some (v1,S1)∧fo (S1.new ⟨[sv w],0,9⟩) 9 1 16 v1 [sv w] 1=some (v2,S2)∧fF 9 1 lu T.n (ws ++ [w]) v2 S2∧(∀j,j < T.n→S2.h j=T.h j)∧n0≤S2.w∧T.n≤S2.n:=by
 obtain⟨v1,S1,e1,e2,e3,e4,e5⟩:=fF.app (bytes:=16) (b:=T.n) eO (fF.nil 9 1 lu T.n T) ws (by decide) (by simp; omega) (by simp; omega) (fun x _=>rfl) (Nat.le_refl _);rw [List.nil_append] at e2;obtain⟨v2,S2,g1,g2,g3,g4,g5⟩:=fF.app1 (bytes:=16) eO (e2.new ⟨[sv w],0,9⟩) w (by decide) (by omega) (by omega) rfl (by (simp only [aj]; omega));have g4':S1.n + 1≤S2.n:=g4;refine⟨v1,S1,v2,S2,e1,g1,g2,fun j hj=>?_,g5 n0 h0 (e5 n0 h0 hw),by omega⟩;rw [(g3 j (by (simp only [aj]; omega)) (e2.ne (.inr hj))).1];rw [← e3 j hj];simp -implicitDefEqProofs (disch:=(apply Ar.mk; (try simp only [aj,ak]); omega)) only [ap,au]
section
variable {x:Pt} (hn:x.ws.length < 100000) {k p e:Nat}{t:List UInt8} (ht:t.length≤10000)
include hn ht
theorem Lx (hk:k=1∨5≤k) (hta:x.ta=false) (hsk:¬ (x.fi=true∧im t=true)) (s:PS):ah Tryz.prog Γ ext 37 [xe x,.agg [iv k,iv p,iv e,sv t]] s=some (.ok (xe (sD x t)) s):=by
 have hoV:=l5 x.ws;have hel:=fun s=>Pq s x.ws;have ha:=fun s=>GZ (ext:=ext) (t:=t) (by omega) s;have hl:=fun s=>CO (ext:=ext) t s;have hlit:=fun s=>uM (ext:=ext) ht s;have hk3:k≠3:=by omega
 have hk2:k≠2:=by omega
 have hk4:k≠4:=by omega
 obtain⟨ws,fi,ta⟩:=x;simp only at hn hta hsk hoV hel;subst hta;unfold sD xe;simp only;have hw:=fun w=>JU hn w ((((⟨s.h,s.n,s.n⟩ : PS).new ⟨[gi ws,.sc (.bool fi),.sc (.bool false)],0,90⟩).new ⟨[iv k,iv p,iv e,sv t],0,55⟩).new ⟨[nv,.sc (.bool false),.sc (.bool false)],0,90⟩) (n0:=s.n) (by (simp only [aj]; omega)) (Nat.le_refl _);unfold GN at ha;cases fi with
 | false=>
  by_cases c2 : 0 < kr t
  ·simp only [if_pos c2] at ha;cases hq:np t with
   | none=>
    rw [hq] at hlit;have hlit:∀s,ah Tryz.prog Γ ext 38 [sv t] s=some (.ok (.tup [sv [],.sc (.bool false)]) s):=hlit;obtain⟨v1,S1,v2,S2,e1,e2,e3,e4,e5,e6⟩:=hw t;have hz:∀j c,Ar (j < s.n + 3)→aP s.n (S2.put j c) v2=some (wO 9 lu (jF (ws ++ [t]))):=fun j c hj=>fF.frz eO (e3.fr (Nat.le_refl _) fun i hi _ _=>au ⟨by have:=hj.h; simp only [aj] at hi; omega⟩ _ _) (by (simp only [aj]; omega)) fun _ _=>rfl;obtain⟨hc2,ho2⟩:=e3.ce;have hf:∀j,Ar (j < s.n + 3)→S2.h j=_:=fun j hj=>e4 j (by have:=hj.h; (simp only [aj]; omega));refine bF (fn:=mS) 4 3 rfl rfl rfl rfl (by unfold mS; rfl) ?_; intro R hR;simp -implicitDefEqProofs (disch:=first | assumption | (apply Ar.mk; first | omega | (simp only [Zj]; omega))) only [ZN,ai,qA,↓reduceIte,qB,qC,reduceCtorEq,aa,aD,ad,ZM,qF,hk2,hk3,hk4,hel,ha,hlit,e1,e2,hc2,ho2,hf,↓hz];rw [hR]; rfl
   | some w=>
    rw [hq] at hlit;have hlit:∀s,ah Tryz.prog Γ ext 38 [sv t] s=some (.ok (.tup [sv w,.sc (.bool true)]) s):=hlit;obtain⟨v1,S1,v2,S2,e1,e2,e3,e4,e5,e6⟩:=hw w;have hz:∀j c,Ar (j < s.n + 3)→aP s.n (S2.put j c) v2=some (wO 9 lu (jF (ws ++ [w]))):=fun j c hj=>fF.frz eO (e3.fr (Nat.le_refl _) fun i hi _ _=>au ⟨by have:=hj.h; simp only [aj] at hi; omega⟩ _ _) (by (simp only [aj]; omega)) fun _ _=>rfl;obtain⟨hc2,ho2⟩:=e3.ce;have hf:∀j,Ar (j < s.n + 3)→S2.h j=_:=fun j hj=>e4 j (by have:=hj.h; (simp only [aj]; omega));refine bF (fn:=mS) 4 3 rfl rfl rfl rfl (by unfold mS; rfl) ?_; intro R hR;simp -implicitDefEqProofs (disch:=first | assumption | (apply Ar.mk; first | omega | (simp only [Zj]; omega))) only [ZN,ai,qA,↓reduceIte,qB,qC,reduceCtorEq,aa,aD,ad,ZM,qF,hk2,hk3,hk4,hel,ha,hlit,e1,e2,hc2,ho2,hf,↓hz];rw [hR]; rfl
  ·simp only [if_neg c2] at ha;cases hq:np t with
   | none=>
    rw [hq] at hlit;have hlit:∀s,ah Tryz.prog Γ ext 38 [sv t] s=some (.ok (.tup [sv [],.sc (.bool false)]) s):=hlit;obtain⟨v1,S1,v2,S2,e1,e2,e3,e4,e5,e6⟩:=hw t;have hz:∀j c,Ar (j < s.n + 3)→aP s.n (S2.put j c) v2=some (wO 9 lu (jF (ws ++ [t]))):=fun j c hj=>fF.frz eO (e3.fr (Nat.le_refl _) fun i hi _ _=>au ⟨by have:=hj.h; simp only [aj] at hi; omega⟩ _ _) (by (simp only [aj]; omega)) fun _ _=>rfl;obtain⟨hc2,ho2⟩:=e3.ce;have hf:∀j,Ar (j < s.n + 3)→S2.h j=_:=fun j hj=>e4 j (by have:=hj.h; (simp only [aj]; omega));refine bF (fn:=mS) 4 3 rfl rfl rfl rfl (by unfold mS; rfl) ?_; intro R hR;simp -implicitDefEqProofs (disch:=first | assumption | (apply Ar.mk; first | omega | (simp only [Zj]; omega))) only [ZN,ai,qA,↓reduceIte,qB,qC,reduceCtorEq,aa,aD,ad,ZM,qF,hk2,hk3,hk4,hel,ha,hlit,e1,e2,hc2,ho2,hf,↓hz];rw [hR]; rfl
   | some w=>
    rw [hq] at hlit;have hlit:∀s,ah Tryz.prog Γ ext 38 [sv t] s=some (.ok (.tup [sv w,.sc (.bool true)]) s):=hlit;obtain⟨v1,S1,v2,S2,e1,e2,e3,e4,e5,e6⟩:=hw w;have hz:∀j c,Ar (j < s.n + 3)→aP s.n (S2.put j c) v2=some (wO 9 lu (jF (ws ++ [w]))):=fun j c hj=>fF.frz eO (e3.fr (Nat.le_refl _) fun i hi _ _=>au ⟨by have:=hj.h; simp only [aj] at hi; omega⟩ _ _) (by (simp only [aj]; omega)) fun _ _=>rfl;obtain⟨hc2,ho2⟩:=e3.ce;have hf:∀j,Ar (j < s.n + 3)→S2.h j=_:=fun j hj=>e4 j (by have:=hj.h; (simp only [aj]; omega));refine bF (fn:=mS) 4 3 rfl rfl rfl rfl (by unfold mS; rfl) ?_; intro R hR;simp -implicitDefEqProofs (disch:=first | assumption | (apply Ar.mk; first | omega | (simp only [Zj]; omega))) only [ZN,ai,qA,↓reduceIte,qB,qC,reduceCtorEq,aa,aD,ad,ZM,qF,hk2,hk3,hk4,hel,ha,hlit,e1,e2,hc2,ho2,hf,↓hz];rw [hR]; rfl
 | true=>
  have hsk:im t=false:=by simpa using hsk
  unfold im at hsk;have c1:ge t=false:=by simp at hsk; exact hsk.1
  have c2:¬ 0 < kr t:=by simp at hsk; omega
  have k1:Ar (¬ ge t=true):=⟨by rw [c1]; decide⟩
  simp only [if_neg c2] at ha;cases hq:np t with
  | none=>
   rw [hq] at hlit;have hlit:∀s,ah Tryz.prog Γ ext 38 [sv t] s=some (.ok (.tup [sv [],.sc (.bool false)]) s):=hlit;obtain⟨v1,S1,v2,S2,e1,e2,e3,e4,e5,e6⟩:=hw t;have hz:∀j c,Ar (j < s.n + 3)→aP s.n (S2.put j c) v2=some (wO 9 lu (jF (ws ++ [t]))):=fun j c hj=>fF.frz eO (e3.fr (Nat.le_refl _) fun i hi _ _=>au ⟨by have:=hj.h; simp only [aj] at hi; omega⟩ _ _) (by (simp only [aj]; omega)) fun _ _=>rfl;obtain⟨hc2,ho2⟩:=e3.ce;have hf:∀j,Ar (j < s.n + 3)→S2.h j=_:=fun j hj=>e4 j (by have:=hj.h; (simp only [aj]; omega));refine bF (fn:=mS) 4 3 rfl rfl rfl rfl (by unfold mS; rfl) ?_; intro R hR;simp -implicitDefEqProofs (disch:=first | assumption | (apply Ar.mk; first | omega | (simp only [Zj]; omega))) only [ZN,ai,qA,↓reduceIte,qB,qC,reduceCtorEq,aa,aD,ad,ZM,qF,bI,↓bR,hk2,hk3,hk4,hel,ha,hl,hlit,e1,e2,hc2,ho2,hf,↓hz];rw [hR]; rfl
  | some w=>
   rw [hq] at hlit;have hlit:∀s,ah Tryz.prog Γ ext 38 [sv t] s=some (.ok (.tup [sv w,.sc (.bool true)]) s):=hlit;obtain⟨v1,S1,v2,S2,e1,e2,e3,e4,e5,e6⟩:=hw w;have hz:∀j c,Ar (j < s.n + 3)→aP s.n (S2.put j c) v2=some (wO 9 lu (jF (ws ++ [w]))):=fun j c hj=>fF.frz eO (e3.fr (Nat.le_refl _) fun i hi _ _=>au ⟨by have:=hj.h; simp only [aj] at hi; omega⟩ _ _) (by (simp only [aj]; omega)) fun _ _=>rfl;obtain⟨hc2,ho2⟩:=e3.ce;have hf:∀j,Ar (j < s.n + 3)→S2.h j=_:=fun j hj=>e4 j (by have:=hj.h; (simp only [aj]; omega));refine bF (fn:=mS) 4 3 rfl rfl rfl rfl (by unfold mS; rfl) ?_; intro R hR;simp -implicitDefEqProofs (disch:=first | assumption | (apply Ar.mk; first | omega | (simp only [Zj]; omega))) only [ZN,ai,qA,↓reduceIte,qB,qC,reduceCtorEq,aa,aD,ad,ZM,qF,bI,↓bR,hk2,hk3,hk4,hel,ha,hl,hlit,e1,e2,hc2,ho2,hf,↓hz];rw [hR]; rfl
theorem IZ (hk:k=1∨5≤k) (hta:x.ta=false) (hfi:x.fi=true) (hsk:im t=true) (s:PS):ah Tryz.prog Γ ext 37 [xe x,.agg [iv k,iv p,iv e,sv t]] s=some (.ok (xe x) s):=by
 have hoV:=l5 x.ws;have hfz:=fun n s=>wA n s x.ws;have ha:=fun s=>GZ (ext:=ext) (t:=t) (by omega) s;have hl:=fun s=>CO (ext:=ext) t s;have hk3:k≠3:=by omega
 have hk2:k≠2:=by omega
 have hk4:k≠4:=by omega
 obtain⟨ws,fi,ta⟩:=x;simp only at hn hta hfi hoV hfz;subst hta;subst hfi;unfold xe;simp only;unfold GN at ha;by_cases c1:ge t=true
 ·have k1:Ar (ge t=true):=⟨c1⟩
  by_cases c2 : 0 < kr t
  ·simp only [if_pos c2] at ha;refine bF (fn:=mS) 4 3 rfl rfl rfl rfl (by unfold mS; rfl) ?_; intro R hR;simp -implicitDefEqProofs (disch:=first | assumption | (apply Ar.mk; first | omega | (simp only [Zj]; omega))) only [ZN,ai,qA,↓reduceIte,qB,qC,reduceCtorEq,aa,ad,ZM,bk,hk2,hk3,hk4,hoV,ha,hl,↓hfz];exact hR.symm
  ·simp only [if_neg c2] at ha;refine bF (fn:=mS) 4 3 rfl rfl rfl rfl (by unfold mS; rfl) ?_; intro R hR;simp -implicitDefEqProofs (disch:=first | assumption | (apply Ar.mk; first | omega | (simp only [Zj]; omega))) only [ZN,ai,qA,↓reduceIte,qB,qC,reduceCtorEq,aa,ad,ZM,bk,hk2,hk3,hk4,hoV,ha,hl,↓hfz];exact hR.symm
 ·have k1:Ar (¬ ge t=true):=⟨c1⟩
  have c2 : 0 < kr t:=by
   unfold im at hsk;simpa [(by simpa using c1:ge t=false)] using hsk
  simp only [if_pos c2] at ha;refine bF (fn:=mS) 4 3 rfl rfl rfl rfl (by unfold mS; rfl) ?_; intro R hR;simp -implicitDefEqProofs (disch:=first | assumption | (apply Ar.mk; first | omega | (simp only [Zj]; omega))) only [ZN,ai,qA,↓reduceIte,qB,qC,reduceCtorEq,aa,ad,ZM,bI,↓bR,hk2,hk3,hk4,hoV,ha,hl,↓hfz];exact hR.symm
theorem Lp (s:PS) (h:k=2∨k=3∨k=4∨x.ta=true):ah Tryz.prog Γ ext 37 [xe x,.agg [iv k,iv p,iv e,sv t]] s=some (.ok (xe (da x k t)) s):=by
 have hoV:=l5 x.ws;have hfz:=fun n s=>wA n s x.ws;have ho:=fun s=>JD (ext:=ext) t s;obtain⟨ws,fi,ta⟩:=x;simp only at hn h hoV hfz;unfold da;by_cases c3:k=3
 ·rw [if_pos c3];unfold xe;show _=some (ZR.ok (.agg [nv,.sc (.bool true),.sc (.bool false)]) s);refine bF (fn:=mS) 4 3 rfl rfl rfl rfl (by unfold mS; rfl) ?_; intro R hR;simp -implicitDefEqProofs (disch:=first | assumption | (apply Ar.mk; first | omega | (simp only [Zj]; omega))) only [ZN,↓dt,ai,qA,↓reduceIte,qB,qC,reduceCtorEq,aa,aD,ad,ZM];exact hR.symm
 rw [if_neg c3];by_cases c2:k=2
 ·rw [if_pos c2];unfold uy;by_cases d1:jD t=true
  ·rw [if_pos d1];have k1:Ar (jD t=true):=⟨d1⟩
   unfold xe;show _=some (ZR.ok (.agg [nv,.sc (.bool true),.sc (.bool false)]) s);refine bF (fn:=mS) 4 3 rfl rfl rfl rfl (by unfold mS; rfl) ?_; intro R hR;simp -implicitDefEqProofs (disch:=first | assumption | (apply Ar.mk; first | omega | (simp only [Zj]; omega))) only [ZN,↓dt,↓df,ai,qA,↓reduceIte,qB,qC,reduceCtorEq,aa,aD,ad,ZM,bk,↓bR,ho];exact hR.symm
  rw [if_neg d1];have k1:Ar (¬ jD t=true):=⟨d1⟩
  by_cases d2:t=[41]
  ·rw [if_pos (by rw [d2]; rfl)];have k2:Ar (t=[41]):=⟨d2⟩
   unfold xe;show _=some (ZR.ok (.agg [nv,.sc (.bool false),.sc (.bool false)]) s);refine bF (fn:=mS) 4 3 rfl rfl rfl rfl (by unfold mS; rfl) ?_; intro R hR;simp -implicitDefEqProofs (disch:=first | assumption | (apply Ar.mk; first | omega | (simp only [Zj]; omega))) only [ZN,↓df,ai,qA,↓reduceIte,qB,qC,reduceCtorEq,aa,aD,ad,ZM,bk,↓bR,ho];exact hR.symm
  have k2:Ar (¬ t=[41]):=⟨d2⟩
  by_cases d3:t=[59,59]
  ·rw [if_pos (by rw [d3]; rfl)];have k3:Ar (t=[59,59]):=⟨d3⟩
   unfold xe;show _=some (ZR.ok (.agg [nv,.sc (.bool false),.sc (.bool false)]) s);refine bF (fn:=mS) 4 3 rfl rfl rfl rfl (by unfold mS; rfl) ?_; intro R hR;simp -implicitDefEqProofs (disch:=first | assumption | (apply Ar.mk; first | omega | (simp only [Zj]; omega))) only [ZN,↓dt,↓df,ai,qA,↓reduceIte,qB,qC,reduceCtorEq,aa,aD,ad,ZM,bk,bI,↓bR,ho];exact hR.symm
  have k3:Ar (¬ t=[59,59]):=⟨d3⟩
  rw [if_neg (by unfold zn; simp [d2,d3])];unfold xe;simp only;refine bF (fn:=mS) 4 3 rfl rfl rfl rfl (by unfold mS; rfl) ?_; intro R hR;simp -implicitDefEqProofs (disch:=first | assumption | (apply Ar.mk; first | omega | (simp only [Zj]; omega))) only [ZN,↓dt,↓df,ai,qA,↓reduceIte,qB,qC,reduceCtorEq,aa,ad,ZM,bk,bI,↓bR,hoV,ho,↓hfz];exact hR.symm
 rw [if_neg c2];by_cases c4:k=4
 ·rw [if_pos c4];unfold xe;simp only;refine bF (fn:=mS) 4 3 rfl rfl rfl rfl (by unfold mS; rfl) ?_; intro R hR;simp -implicitDefEqProofs (disch:=first | assumption | (apply Ar.mk; first | omega | (simp only [Zj]; omega))) only [ZN,↓dt,↓df,ai,qA,↓reduceIte,qB,qC,reduceCtorEq,aa,ad,ZM,bI,↓ed,hoV,↓hfz];exact hR.symm
 rw [if_neg c4];have hta:ta=true:=by
  rcases h with h | h | h | h
  ·exact absurd h c2
  ·exact absurd h c3
  ·exact absurd h c4
  ·exact h
 subst hta;rw [if_pos rfl];unfold xe;simp only;refine bF (fn:=mS) 4 3 rfl rfl rfl rfl (by unfold mS; rfl) ?_; intro R hR;simp -implicitDefEqProofs (disch:=first | assumption | (apply Ar.mk; first | omega | (simp only [Zj]; omega))) only [ZN,↓df,ai,qA,↓reduceIte,qB,qC,reduceCtorEq,aa,ad,ZM,bI,↓ed,hoV,↓hfz];exact hR.symm
theorem Np (hk : 1≤k) (s:PS):ah Tryz.prog Γ ext 37 [xe x,.agg [iv k,iv p,iv e,sv t]] s=some (.ok (xe (da x k t)) s):=by
 by_cases h:k=2∨k=3∨k=4∨x.ta=true
 ·exact Lp hn ht s h
 ·have h1:¬ k=2:=fun e=>h (.inl e);have h2:¬ k=3:=fun e=>h (.inr (.inl e));have h3:¬ k=4:=fun e=>h (.inr (.inr (.inl e)));have h4:¬ x.ta=true:=fun e=>h (.inr (.inr (.inr e)));unfold da;rw [if_neg h2,if_neg h1,if_neg h3,if_neg h4];by_cases c:x.fi=true∧im t=true
  ·rw [if_pos c];exact IZ hn ht (by omega) (by simpa using h4) c.1 c.2 s
  ·rw [if_neg c];exact Lx hn ht (by omega) (by simpa using h4) c s
end
set_option maxHeartbeats 4000000
def Xs (xp b:Nat) (x:Pt) (S:PS):Prop:=∃wsV low,low≤3∧S.h xp=⟨[wsV,.sc (.bool x.fi),.sc (.bool x.ta)],low,58⟩∧fF 9 1 lu b x.ws wsV S
structure Xq (xp b:Nat) (x:Pt) (S S':PS):Prop where
 x:Xs xp b x S'
 n:S.n≤S'.n
 fr:∀j,j < b→j≠xp→S'.h j=S.h j
 w:∀n0,n0≤xp→n0≤S.w→n0≤S'.w
theorem kL {b xp:Nat}{l:List (List UInt8)}{v:PV}{S S':PS} (h:fF 9 1 lu b l v S) (hxb:xp < b) (hn:S.n≤S'.n) (hh:∀j,j < S.n→j≠xp→S'.h j=S.h j):fF 9 1 lu b l v S':=h.fr hn fun j h1 h2 _=>hh j h2 (by omega)
section
variable {x:Pt} (hn:x.ws.length < 100000) {k p e:Nat}{t:List UInt8} (ht:t.length≤10000) {xp b:Nat} (hxb:xp < b) {S:PS} (hbn:b≤S.n) (hX:Xs xp b x S)
include hxb hbn hX
theorem P1 (hk:k=3):PX (ah Tryz.prog Γ ext 15 [.ptr xp 0 3,.agg [iv k,iv p,iv e,sv t]] S) (.tup []) (Xq xp b ⟨[],true,false⟩ S):=by
 obtain⟨wsV,low,hlow,hx,hA⟩:=hX;refine ff (fn:=m8) [] rfl rfl rfl rfl (by unfold m8; rfl) ?_;simp -implicitDefEqProofs (disch:=first | assumption | (apply Ar.mk; first | omega | (simp only [Zj]; omega))) only [ZN,↓dt,ai,qA,↓reduceIte,qB,qC,reduceCtorEq,aa,ae,ad,ZM,hx,hlow];exact PX.mk' ⟨⟨nv,3,Nat.le_refl _,by simp -implicitDefEqProofs (disch:=(apply Ar.mk; (try simp only [aj,ak]); omega)) only [ap,ao,au,aI],.inl ⟨rfl,rfl⟩⟩,by (simp only []; omega),fun j h1 h2=>by simp -implicitDefEqProofs (disch:=(apply Ar.mk; (try simp only [aj,ak]); omega)) only [ap,ao,au],fun n0 h1 h2=>by (simp only []; omega)⟩
theorem MU (hk:k≠1) (hk2:k≠2) (hk3:k≠3):PX (ah Tryz.prog Γ ext 15 [.ptr xp 0 3,.agg [iv k,iv p,iv e,sv t]] S) (.tup []) (Xq xp b ⟨x.ws,x.fi,false⟩ S):=by
 obtain⟨wsV,low,hlow,hx,hA⟩:=hX;refine ff (fn:=m8) [] rfl rfl rfl rfl (by unfold m8; rfl) ?_;simp -implicitDefEqProofs (disch:=first | assumption | (apply Ar.mk; first | omega | (simp only [Zj]; omega))) only [ZN,↓df,ai,qA,↓reduceIte,qB,qC,reduceCtorEq,aa,ae,ad,ZM,hx,hlow];exact PX.mk' ⟨⟨wsV,3,Nat.le_refl _,by simp -implicitDefEqProofs (disch:=(apply Ar.mk; (try simp only [aj,ak]); omega)) only [ap,ao,au,aI],kL hA hxb (by (simp only []; omega)) fun j h1 h2=>by simp -implicitDefEqProofs (disch:=(apply Ar.mk; (try simp only [aj,ak]); omega)) only [ap,ao,au]⟩,by (simp only []; omega),fun j h1 h2=>by simp -implicitDefEqProofs (disch:=(apply Ar.mk; (try simp only [aj,ak]); omega)) only [ap,ao,au],fun n0 h1 h2=>by (simp only []; omega)⟩
theorem Nk (hk:k=2):PX (ah Tryz.prog Γ ext 15 [.ptr xp 0 3,.agg [iv k,iv p,iv e,sv t]] S) (.tup []) (Xq xp b (uy x t) S):=by
 obtain⟨wsV,low,hlow,hx,hA⟩:=hX;unfold uy;by_cases a0:t=[59]
 ·have k0:Ar (t=[59]):=⟨a0⟩
  rw [if_pos (by rw [a0]; rfl)];refine ff (fn:=m8) [] rfl rfl rfl rfl (by unfold m8; rfl) ?_;simp -implicitDefEqProofs (disch:=first | assumption | (apply Ar.mk; first | omega | (simp only [Zj]; omega))) only [ZN,↓dt,↓df,ai,qA,↓reduceIte,qB,qC,reduceCtorEq,aa,ae,ad,ZM,hx,hlow];exact PX.mk' ⟨⟨nv,3,Nat.le_refl _,by simp -implicitDefEqProofs (disch:=(apply Ar.mk; (try simp only [aj,ak]); omega)) only [ap,ao,au,aI],.inl ⟨rfl,rfl⟩⟩,by (simp only []; omega),fun j h1 h2=>by simp -implicitDefEqProofs (disch:=(apply Ar.mk; (try simp only [aj,ak]); omega)) only [ap,ao,au],fun n0 h1 h2=>by (simp only []; omega)⟩
 have k0:Ar (¬ t=[59]):=⟨a0⟩
 by_cases a1:t=[38]
 ·have k1:Ar (t=[38]):=⟨a1⟩
  rw [if_pos (by rw [a1]; rfl)];refine ff (fn:=m8) [] rfl rfl rfl rfl (by unfold m8; rfl) ?_;simp -implicitDefEqProofs (disch:=first | assumption | (apply Ar.mk; first | omega | (simp only [Zj]; omega))) only [ZN,↓dt,↓df,ai,qA,↓reduceIte,qB,qC,reduceCtorEq,aa,ae,ad,ZM,hx,hlow];exact PX.mk' ⟨⟨nv,3,Nat.le_refl _,by simp -implicitDefEqProofs (disch:=(apply Ar.mk; (try simp only [aj,ak]); omega)) only [ap,ao,au,aI],.inl ⟨rfl,rfl⟩⟩,by (simp only []; omega),fun j h1 h2=>by simp -implicitDefEqProofs (disch:=(apply Ar.mk; (try simp only [aj,ak]); omega)) only [ap,ao,au],fun n0 h1 h2=>by (simp only []; omega)⟩
 have k1:Ar (¬ t=[38]):=⟨a1⟩
 by_cases a2:t=[38,38]
 ·have k2:Ar (t=[38,38]):=⟨a2⟩
  rw [if_pos (by rw [a2]; rfl)];refine ff (fn:=m8) [] rfl rfl rfl rfl (by unfold m8; rfl) ?_;simp -implicitDefEqProofs (disch:=first | assumption | (apply Ar.mk; first | omega | (simp only [Zj]; omega))) only [ZN,↓dt,↓df,ai,qA,↓reduceIte,qB,qC,reduceCtorEq,aa,ae,ad,ZM,hx,hlow];exact PX.mk' ⟨⟨nv,3,Nat.le_refl _,by simp -implicitDefEqProofs (disch:=(apply Ar.mk; (try simp only [aj,ak]); omega)) only [ap,ao,au,aI],.inl ⟨rfl,rfl⟩⟩,by (simp only []; omega),fun j h1 h2=>by simp -implicitDefEqProofs (disch:=(apply Ar.mk; (try simp only [aj,ak]); omega)) only [ap,ao,au],fun n0 h1 h2=>by (simp only []; omega)⟩
 have k2:Ar (¬ t=[38,38]):=⟨a2⟩
 by_cases a3:t=[124,124]
 ·have k3:Ar (t=[124,124]):=⟨a3⟩
  rw [if_pos (by rw [a3]; rfl)];refine ff (fn:=m8) [] rfl rfl rfl rfl (by unfold m8; rfl) ?_;simp -implicitDefEqProofs (disch:=first | assumption | (apply Ar.mk; first | omega | (simp only [Zj]; omega))) only [ZN,↓dt,↓df,ai,qA,↓reduceIte,qB,qC,reduceCtorEq,aa,ae,ad,ZM,hx,hlow];exact PX.mk' ⟨⟨nv,3,Nat.le_refl _,by simp -implicitDefEqProofs (disch:=(apply Ar.mk; (try simp only [aj,ak]); omega)) only [ap,ao,au,aI],.inl ⟨rfl,rfl⟩⟩,by (simp only []; omega),fun j h1 h2=>by simp -implicitDefEqProofs (disch:=(apply Ar.mk; (try simp only [aj,ak]); omega)) only [ap,ao,au],fun n0 h1 h2=>by (simp only []; omega)⟩
 have k3:Ar (¬ t=[124,124]):=⟨a3⟩
 by_cases a4:t=[124]
 ·have k4:Ar (t=[124]):=⟨a4⟩
  rw [if_pos (by rw [a4]; rfl)];refine ff (fn:=m8) [] rfl rfl rfl rfl (by unfold m8; rfl) ?_;simp -implicitDefEqProofs (disch:=first | assumption | (apply Ar.mk; first | omega | (simp only [Zj]; omega))) only [ZN,↓dt,↓df,ai,qA,↓reduceIte,qB,qC,reduceCtorEq,aa,ae,ad,ZM,hx,hlow];exact PX.mk' ⟨⟨nv,3,Nat.le_refl _,by simp -implicitDefEqProofs (disch:=(apply Ar.mk; (try simp only [aj,ak]); omega)) only [ap,ao,au,aI],.inl ⟨rfl,rfl⟩⟩,by (simp only []; omega),fun j h1 h2=>by simp -implicitDefEqProofs (disch:=(apply Ar.mk; (try simp only [aj,ak]); omega)) only [ap,ao,au],fun n0 h1 h2=>by (simp only []; omega)⟩
 have k4:Ar (¬ t=[124]):=⟨a4⟩
 by_cases a5:t=[40]
 ·have k5:Ar (t=[40]):=⟨a5⟩
  rw [if_pos (by rw [a5]; rfl)];refine ff (fn:=m8) [] rfl rfl rfl rfl (by unfold m8; rfl) ?_;simp -implicitDefEqProofs (disch:=first | assumption | (apply Ar.mk; first | omega | (simp only [Zj]; omega))) only [ZN,↓dt,↓df,ai,qA,↓reduceIte,qB,qC,reduceCtorEq,aa,ae,ad,ZM,hx,hlow];exact PX.mk' ⟨⟨nv,3,Nat.le_refl _,by simp -implicitDefEqProofs (disch:=(apply Ar.mk; (try simp only [aj,ak]); omega)) only [ap,ao,au,aI],.inl ⟨rfl,rfl⟩⟩,by (simp only []; omega),fun j h1 h2=>by simp -implicitDefEqProofs (disch:=(apply Ar.mk; (try simp only [aj,ak]); omega)) only [ap,ao,au],fun n0 h1 h2=>by (simp only []; omega)⟩
 have k5:Ar (¬ t=[40]):=⟨a5⟩
 rw [if_neg (by unfold jD tj; simp [a0,a1,a2,a3,a4,a5])];by_cases a6:t=[41]
 ·have k6:Ar (t=[41]):=⟨a6⟩
  rw [if_pos (by rw [a6]; rfl)];refine ff (fn:=m8) [] rfl rfl rfl rfl (by unfold m8; rfl) ?_;simp -implicitDefEqProofs (disch:=first | assumption | (apply Ar.mk; first | omega | (simp only [Zj]; omega))) only [ZN,↓dt,↓df,ai,qA,↓reduceIte,qB,qC,reduceCtorEq,aa,ae,ad,ZM,hx,hlow];exact PX.mk' ⟨⟨nv,3,Nat.le_refl _,by simp -implicitDefEqProofs (disch:=(apply Ar.mk; (try simp only [aj,ak]); omega)) only [ap,ao,au,aI],.inl ⟨rfl,rfl⟩⟩,by (simp only []; omega),fun j h1 h2=>by simp -implicitDefEqProofs (disch:=(apply Ar.mk; (try simp only [aj,ak]); omega)) only [ap,ao,au],fun n0 h1 h2=>by (simp only []; omega)⟩
 have k6:Ar (¬ t=[41]):=⟨a6⟩
 by_cases a7:t=[59,59]
 ·have k7:Ar (t=[59,59]):=⟨a7⟩
  rw [if_pos (by rw [a7]; rfl)];refine ff (fn:=m8) [] rfl rfl rfl rfl (by unfold m8; rfl) ?_;simp -implicitDefEqProofs (disch:=first | assumption | (apply Ar.mk; first | omega | (simp only [Zj]; omega))) only [ZN,↓dt,↓df,ai,qA,↓reduceIte,qB,qC,reduceCtorEq,aa,ae,ad,ZM,hx,hlow];exact PX.mk' ⟨⟨nv,3,Nat.le_refl _,by simp -implicitDefEqProofs (disch:=(apply Ar.mk; (try simp only [aj,ak]); omega)) only [ap,ao,au,aI],.inl ⟨rfl,rfl⟩⟩,by (simp only []; omega),fun j h1 h2=>by simp -implicitDefEqProofs (disch:=(apply Ar.mk; (try simp only [aj,ak]); omega)) only [ap,ao,au],fun n0 h1 h2=>by (simp only []; omega)⟩
 have k7:Ar (¬ t=[59,59]):=⟨a7⟩
 rw [if_neg (by unfold zn; simp [a6,a7])];refine ff (fn:=m8) [] rfl rfl rfl rfl (by unfold m8; rfl) ?_;simp -implicitDefEqProofs (disch:=first | assumption | (apply Ar.mk; first | omega | (simp only [Zj]; omega))) only [ZN,↓dt,↓df,ai,qA,↓reduceIte,qB,qC,reduceCtorEq,aa,ae,ad,ZM,hx,hlow];exact PX.mk' ⟨⟨wsV,3,Nat.le_refl _,by simp -implicitDefEqProofs (disch:=(apply Ar.mk; (try simp only [aj,ak]); omega)) only [ap,ao,au,aI],kL hA hxb (by (simp only []; omega)) fun j h1 h2=>by simp -implicitDefEqProofs (disch:=(apply Ar.mk; (try simp only [aj,ak]); omega)) only [ap,ao,au]⟩,by (simp only []; omega),fun j h1 h2=>by simp -implicitDefEqProofs (disch:=(apply Ar.mk; (try simp only [aj,ak]); omega)) only [ap,ao,au],fun n0 h1 h2=>by (simp only []; omega)⟩
include hn ht in
theorem NR (zC:JW ext) (vj:EK ext) (hk:k=1):PX (ah Tryz.prog Γ ext 15 [.ptr xp 0 3,.agg [iv k,iv p,iv e,sv t]] S) (.tup []) (Xq xp b (eV x k t) S):=by
 obtain⟨wsV,low,hlow,hx,hA⟩:=hX;have hsk:=fun s=>Es (ext:=ext) vj (t:=t) (by omega) s;have hlit:=fun s=>IA (ext:=ext) zC (t:=t) (by omega) s;unfold eV;rw [if_neg (by omega),if_neg (by omega),if_pos hk];obtain⟨ws,fi,ta⟩:=x;simp only at hn hx hA;cases ta with
 | true=>
  rw [if_pos (.inl rfl)];refine ff (fn:=m8) [] rfl rfl rfl rfl (by unfold m8; rfl) ?_;simp -implicitDefEqProofs (disch:=first | assumption | (apply Ar.mk; first | omega | (simp only [Zj]; omega))) only [ZN,↓dt,↓df,ai,qA,↓reduceIte,qB,qC,reduceCtorEq,aa,ae,ad,ZM,hx,hlow];exact PX.mk' ⟨⟨wsV,3,Nat.le_refl _,by simp -implicitDefEqProofs (disch:=(apply Ar.mk; (try simp only [aj,ak]); omega)) only [ap,ao,au,aI],kL hA hxb (by (simp only []; omega)) fun j h1 h2=>by simp -implicitDefEqProofs (disch:=(apply Ar.mk; (try simp only [aj,ak]); omega)) only [ap,ao,au]⟩,by (simp only []; omega),fun j h1 h2=>by simp -implicitDefEqProofs (disch:=(apply Ar.mk; (try simp only [aj,ak]); omega)) only [ap,ao,au],fun n0 h1 h2=>by (simp only []; omega)⟩
 | false=>
  have hw:=fun w=>fF.app1 (bytes:=16) (s:=(((⟨S.h,S.n,S.n⟩ : PS).new ⟨[iv k,iv p,iv e,sv t],0,55⟩).put xp ⟨[wsV,.sc (.bool fi),.sc (.bool false)],3,58⟩).new ⟨[sv w],0,9⟩) eO (kL hA hxb (by (simp only [aj,ak]; omega)) fun j h1 h2=>by simp -implicitDefEqProofs (disch:=(apply Ar.mk; (try simp only [aj,ak]); omega)) only [ap,ao,aj,ak,au]) w (by decide) (by omega) (by omega) rfl (by (simp only [aj,ak]; omega));by_cases c:fi=true∧im t=true
  ·rw [if_pos (.inr c)];obtain⟨c1,c2⟩:=c;subst c1;have k1:Ar (im t=true):=⟨c2⟩
   refine ff (fn:=m8) [] rfl rfl rfl rfl (by unfold m8; rfl) ?_;simp -implicitDefEqProofs (disch:=first | assumption | (apply Ar.mk; first | omega | (simp only [Zj]; omega))) only [ZN,↓dt,↓df,ai,qA,↓reduceIte,qB,qC,reduceCtorEq,aa,ae,ad,ZM,hx,hlow,hsk];exact PX.mk' ⟨⟨wsV,3,Nat.le_refl _,by simp -implicitDefEqProofs (disch:=(apply Ar.mk; (try simp only [aj,ak]); omega)) only [ap,ao,au,aI],kL hA hxb (by (simp only []; omega)) fun j h1 h2=>by simp -implicitDefEqProofs (disch:=(apply Ar.mk; (try simp only [aj,ak]); omega)) only [ap,ao,au]⟩,by (simp only []; omega),fun j h1 h2=>by simp -implicitDefEqProofs (disch:=(apply Ar.mk; (try simp only [aj,ak]); omega)) only [ap,ao,au],fun n0 h1 h2=>by (simp only []; omega)⟩
  ·rw [if_neg (by rintro (h | h); cases h; exact c h)];unfold sD;simp only;cases fi with
   | true=>
    have c2:¬ im t=true:=fun h=>c ⟨rfl,h⟩;have k1:Ar (¬ im t=true):=⟨c2⟩
    cases hq:np t with
    | none=>
     rw [hq] at hlit;have hlit:∀s,ah Tryz.prog Γ ext 16 [sv t] s=some (.ok (.tup [sv [],.sc (.bool false)]) s):=hlit;obtain⟨v',S1,e1,e2,e3,e4,e5⟩:=hw t;obtain⟨hc2,ho2⟩:=e2.ce;have e1:fo _ 9 1 16 wsV [sv t] 1=some (v',S1):=e1;have h1:S1.h xp=⟨[wsV,.sc (.bool true),.sc (.bool false)],3,58⟩:=by
      rw [(e3 xp (by (simp only [aj,ak]; omega)) (hA.ne (.inr hxb))).1];simp -implicitDefEqProofs (disch:=(apply Ar.mk; (try simp only [aj,ak]); omega)) only [ap,ao,aj,ak,au,aI]
     have e4':S.n + 2≤S1.n:=e4;have hw1:∀n0,n0≤xp→n0≤S.w→n0≤S1.w:=fun n0 h1 h2=>e5 n0 (by omega) (by (simp only [cO,db]; omega));have hf1:∀j,j < b→j≠xp→S1.h j=S.h j:=fun j h1 h2=>by
      rw [(e3 j (by (simp only [aj,ak]; omega)) (hA.ne (.inr h1))).1];simp -implicitDefEqProofs (disch:=(apply Ar.mk; (try simp only [aj,ak]); omega)) only [ap,ao,aj,ak,au]
     refine ff (fn:=m8) [] rfl rfl rfl rfl (by unfold m8; rfl) ?_;simp -implicitDefEqProofs (disch:=first | assumption | (apply Ar.mk; first | omega | (simp only [Zj]; omega))) only [ZN,↓dt,↓df,ai,qA,↓reduceIte,qB,qC,reduceCtorEq,aa,aD,ae,ad,ZM,qF,hx,hlow,hsk,hlit,e1,h1,hc2,ho2];refine PX.mk' ⟨⟨v',3,Nat.le_refl _,by simp -implicitDefEqProofs (disch:=(apply Ar.mk; (try simp only [aj,ak]); omega)) only [ao,aI],kL e2 hxb (by (simp only []; omega)) fun j h1 h2=>by simp -implicitDefEqProofs (disch:=(apply Ar.mk; (try simp only [aj,ak]); omega)) only [ao,au]⟩,by (simp only []; omega),fun j h1 h2=>?_,fun n0 h1 h2=>?_⟩
     ·have:=hf1 j h1 h2;rw [← this];simp -implicitDefEqProofs (disch:=(apply Ar.mk; (try simp only [aj,ak]); omega)) only [ao,au]
     ·have:=hw1 n0 h1 h2
      (simp only []; omega)
    | some w=>
     rw [hq] at hlit;have hlit:∀s,ah Tryz.prog Γ ext 16 [sv t] s=some (.ok (.tup [sv w,.sc (.bool true)]) s):=hlit;obtain⟨v',S1,e1,e2,e3,e4,e5⟩:=hw w;obtain⟨hc2,ho2⟩:=e2.ce;have e1:fo _ 9 1 16 wsV [sv w] 1=some (v',S1):=e1;have h1:S1.h xp=⟨[wsV,.sc (.bool true),.sc (.bool false)],3,58⟩:=by
      rw [(e3 xp (by (simp only [aj,ak]; omega)) (hA.ne (.inr hxb))).1];simp -implicitDefEqProofs (disch:=(apply Ar.mk; (try simp only [aj,ak]); omega)) only [ap,ao,aj,ak,au,aI]
     have e4':S.n + 2≤S1.n:=e4;have hw1:∀n0,n0≤xp→n0≤S.w→n0≤S1.w:=fun n0 h1 h2=>e5 n0 (by omega) (by (simp only [cO,db]; omega));have hf1:∀j,j < b→j≠xp→S1.h j=S.h j:=fun j h1 h2=>by
      rw [(e3 j (by (simp only [aj,ak]; omega)) (hA.ne (.inr h1))).1];simp -implicitDefEqProofs (disch:=(apply Ar.mk; (try simp only [aj,ak]); omega)) only [ap,ao,aj,ak,au]
     refine ff (fn:=m8) [] rfl rfl rfl rfl (by unfold m8; rfl) ?_;simp -implicitDefEqProofs (disch:=first | assumption | (apply Ar.mk; first | omega | (simp only [Zj]; omega))) only [ZN,↓dt,↓df,ai,qA,↓reduceIte,qB,qC,reduceCtorEq,aa,aD,ae,ad,ZM,qF,hx,hlow,hsk,hlit,e1,h1,hc2,ho2];refine PX.mk' ⟨⟨v',3,Nat.le_refl _,by simp -implicitDefEqProofs (disch:=(apply Ar.mk; (try simp only [aj,ak]); omega)) only [ao,aI],kL e2 hxb (by (simp only []; omega)) fun j h1 h2=>by simp -implicitDefEqProofs (disch:=(apply Ar.mk; (try simp only [aj,ak]); omega)) only [ao,au]⟩,by (simp only []; omega),fun j h1 h2=>?_,fun n0 h1 h2=>?_⟩
     ·have:=hf1 j h1 h2;rw [← this];simp -implicitDefEqProofs (disch:=(apply Ar.mk; (try simp only [aj,ak]); omega)) only [ao,au]
     ·have:=hw1 n0 h1 h2
      (simp only []; omega)
   | false=>
    cases hq:np t with
    | none=>
     rw [hq] at hlit;have hlit:∀s,ah Tryz.prog Γ ext 16 [sv t] s=some (.ok (.tup [sv [],.sc (.bool false)]) s):=hlit;obtain⟨v',S1,e1,e2,e3,e4,e5⟩:=hw t;obtain⟨hc2,ho2⟩:=e2.ce;have e1:fo _ 9 1 16 wsV [sv t] 1=some (v',S1):=e1;have h1:S1.h xp=⟨[wsV,.sc (.bool false),.sc (.bool false)],3,58⟩:=by
      rw [(e3 xp (by (simp only [aj,ak]; omega)) (hA.ne (.inr hxb))).1];simp -implicitDefEqProofs (disch:=(apply Ar.mk; (try simp only [aj,ak]); omega)) only [ap,ao,aj,ak,au,aI]
     have e4':S.n + 2≤S1.n:=e4;have hw1:∀n0,n0≤xp→n0≤S.w→n0≤S1.w:=fun n0 h1 h2=>e5 n0 (by omega) (by (simp only [cO,db]; omega));have hf1:∀j,j < b→j≠xp→S1.h j=S.h j:=fun j h1 h2=>by
      rw [(e3 j (by (simp only [aj,ak]; omega)) (hA.ne (.inr h1))).1];simp -implicitDefEqProofs (disch:=(apply Ar.mk; (try simp only [aj,ak]); omega)) only [ap,ao,aj,ak,au]
     refine ff (fn:=m8) [] rfl rfl rfl rfl (by unfold m8; rfl) ?_;simp -implicitDefEqProofs (disch:=first | assumption | (apply Ar.mk; first | omega | (simp only [Zj]; omega))) only [ZN,↓dt,↓df,ai,qA,↓reduceIte,qB,qC,reduceCtorEq,aa,aD,ae,ad,ZM,qF,hx,hlow,hlit,e1,h1,hc2,ho2];refine PX.mk' ⟨⟨v',3,Nat.le_refl _,by simp -implicitDefEqProofs (disch:=(apply Ar.mk; (try simp only [aj,ak]); omega)) only [ao,aI],kL e2 hxb (by (simp only []; omega)) fun j h1 h2=>by simp -implicitDefEqProofs (disch:=(apply Ar.mk; (try simp only [aj,ak]); omega)) only [ao,au]⟩,by (simp only []; omega),fun j h1 h2=>?_,fun n0 h1 h2=>?_⟩
     ·have:=hf1 j h1 h2;rw [← this];simp -implicitDefEqProofs (disch:=(apply Ar.mk; (try simp only [aj,ak]); omega)) only [ao,au]
     ·have:=hw1 n0 h1 h2
      (simp only []; omega)
    | some w=>
     rw [hq] at hlit;have hlit:∀s,ah Tryz.prog Γ ext 16 [sv t] s=some (.ok (.tup [sv w,.sc (.bool true)]) s):=hlit;obtain⟨v',S1,e1,e2,e3,e4,e5⟩:=hw w;obtain⟨hc2,ho2⟩:=e2.ce;have e1:fo _ 9 1 16 wsV [sv w] 1=some (v',S1):=e1;have h1:S1.h xp=⟨[wsV,.sc (.bool false),.sc (.bool false)],3,58⟩:=by
      rw [(e3 xp (by (simp only [aj,ak]; omega)) (hA.ne (.inr hxb))).1];simp -implicitDefEqProofs (disch:=(apply Ar.mk; (try simp only [aj,ak]); omega)) only [ap,ao,aj,ak,au,aI]
     have e4':S.n + 2≤S1.n:=e4;have hw1:∀n0,n0≤xp→n0≤S.w→n0≤S1.w:=fun n0 h1 h2=>e5 n0 (by omega) (by (simp only [cO,db]; omega));have hf1:∀j,j < b→j≠xp→S1.h j=S.h j:=fun j h1 h2=>by
      rw [(e3 j (by (simp only [aj,ak]; omega)) (hA.ne (.inr h1))).1];simp -implicitDefEqProofs (disch:=(apply Ar.mk; (try simp only [aj,ak]); omega)) only [ap,ao,aj,ak,au]
     refine ff (fn:=m8) [] rfl rfl rfl rfl (by unfold m8; rfl) ?_;simp -implicitDefEqProofs (disch:=first | assumption | (apply Ar.mk; first | omega | (simp only [Zj]; omega))) only [ZN,↓dt,↓df,ai,qA,↓reduceIte,qB,qC,reduceCtorEq,aa,aD,ae,ad,ZM,qF,hx,hlow,hlit,e1,h1,hc2,ho2];refine PX.mk' ⟨⟨v',3,Nat.le_refl _,by simp -implicitDefEqProofs (disch:=(apply Ar.mk; (try simp only [aj,ak]); omega)) only [ao,aI],kL e2 hxb (by (simp only []; omega)) fun j h1 h2=>by simp -implicitDefEqProofs (disch:=(apply Ar.mk; (try simp only [aj,ak]); omega)) only [ao,au]⟩,by (simp only []; omega),fun j h1 h2=>?_,fun n0 h1 h2=>?_⟩
     ·have:=hf1 j h1 h2;rw [← this];simp -implicitDefEqProofs (disch:=(apply Ar.mk; (try simp only [aj,ak]); omega)) only [ao,au]
     ·have:=hw1 n0 h1 h2
      (simp only []; omega)
end
theorem SZ (zC:JW ext) (vj:EK ext) {x:Pt} (hn:x.ws.length < 100000) {k p e:Nat}{t:List UInt8} (ht:t.length≤10000) {xp b:Nat} (hxb:xp < b) {S:PS} (hbn:b≤S.n) (hX:Xs xp b x S):PX (ah Tryz.prog Γ ext 15 [.ptr xp 0 3,.agg [iv k,iv p,iv e,sv t]] S) (.tup []) (Xq xp b (eV x k t) S):=by
 by_cases h1:k=1
 ·exact NR hn ht hxb hbn hX zC vj h1
 unfold eV;by_cases h3:k=3
 ·rw [if_pos h3]; exact P1 hxb hbn hX h3
 rw [if_neg h3];by_cases h2:k=2
 ·rw [if_pos h2]; exact Nk hxb hbn hX h2
 rw [if_neg h2,if_neg h1];exact MU hxb hbn hX h1 h2 h3
theorem HF (x:Pt) (k:Nat) (t:List UInt8):(eV x k t).ws.length≤x.ws.length + 1:=by
 unfold eV uy sD
 (repeat' split)<;>first | (show (x.ws ++ [_]).length≤_; rw [List.length_append]; exact Nat.le_refl _) | (show x.ws.length≤_; omega) | exact Nat.zero_le _
theorem step_lenR (x:Pt) (k:Nat) (t:List UInt8):(da x k t).ws.length≤x.ws.length + 1:=by
 unfold da uy sD
 (repeat' split)<;>first | (show (x.ws ++ [_]).length≤_; rw [List.length_append]; exact Nat.le_refl _) | (show x.ws.length≤_; omega) | exact Nat.zero_le _
end Go.Proofs.YtioblbopbilmaaaGreatDoor
namespace Go.PE
open Go Go.EvL
theorem lZ {P:Program} (t:Nat) (x y:Operand) (a:Nat):gP P .rem t x y (.sc (.int .i64 (a:Int))) (.sc (.int .i64 ((2:Nat):Int)))=some (.sc (.int .i64 ((a % 2:Nat):Int))):=(rfl)
theorem V5:IntKind.i64.wrap (((0:Nat):Int) - ((1:Nat):Int)) = -1:=by decide
theorem Xt:IntKind.i64.wrap ((-1:Int) - ((0:Nat):Int)) = -1:=by decide
theorem WX:decide ((-1:Int) < ((0:Nat):Int))=true:=by decide
theorem WY:decide ((-1:Int) ≥ ((0:Nat):Int))=false:=by decide
theorem Xk:decide ((-1:Int) ≥ ((1:Nat):Int))=false:=by decide
theorem Xn {d:Nat} (h1 : 1≤d):IntKind.i64.wrap (((d - 1:Nat):Int) - (d:Int)) = -1:=by
 rw [show ((d - 1:Nat):Int) - (d:Int) = -1 by omega]; decide
end Go.PE
namespace Go.Proofs.YtioblbopbilmaaaGreatDoor
open Go Go.EvL Go.PE Go.Mir
variable {ext:aw}
set_option maxHeartbeats 4000000
abbrev Qh:Nat→Bool:=fun c=>c == 92
theorem tW (c:Nat) (s:PS):ah Tryz.prog Γ ext 26 [cv c] s=some (.ok (bv (aF c=true)) s):=by
 refine am (fn:=Uv) [2] rfl rfl rfl rfl (by unfold Uv; rfl) ?_; intro R hR;simp -implicitDefEqProofs (disch:=first | assumption | (apply Ar.mk; omega)) only [ZN,ai,qA,↓reduceIte,reduceCtorEq,aa,ae,frz,frz2,aP];subst hR
 (repeat' (apply DI_c<;>intro))<;>first | rfl | (apply eU; simp [aF,cC,ay, *]<;>omega) | (apply dT; simp [aF,cC,ay, *]<;>omega) | (apply cZ; simp [aF,cC,ay, *]<;>omega)
section
variable {l:List UInt8} (hb:l.length < 1000000) {s0 S:PS} (hS:s0.n≤S.w)
include hb
theorem Q8 {R:Option ZR}{m:Nat} (H:∀f:aE,f 0=sv l→f 4=iv m→zr Tryz.prog Γ ext (ZT [2,3] s0) lm f S []=R) :
  ∀(n:Nat) (f:aE),n≤l.length→cP aF l n=m→f 0=sv l→f 4=iv n→rl Tryz.prog Γ ext (ZT [2,3] s0) 0 qQ lm f S []=R:=by
 intro n
 induction n with
 | zero=>
  intro f hn hm f0 f4;have hm : 0=m:=hm;subst hm;have f4:f 4=.sc (.int .i64 ((0:Nat):Int)):=f4;refine ar (by unfold qQ; rfl) (by unfold lm; rfl) ?_; intro hr R hR;simp -implicitDefEqProofs (disch:=first | assumption | (apply Ar.mk; omega)) only [ZN,ai,qA,↓reduceIte,qD,aa,f4];rw [hR];apply H
  all_goals first | assumption | rfl
 | succ n ih=>
  intro f hn hm f0 f4;have e1:n + 1 - 1=n:=rfl;rw [cP] at hm;by_cases c:aF (bt l n)=true
  ·rw [if_pos c] at hm;have k1:Ar (aF (bt l n)=true):=⟨c⟩
   refine ar (by unfold qQ; rfl) (by unfold lm; rfl) ?_; intro hr R hR;simp -implicitDefEqProofs (disch:=first | assumption | (apply Ar.mk; omega)) only [ZN,↓dt,qA,↓reduceIte,reduceCtorEq,aa,bk,↓bR,f0,f4,tW,e1];subst hR;refine ih _ ?_ hm ?_ ?_
   all_goals first | omega | assumption | rfl
  ·rw [if_neg c] at hm;subst hm;have k1:Ar (¬ aF (bt l n)=true):=⟨c⟩
   refine ar (by unfold qQ; rfl) (by unfold lm; rfl) ?_; intro hr R hR;simp -implicitDefEqProofs (disch:=first | assumption | (apply Ar.mk; omega)) only [ZN,↓df,qA,↓reduceIte,reduceCtorEq,aa,bk,↓bR,f0,f4,tW,e1];rw [hR];apply H
   all_goals first | assumption | rfl
include hS
theorem UB {m d:Nat} (hd:d≤l.length):∀(n:Nat) (f:aE),n≤d→f 0=sv l→f 4=iv m→f 5=iv d→f 6=iv n→rl Tryz.prog Γ ext (ZT [2,3] s0) 2 t9 uG f S []=some (.ok (.tup [iv m,bv ((d - cP Qh l n) % 2=0)]) s0):=by
 intro n
 induction n with
 | zero=>
  intro f hn f0 f4 f5 f6;have f6:f 6=.sc (.int .i64 ((0:Nat):Int)):=f6;refine ar (by unfold t9; rfl) (by unfold uG; rfl) ?_; intro hr R hR;simp -implicitDefEqProofs (disch:=first | assumption | (apply Ar.mk; omega)) only [ZN,ai,qA,↓reduceIte,qD,aa,ae,frz,frz2,aP,aX,f4,f5,f6,hr,lZ];exact hR.symm
 | succ n ih=>
  intro f hn f0 f4 f5 f6;have e1:n + 1 - 1=n:=rfl;rw [cP];by_cases c:bt l n=92
  ·rw [if_pos (by simp [c])];refine ar (by unfold t9; rfl) (by unfold uG; rfl) ?_; intro hr R hR;simp -implicitDefEqProofs (disch:=first | assumption | (apply Ar.mk; omega)) only [ZN,↓dt,qA,↓reduceIte,reduceCtorEq,aa,bk,↓bR,f0,f6,e1];subst hR;refine ih _ ?_ ?_ ?_ ?_ ?_
   all_goals first | omega | assumption | rfl
  ·rw [if_neg (by simp [c])];have k1:Ar (¬ bt l n=92):=⟨c⟩
   refine ar (by unfold t9; rfl) (by unfold uG; rfl) ?_; intro hr R hR;simp -implicitDefEqProofs (disch:=first | assumption | (apply Ar.mk; omega)) only [ZN,↓df,qA,↓reduceIte,reduceCtorEq,aa,ae,frz,frz2,aP,aX,bk,↓bR,f0,f4,f5,f6,hr,e1,lZ];exact hR.symm
theorem O7 (f:aE) (f0:f 0=sv l) (f4:f 4=iv (cP aF l l.length)):zr Tryz.prog Γ ext (ZT [2,3] s0) lm f S []=some (.ok (if i7 l≠0∧bt l (i7 l - 1)=36 then .tup [iv (cP aF l l.length),bv ((i7 l - 1 - cP Qh l (i7 l - 1)) % 2=0)] else .tup [iv 0,.sc (.bool false)]) s0):=by
 have hle:=rT aF l l.length;unfold i7;generalize cP aF l l.length=m at *;have hbs:=fun (d:Nat) (hd:d≤l.length) f=>UB (ext:=ext) hb hS (m:=m) hd d f (Nat.le_refl _);rcases Nat.eq_zero_or_pos m with h0 | h0
 ·subst h0;have f4:f 4=.sc (.int .i64 ((0:Nat):Int)):=f4;rw [if_neg (by simp)];unfold lm;simp -implicitDefEqProofs (disch:=first | assumption | (apply Ar.mk; omega)) only [ZN,ai,qA,↓reduceIte,qD,aa,ae,frz,frz2,aP,aX,f4,V5,WX]
 ·by_cases g : 2≤m∧bt l (m - 1)=123
  ·rw [if_pos g];have e2:m - 1=(m - 2) + 1:=by omega
   by_cases c:bt l (m - 2)=36
   ·have hmain:=hbs (m - 2) (by omega);rw [show m - 1 - 1=m - 2 by omega];rw [if_pos ⟨by omega,c⟩];obtain⟨g1,g2⟩:=g;have k1:Ar (bt l (m - 1)=123):=⟨g2⟩
    unfold lm;simp -implicitDefEqProofs (disch:=first | assumption | (apply Ar.mk; omega)) only [ZN,↓dt,↓df,qA,↓reduceIte,reduceCtorEq,aa,bk,bI,↓bR,f0,f4];apply hmain
    all_goals first | assumption | rfl
   ·rw [if_neg (by rw [show m - 1 - 1=m - 2 by omega]; exact fun h=>c h.2)];have k2:Ar (¬ bt l (m - 2)=36):=⟨c⟩
    obtain⟨g1,g2⟩:=g;have k1:Ar (bt l (m - 1)=123):=⟨g2⟩
    unfold lm;simp -implicitDefEqProofs (disch:=first | assumption | (apply Ar.mk; omega)) only [ZN,↓dt,qA,↓reduceIte,reduceCtorEq,aa,ae,frz,frz2,aP,aX,bk,bI,↓bR,f0,f4]
  ·rw [if_neg g];have k1:Ar (¬ (m > 1∧bt l (m - 1)=123)):=⟨fun h=>g ⟨by omega,h.2⟩⟩
   by_cases c:bt l (m - 1)=36
   ·have hmain:=hbs (m - 1) (by omega);rw [if_pos ⟨by omega,c⟩];unfold lm;simp -implicitDefEqProofs (disch:=first | assumption | (apply Ar.mk; omega)) only [ZN,↓df,qA,↓reduceIte,reduceCtorEq,aa,bI,↓bR,f0,f4];apply hmain
    all_goals first | assumption | rfl
   ·rw [if_neg fun h=>c h.2];have k2:Ar (¬ bt l (m - 1)=36):=⟨c⟩
    unfold lm;simp -implicitDefEqProofs (disch:=first | assumption | (apply Ar.mk; omega)) only [ZN,↓dt,↓df,qA,↓reduceIte,reduceCtorEq,aa,ae,frz,frz2,aP,aX,bI,↓bR,f0,f4]
end
theorem TP {l:List UInt8} (hb:l.length < 1000000) (s:PS):ah Tryz.prog Γ ext 12 [sv l] s=some (.ok (if i7 l≠0∧bt l (i7 l - 1)=36 then .tup [iv (cP aF l l.length),bv ((i7 l - 1 - cP Qh l (i7 l - 1)) % 2=0)] else .tup [iv 0,.sc (.bool false)]) s):=by
 refine am (fn:=Vq) [2,3] rfl rfl rfl rfl (by unfold Vq; rfl) ?_; intro R hR;simp -implicitDefEqProofs (disch:=first | assumption | (apply Ar.mk; omega)) only [ZN,ai,↓reduceIte,reduceCtorEq,aa];subst hR;refine Q8 hb (m:=cP aF l l.length) (fun f f0 f4=>O7 hb (Nat.le_refl _) f f0 f4) l.length _ (Nat.le_refl _) rfl ?_ ?_
 all_goals rfl
def Uj (l:List UInt8):Bool:=decide (2≤cP aF l l.length∧bt l (cP aF l l.length - 1)=123)
section
variable {l:List UInt8} (hb:l.length < 1000000) {s0 S:PS} (hS:s0.n≤S.w) {p:Nat} (hp:s0.n≤p) (hm:S.h p=⟨[nv,sv [],iv 0,iv 0,.sc (.bool false)],0,64⟩)
include hb
theorem Q1 {R:Option ZR}{m:Nat} (H:∀f:aE,f 0=sv l→f 2=.ptr p 0 5→f 4=iv m→zr Tryz.prog Γ ext (ZG [.cell 2 true 5,.tmp 3] s0) ji f S []=R) :
  ∀(n:Nat) (f:aE),n≤l.length→cP aF l n=m→f 0=sv l→f 2=.ptr p 0 5→f 4=iv n→rl Tryz.prog Γ ext (ZG [.cell 2 true 5,.tmp 3] s0) 0 qn ji f S []=R:=by
 intro n
 induction n with
 | zero=>
  intro f hn hm f0 f2 f4;have hm : 0=m:=hm;subst hm;have f4:f 4=.sc (.int .i64 ((0:Nat):Int)):=f4;refine ar (by unfold qn; rfl) (by unfold ji; rfl) ?_; intro hr R hR;simp -implicitDefEqProofs (disch:=first | assumption | (apply Ar.mk; omega)) only [ZN,ai,qA,↓reduceIte,qD,aa,f4];rw [hR];apply H
  all_goals first | assumption | rfl
 | succ n ih=>
  intro f hn hm f0 f2 f4;have e1:n + 1 - 1=n:=rfl;rw [cP] at hm;by_cases c:aF (bt l n)=true
  ·rw [if_pos c] at hm;have k1:Ar (aF (bt l n)=true):=⟨c⟩
   refine ar (by unfold qn; rfl) (by unfold ji; rfl) ?_; intro hr R hR;simp -implicitDefEqProofs (disch:=first | assumption | (apply Ar.mk; omega)) only [ZN,↓dt,qA,↓reduceIte,reduceCtorEq,aa,bk,↓bR,f0,f4,nG,e1];subst hR;refine ih _ ?_ hm ?_ ?_ ?_
   all_goals first | omega | assumption | rfl
  ·rw [if_neg c] at hm;subst hm;have k1:Ar (¬ aF (bt l n)=true):=⟨c⟩
   refine ar (by unfold qn; rfl) (by unfold ji; rfl) ?_; intro hr R hR;simp -implicitDefEqProofs (disch:=first | assumption | (apply Ar.mk; omega)) only [ZN,↓df,qA,↓reduceIte,reduceCtorEq,aa,bk,↓bR,f0,f4,nG,e1];rw [hR];apply H
   all_goals first | assumption | rfl
include hS hp hm
theorem VB {m d:Nat} (hd:d≤l.length) (hml:m≤l.length) {br:Bool} : ∀(j n:Nat) (f:aE),j + n=d→f 0=sv l→f 2=.ptr p 0 5→f 4=iv m→f 5=iv d→f 6=.sc (.bool br)→f 7=iv n→rl Tryz.prog Γ ext (ZG [.cell 2 true 5,.tmp 3] s0) 2 qN tn f S []=some (.ok (.tup [.agg [nv,sv (l.drop m),iv m,iv 3,.sc (.bool br)],bv ((d - cP Qh l j) % 2=0)]) s0):=by
 intro j
 induction j with
 | zero=>
  intro n f hn f0 f2 f4 f5 f6 f7;have hn:n=d:=by omega
  subst hn;rcases Nat.eq_zero_or_pos n with h0 | h0
  ·subst h0;have f5:f 5=.sc (.int .i64 ((0:Nat):Int)):=f5;have f7:f 7=.sc (.int .i64 ((0:Nat):Int)):=f7;refine ar (by unfold qN; rfl) (by unfold tn; rfl) ?_; intro hr R hR;simp -implicitDefEqProofs (disch:=first | assumption | (apply Ar.mk; first | omega | (simp only [Zj]; omega))) only [ZN,ai,qA,↓reduceIte,qB,qC,reduceCtorEq,aa,aD,ae,frz,frz2,aX,ad,ZM,f0,f2,f4,f5,f6,f7,hr,lZ,V5,Xt,WY,hm];exact hR.symm
  ·have e6:=Xn h0;refine ar (by unfold qN; rfl) (by unfold tn; rfl) ?_; intro hr R hR;simp -implicitDefEqProofs (disch:=first | assumption | (apply Ar.mk; first | omega | (simp only [Zj]; omega))) only [ZN,ai,qA,↓reduceIte,qB,qC,reduceCtorEq,aa,aD,ae,frz,frz2,aX,ad,ZM,f0,f2,f4,f5,f6,f7,hr,lZ,e6,WY,hm];exact hR.symm
 | succ j ih=>
  intro n f hn f0 f2 f4 f5 f6 f7;have e1:d - 1 - n=j:=by omega
  rw [cP];by_cases c:bt l j=92
  ·rw [if_pos (by simp [c])];refine ar (by unfold qN; rfl) (by unfold tn; rfl) ?_; intro hr R hR;simp -implicitDefEqProofs (disch:=first | assumption | (apply Ar.mk; first | omega | (simp only [Zj]; omega))) only [ZN,↓dt,qA,↓reduceIte,reduceCtorEq,aa,f0,f5,f7,e1];subst hR;refine ih (n + 1) _ ?_ ?_ ?_ ?_ ?_ ?_ ?_
   all_goals first | omega | assumption | rfl
  ·rw [if_neg (by simp [c])];have k1:Ar (¬ bt l j=92):=⟨c⟩
   rw [show d - (j + 1)=n by omega];refine ar (by unfold qN; rfl) (by unfold tn; rfl) ?_; intro hr R hR;simp -implicitDefEqProofs (disch:=first | assumption | (apply Ar.mk; first | omega | (simp only [Zj]; omega))) only [ZN,↓df,ai,qA,↓reduceIte,qB,qC,reduceCtorEq,aa,aD,ae,frz,frz2,aX,ad,ZM,f0,f2,f4,f5,f6,f7,hr,e1,lZ,hm];exact hR.symm
theorem Ox (f:aE) (f0:f 0=sv l) (f2:f 2=.ptr p 0 5) (f4:f 4=iv (cP aF l l.length)):zr Tryz.prog Γ ext (ZG [.cell 2 true 5,.tmp 3] s0) ji f S []=some (.ok (if i7 l≠0∧bt l (i7 l - 1)=36 then .tup [.agg [nv,sv (l.drop (cP aF l l.length)),iv (cP aF l l.length),iv 3,.sc (.bool (Uj l))],bv ((i7 l - 1 - cP Qh l (i7 l - 1)) % 2=0)] else .tup [.agg [nv,sv [],iv 0,iv 0,.sc (.bool false)],.sc (.bool false)]) s0):=by
 have hle:=rT aF l l.length;unfold i7 Uj;generalize cP aF l l.length=m at *;have hbs:=fun (d:Nat) (hd:d≤l.length) br f=>VB (ext:=ext) hb hS hp hm (m:=m) hd hle (br:=br) d 0 f (Nat.add_zero _);rcases Nat.eq_zero_or_pos m with h0 | h0
 ·subst h0;have f4:f 4=.sc (.int .i64 ((0:Nat):Int)):=f4;rw [if_neg (by simp)];unfold ji;simp -implicitDefEqProofs (disch:=first | assumption | (apply Ar.mk; first | omega | (simp only [Zj]; omega))) only [ZN,ai,qA,↓reduceIte,qB,aa,aD,ae,frz,frz2,aX,ad,ZM,f2,f4,V5,WX,Xk,hm]
 ·by_cases g : 2≤m∧bt l (m - 1)=123
  ·rw [if_pos g];obtain⟨g1,g2⟩:=g;have k1:Ar (bt l (m - 1)=123):=⟨g2⟩
   have k3:Ar (m - 1 ≥ 1∧bt l (m - 1)=123):=⟨by omega,g2⟩
   have e3:decide (bt l (m - 1)=123)=true:=decide_eq_true g2;rw [show m - 1 - 1=m - 2 by omega];have e2:m - 1 - 1=m - 2:=by omega
   rw [decide_eq_true ⟨g1,g2⟩];by_cases c:bt l (m - 2)=36
   ·rw [if_pos ⟨by omega,c⟩];have hbs:=hbs (m - 2) (by omega) true;unfold ji;simp -implicitDefEqProofs (disch:=first | assumption | (apply Ar.mk; first | omega | (simp only [Zj]; omega))) only [ZN,↓df,qA,↓reduceIte,reduceCtorEq,aa,bk,bI,↓bR,f0,f4,e3,e2];apply hbs
    all_goals first | assumption | rfl
   ·rw [if_neg fun h=>c h.2];have k2:Ar (¬ bt l (m - 2)=36):=⟨c⟩
    unfold ji;simp -implicitDefEqProofs (disch:=first | assumption | (apply Ar.mk; first | omega | (simp only [Zj]; omega))) only [ZN,↓dt,ai,qA,↓reduceIte,qB,reduceCtorEq,aa,aD,ae,frz,frz2,aX,ad,ZM,bk,bI,↓bR,f0,f2,f4,e3,e2,hm]
  ·rw [if_neg g];rw [decide_eq_false g];by_cases g1 : 2≤m
   ·have g2:¬ bt l (m - 1)=123:=fun h=>g ⟨g1,h⟩;have k1:Ar (¬ bt l (m - 1)=123):=⟨g2⟩
    have e3:decide (bt l (m - 1)=123)=false:=decide_eq_false g2;by_cases c:bt l (m - 1)=36
    ·rw [if_pos ⟨by omega,c⟩];have hbs:=hbs (m - 1) (by omega) false;unfold ji;simp -implicitDefEqProofs (disch:=first | assumption | (apply Ar.mk; first | omega | (simp only [Zj]; omega))) only [ZN,↓df,qA,↓reduceIte,reduceCtorEq,aa,bk,bI,↓bR,f0,f4,e3];apply hbs
     all_goals first | assumption | rfl
    ·rw [if_neg fun h=>c h.2];have k2:Ar (¬ bt l (m - 1)=36):=⟨c⟩
     unfold ji;simp -implicitDefEqProofs (disch:=first | assumption | (apply Ar.mk; first | omega | (simp only [Zj]; omega))) only [ZN,↓dt,ai,qA,↓reduceIte,qB,reduceCtorEq,aa,aD,ae,frz,frz2,aX,ad,ZM,bk,bI,↓bR,f0,f2,f4,e3,hm]
   ·have e4:m=1:=by omega
    have e3:True:=trivial;by_cases c:bt l (m - 1)=36
    ·rw [if_pos ⟨by omega,c⟩];have hbs:=hbs (m - 1) (by omega) false;unfold ji;simp -implicitDefEqProofs (disch:=first | assumption | (apply Ar.mk; first | omega | (simp only [Zj]; omega))) only [ZN,↓df,ai,qA,↓reduceIte,reduceCtorEq,aa,bI,↓bR,↓ed,f0,f4];apply hbs
     all_goals first | assumption | rfl
    ·rw [if_neg fun h=>c h.2];have k2:Ar (¬ bt l (m - 1)=36):=⟨c⟩
     unfold ji;simp -implicitDefEqProofs (disch:=first | assumption | (apply Ar.mk; first | omega | (simp only [Zj]; omega))) only [ZN,↓dt,ai,qA,↓reduceIte,qB,reduceCtorEq,aa,aD,ae,frz,frz2,aX,ad,ZM,bI,↓bR,↓ed,f0,f2,f4,hm]
end
theorem Rl {l:List UInt8} (hb:l.length < 1000000) (s:PS):ah Tryz.prog Γ ext 34 [sv l] s=some (.ok (if i7 l≠0∧bt l (i7 l - 1)=36 then .tup [.agg [nv,sv (l.drop (cP aF l l.length)),iv (cP aF l l.length),iv 3,.sc (.bool (Uj l))],bv ((i7 l - 1 - cP Qh l (i7 l - 1)) % 2=0)] else .tup [.agg [nv,sv [],iv 0,iv 0,.sc (.bool false)],.sc (.bool false)]) s):=by
 refine bL (fn:=Ww) [.cell 2 true 5,.tmp 3] rfl rfl rfl rfl (by unfold Ww; rfl) ?_; intro R hR;simp -implicitDefEqProofs (disch:=first | assumption | (apply Ar.mk; first | omega | (simp only [Zj]; omega))) only [ZN,ai,↓reduceIte,qB,reduceCtorEq,aa];subst hR;refine Q1 (p:=s.n) hb (m:=cP aF l l.length) (fun f f0 f2 f4=>Ox hb (Nat.le_refl _) (Nat.le_refl _) ?_ f f0 f2 f4) l.length _ (Nat.le_refl _) rfl ?_ ?_ ?_
 ·simp -implicitDefEqProofs (disch:=(apply Ar.mk; (try simp only [aj,ak]); omega)) only [ap,aI]
 all_goals rfl
end Go.Proofs.YtioblbopbilmaaaGreatDoor
namespace Go.PE
open Go Go.EvL
theorem LW (s:PS) (mx:Bool) (k:IntKind) (a b:Int):Lg s mx (.sc (.int k a)) (.sc (.int k b))=some (.sc (.int k (za mx a b)),s):=rfl
end Go.PE
namespace Go.Mir
def fB (z:Int) (n:Nat):Nat:=if z < 0 then 0 else if (n:Int) < z then n else z.toNat
theorem v3 (z:Int) (n:Nat):fB z n≤n:=by
 unfold fB; (repeat' split)<;>omega
theorem o9 (l:List UInt8) (a b:Nat):(sub l a b).length≤l.length:=by
 unfold sub; rw [List.length_take,List.length_drop]; omega
end Go.Mir
namespace Go.Proofs.YtioblbopbilmaaaGreatDoor
open Go Go.EvL Go.PE Go.Mir
variable {ext:aw}
set_option maxHeartbeats 8000000
theorem yP (z:Int) (n:Nat):za true ((0:Nat):Int) (za false z (n:Int))=((fB z n:Nat):Int):=by
 unfold za fB;simp only [if_true,Bool.false_eq_true,if_false]
 (repeat' split)<;>omega
theorem IN {l:List UInt8} (z:Int) (s:PS):ah Tryz.prog Γ ext 11 [sv l,.sc (.int .i64 z)] s=some (.ok (iv (fB z l.length)) s):=by
 have e:=yP z l.length;refine am (fn:=p11) [4] rfl rfl rfl rfl (by unfold p11; rfl) ?_; intro R hR;simp -implicitDefEqProofs (disch:=first | assumption | (apply Ar.mk; omega)) only [ZN,ai,qA,↓reduceIte,qB,reduceCtorEq,aa,ae,frz,frz2,aP,LW,e];exact hR.symm
theorem o8 (l:List UInt8):∀(ts:List Tk) (i:Nat) (h:i < ts.length),(ts.flatMap (jz l)).drop (i * 4)=iv (ts[i]).k :: iv (ts[i]).p :: iv (ts[i]).e :: sv ((ts[i]).t l) :: (ts.drop (i + 1)).flatMap (jz l)
 | [],i,h=>absurd h (Nat.not_lt_zero _)
 | x :: ts,0,h=>rfl
 | x :: ts,i + 1,h=>by
  have:=o8 l ts i (by simpa using h);rw [show (i + 1) * 4=4 + i * 4 by omega,← List.drop_drop];exact this
def qI (q:List (List UInt8) × Nat × Nat):PV:=.tup [gi q.1,iv q.2.1,iv q.2.2]
section
variable (zC:JW ext) (vj:EK ext) {l:List UInt8} (hl:l.length≤500) {s0:PS}{xp:Nat} (hp:s0.n≤xp)
include zC vj hl hp
theorem Sx {q:List UInt8} (hq:q.length≤500) {fr:Nat}{x:Pt} (hn:x.ws.length < 10000) {S:PS} (hX:Xs xp (xp + 1) x S) (hxn:xp < S.n) (hS:s0.n≤S.w) (f:aE) (f7:f 7=sv l) (f14:f 14=sv q) (f15:f 15=iv fr) (f18:f 18=.ptr xp 0 3) :
  zr Tryz.prog Γ ext (ZT [4,5,6] s0) nB f S []=some (.ok (qI (ql l (q,fr) x)) s0):=by
 have hlit:=fun s=>IA (ext:=ext) zC (t:=q) (by omega) s;have has:=fun s=>LI (ext:=ext) vj (t:=q) (by omega) s;obtain⟨wsV,low,hlow,hx,hA⟩:=hX;obtain⟨ws,fi,ta⟩:=x;simp only at hn hx hA;unfold ql;cases hv:np q with
 | none=>
  rw [hv] at hlit;have hlit:∀s,ah Tryz.prog Γ ext 16 [sv q] s=some (.ok (.tup [sv [],.sc (.bool false)]) s):=hlit;show _=some (ZR.ok (.tup [nv,iv l.length,iv 0]) s0);unfold nB;simp -implicitDefEqProofs (disch:=first | assumption | (apply Ar.mk; first | omega | (simp only [Zj]; omega))) only [ZN,ai,qA,↓reduceIte,aa,ae,frz,frz2,aX,ZM,f7,f14,hlit]
  try rfl
 | some v=>
  rw [hv] at hlit;have hlit:∀s,ah Tryz.prog Γ ext 16 [sv q] s=some (.ok (.tup [sv v,.sc (.bool true)]) s):=hlit;obtain⟨v',S1,e1,e2,e3,e4,e5⟩:=fF.app1 (bytes:=16) (s:=S.new ⟨[sv v],0,9⟩) eO (hA.new ⟨[sv v],0,9⟩) v (by decide) (by omega) (by omega) rfl (by (simp only [aj]; omega));have h1:S1.h xp=⟨[wsV,.sc (.bool fi),.sc (.bool ta)],low,58⟩:=by
   rw [(e3 xp (by (simp only [aj]; omega)) (hA.ne (.inr (Nat.lt_succ_self _)))).1];rw [← hx];simp -implicitDefEqProofs (disch:=(apply Ar.mk; (try simp only [aj,ak]); omega)) only [ap,au]
  obtain⟨hc2,ho2⟩:=e2.ce;have e1:fo _ 9 1 16 wsV [sv v] 1=some (v',S1):=e1;have hw1:s0.n≤S1.w:=e5 s0.n (by omega) hS;have hz:=e2.frz2 (n0:=s0.n) eO (by omega) fun x _=>uH x;have hz':wO 9 lu (jF (ws ++ [v]))=gi (ws ++ [v]):=rfl;by_cases c : 0 < kr q
  ·have k1:Ar (0 < kr q):=⟨c⟩
   cases fi<;>cases ta
   ·show _=some (ZR.ok (.tup [gi (ws ++ [v]),iv fr,iv 2]) s0);unfold nB;simp -implicitDefEqProofs (disch:=first | assumption | (apply Ar.mk; first | omega | (simp only [Zj]; omega))) only [ZN,ai,qA,↓reduceIte,qB,qC,reduceCtorEq,aa,aD,ae,frz,frz2,aX,ad,ZM,qF,f14,f15,f18,hlit,hx,hlow,e1,h1,↓hz]
    try rfl
   ·show _=some (ZR.ok (.tup [gi (ws ++ [v]),iv fr,iv 4]) s0);unfold nB;simp -implicitDefEqProofs (disch:=first | assumption | (apply Ar.mk; first | omega | (simp only [Zj]; omega))) only [ZN,ai,qA,↓reduceIte,qB,qC,reduceCtorEq,aa,aD,ae,frz,frz2,aX,ad,ZM,qF,f14,f15,f18,hlit,hx,hlow,e1,h1,↓hz]
    try rfl
   ·simp only;rw [if_pos (by simp [c])];show _=some (ZR.ok (.tup [nv,iv l.length,iv 0]) s0);unfold nB;simp -implicitDefEqProofs (disch:=first | assumption | (apply Ar.mk; first | omega | (simp only [Zj]; omega))) only [ZN,↓dt,qA,↓reduceIte,qB,qC,reduceCtorEq,aa,ae,frz,frz2,aX,ad,ZM,f7,f14,f18,hlit,has,hx,hlow]
    try rfl
   ·show _=some (ZR.ok (.tup [gi (ws ++ [v]),iv fr,iv 4]) s0);unfold nB;simp -implicitDefEqProofs (disch:=first | assumption | (apply Ar.mk; first | omega | (simp only [Zj]; omega))) only [ZN,ai,qA,↓reduceIte,qB,qC,reduceCtorEq,aa,aD,ae,frz,frz2,aX,ad,ZM,qF,f14,f15,f18,hlit,hx,hlow,e1,h1,↓hz]
    try rfl
  ·have k1:Ar (¬ 0 < kr q):=⟨c⟩
   simp only;rw [if_neg fun h=>c h.2.2];cases fi<;>cases ta
   ·show _=some (ZR.ok (.tup [gi (ws ++ [v]),iv fr,iv 2]) s0);unfold nB;simp -implicitDefEqProofs (disch:=first | assumption | (apply Ar.mk; first | omega | (simp only [Zj]; omega))) only [ZN,ai,qA,↓reduceIte,qB,qC,reduceCtorEq,aa,aD,ae,frz,frz2,aX,ad,ZM,qF,f14,f15,f18,hlit,hx,hlow,e1,h1,↓hz]
    try rfl
   ·show _=some (ZR.ok (.tup [gi (ws ++ [v]),iv fr,iv 4]) s0);unfold nB;simp -implicitDefEqProofs (disch:=first | assumption | (apply Ar.mk; first | omega | (simp only [Zj]; omega))) only [ZN,ai,qA,↓reduceIte,qB,qC,reduceCtorEq,aa,aD,ae,frz,frz2,aX,ad,ZM,qF,f14,f15,f18,hlit,hx,hlow,e1,h1,↓hz]
    try rfl
   ·show _=some (ZR.ok (.tup [gi (ws ++ [v]),iv fr,iv 1]) s0);unfold nB;simp -implicitDefEqProofs (disch:=first | assumption | (apply Ar.mk; first | omega | (simp only [Zj]; omega))) only [ZN,↓df,qA,↓reduceIte,qB,qC,reduceCtorEq,aa,aD,ae,frz,frz2,aX,ad,ZM,qF,f14,f15,f18,hlit,has,hx,hlow,e1,h1,↓hz]
    try rfl
   ·show _=some (ZR.ok (.tup [gi (ws ++ [v]),iv fr,iv 4]) s0);unfold nB;simp -implicitDefEqProofs (disch:=first | assumption | (apply Ar.mk; first | omega | (simp only [Zj]; omega))) only [ZN,ai,qA,↓reduceIte,qB,qC,reduceCtorEq,aa,aD,ae,frz,frz2,aX,ad,ZM,qF,f14,f15,f18,hlit,hx,hlow,e1,h1,↓hz]
    try rfl
theorem A9 {q:List UInt8} (hq:q.length≤500) {fr:Nat}{vs:List Tk}{N:Nat}{cs:List PV} (hN:N=vs.length) (hcs:cs=vs.flatMap (jz l)) (hvl:vs.length < 1000) :
  ∀(k i:Nat) (x:Pt) (f:aE) (S:PS),i + k=vs.length→x.ws.length≤i→Xs xp (xp + 1) x S→xp < S.n→s0.n≤S.w→f 7=sv l→f 14=sv q→f 15=iv fr→f 18=.ptr xp 0 3→f 98=.lit 55 N cs→f 99=iv N→f 100=iv i→rl Tryz.prog Γ ext (ZT [4,5,6] s0) 0 Do nB f S []=some (.ok (qI (ql l (q,fr) ((vs.drop i).foldl (fun x u=>eV x u.k (u.t l)) x))) s0):=by
 have hfl:cs.length=N * 4:=by rw [hcs,hN]; exact bB (eP l) vs
 intro k
 induction k with
 | zero=>
  intro i x f S hi hxl hX hxn hS f7 f14 f15 f18 f98 f99 f100;have hiN:i=N:=by omega
  subst hiN;have hfit:=Sx zC vj hl hp hq (fr:=fr) (x:=x) (by omega) hX hxn hS;rw [List.drop_eq_nil_of_le (by omega)];refine ar (by unfold Do; rfl) (by unfold nB; rfl) ?_; intro hr R hR;simp -implicitDefEqProofs (disch:=first | assumption | (apply Ar.mk; omega)) only [ZN,↓df,↓reduceIte,aa,f99,f100];rw [hR];apply hfit
  all_goals first | assumption | rfl
 | succ k ih=>
  intro i x f S hi hxl hX hxn hS f7 f14 f15 f18 f98 f99 f100;have hil:i < vs.length:=by omega
  have hiN:i < N:=by omega
  have hd:=o8 l vs i hil;rw [← hcs] at hd;have hdr:vs.drop i=vs[i] :: vs.drop (i + 1):=List.drop_eq_getElem_cons hil;rw [hdr,List.foldl_cons];generalize vs[i]=u at *;have hut:(u.t l).length≤10000:=by have:=o9 l u.p u.e; unfold Tk.t; omega
  have hX':Xs xp (xp + 1) x ((S.new ⟨R2,0,55⟩).put S.n ⟨[iv u.k,iv u.p,iv u.e,sv (u.t l)],4,55⟩):=by
   obtain⟨wsV,low,hlow,hx,hA⟩:=hX;refine⟨wsV,low,hlow,?_,hA.fr (by (simp only [aj,ak]; omega)) fun j h1 h2 _=>by simp -implicitDefEqProofs (disch:=(apply Ar.mk; (try simp only [aj,ak]); omega)) only [ap,ao,au]⟩;rw [← hx];simp -implicitDefEqProofs (disch:=(apply Ar.mk; (try simp only [aj,ak]); omega)) only [ap,ao,au]
  have hsl:=HF x u.k (u.t l);have htok:=SZ (ext:=ext) zC vj (x:=x) (by omega) (k:=u.k) (p:=u.p) (e:=u.e) hut (Nat.lt_succ_self xp) (by (simp only [aj,ak]; omega)) hX';have key:∀S1,Xq xp (xp + 1) (eV x u.k (u.t l)) ((S.new ⟨R2,0,55⟩).put S.n ⟨[iv u.k,iv u.p,iv u.e,sv (u.t l)],4,55⟩) S1→∀f':aE,f' 7=sv l→f' 14=sv q→f' 15=iv fr→f' 18=.ptr xp 0 3→f' 98=.lit 55 N cs→f' 99=iv N→f' 100=iv (i + 1)→rl Tryz.prog Γ ext (ZT [4,5,6] s0) 0 Do nB f' S1 []=some (.ok (qI (ql l (q,fr) ((vs.drop (i + 1)).foldl (fun x u=>eV x u.k (u.t l)) (eV x u.k (u.t l))))) s0):=by
   intro S1 hQ f' g7 g14 g15 g18 g98 g99 g100;have hSn:S.n + 1≤S1.n:=hQ.n;exact ih (i + 1) _ f' S1 (by omega) (by omega) hQ.x (by omega) (hQ.w s0.n hp (by (simp only [cO,db]; omega))) g7 g14 g15 g18 g98 g99 g100
  refine ar (by unfold Do; rfl) (by unfold nB; rfl) ?_; intro hr R hR;simp -implicitDefEqProofs (disch:=first | assumption | (apply Ar.mk; first | omega | (simp only [Zj]; omega))) only [ZN,↓dt,ai,qA,↓reduceIte,qB,aa,ad,ZM,f18,f98,f99,f100,hd,hfl];refine Dq htok fun S1 hQ=>?_;simp -implicitDefEqProofs (disch:=first | assumption | (apply Ar.mk; first | omega | (simp only [Zj]; omega))) only [ZN,qA,↓reduceIte,aa,f100];rw [hR];apply key S1 hQ
  all_goals first | assumption | rfl
end
theorem Nb {l:List UInt8} (hb:l.length < 1000000):∃m,(j5 l=true→m=cP aF l l.length)∧∀s,ah Tryz.prog Γ ext 12 [sv l] s=some (.ok (.tup [iv m,.sc (.bool (j5 l))]) s):=by
 have h:=fun s=>TP (ext:=ext) hb s;unfold j5;by_cases c:i7 l≠0∧bt l (i7 l - 1)=36
 ·simp only [if_pos c] at h;refine⟨_,fun _=>rfl,fun s=>(h s).trans ?_⟩;congr 5;refine congrArg (fun b=>PV.sc (Value.bool b)) ?_;rw [decide_eq_decide];exact⟨fun h=>⟨c.1,c.2,h⟩,fun h=>h.2.2⟩
 ·simp only [if_neg c] at h;refine⟨0,fun h=>?_,fun s=>(h s).trans ?_⟩
  ·rw [decide_eq_true_eq] at h;exact absurd ⟨h.1,h.2.1⟩ c
  ·rw [decide_eq_false fun h=>c ⟨h.1,h.2.1⟩]
theorem Jz (zC:JW ext) (vj:EK ext) {l:List UInt8} (hl:l.length≤500) (z:Int) (s:PS):ah Tryz.prog Γ ext 5 [sv l,.sc (.int .i64 z)] s=some (.ok (qI (dI eV (l.take (fB z l.length)))) s):=by
 have hcl:=fun s=>IN (ext:=ext) (l:=l) z s;have hcle:=v3 z l.length;generalize fB z l.length=c at *;obtain⟨t,hte⟩ : ∃t,l.take c=t:=⟨_,rfl⟩
 have htl:t.length≤500:=by rw [← hte,List.length_take]; omega
 rw [hte];obtain⟨m,hm,hpar⟩:=Nb (ext:=ext) (l:=t) (by omega);have hall:=fun s=>Qv (ext:=ext) (l:=t) (by omega) s;unfold dI;by_cases c1:j5 t=true
 ·rw [if_pos c1];rw [c1] at hpar;rw [← hm c1];show _=some (ZR.ok (.tup [nv,iv m,iv 3]) s);refine am (fn:=p5) [4,5,6] rfl rfl rfl rfl (by unfold p5; rfl) ?_; intro R hR;simp -implicitDefEqProofs (disch:=first | assumption | (apply Ar.mk; first | omega | (simp only [Zj]; omega))) only [ZN,ai,qA,↓reduceIte,qB,reduceCtorEq,aa,ae,frz,frz2,aX,ZM,hcl,hte,hpar];exact hR.symm
 rw [if_neg c1];rw [(by simpa using c1:j5 t=false)] at hpar;have hae:=rr (l:=t) (t.length + 1) 0 (Nat.zero_le _) (by omega);have hcn:=mR (l:=t) (t.length + 1) 0 (Nat.zero_le _);cases ha:fE t (t.length + 1) 0 with
 | error x=>
  have hx2:=CH (l:=t) (t.length + 1) 0 (Nat.zero_le _) x ha;rw [ha] at hall;have hall:∀s,ah Tryz.prog Γ ext 13 [sv t] s=some (.ok (.tup [nv,iv x.1,iv x.2]) s):=hall;show _=some (ZR.ok (.tup [nv,iv t.length,iv 0]) s);refine am (fn:=p5) [4,5,6] rfl rfl rfl rfl (by unfold p5; rfl) ?_; intro R hR;simp -implicitDefEqProofs (disch:=first | assumption | (apply Ar.mk; first | omega | (simp only [Zj]; omega))) only [ZN,ai,qA,↓reduceIte,qB,reduceCtorEq,aa,ae,frz,frz2,aX,ZM,bk,↓ed,hcl,hte,hpar,hall];exact hR.symm
 | ok r=>
  obtain⟨ts,u,hr',_,hts⟩:=hae r ha;have hcn:=hcn r ha;subst hr';rw [ha] at hall;simp only [List.dropLast_concat];have hlt:ts.length < 600:=by rw [List.length_append,List.length_cons,List.length_nil] at hcn; omega
  have hall:∀s,ah Tryz.prog Γ ext 13 [sv t] s=some (.ok (.tup [wO 55 (jz t) (jF (ts ++ [u])),iv 0,iv 0]) s):=hall;rw [xI] at hall;have hall:∀s,ah Tryz.prog Γ ext 13 [sv t] s=some (.ok (.tup [.lit 55 (ts ++ [u]).length ((ts ++ [u]).flatMap (jz t)),.sc (.int .i64 ((0:Nat):Int)),.sc (.int .i64 ((0:Nat):Int))]) s):=hall;rw [List.length_append,List.length_cons,List.length_nil] at hall;have hcs:((ts ++ [u]).flatMap (jz t)).take (ts.length * 4)=ts.flatMap (jz t):=by
   rw [List.flatMap_append];exact List.take_left' (bB (eP t) ts)
  have hfl1:((ts ++ [u]).flatMap (jz t)).length=(ts.length + 1) * 4:=by
   have:=bB (eP t) (ts ++ [u]); rw [this]; simp
  have hfl:=bB (eP t) ts;generalize (ts ++ [u]).flatMap (jz t)=cs1 at *;have e1:ts.length + 1 - 1=ts.length:=rfl;have hh:∀e s,ah Tryz.prog Γ ext 14 [sv (t.drop e),sv [35]] s=some (.ok (bv (j9 (t.drop e)=true)) s):=fun e s=>tO (ext:=ext) (t:=t.drop e) s;have hh0:∀s,ah Tryz.prog Γ ext 14 [sv t,sv [35]] s=some (.ok (bv (j9 t=true)) s):=fun s=>tO (ext:=ext) (t:=t) s;unfold pX;rcases List.eq_nil_or_concat ts with rfl | ⟨us,w,rfl⟩
  ·show _=some (ZR.ok (qI (if j9 (t.drop 0)=true then _ else _)) s);have hall:∀s,ah Tryz.prog Γ ext 13 [sv t] s=some (.ok (.tup [.lit 55 1 cs1,.sc (.int .i64 ((0:Nat):Int)),.sc (.int .i64 ((0:Nat):Int))]) s):=hall;have hcs:cs1.take 0=[]:=rfl;have hfl1:cs1.length=4:=hfl1;by_cases c2:j9 (t.drop 0)=true
   ·rw [if_pos c2];have k2:Ar (j9 t=true):=⟨c2⟩
    have k3:Ar (j9 (t.drop 0)=true):=⟨c2⟩
    show _=some (ZR.ok (.tup [nv,iv t.length,iv 0]) s);refine am (fn:=p5) [4,5,6] rfl rfl rfl rfl (by unfold p5; rfl) ?_; intro R hR;simp -implicitDefEqProofs (disch:=first | assumption | (apply Ar.mk; first | omega | (simp only [Zj]; omega))) only [ZN,↓dt,ai,qA,↓reduceIte,qB,qD,reduceCtorEq,aa,ae,frz,frz2,aX,ZM,I2,qF,qG,hcl,hte,hpar,hall,hfl1,hh0];exact hR.symm
   ·rw [if_neg c2];have k2:Ar (¬ j9 t=true):=⟨c2⟩
    have k3:Ar (¬ j9 (t.drop 0)=true):=⟨c2⟩
    have hlo:=A9 (ext:=ext) zC vj htl (s0:=s) (xp:=s.n) (Nat.le_refl _) (q:=[]) (by decide) (fr:=t.length) (vs:=[]) (N:=0) (cs:=[]) rfl rfl (by decide) 0 0 ⟨[],true,false⟩;refine am (fn:=p5) [4,5,6] rfl rfl rfl rfl (by unfold p5; rfl) ?_; intro R hR;simp -implicitDefEqProofs (disch:=first | assumption | (apply Ar.mk; first | omega | (simp only [Zj]; omega))) only [ZN,↓df,ai,qA,↓reduceIte,qB,qC,qD,reduceCtorEq,aa,aD,ZM,I2,qF,qG,hcl,hte,hpar,hall,hfl1,hh0];rw [hR];refine hlo _ _ rfl (Nat.le_refl _) ⟨nv,3,Nat.le_refl _,by simp -implicitDefEqProofs (disch:=(apply Ar.mk; (try simp only [aj,ak]); omega)) only [ap,ao,aI],.inl ⟨rfl,rfl⟩⟩ (by (simp only [aj,ak]; omega)) (by (simp only [cO,db]; omega)) ?_ ?_ ?_ ?_ ?_ ?_ ?_
    all_goals rfl
  ·have hw:=hts w (by simp);have hul:(us.concat w).length=us.length + 1:=by simp
   rw [List.concat_eq_append] at *;have hE:En (us ++ [w])=w.e:=by unfold En; rw [List.getLast?_concat]
   have hL:jx t (us ++ [w])=if (w.k=1∨w.k=4)∧w.e=t.length then (w.t t,w.p,us) else ([],t.length,us ++ [w]):=by
    unfold jx; rw [List.getLast?_concat]; simp only [List.dropLast_concat]
   rw [hE,hL];have hel:=hw.2.1;have hd:=o8 t (us ++ [w]) us.length (by simp);rw [List.getElem_concat_length rfl] at hd;rw [hul] at hall hcs hfl1 hfl e1;have e2:us.length + 1 - 1=us.length:=rfl;have htk:((us ++ [w]).flatMap (jz t)).take (us.length * 4)=us.flatMap (jz t):=by
    rw [List.flatMap_append];exact List.take_left' (bB (eP t) us)
   have hwt:(w.t t).length≤500:=by have:=o9 t w.p w.e; unfold Tk.t; omega
   by_cases c2:j9 (t.drop w.e)=true
   ·rw [if_pos c2];have k2:Ar (j9 (t.drop w.e)=true):=⟨c2⟩
    show _=some (ZR.ok (.tup [nv,iv t.length,iv 0]) s);have hcse:∀A B:aR,True:=fun _ _=>trivial;by_cases c3:(w.k=1∨w.k=4)∧w.e=t.length
    ·exfalso;rw [c3.2,List.drop_of_length_le (Nat.le_refl _)] at c2;exact absurd c2 (by decide)
    ·have k3:Ar (¬ ((w.k=1∨w.k=4)∧w.e=t.length)):=⟨c3⟩
     generalize (us ++ [w]).flatMap (jz t)=cs2 at *;refine am (fn:=p5) [4,5,6] rfl rfl rfl rfl (by unfold p5; rfl) ?_; intro R hR;simp -implicitDefEqProofs (disch:=first | assumption | (apply Ar.mk; first | omega | (simp only [Zj]; omega))) only [ZN,↓dt,↓df,ai,qA,↓reduceIte,qB,qC,reduceCtorEq,aa,ae,frz,frz2,aX,ad,ZM,I2,hcl,hte,hpar,hall,hfl1,hfl,hcs,hd,e1,e2,hh];exact hR.symm
   ·rw [if_neg c2];have k2:Ar (¬ j9 (t.drop w.e)=true):=⟨c2⟩
    by_cases c3:(w.k=1∨w.k=4)∧w.e=t.length
    ·rw [if_pos c3];have k3:Ar ((w.k=1∨w.k=4)∧w.e=t.length):=⟨c3⟩
     have hlo:=A9 (ext:=ext) zC vj htl (s0:=s) (xp:=s.n + 1) (Nat.le_succ _) (q:=w.t t) hwt (fr:=w.p) (vs:=us) (N:=us.length) (cs:=us.flatMap (jz t)) rfl rfl (by omega) us.length 0 ⟨[],true,false⟩;generalize (us ++ [w]).flatMap (jz t)=cs2 at *;refine am (fn:=p5) [4,5,6] rfl rfl rfl rfl (by unfold p5; rfl) ?_; intro R hR;simp -implicitDefEqProofs (disch:=first | assumption | (apply Ar.mk; first | omega | (simp only [Zj]; omega)) | (apply Ak.mk; first | rfl | exact .inl rfl | exact .inr rfl | exact aq _ _ | exact av _ _ | (unfold aG az; simp<;>omega) | with_unfolding_all rfl | exact .inr (by with_unfolding_all rfl))) only [ZN,↓dt,↓df,ai,qA,↓reduceIte,qB,qC,reduceCtorEq,aa,aD,ad,ZM,I2,bk,↓ed,ZV,aW,aZ,aS,hcl,hte,hpar,hall,hfl1,hfl,hcs,hd,htk,e1,e2,hh];rw [hR];refine hlo _ _ (Nat.zero_add _) (Nat.le_refl _) ⟨nv,3,Nat.le_refl _,by simp -implicitDefEqProofs (disch:=(apply Ar.mk; (try simp only [aj,ak]); omega)) only [ap,ao,aj,ak,au,aI],.inl ⟨rfl,rfl⟩⟩ (by (simp only [aj,ak]; omega)) (by (simp only [cO,db]; omega)) ?_ ?_ ?_ ?_ ?_ ?_ ?_
     all_goals rfl
    ·rw [if_neg c3];have k3:Ar (¬ ((w.k=1∨w.k=4)∧w.e=t.length)):=⟨c3⟩
     have hlo:=A9 (ext:=ext) zC vj htl (s0:=s) (xp:=s.n + 1) (Nat.le_succ _) (q:=[]) (by decide) (fr:=t.length) (vs:=us ++ [w]) (N:=us.length + 1) (cs:=(us ++ [w]).flatMap (jz t)) (by simp) rfl (by simp; omega) (us.length + 1) 0 ⟨[],true,false⟩;generalize (us ++ [w]).flatMap (jz t)=cs2 at *;refine am (fn:=p5) [4,5,6] rfl rfl rfl rfl (by unfold p5; rfl) ?_; intro R hR;simp -implicitDefEqProofs (disch:=first | assumption | (apply Ar.mk; first | omega | (simp only [Zj]; omega))) only [ZN,↓dt,↓df,ai,qA,↓reduceIte,qB,qC,reduceCtorEq,aa,aD,ad,ZM,I2,hcl,hte,hpar,hall,hfl1,hfl,hcs,hd,e1,e2,hh];rw [hR];refine hlo _ _ (by simp) (Nat.le_refl _) ⟨nv,3,Nat.le_refl _,by simp -implicitDefEqProofs (disch:=(apply Ar.mk; (try simp only [aj,ak]); omega)) only [ap,ao,aj,ak,au,aI],.inl ⟨rfl,rfl⟩⟩ (by (simp only [aj,ak]; omega)) (by (simp only [cO,db]; omega)) ?_ ?_ ?_ ?_ ?_ ?_ ?_
     all_goals rfl
set_option maxHeartbeats 8000000
theorem Kt {n:Nat} (z:Int) (s:PS):ah Tryz.prog Γ ext 19 [.sc (.int .i64 z),iv n] s=some (.ok (iv (fB z n)) s):=by
 have e:=yP z n;refine am (fn:=Vr) [4] rfl rfl rfl rfl (by unfold Vr; rfl) ?_; intro R hR;simp -implicitDefEqProofs (disch:=first | assumption | (apply Ar.mk; omega)) only [ZN,ai,qA,↓reduceIte,qB,reduceCtorEq,aa,ae,frz,frz2,aP,LW,e];exact hR.symm
theorem Fb {t:List UInt8} (ht:t.length≤500) (s:PS):ah Tryz.prog Γ ext 35 [sv t] s=some (.ok (match fE t (t.length + 1) 0 with
  | .error _=>.tup [nv,.sc (.bool false)]
  | .ok r=>.tup [.lit 55 r.dropLast.length (r.dropLast.flatMap (jz t)),.sc (.bool true)]) s):=by
 have hall:=fun s=>RJ (ext:=ext) (l:=t) (by omega) s;have hae:=rr (l:=t) (t.length + 1) 0 (Nat.zero_le _) (by omega);have hcn:=mR (l:=t) (t.length + 1) 0 (Nat.zero_le _);cases ha:fE t (t.length + 1) 0 with
 | error x=>
  have hx2:=CH (l:=t) (t.length + 1) 0 (Nat.zero_le _) x ha;rw [ha] at hall;have hall:∀s,ah Tryz.prog Γ ext 71 [sv t] s=some (.ok (.tup [nv,iv x.1,iv x.2]) s):=hall;refine am (fn:=S6) [2,3] rfl rfl rfl rfl (by unfold S6; rfl) ?_; intro R hR;simp -implicitDefEqProofs (disch:=first | assumption | (apply Ar.mk; first | omega | (simp only [Zj]; omega))) only [ZN,ai,qA,↓reduceIte,reduceCtorEq,aa,ae,frz,frz2,aX,ZM,bk,↓ed,hall];exact hR.symm
 | ok r=>
  obtain⟨ts,u,hr',_,hts⟩:=hae r ha;have hcn:=hcn r ha;subst hr';rw [ha] at hall;simp only [List.dropLast_concat];have hlt:ts.length < 600:=by rw [List.length_append,List.length_cons,List.length_nil] at hcn; omega
  have hall:∀s,ah Tryz.prog Γ ext 71 [sv t] s=some (.ok (.tup [wO 55 (jz t) (jF (ts ++ [u])),iv 0,iv 0]) s):=hall;rw [xI] at hall;have hall:∀s,ah Tryz.prog Γ ext 71 [sv t] s=some (.ok (.tup [.lit 55 (ts ++ [u]).length ((ts ++ [u]).flatMap (jz t)),.sc (.int .i64 ((0:Nat):Int)),.sc (.int .i64 ((0:Nat):Int))]) s):=hall;rw [List.length_append,List.length_cons,List.length_nil] at hall;have hcs:((ts ++ [u]).flatMap (jz t)).take (ts.length * 4)=ts.flatMap (jz t):=by
   rw [List.flatMap_append];exact List.take_left' (bB (eP t) ts)
  have hfl1:((ts ++ [u]).flatMap (jz t)).length=(ts.length + 1) * 4:=by
   have:=bB (eP t) (ts ++ [u]); rw [this]; simp
  have hfl:=bB (eP t) ts;generalize (ts ++ [u]).flatMap (jz t)=cs1 at *;have e1:ts.length + 1 - 1=ts.length:=rfl;refine am (fn:=S6) [2,3] rfl rfl rfl rfl (by unfold S6; rfl) ?_; intro R hR;simp -implicitDefEqProofs (disch:=first | assumption | (apply Ar.mk; first | omega | (simp only [Zj]; omega))) only [ZN,ai,qA,↓reduceIte,reduceCtorEq,aa,ae,frz,frz2,aX,ZM,I2,hall,hfl1,hcs,e1];exact hR.symm
def Ef (l:List UInt8) (q:List UInt8 × Nat) (x:Pt):PV:=match np q.1 with
 | none=>.agg [nv,sv [],iv l.length,iv 0,.sc (.bool false)]
 | some v=>if x.fi=true∧x.ta=false∧0 < kr q.1 then .agg [nv,sv [],iv l.length,iv 0,.sc (.bool false)] else .agg [gi (x.ws ++ [v]),sv v,iv q.2,iv (qs x),.sc (.bool false)]
theorem xc (l:List UInt8) (q:List UInt8 × Nat) (x:Pt):∃pre,Ef l q x=.agg [gi (ql l q x).1,sv pre,iv (ql l q x).2.1,iv (ql l q x).2.2,.sc (.bool false)]:=by
 unfold Ef ql;cases np q.1 with
 | none=>exact⟨[],rfl⟩
 | some v=>
  simp only;split
  ·exact⟨[],rfl⟩
  ·exact⟨v,rfl⟩
structure Fs (s0:PS) (l q:List UInt8) (fr:Nat) (x:Pt) (S:PS):Prop where
 r:S.h s0.n=⟨[nv,sv [],iv 0,iv 0,.sc (.bool false)],0,64⟩
 nn:S.h (s0.n + 2)=⟨[nv,sv [],iv l.length,iv 0,.sc (.bool false)],5,64⟩
 la:∃k e,S.h (s0.n + 3)=⟨[iv k,iv fr,iv e,sv q],4,55⟩
 x:∃low,low≤3∧S.h (s0.n + 4)=⟨[gi x.ws,.sc (.bool x.fi),.sc (.bool x.ta)],low,90⟩
 n:s0.n + 5≤S.n
 w:s0.n≤S.w
section
variable {l:List UInt8} (hl:l.length≤500) {s0:PS}
include hl
theorem QF {q:List UInt8} (hq:q.length≤500) {fr:Nat}{x:Pt} (hn:x.ws.length < 10000) {S:PS} (hX:Fs s0 l q fr x S) (f:aE) (f2:f 2=.ptr s0.n 0 5) (f5:f 5=.ptr (s0.n + 2) 0 5) (f10:f 10=.ptr (s0.n + 3) 0 4) (f11:f 11=.ptr (s0.n + 4) 0 3) :
  zr Tryz.prog Γ ext (ZL 2 5 s0) lg f S []=some (.ok (Ef l (q,fr) x) s0):=by
 have hlit:=fun s=>uM (ext:=ext) (t:=q) (by omega) s;have has:=fun s=>GZ (ext:=ext) (t:=q) (by omega) s;obtain⟨h2,h5,⟨lk,le,h10⟩,⟨low,hlow,h11⟩,hSn,hSw⟩:=hX;obtain⟨ws,fi,ta⟩:=x;simp only at hn h11;unfold Ef;unfold GN at has;cases hv:np q with
 | none=>
  rw [hv] at hlit;have hlit:∀s,ah Tryz.prog Γ ext 38 [sv q] s=some (.ok (.tup [sv [],.sc (.bool false)]) s):=hlit;by_cases c : 0 < kr q
  ·simp only [if_pos c] at has;unfold lg;simp -implicitDefEqProofs (disch:=first | assumption | (apply Ar.mk; first | omega | (simp only [Zj]; omega))) only [ZN,ai,qA,↓reduceIte,qB,reduceCtorEq,aa,ad,ZM,f2,f5,f10,h2,h5,h10,hlit,has]
  ·simp only [if_neg c] at has;unfold lg;simp -implicitDefEqProofs (disch:=first | assumption | (apply Ar.mk; first | omega | (simp only [Zj]; omega))) only [ZN,ai,qA,↓reduceIte,qB,reduceCtorEq,aa,ad,ZM,f2,f5,f10,h2,h5,h10,hlit,has]
 | some v=>
  rw [hv] at hlit;have hlit:∀s,ah Tryz.prog Γ ext 38 [sv q] s=some (.ok (.tup [sv v,.sc (.bool true)]) s):=hlit;simp only;by_cases c:fi=true∧ta=false∧0 < kr q
  ·rw [if_pos c];obtain⟨rfl,rfl,c⟩:=c;simp only [if_pos c] at has;unfold lg;simp -implicitDefEqProofs (disch:=first | assumption | (apply Ar.mk; first | omega | (simp only [Zj]; omega))) only [ZN,ai,qA,↓reduceIte,qB,qC,reduceCtorEq,aa,ad,ZM,f2,f5,f10,f11,h2,h5,h10,h11,hlow,hlit,has]
  rw [if_neg c];have main:∀a b g,(∀s,ah Tryz.prog Γ ext 39 [sv q] s=some (.ok (.tup [a,b,.sc (.bool g)]) s))→¬ (fi=true∧ta=false∧g=true)→zr Tryz.prog Γ ext (ZL 2 5 s0) lg f S []=some (.ok (.agg [gi (ws ++ [v]),sv v,iv fr,iv (qs ⟨ws,fi,ta⟩),.sc (.bool false)]) s0):=by
   intro a b g has hg;cases ws with
   | nil=>
    have h11:S.h (s0.n + 4)=⟨[nv,.sc (.bool fi),.sc (.bool ta)],low,90⟩:=h11;show _=some (ZR.ok (.agg [.lit 9 1 [sv v],sv v,iv fr,iv (qs ⟨[],fi,ta⟩),.sc (.bool false)]) s0);cases fi<;>cases ta<;>cases g
    all_goals first | (exfalso; exact hg ⟨rfl,rfl,rfl⟩) | skip
    all_goals
     unfold qs lg;simp -implicitDefEqProofs (disch:=first | assumption | (apply Ar.mk; first | omega | (simp only [Zj]; omega)) | (apply Ak.mk; first | rfl | exact .inl rfl | exact .inr rfl | exact aq _ _ | exact av _ _ | (unfold aG az; simp<;>omega) | with_unfolding_all rfl | exact .inr (by with_unfolding_all rfl))) only [ZN,ai,qA,↓reduceIte,qB,qC,reduceCtorEq,aa,aD,ad,ZM,qF,ZV,aW,aZ,aS,f2,f10,f11,h2,h10,h11,hlow,hlit,has]
     try rfl
   | cons w ws=>
    have hfl:((w :: ws).flatMap lu).length=(w :: ws).length * 1:=bB eO (w :: ws);have hone:((w :: ws).flatMap lu).all eQ=true:=pH fun x _=>Jk x;have hcl:((w :: ws).flatMap lu).all dQ=true:=by rw [List.all_flatMap]; exact List.all_eq_true.2 fun x _=>uH x
    have h11:S.h (s0.n + 4)=⟨[.lit 9 (w :: ws).length ((w :: ws).flatMap lu),.sc (.bool fi),.sc (.bool ta)],low,90⟩:=h11;have hres:gi (w :: ws ++ [v])=.lit 9 ((w :: ws).length + 1) ((w :: ws).flatMap lu ++ [sv v]):=by
     show PV.lit 9 (w :: ws ++ [v]).length ((w :: ws ++ [v]).flatMap lu)=_;rw [List.flatMap_append,List.length_append]; rfl
    rw [hres];have hn0 : 0 < (w :: ws).length:=Nat.succ_pos _;generalize (w :: ws).flatMap lu=cs at *;have hk:∀a b,qs ⟨w :: ws,a,b⟩=qs ⟨[],a,b⟩:=fun _ _=>rfl;rw [hk];clear hres hk;generalize (w :: ws).length=n at *;rw [Nat.mul_one] at hfl;have htk:∀x:PV,(cs ++ [x]).take (cs.length + 1)=cs ++ [x]:=fun x=>List.take_of_length_le (by simp);have htk2:∀x:PV,(cs ++ [x]).take (n + 1)=cs ++ [x]:=fun x=>by rw [← hfl]; exact htk x
    have hla:∀x:PV,(cs ++ [x]).length=cs.length + 1:=fun x=>by simp
    have hal:∀x:PV,(cs ++ [x]).all dQ=(cs.all dQ && [x].all dQ):=fun x=>List.all_append;cases fi<;>cases ta<;>cases g
    all_goals first | (exfalso; exact hg ⟨rfl,rfl,rfl⟩) | skip
    all_goals
     unfold qs lg;simp -implicitDefEqProofs (disch:=first | assumption | (apply Ar.mk; first | omega | (simp only [Zj]; omega)) | (apply Ak.mk; first | rfl | exact .inl rfl | exact .inr rfl | exact aq _ _ | exact av _ _ | (unfold aG az; simp<;>omega) | with_unfolding_all rfl | exact .inr (by with_unfolding_all rfl))) only [ZN,ai,qA,↓reduceIte,qB,qC,reduceCtorEq,aa,aD,ad,ZM,ZV,aW,aZ,aS,f2,f10,f11,h2,h10,h11,hlow,hlit,has,hfl,hone,hcl,htk2,hla,hal,Nat.mul_one]
     try rfl
  by_cases c2 : 0 < kr q
  ·simp only [if_pos c2] at has;exact main _ _ true has fun h=>c ⟨h.1,h.2.1,c2⟩
  ·simp only [if_neg c2] at has;exact main _ _ false has fun h=>by cases h.2.2
theorem BK {q:List UInt8} (hq:q.length≤500) {fr:Nat}{vs:List Tk}{N:Nat}{cs:List PV} (hN:N=vs.length) (hcs:cs=vs.flatMap (jz l)) (hvl:vs.length < 1000) (hvk:∀u∈vs,1≤u.k) :
  ∀(k i:Nat) (x:Pt) (f:aE) (S:PS),i + k=vs.length→x.ws.length≤i→Fs s0 l q fr x S→f 2=.ptr s0.n 0 5→f 5=.ptr (s0.n + 2) 0 5→f 10=.ptr (s0.n + 3) 0 4→f 11=.ptr (s0.n + 4) 0 3→f 6=.lit 55 N cs→f 12=iv i→rl Tryz.prog Γ ext (ZL 2 5 s0) 0 uR lg f S []=some (.ok (Ef l (q,fr) ((vs.drop i).foldl (fun x u=>da x u.k (u.t l)) x)) s0):=by
 have hfl:cs.length=N * 4:=by rw [hcs,hN]; exact bB (eP l) vs
 intro k
 induction k with
 | zero=>
  intro i x f S hi hxl hX f2 f5 f10 f11 f6 f12;have hiN:i=N:=by omega
  subst hiN;have hfit:=QF (ext:=ext) hl hq (fr:=fr) (x:=x) (by omega) hX;rw [List.drop_eq_nil_of_le (by omega)];refine ar (by unfold uR; rfl) (by unfold lg; rfl) ?_; intro hr R hR;simp -implicitDefEqProofs (disch:=first | assumption | (apply Ar.mk; omega)) only [ZN,↓df,qA,↓reduceIte,aa,ZM,f6,f12];rw [hR];apply hfit
  all_goals first | assumption | rfl
 | succ k ih=>
  intro i x f S hi hxl hX f2 f5 f10 f11 f6 f12;have hil:i < vs.length:=by omega
  have hiN:i < N:=by omega
  have hd:=o8 l vs i hil;rw [← hcs] at hd;have hdr:vs.drop i=vs[i] :: vs.drop (i + 1):=List.drop_eq_getElem_cons hil;have hk1 : 1≤(vs[i]).k:=hvk _ (List.getElem_mem hil);rw [hdr,List.foldl_cons];generalize vs[i]=u at *;have hut:(u.t l).length≤10000:=by have:=o9 l u.p u.e; unfold Tk.t; omega
  have hst:=fun s=>Np (ext:=ext) (x:=x) (by omega) (k:=u.k) (p:=u.p) (e:=u.e) hut hk1 s;have hsl:=step_lenR x u.k (u.t l);generalize da x u.k (u.t l)=y at *;have hox:=l5 x.ws;have hoy:=l5 y.ws;unfold xe at hst;obtain⟨h2,h5,h10,⟨low,hlow,h11⟩,hSn,hSw⟩:=hX;have key:∀f':aE,f' 2=.ptr s0.n 0 5→f' 5=.ptr (s0.n + 2) 0 5→f' 10=.ptr (s0.n + 3) 0 4→f' 11=.ptr (s0.n + 4) 0 3→f' 6=.lit 55 N cs→f' 12=iv (i + 1)→rl Tryz.prog Γ ext (ZL 2 5 s0) 0 uR lg f' (S.put (s0.n + 4) ⟨[gi y.ws,.sc (.bool y.fi),.sc (.bool y.ta)],3,90⟩) []=some (.ok (Ef l (q,fr) ((vs.drop (i + 1)).foldl (fun x u=>da x u.k (u.t l)) y)) s0):=by
   intro f' g2 g5 g10 g11 g6 g12;refine ih (i + 1) y f' _ (by omega) (by omega) ⟨?_,?_,?_,⟨3,Nat.le_refl _,?_⟩,?_,?_⟩ g2 g5 g10 g11 g6 g12
   ·rw [← h2]; simp -implicitDefEqProofs (disch:=(apply Ar.mk; (try simp only [aj,ak]); omega)) only [ao,au]
   ·rw [← h5]; simp -implicitDefEqProofs (disch:=(apply Ar.mk; (try simp only [aj,ak]); omega)) only [ao,au]
   ·obtain⟨a,b,h10⟩:=h10;exact⟨a,b,by rw [← h10]; simp -implicitDefEqProofs (disch:=(apply Ar.mk; (try simp only [aj,ak]); omega)) only [ao,au]⟩
   ·simp -implicitDefEqProofs (disch:=(apply Ar.mk; (try simp only [aj,ak]); omega)) only [ao,aI]
   ·exact hSn
   ·(simp only [db]; omega)
  refine ar (by unfold uR; rfl) (by unfold lg; rfl) ?_; intro hr R hR;simp -implicitDefEqProofs (disch:=first | assumption | (apply Ar.mk; first | omega | (simp only [Zj]; omega)) | (apply Ak.mk; first | rfl | exact .inl rfl | exact .inr rfl | exact aq _ _ | exact av _ _ | (unfold aG az; simp<;>omega) | with_unfolding_all rfl | exact .inr (by with_unfolding_all rfl))) only [ZN,↓dt,ai,qA,↓reduceIte,qB,aa,ad,ZM,ZV,aW,aZ,aS,f11,f6,f12,hd,hfl,h11,hlow,hst,hoy];rw [hR];apply key
  all_goals first | assumption | rfl
end
theorem Pn {l:List UInt8} (hb:l.length < 1000000):∃ws pre m kd br,(j5 l=true→ws=nv∧m=cP aF l l.length∧kd=3)∧eQ ws=true∧(∀n s,aP n s ws=some ws)∧∀s,ah Tryz.prog Γ ext 34 [sv l] s=some (.ok (.tup [.agg [ws,sv pre,iv m,iv kd,.sc (.bool br)],.sc (.bool (j5 l))]) s):=by
 have h:=fun s=>Rl (ext:=ext) hb s;unfold j5;by_cases c:i7 l≠0∧bt l (i7 l - 1)=36
 ·simp only [if_pos c] at h;refine⟨nv,l.drop (cP aF l l.length),cP aF l l.length,3,Uj l,fun _=>⟨rfl,rfl,rfl⟩,rfl,fun _ _=>rfl,fun s=>(h s).trans ?_⟩;congr 5;refine congrArg (fun b=>PV.sc (Value.bool b)) ?_;rw [decide_eq_decide];exact⟨fun h=>⟨c.1,c.2,h⟩,fun h=>h.2.2⟩
 ·simp only [if_neg c] at h;refine⟨nv,[],0,0,false,fun h=>?_,rfl,fun _ _=>rfl,fun s=>(h s).trans ?_⟩
  ·rw [decide_eq_true_eq] at h;exact absurd ⟨h.1,h.2.1⟩ c
  ·rw [decide_eq_false fun h=>c ⟨h.1,h.2.1⟩]
theorem Nz {t:List UInt8} (htl:t.length≤500):∃pre br,∀s,ah Tryz.prog Γ ext 18 [sv t] s=some (.ok (.agg [gi (dI da t).1,sv pre,iv (dI da t).2.1,iv (dI da t).2.2,.sc (.bool br)]) s):=by
 obtain⟨pw,pp,m,kd,br,hm,hpo,hpf,hpar⟩:=Pn (ext:=ext) (l:=t) (by omega);have htok:=fun s=>Fb (ext:=ext) htl s;have hae:=rr (l:=t) (t.length + 1) 0 (Nat.zero_le _) (by omega);have hcn:=mR (l:=t) (t.length + 1) 0 (Nat.zero_le _);unfold dI;by_cases c1:j5 t=true
 ·rw [if_pos c1];rw [c1] at hpar;obtain⟨m1,m2,m3⟩:=hm c1;subst m1;rw [← m2];subst m3;refine⟨pp,br,fun s=>?_⟩;show _=some (ZR.ok (.agg [nv,sv pp,iv m,iv 3,.sc (.bool br)]) s);refine bF (fn:=yf) 2 5 rfl rfl rfl rfl (by unfold yf; rfl) ?_; intro R hR;simp -implicitDefEqProofs (disch:=first | assumption | (apply Ar.mk; first | omega | (simp only [Zj]; omega))) only [ZN,ai,qA,↓reduceIte,qB,reduceCtorEq,aa,ad,ZM,hpar];exact hR.symm
 rw [if_neg c1];rw [(by simpa using c1:j5 t=false)] at hpar;cases ha:fE t (t.length + 1) 0 with
 | error x=>
  rw [ha] at htok;have htok:∀s,ah Tryz.prog Γ ext 35 [sv t] s=some (.ok (.tup [nv,.sc (.bool false)]) s):=htok;refine⟨[],false,fun s=>?_⟩;show _=some (ZR.ok (.agg [nv,sv [],iv t.length,iv 0,.sc (.bool false)]) s);refine bF (fn:=yf) 2 5 rfl rfl rfl rfl (by unfold yf; rfl) ?_; intro R hR;simp -implicitDefEqProofs (disch:=first | assumption | (apply Ar.mk; first | omega | (simp only [Zj]; omega))) only [ZN,ai,qA,↓reduceIte,qB,qC,reduceCtorEq,aa,aD,ad,ZM,hpar,htok,hpo];exact hR.symm
 | ok r=>
  obtain⟨ts,u,hr',_,hts⟩:=hae r ha;have hcn:=hcn r ha;subst hr';rw [ha] at htok;simp only [List.dropLast_concat] at htok ⊢;have hlt:ts.length < 600:=by rw [List.length_append,List.length_cons,List.length_nil] at hcn; omega
  have hfl:=bB (eP t) ts;have hh:∀e s,ah Tryz.prog Γ ext 36 [sv (t.drop e),cv 35] s=some (.ok (bv (j9 (t.drop e)=true)) s):=fun e s=>HQ (ext:=ext) (l:=t.drop e) (by rw [List.length_drop]; omega) 35 s;have hh0:∀s,ah Tryz.prog Γ ext 36 [sv t,cv 35] s=some (.ok (bv (j9 t=true)) s):=fun s=>HQ (ext:=ext) (l:=t) (by omega) 35 s;unfold pX;rcases List.eq_nil_or_concat ts with rfl | ⟨us,w,rfl⟩
  ·have htok:∀s,ah Tryz.prog Γ ext 35 [sv t] s=some (.ok (.tup [.lit 55 0 [],.sc (.bool true)]) s):=htok;simp only [show En ([]:List Tk)=0 from rfl];by_cases c2:j9 (t.drop 0)=true
   ·simp only [if_pos c2];have k2:Ar (j9 t=true):=⟨c2⟩
    have k3:Ar (j9 (t.drop 0)=true):=⟨c2⟩
    refine⟨[],false,fun s=>?_⟩;show _=some (ZR.ok (.agg [nv,sv [],iv t.length,iv 0,.sc (.bool false)]) s);refine bF (fn:=yf) 2 5 rfl rfl rfl rfl (by unfold yf; rfl) ?_; intro R hR;simp -implicitDefEqProofs (disch:=first | assumption | (apply Ar.mk; first | omega | (simp only [Zj]; omega))) only [ZN,↓dt,ai,qA,↓reduceIte,qB,qC,qD,reduceCtorEq,aa,aD,ad,ZM,hpar,htok,hpo,hh0];exact hR.symm
   ·simp only [if_neg c2];have k2:Ar (¬ j9 t=true):=⟨c2⟩
    have k3:Ar (¬ j9 (t.drop 0)=true):=⟨c2⟩
    obtain⟨pre,hpre⟩:=xc t ([],t.length) ⟨[],true,false⟩;refine⟨pre,false,fun s=>?_⟩;show _=some (ZR.ok (.agg [gi (ql t ([],t.length) ⟨[],true,false⟩).1,sv pre,iv (ql t ([],t.length) ⟨[],true,false⟩).2.1,iv (ql t ([],t.length) ⟨[],true,false⟩).2.2,.sc (.bool false)]) s);rw [← hpre];have hlo:=BK (ext:=ext) htl (s0:=s) (q:=[]) (by decide) (fr:=t.length) (vs:=[]) (N:=0) (cs:=[]) rfl rfl (by decide) (fun u hu=>by cases hu) 0 0 ⟨[],true,false⟩;refine bF (fn:=yf) 2 5 rfl rfl rfl rfl (by unfold yf; rfl) ?_; intro R hR;simp -implicitDefEqProofs (disch:=first | assumption | (apply Ar.mk; first | omega | (simp only [Zj]; omega))) only [ZN,↓df,ai,qA,↓reduceIte,qB,qC,qD,reduceCtorEq,aa,aD,ZM,hpar,htok,hpo,hh0];rw [hR];refine hlo _ _ rfl (Nat.le_refl _) ⟨by simp -implicitDefEqProofs (disch:=(apply Ar.mk; (try simp only [aj,ak]); omega)) only [ap,ao,aj,ak,au,aI],by simp -implicitDefEqProofs (disch:=(apply Ar.mk; (try simp only [aj,ak]); omega)) only [ap,ao,aj,ak,au,aI],⟨_,_,by simp -implicitDefEqProofs (disch:=(apply Ar.mk; (try simp only [aj,ak]); omega)) only [ap,ao,aj,ak,au,aI]; rfl⟩,⟨3,Nat.le_refl _,by simp -implicitDefEqProofs (disch:=(apply Ar.mk; (try simp only [aj,ak]); omega)) only [ap,ao,aj,ak,au,aI]; rfl⟩,by (simp only [aj,ak]; omega),by (simp only [cO,db]; omega)⟩ ?_ ?_ ?_ ?_ ?_ ?_
    all_goals rfl
  ·have hw:=hts w (by simp);have hul:(us.concat w).length=us.length + 1:=by simp
   rw [List.concat_eq_append] at *;have hE:En (us ++ [w])=w.e:=by unfold En; rw [List.getLast?_concat]
   have hL:jx t (us ++ [w])=if (w.k=1∨w.k=4)∧w.e=t.length then (w.t t,w.p,us) else ([],t.length,us ++ [w]):=by
    unfold jx; rw [List.getLast?_concat]; simp only [List.dropLast_concat]
   rw [hE,hL];have hel:=hw.2.1;have hd:=o8 t (us ++ [w]) us.length (by simp);rw [List.getElem_concat_length rfl] at hd;rw [hul] at htok hfl;have e2:us.length + 1 - 1=us.length:=rfl;have htk:((us ++ [w]).flatMap (jz t)).take (us.length * 4)=us.flatMap (jz t):=by
    rw [List.flatMap_append];exact List.take_left' (bB (eP t) us)
   have hwt:(w.t t).length≤500:=by have:=o9 t w.p w.e; unfold Tk.t; omega
   by_cases c2:j9 (t.drop w.e)=true
   ·simp only [if_pos c2];have k2:Ar (j9 (t.drop w.e)=true):=⟨c2⟩
    refine⟨[],false,fun s=>?_⟩;show _=some (ZR.ok (.agg [nv,sv [],iv t.length,iv 0,.sc (.bool false)]) s);generalize (us ++ [w]).flatMap (jz t)=cs2 at *;refine bF (fn:=yf) 2 5 rfl rfl rfl rfl (by unfold yf; rfl) ?_; intro R hR;simp -implicitDefEqProofs (disch:=first | assumption | (apply Ar.mk; first | omega | (simp only [Zj]; omega))) only [ZN,↓dt,ai,qA,↓reduceIte,qB,qC,reduceCtorEq,aa,aD,ad,ZM,hpar,htok,hpo,hh,hfl,hd,e2];exact hR.symm
   ·simp only [if_neg c2];have k2:Ar (¬ j9 (t.drop w.e)=true):=⟨c2⟩
    by_cases c3:(w.k=1∨w.k=4)∧w.e=t.length
    ·simp only [if_pos c3];have k3:Ar (w.e=t.length∧(w.k=1∨w.k=4)):=⟨c3.2,c3.1⟩
     obtain⟨pre,hpre⟩:=xc t (w.t t,w.p) (us.foldl (fun x u=>da x u.k (u.t t)) ⟨[],true,false⟩);refine⟨pre,false,fun s=>?_⟩;rw [← hpre];have hlo:=BK (ext:=ext) htl (s0:=s) (q:=w.t t) hwt (fr:=w.p) (vs:=us) (N:=us.length) (cs:=us.flatMap (jz t)) rfl rfl (by omega) (fun u hu=>(hts u (by simp [hu])).2.2.1) us.length 0 ⟨[],true,false⟩;generalize (us ++ [w]).flatMap (jz t)=cs2 at *;refine bF (fn:=yf) 2 5 rfl rfl rfl rfl (by unfold yf; rfl) ?_; intro R hR;simp -implicitDefEqProofs (disch:=first | assumption | (apply Ar.mk; first | omega | (simp only [Zj]; omega))) only [ZN,↓dt,↓df,ai,qA,↓reduceIte,qB,qC,reduceCtorEq,aa,aD,ad,ZM,I2,bk,↓bR,↓ed,hpar,htok,hpo,hh,hfl,hd,htk,e2];rw [hR];refine hlo _ _ (Nat.zero_add _) (Nat.le_refl _) ⟨by simp -implicitDefEqProofs (disch:=(apply Ar.mk; (try simp only [aj,ak]); omega)) only [ap,ao,aj,ak,au,aI],by simp -implicitDefEqProofs (disch:=(apply Ar.mk; (try simp only [aj,ak]); omega)) only [ap,ao,aj,ak,au,aI],⟨_,_,by simp -implicitDefEqProofs (disch:=(apply Ar.mk; (try simp only [aj,ak]); omega)) only [ap,ao,aj,ak,au,aI]; rfl⟩,⟨3,Nat.le_refl _,by simp -implicitDefEqProofs (disch:=(apply Ar.mk; (try simp only [aj,ak]); omega)) only [ap,ao,aj,ak,au,aI]; rfl⟩,by (simp only [aj,ak]; omega),by (simp only [cO,db]; omega)⟩ ?_ ?_ ?_ ?_ ?_ ?_
     all_goals rfl
    ·simp only [if_neg c3];have k3:Ar (¬ (w.e=t.length∧(w.k=1∨w.k=4))):=⟨fun h=>c3 ⟨h.2,h.1⟩⟩
     obtain⟨pre,hpre⟩:=xc t ([],t.length) ((us ++ [w]).foldl (fun x u=>da x u.k (u.t t)) ⟨[],true,false⟩);refine⟨pre,false,fun s=>?_⟩;rw [← hpre];have hlo:=BK (ext:=ext) htl (s0:=s) (q:=[]) (by decide) (fr:=t.length) (vs:=us ++ [w]) (N:=us.length + 1) (cs:=(us ++ [w]).flatMap (jz t)) (by simp) rfl (by simp; omega) (fun u hu=>(hts u hu).2.2.1) (us.length + 1) 0 ⟨[],true,false⟩;generalize (us ++ [w]).flatMap (jz t)=cs2 at *;by_cases d1:w.e=t.length
     ·have d2:¬ w.k=1:=fun h=>c3 ⟨.inl h,d1⟩;have d3:¬ w.k=4:=fun h=>c3 ⟨.inr h,d1⟩;refine bF (fn:=yf) 2 5 rfl rfl rfl rfl (by unfold yf; rfl) ?_; intro R hR;simp -implicitDefEqProofs (disch:=first | assumption | (apply Ar.mk; first | omega | (simp only [Zj]; omega))) only [ZN,↓dt,↓df,ai,qA,↓reduceIte,qB,qC,reduceCtorEq,aa,aD,ad,ZM,bk,bI,↓bR,hpar,htok,hpo,hh,hfl,hd,e2];rw [hR];refine hlo _ _ (by simp) (Nat.le_refl _) ⟨by simp -implicitDefEqProofs (disch:=(apply Ar.mk; (try simp only [aj,ak]); omega)) only [ap,ao,aj,ak,au,aI],by simp -implicitDefEqProofs (disch:=(apply Ar.mk; (try simp only [aj,ak]); omega)) only [ap,ao,aj,ak,au,aI],⟨_,_,by simp -implicitDefEqProofs (disch:=(apply Ar.mk; (try simp only [aj,ak]); omega)) only [ap,ao,aj,ak,au,aI]; rfl⟩,⟨3,Nat.le_refl _,by simp -implicitDefEqProofs (disch:=(apply Ar.mk; (try simp only [aj,ak]); omega)) only [ap,ao,aj,ak,au,aI]; rfl⟩,by (simp only [aj,ak]; omega),by (simp only [cO,db]; omega)⟩ ?_ ?_ ?_ ?_ ?_ ?_
      all_goals rfl
     ·have d2:Ar (¬ w.e=t.length):=⟨d1⟩
      refine bF (fn:=yf) 2 5 rfl rfl rfl rfl (by unfold yf; rfl) ?_; intro R hR;simp -implicitDefEqProofs (disch:=first | assumption | (apply Ar.mk; first | omega | (simp only [Zj]; omega))) only [ZN,↓dt,↓df,ai,qA,↓reduceIte,qB,qC,reduceCtorEq,aa,aD,ad,ZM,bk,bI,↓bR,↓ed,hpar,htok,hpo,hh,hfl,hd,e2];rw [hR];refine hlo _ _ (by simp) (Nat.le_refl _) ⟨by simp -implicitDefEqProofs (disch:=(apply Ar.mk; (try simp only [aj,ak]); omega)) only [ap,ao,aj,ak,au,aI],by simp -implicitDefEqProofs (disch:=(apply Ar.mk; (try simp only [aj,ak]); omega)) only [ap,ao,aj,ak,au,aI],⟨_,_,by simp -implicitDefEqProofs (disch:=(apply Ar.mk; (try simp only [aj,ak]); omega)) only [ap,ao,aj,ak,au,aI]; rfl⟩,⟨3,Nat.le_refl _,by simp -implicitDefEqProofs (disch:=(apply Ar.mk; (try simp only [aj,ak]); omega)) only [ap,ao,aj,ak,au,aI]; rfl⟩,by (simp only [aj,ak]; omega),by (simp only [cO,db]; omega)⟩ ?_ ?_ ?_ ?_ ?_ ?_
      all_goals rfl
theorem KZ {l:List UInt8} (hl:l.length≤500) (z:Int) (s:PS):ah Tryz.prog Γ ext 6 [sv l,.sc (.int .i64 z)] s=some (.ok (qI (dI da (l.take (fB z l.length)))) s):=by
 have hcl:=fun s=>Kt (ext:=ext) (n:=l.length) z s;have hcle:=v3 z l.length;generalize fB z l.length=c at *;obtain⟨t,hte⟩ : ∃t,l.take c=t:=⟨_,rfl⟩
 have htl:t.length≤500:=by rw [← hte,List.length_take]; omega
 rw [hte];obtain⟨pre,br,hf⟩:=Nz (ext:=ext) htl;unfold qI;have hfz:=fun n s=>wA n s (dI da t).1;have hfz2:∀n s,frz2 n s (gi (dI da t).1)=some (gi (dI da t).1):=fun n s=>by
  cases (dI da t).1<;>rfl
 have hov:=l5 (dI da t).1;generalize gi (dI da t).1=V at *;refine am (fn:=p6) [4,5,6] rfl rfl rfl rfl (by unfold p6; rfl) ?_; intro R hR;simp -implicitDefEqProofs (disch:=first | assumption | (apply Ar.mk; first | omega | (simp only [Zj]; omega)) | (apply Ak.mk; first | rfl | exact .inl rfl | exact .inr rfl | exact aq _ _ | exact av _ _ | (unfold aG az; simp<;>omega) | with_unfolding_all rfl | exact .inr (by with_unfolding_all rfl))) only [ZN,ai,qA,↓reduceIte,qB,qC,reduceCtorEq,aa,ae,frz,frz2,aX,ad,ZM,ZV,aW,aZ,aS,hcl,hte,hf,hov,↓hfz2];exact hR.symm
end Go.Proofs.YtioblbopbilmaaaGreatDoor
namespace Go.Mir
theorem xj (l:List UInt8):∀(vs:List Tk) (x:Pt),(vs.foldl (fun x u=>da x u.k (u.t l)) x).ws.length≤x.ws.length + vs.length
 | [],x=>Nat.le_refl _
 | u :: vs,x=>by
  have h1:=xj l vs (da x u.k (u.t l));have h2:=Go.Proofs.YtioblbopbilmaaaGreatDoor.step_lenR x u.k (u.t l);rw [List.foldl_cons,List.length_cons];omega
theorem Ee {l:List UInt8} (hl:l.length≤500):(dI da l).1.length < 1000000:=by
 unfold dI;split
 ·exact Nat.succ_pos _
 have hcn:=mR (l:=l) (l.length + 1) 0 (Nat.zero_le _);cases ha:fE l (l.length + 1) 0 with
 | error x=>exact Nat.succ_pos _
 | ok r=>
  have hr:=hcn r ha;have hd:r.dropLast.length≤501:=by rw [List.length_dropLast]; omega
  show (pX da l r.dropLast).1.length < _;unfold pX;split
  ·exact Nat.succ_pos _
  have hk:(jx l r.dropLast).2.2.length≤501:=by
   unfold jx;split
   ·exact hd
   ·split
    ·show r.dropLast.dropLast.length≤_;rw [List.length_dropLast]; omega
    ·exact hd
  have hf:=xj l (jx l r.dropLast).2.2 ⟨[],true,false⟩;have hf:((jx l r.dropLast).2.2.foldl (fun x u=>da x u.k (u.t l)) ⟨[],true,false⟩).ws.length≤501:=by
   refine Nat.le_trans hf ?_;show 0 + _≤_;omega
  unfold ql;split
  ·exact Nat.succ_pos _
  ·split
   ·exact Nat.succ_pos _
   ·show (_ ++ [_]).length < _;rw [List.length_append,List.length_cons,List.length_nil]; omega
end Go.Mir
namespace Go.Proofs.YtioblbopbilmaaaGreatDoor
open Go Go.EvL Go.PE Go.Mir
variable {ext:aw}
set_option maxHeartbeats 4000000
def WC (ext:aw):Prop:=∀s:PS,ext 4 [] s=some (.sc (.bool true),s)
theorem Ah (zC:JW ext) (vj:EK ext) (hxA:WC ext) (l:List UInt8) (z:Int) (s:PS):ah Tryz.prog Γ ext 3 [sv l,.sc (.int .i64 z)] s=some (.ok (.sc (.bool true)) s):=by
 have h4:∀s,ah Tryz.prog Γ ext 4 [] s=some (.ok (.sc (.bool true)) s):=fun s=>by rw [pV (by rfl),hxA s]; rfl
 by_cases hl:l.length≤500
 ·have h5:=fun s=>Jz (ext:=ext) zC vj hl z s;have h6:=fun s=>KZ (ext:=ext) hl z s;rw [Hj] at h5;have htl:(l.take (fB z l.length)).length≤500:=by rw [List.length_take]; omega
  have h7:=fun s=>J1 (ext:=ext) (Ee htl) s;have hov:=l5 (dI da (l.take (fB z l.length))).1;unfold qI at h5 h6;generalize gi (dI da (l.take (fB z l.length))).1=V at *;generalize (dI da (l.take (fB z l.length))).2.1=a at *;generalize (dI da (l.take (fB z l.length))).2.2=b at *;have e1:decide (a=a)=true:=by simp
  have e2:decide (b=b)=true:=by simp
  have k1:Ar (a=a):=⟨rfl⟩
  have k2:Ar (b=b):=⟨rfl⟩
  refine am (fn:=p3) [4] rfl rfl rfl rfl (by unfold p3; rfl) ?_; intro R hR;simp -implicitDefEqProofs (disch:=first | assumption | (apply Ar.mk; first | omega | (simp only [Zj]; omega))) only [ZN,↓df,ai,qA,↓reduceIte,qB,reduceCtorEq,aa,ae,frz,frz2,ZM,h4,h5,h6,h7];exact hR.symm
 ·have k0:Ar (l.length > 500):=⟨by omega⟩
  refine am (fn:=p3) [4] rfl rfl rfl rfl (by unfold p3; rfl) ?_; intro R hR;simp -implicitDefEqProofs (disch:=first | assumption | (apply Ar.mk; first | omega | (simp only [Zj]; omega))) only [ZN,↓dt,ai,↓reduceIte,qB,reduceCtorEq,aa,ae,frz,frz2,ZM,h4];exact hR.symm
end Go.Proofs.YtioblbopbilmaaaGreatDoor
