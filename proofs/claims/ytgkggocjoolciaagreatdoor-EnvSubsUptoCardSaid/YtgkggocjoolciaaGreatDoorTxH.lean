/- What functions of the program and of the reference compute, on values. No statement is proved here. -/
import Derived.Test.YtgkggocjoolciaaGreatDoorTxG
import Derived.Test.YtgkggocjoolciaaGreatDoorTxE
import Derived.Test.YtgkggocjoolciaaGreatDoorTxA
import Derived.Test.YtgkggocjoolciaaGreatDoorTxC
set_option linter.all false
namespace Go.Proofs.YtgkggocjoolciaaGreatDoor
open Go Go.EvL Go.PE Go.Mir
mutual
def tH:aJ→ar→Prop
 | .mk k t o c ps,x=>x.kind=k∧x.text=⟨⟨t⟩⟩∧x.op=o∧x.colon=c∧∃y:Option (List ar),x.parts=aK 150 ar.cells y∧lz ps (y.getD [])
def lz:List aJ→List ar→Prop
 | [],xs=>xs=[]
 | p :: ps,xs=>∃x xs',xs=x :: xs'∧tH p x∧lz ps xs'
end
def tA (l:List aJ) (v:PV):Prop:=∃y:Option (List ar),v=aK 150 ar.cells y∧lz l (y.getD [])
theorem lz.nil {xs:List ar} (h:lz [] xs):xs=[]:=by rw [lz] at h; exact h
theorem lz.cons {p:aJ}{ps:List aJ}{xs:List ar} (h:lz (p :: ps) xs):∃x xs',xs=x :: xs'∧tH p x∧lz ps xs':=by rw [lz] at h; exact h
theorem lz.length:∀{l:List aJ}{xs:List ar},lz l xs→xs.length=l.length
 | [],_,h=>by rw [h.nil]; rfl
 | _ :: ps,_,h=>by
  obtain⟨x,xs',rfl,_,h⟩:=h.cons;rw [List.length_cons,List.length_cons,lz.length h]
theorem lz.drop:∀{i:Nat}{l:List aJ}{xs:List ar},lz l xs→lz (l.drop i) (xs.drop i)
 | 0,_,_,h=>h
 | _ + 1,[],_,h=>by rw [h.nil]; show lz [] []; rw [lz]
 | i + 1,_ :: ps,_,h=>by
  obtain⟨x,xs',rfl,_,h⟩:=h.cons;exact lz.drop (i:=i) h
theorem aL.read:∀{d:Nat}{v:PV},aL d v→∃l,tA l v
 | 0,_,h=>by cases h
 | d + 1,v,h=>by
  obtain⟨y,rfl,_,h⟩:=h;suffices hh:∀xs:List ar,(∀x∈xs,aL d x.parts)→∃l,lz l xs by
   obtain⟨l,hl⟩:=hh _ h;exact⟨l,y,rfl,hl⟩
  intro xs
  induction xs with
  | nil=>exact fun _=>⟨[],by rw [lz]⟩
  | cons x xs ih=>
   intro hx;obtain⟨l,hl⟩:=ih fun z hz=>hx z (List.mem_cons_of_mem _ hz);obtain⟨ps,z,hz,hp⟩:=aL.read (hx x (List.mem_cons_self ..));refine⟨.mk x.kind x.text.data.toList x.op x.colon ps :: l,?_⟩;rw [lz];refine⟨x,xs,rfl,?_,hl⟩;rw [tH];exact⟨rfl,rfl,rfl,rfl,z,hz,hp⟩
mutual
theorem Ff:∀p:aJ,∃x,tH p x∧x.cells=dJ p
 | .mk k t o c ps=>by
  obtain⟨xs,h,hc⟩:=yW ps;refine⟨⟨k,⟨⟨t⟩⟩,o,c,cS ps⟩,?_,?_⟩
  ·rw [tH];refine⟨rfl,rfl,rfl,rfl,dx xs,?_,?_⟩
   ·show cS ps=_;have hl:=h.length;cases ps with
    | nil=>
     rw [h.nil,cS];rfl
    | cons p ps=>
     cases xs with
     | nil=>cases hl
     | cons x xs=>
      rw [cS,← nH,← hc];show _=PV.lit 150 (xs.length + 1) ((x :: xs).flatMap ar.cells);simp only [List.length_cons] at hl;rw [show ps.length=xs.length by omega]
   ·rw [bV];exact h
  ·rw [dJ];rfl
theorem yW:∀l:List aJ,∃xs,lz l xs∧xs.flatMap ar.cells=nH l
 | []=>⟨[],by rw [lz],by rw [nH]; rfl⟩
 | p :: ps=>by
  obtain⟨x,h,e⟩:=Ff p;obtain⟨xs,h2,e2⟩:=yW ps;refine⟨x :: xs,?_,?_⟩
  ·rw [lz];exact⟨x,xs,rfl,h,h2⟩
  ·rw [nH,List.flatMap_cons,e,e2]
end
theorem Oi (l:List aJ):tA l (cS l):=by
 obtain⟨x,h,_⟩:=Ff (.mk 0 [] 0 false l);rw [tH] at h;obtain⟨_,_,_,_,y,hy,hl⟩:=h;obtain⟨xs,h,hc⟩:=yW l;refine⟨dx xs,?_,by rw [bV]; exact h⟩;have hl:=h.length;cases l with
 | nil=>
  rw [h.nil,cS];rfl
 | cons p ps=>
  cases xs with
  | nil=>cases hl
  | cons x xs=>
   rw [cS,← nH,← hc];show _=PV.lit 150 (xs.length + 1) ((x :: xs).flatMap ar.cells);simp only [List.length_cons] at hl;rw [show ps.length=xs.length by omega]
end Go.Proofs.YtgkggocjoolciaaGreatDoor
namespace Go.PE
open Go Go.EvL
theorem cx {P:Program} (t:Nat) (x y:Operand) {a c:List UInt8} (h:a.length + c.length < 9223372036854775808):fw P .add t x y (.sc (.string ⟨⟨a⟩⟩)) (.sc (.string ⟨⟨c⟩⟩))=some (.sc (.string ⟨⟨a ++ c⟩⟩)):=by
 rw [nR t x y (a:=⟨⟨a⟩⟩) (b:=⟨⟨c⟩⟩) h];show some (PV.sc (.string (ByteArray.mk ⟨a⟩ ++ ByteArray.mk ⟨c⟩)))=_;rw [Go.Proofs.YtgkggocjoolciaaGreatDoor.ba_add]
theorem eI {P:Program}{Γ:Nat→Option fJ}{ext:aq}{g r:Nat}{fn:fJ}{args:List PV}{s:PS}{u:Value} (hg:Γ g=some fn) (hl:args.length≤fn.nt) (hr:fn.res=[.tmp r]) (hk:fn.keep=false) (h:Er (fun f' s'=>s.n≤s'.w∧f' r=.sc u) (aN P Γ ext fn.body (br args 0) ⟨s.h,s.n,s.n⟩)):aD P Γ ext g args s=some (.sc u,s):=by
 refine ir hg hl h ?_;rintro f s' ⟨hw,h⟩;refine fM (vs:=[.sc u]) hk (by rw [hr]; simp only [ii,Option.map_some,h]) hw ?_;rfl
theorem mq (fn:fJ) (r:Nat) {P:Program}{Γ:Nat→Option fJ}{ext:aq}{g:Nat}{args:List PV}{s:PS}{u:Value} (h:Er (fun f' s'=>s.n≤s'.w∧f' r=.sc u) (aN P Γ ext fn.body (br args 0) ⟨s.h,s.n,s.n⟩)) (hg:Γ g=some fn:=by rfl) (hl:args.length≤fn.nt:=by exact Nat.le_of_ble_eq_true rfl) (hr:fn.res=[.tmp r]:=by rfl) (hk:fn.keep=false:=by rfl):aD P Γ ext g args s=some (.sc u,s):=eI hg hl hr hk h
end Go.PE
namespace Go.Proofs.YtgkggocjoolciaaGreatDoor
open Go Go.EvL Go.PE Go.Mir
variable {ext:aq}
theorem Oa {k o:Int}{t:List UInt8}{c:Bool}{ps:List aJ}{v:PV}{pl:Nat} (hpl:pl≤6) (hsz:pP (.mk k t o c ps) < 1000000000000) {y:Option (List ar)}{ns:List aJ} (hn:lz ns (y.getD []))
  (hs:∀s,Pc ext 253 [v,.sc (.int .i64 (dV pl))] (.sc (.string ⟨⟨dF (dV pl) ps⟩⟩)) s) (s:PS) :
  Pc ext 265 [.agg (ar.mk k ⟨⟨t⟩⟩ o c v).cells,iN pl,aK 150 ar.cells y] (.sc (.string ⟨⟨Fj pl (eN ns) (.mk k t o c ps)⟩⟩)) s:=by
 have hl:=jU (dV pl) ps;have hg:=uY o;have u1:ei Γ 281=true:=rfl;have u2:ei Γ 282=true:=rfl;have u3:ei Γ 253=true:=rfl;rw [pP] at hsz;refine mq PX 6 ?_;generalize hY:aK 150 ar.cells y=Y;unfold PX ar.cells;rw [Fj];have hend:s.n≤((⟨s.h,s.n,s.n⟩ : PS).new ⟨[.sc (.int .i64 k),.sc (.string ⟨⟨t⟩⟩),.sc (.int .i64 o),.sc (.bool c),v],0,150⟩).w:=Nat.le_refl _;have he:∀t:List UInt8,((ByteArray.mk ⟨t⟩).toList == (ByteArray.mk #[]).toList)=t.isEmpty:=fun t=>by
  rw [ByteArray.toList_eq,ByteArray.toList_eq];cases t<;>rfl
 cases c1:o == 5 with
 | true=>simp -implicitDefEqProofs (disch:=first | omega | (simp only [List.length_append,List.length_cons,List.length_nil]; omega)) only [ZS,seval,cx,c1]
 | false=>
  cases c2:o != 0 with
  | true=>
   cases c with
   | true=>
    simp -implicitDefEqProofs (disch:=first | omega | (unfold cO bZ; simp<;>omega) | (simp only [List.length_append,List.length_cons,List.length_nil]; omega)) only [ZS,seval,ZT,cx,c1,c2,hs,Ih,rf hpl,u1,u2,u3];simp only [List.append_assoc,List.cons_append,List.nil_append]
   | false=>
    simp -implicitDefEqProofs (disch:=first | omega | (unfold cO bZ; simp<;>omega) | (simp only [List.length_append,List.length_cons,List.length_nil]; omega)) only [ZS,seval,ZT,cx,c1,c2,hs,Ih,rf hpl,u1,u2,u3];simp only [List.append_assoc]
  | false=>
   by_cases hd:(decide (1 < t.length) && bD (bt t 0))=true
   ·rw [hd];obtain⟨h1,h2⟩:=Bool.and_eq_true_iff.1 hd;have hl0 : 0 < t.length:=by have:=of_decide_eq_true h1; omega
    simp -implicitDefEqProofs (disch:=first | omega | (simp only [List.length_append,List.length_cons,List.length_nil]; omega)) only [ZS,seval,cx,c1,c2,h1,h2,hl0,cV]
   ·have hd':(decide (1 < t.length) && bD (bt t 0))=false:=Bool.eq_false_iff.2 hd;rw [hd'];have key:∃d:Bool,decide (1 < t.length)=d∧(d=true→0 < t.length∧bD (bt t 0)=false):=by
     refine⟨_,rfl,fun h1=>⟨by have:=of_decide_eq_true h1; omega,?_⟩⟩;rw [h1,Bool.true_and] at hd';exact hd'
    obtain⟨d,d1,d2⟩:=key;have z0:decide ((0:Int) > 0)=false:=rfl;cases ns with
    | nil=>
     have hy:=hn.nil;have hy':gq false Y=some (.sc (.int .i64 0)):=by rw [← hY,bE,hy]; rfl
     cases d with
     | true=>
      obtain⟨hl0,h2⟩:=d2 rfl;simp -implicitDefEqProofs (disch:=first | omega | (simp only [List.length_append,List.length_cons,List.length_nil]; omega)) only [ZS,seval,ZX,cx,c1,c2,d1,h2,hl0,cV,hy',z0,eN]
     | false=>simp -implicitDefEqProofs (disch:=first | omega | (simp only [List.length_append,List.length_cons,List.length_nil]; omega)) only [ZS,seval,ZX,cx,c1,c2,d1,hy',z0,eN]
    | cons q ns=>
     obtain⟨x,xs,hxs,hq,_⟩:=hn.cons;obtain⟨qk,qt,qo,qc,qp⟩:=q;obtain⟨xk,xt,xo,xc,xp⟩:=x;rw [tH] at hq;obtain⟨rfl,rfl,rfl,rfl,_⟩:=hq;obtain⟨R,hR⟩ : ∃R,xs.flatMap ar.cells=R:=⟨_,rfl⟩
     have hyl:Y=.lit 150 (xs.length + 1) (.sc (.int .i64 xk) :: .sc (.string ⟨⟨qt⟩⟩) :: .sc (.int .i64 xo) :: .sc (.bool xc) :: xp :: R):=by
      rw [← hY,← hR];cases y with
      | none=>cases hxs
      | some l=>
       cases hxs;rfl
     have hfl:R.length + 1 + 1 + 1 + 1 + 1=(xs.length + 1) * 5:=by
      have:=aB ar.len xs;rw [hR] at this;omega
     have w1 : 1≤(xs.length + 1) * 5:=om;have w2 : 1≤R.length + 1 + 1 + 1 + 1:=om;have hpos : 0 < xs.length + 1:=Nat.succ_pos _;have g1:decide (((xs.length + 1:Nat):Int) > 0)=true:=dt;subst hyl;cases k1:xk == 1 with
     | false=>
      have hf:eN (.mk xk qt xo xc qp :: ns)=false:=by simp only [eN,aJ.kind,k1,Bool.false_and]
      cases d with
      | true=>
       obtain⟨hl0,h2⟩:=d2 rfl;simp -implicitDefEqProofs (disch:=first | omega | (simp only [List.length_append,List.length_cons,List.length_nil]; omega)) only [ZS,seval,ZX,cx,c1,c2,d1,h2,hl0,cV,hf,w1,k1,g1,hpos,hfl,Nat.zero_mul,au]
      | false=>simp -implicitDefEqProofs (disch:=first | omega | (simp only [List.length_append,List.length_cons,List.length_nil]; omega)) only [ZS,seval,ZX,cx,c1,c2,d1,hf,w1,k1,g1,hpos,hfl,Nat.zero_mul,au]
     | true=>
      cases k2:qt.isEmpty with
      | true=>
       have hf:eN (.mk xk qt xo xc qp :: ns)=false:=by simp only [eN,aJ.kind,aJ.text,k1,k2,Bool.true_and,Bool.not_true,Bool.false_and]
       cases d with
       | true=>
        obtain⟨hl0,h2⟩:=d2 rfl;simp -implicitDefEqProofs (disch:=first | omega | (simp only [List.length_append,List.length_cons,List.length_nil]; omega)) only [ZS,seval,ZX,cx,c1,c2,d1,h2,hl0,cV,hf,w1,w2,k1,k2,g1,hpos,hfl,Nat.zero_mul,au,he]
       | false=>simp -implicitDefEqProofs (disch:=first | omega | (simp only [List.length_append,List.length_cons,List.length_nil]; omega)) only [ZS,seval,ZX,cx,c1,c2,d1,hf,w1,w2,k1,k2,g1,hpos,hfl,Nat.zero_mul,au,he]
      | false=>
       have hq0 : 0 < qt.length:=by cases qt with | nil=>cases k2 | cons a t=>exact Nat.succ_pos _
       cases k3:eo (bt qt 0) with
       | false=>
        have hf:eN (.mk xk qt xo xc qp :: ns)=false:=by simp only [eN,aJ.kind,aJ.text,k1,k2,k3,Bool.true_and,Bool.not_false,Bool.and_false]
        cases d with
        | true=>
         obtain⟨hl0,h2⟩:=d2 rfl;simp -implicitDefEqProofs (disch:=first | omega | (simp only [List.length_append,List.length_cons,List.length_nil]; omega)) only [ZS,seval,ZX,cx,c1,c2,d1,h2,hl0,cV,hf,w1,w2,k1,k2,k3,hq0,eK,g1,hpos,hfl,Nat.zero_mul,au,he]
        | false=>simp -implicitDefEqProofs (disch:=first | omega | (simp only [List.length_append,List.length_cons,List.length_nil]; omega)) only [ZS,seval,ZX,cx,c1,c2,d1,hf,w1,w2,k1,k2,k3,hq0,eK,g1,hpos,hfl,Nat.zero_mul,au,he]
       | true=>
        have hf:eN (.mk xk qt xo xc qp :: ns)=true:=by simp only [eN,aJ.kind,aJ.text,k1,k2,k3,Bool.true_and,Bool.not_false]
        cases t1:t.isEmpty with
        | true=>
         cases d with
         | true=>
          obtain⟨hl0,h2⟩:=d2 rfl;simp -implicitDefEqProofs (disch:=first | omega | (simp only [List.length_append,List.length_cons,List.length_nil]; omega)) only [ZS,seval,ZX,cx,c1,c2,d1,h2,hl0,cV,hf,w1,w2,k1,k2,k3,hq0,eK,g1,hpos,hfl,Nat.zero_mul,au,he,t1]
         | false=>simp -implicitDefEqProofs (disch:=first | omega | (simp only [List.length_append,List.length_cons,List.length_nil]; omega)) only [ZS,seval,ZX,cx,c1,c2,d1,hf,w1,w2,k1,k2,k3,hq0,eK,g1,hpos,hfl,Nat.zero_mul,au,he,t1]
        | false=>
         have hl0 : 0 < t.length:=by cases t with | nil=>cases t1 | cons a t=>exact Nat.succ_pos _
         cases t2:eo (bt t 0) with
         | false=>
          cases d with
          | true=>
           obtain⟨hl0,h2⟩:=d2 rfl;simp -implicitDefEqProofs (disch:=first | omega | (simp only [List.length_append,List.length_cons,List.length_nil]; omega)) only [ZS,seval,ZX,cx,c1,c2,d1,h2,cV,hf,w1,w2,k1,k2,k3,hq0,eK,g1,hpos,hfl,Nat.zero_mul,au,he,t1,t2,hl0]
          | false=>simp -implicitDefEqProofs (disch:=first | omega | (simp only [List.length_append,List.length_cons,List.length_nil]; omega)) only [ZS,seval,ZX,cx,c1,c2,d1,hf,w1,w2,k1,k2,k3,hq0,eK,g1,hpos,hfl,Nat.zero_mul,au,he,t1,t2,hl0]
         | true=>
          cases t3:bD (bt t 0) with
          | false=>
           cases d with
           | true=>
            obtain⟨hl0,h2⟩:=d2 rfl;simp -implicitDefEqProofs (disch:=first | omega | (simp only [List.length_append,List.length_cons,List.length_nil]; omega)) only [ZS,seval,ZX,cx,c1,c2,d1,h2,cV,hf,w1,w2,k1,k2,k3,hq0,eK,g1,hpos,hfl,Nat.zero_mul,au,he,t1,t2,hl0]
           | false=>simp -implicitDefEqProofs (disch:=first | omega | (simp only [List.length_append,List.length_cons,List.length_nil]; omega)) only [ZS,seval,ZX,cx,c1,c2,d1,cV,hf,w1,w2,k1,k2,k3,hq0,eK,g1,hpos,hfl,Nat.zero_mul,au,he,t1,t2,t3,hl0]
          | true=>
           cases d with
           | true=>
            obtain⟨hl0,h2⟩:=d2 rfl;rw [t3] at h2;cases h2
           | false=>simp -implicitDefEqProofs (disch:=first | omega | (simp only [List.length_append,List.length_cons,List.length_nil]; omega)) only [ZS,seval,ZX,cx,c1,c2,d1,cV,hf,w1,w2,k1,k2,k3,hq0,eK,g1,hpos,hfl,Nat.zero_mul,au,he,t1,t2,t3,hl0]
theorem H5 {n:Nat} (hrec:∀(ps:List aJ) (v:PV) (q:Nat),gK ps < n→q≤6→tA ps v→∀s,Pc ext 253 [v,iN q] (.sc (.string ⟨⟨dF q ps⟩⟩)) s) (hn12:n < 1000000000000) {pl:Nat} (hpl:pl≤6) {xs:List ar} (hx:xs.length < 1000000000000) (n0:Nat) {W:List UInt8} (hW:W.length < 1000000000000) :
  ∀(suf:List aJ) (i:Nat) (acc:List UInt8) (f:aR) (s:PS),i≤xs.length→lz suf (xs.drop i)→gK suf≤n→acc ++ dF pl suf=W→(n0≤s.w∧n0≤s.n)→f 0=.lit 150 xs.length (xs.flatMap ar.cells)→f 1=iN pl→f 5=.sc (.string ⟨⟨acc⟩⟩)→f 6=iN i→
  Er (fun f' s'=>n0≤s'.w∧f' 4=.sc (.string ⟨⟨W⟩⟩)) (LP Tryz.prog Γ ext 0 iz zh f s):=by
 intro suf
 induction suf with
 | nil=>
  intro i acc f s hi hd hs ha hw h0 h1 h5 h6;have hl:=hd.length;rw [List.length_drop,List.length_nil] at hl;have e1:decide (i < xs.length)=false:=df;rw [dF,List.append_nil] at ha;subst ha;refine ad fun L hL=>?_;refine u0 @iz.eq_1 @zh.eq_1 h0 h5 h6 e1 ?_;exact hw.1
 | cons p suf ih=>
  intro i acc f s hi hd hs ha hw h0 h1 h5 h6;obtain⟨x,xs',hxs,hp,hd'⟩:=hd.cons;have hl:=hd.length;rw [List.length_drop,List.length_cons] at hl;have hil:i < xs.length:=om;have e1:decide (i < xs.length)=true:=decide_eq_true hil;have hj:xs[i]?=some x:=by
   have:=List.getElem?_drop (xs:=xs) (i:=i) (j:=0);rw [hxs] at this;rw [Nat.add_zero] at this;rw [← this];rfl
  have hxs':xs'=xs.drop (i + 1):=by
   rw [← List.drop_drop,hxs];rfl
  subst hxs';have hfl:=aB ar.len xs;have hk3:=kB ar.len hj;rw [gK] at hs;obtain⟨k,t,o,c,ps⟩:=p;obtain⟨xk,xt,xo,xc,xp⟩:=x;have hp2:=hp;rw [tH] at hp;obtain⟨rfl,rfl,rfl,rfl,z,rfl,hz⟩:=hp;rw [pP] at hs;have hR:=fun q hq=>hrec ps (aK 150 ar.cells z) q om hq ⟨z,rfl,hz⟩;obtain⟨v,hv⟩ : ∃v,aK 150 ar.cells z=v:=⟨_,rfl⟩
  have ov:cL v=true:=by rw [← hv]; exact dr _ _ _
  have cv:az v=[v]:=by rw [← hv]; cases z<;>rfl
  rw [hv] at hR hk3;have hR2:∀s,Pc ext 253 [v,.sc (.int .i64 2)] (.sc (.string ⟨⟨dF 2 ps⟩⟩)) s:=hR 2 om;have hR4:∀s,Pc ext 253 [v,.sc (.int .i64 4)] (.sc (.string ⟨⟨dF 4 ps⟩⟩)) s:=hR 4 om;have hlen:acc.length + ((tz pl (eN suf) (.mk xk t xo xc ps)).length + (dF pl suf).length)=W.length:=by rw [← ha,dF,List.length_append,List.length_append]
  have hgo:=ih (i + 1) (acc ++ tz pl (eN suf) (.mk xk t xo xc ps));rw [dF,← List.append_assoc] at ha;simp only [ar.cells] at hk3;have hlen':=hlen;have hgo':=hgo;have ha':=ha;have hesc:(mf pl t).length < 4611686018427387904:=by have:=Fi pl t; omega
  have he:((ByteArray.mk ⟨t⟩).toList == (ByteArray.mk #[39]).toList)=(t == [39]):=by rw [ByteArray.toList_eq,ByteArray.toList_eq]
  rw [tz] at hlen hgo ha;refine ad fun L hL=>?_;cases c7:xk == 7 with
  | true=>
   rw [c7,if_pos rfl] at hlen hgo ha
   try simp only [List.length_cons,List.length_nil] at hlen
   simp -implicitDefEqProofs (disch:=first | omega | (simp only [List.length_append,List.length_cons,List.length_nil]; omega)) only [ZS,seval,ZX,cx,iz,h0,h5,h6,hil,hfl,hk3,ov,aS,aE,iW,iY,c7];subst hL;exact hgo _ _ hil hd' om ha aQ (aX h0) (aX h1) aQ aQ
  | false=>
   rw [c7,if_neg Bool.false_ne_true] at hlen hgo ha;cases c1:xk == 1 with
   | true=>
    rw [c1,if_pos rfl] at hlen hgo ha;cases c10:cN pl with
    | true=>
     rw [c10,if_pos rfl] at hlen hgo ha
     try simp only [List.length_cons,List.length_append,List.length_nil] at hlen
     simp -implicitDefEqProofs (disch:=first | omega | (simp only [List.length_append,List.length_cons,List.length_nil]; omega)) only [ZS,seval,ZX,cx,iz,h0,h1,h5,h6,hil,hfl,hk3,ov,aS,aE,iW,iY,c7,c1,bF hpl,xF hpl hesc,c10];subst hL;exact hgo _ _ hil hd' om ha aQ (aX h0) (aX h1) aQ aQ
    | false=>
     rw [c10,if_neg Bool.false_ne_true] at hlen hgo ha
     try simp only [List.length_cons,List.length_append,List.length_nil] at hlen
     simp -implicitDefEqProofs (disch:=first | omega | (simp only [List.length_append,List.length_cons,List.length_nil]; omega)) only [ZS,seval,ZX,cx,iz,h0,h1,h5,h6,hil,hfl,hk3,ov,aS,aE,iW,iY,c7,c1,bF hpl,xF hpl hesc,c10];subst hL;exact hgo _ _ hil hd' om ha aQ (aX h0) (aX h1) aQ aQ
   | false=>
    rw [c1,if_neg Bool.false_ne_true] at hlen hgo ha;cases c2:xk == 2 with
    | true=>
     rw [c2,if_pos rfl] at hlen hgo ha;cases c20:t == [39] with
     | true=>
      rw [c20,if_pos rfl] at hlen hgo ha
      try simp only [List.length_cons,List.length_nil] at hlen
      simp -implicitDefEqProofs (disch:=first | omega | (simp only [List.length_append,List.length_cons,List.length_nil]; omega)) only [ZS,seval,ZX,cx,iz,h0,h1,h5,h6,hil,hfl,hk3,ov,aS,aE,iW,iY,he,hR2,hR4,c7,c1,c2,c20];subst hL;exact hgo _ _ hil hd' om ha aQ (aX h0) (aX h1) aQ aQ
     | false=>
      rw [c20,if_neg Bool.false_ne_true] at hlen hgo ha
      try simp only [List.length_cons,List.length_append,List.length_nil] at hlen
      simp -implicitDefEqProofs (disch:=first | omega | (simp only [List.length_append,List.length_cons,List.length_nil]; omega)) only [ZS,seval,ZX,cx,iz,h0,h1,h5,h6,hil,hfl,hk3,ov,aS,aE,iW,iY,he,hR2,hR4,c7,c1,c2,c20];subst hL;exact hgo _ _ hil hd' om ha aQ (aX h0) (aX h1) (aX @List.append_assoc.{0}) aQ
    | false=>
     rw [c2,if_neg Bool.false_ne_true] at hlen hgo ha;cases c3:xk == 3 with
     | true=>
      rw [c3,if_pos rfl] at hlen hgo ha
      try simp only [List.length_cons,List.length_append,List.length_nil] at hlen
      simp -implicitDefEqProofs (disch:=first | omega | (simp only [List.length_append,List.length_cons,List.length_nil]; omega)) only [ZS,seval,ZX,cx,iz,h0,h1,h5,h6,hil,hfl,hk3,ov,aS,aE,iW,iY,hR2,hR4,c7,c1,c2,c3];subst hL;exact hgo _ _ hil hd' om ha aQ (aX h0) (aX h1) (aX @List.append_assoc.{0}) aQ
     | false=>
      rw [c3,if_neg Bool.false_ne_true] at hlen hgo ha;cases c5:xk == 5 with
      | true=>
       rw [c5,if_pos rfl] at hlen hgo ha
       try simp only [List.length_cons,List.length_append,List.length_nil] at hlen
       simp -implicitDefEqProofs (disch:=first | omega | (simp only [List.length_append,List.length_cons,List.length_nil]; omega)) only [ZS,seval,ZX,cx,iz,h0,h1,h5,h6,hil,hfl,hk3,ov,aS,aE,iW,iY,hR2,hR4,c7,c1,c2,c3,c5];subst hL;exact hgo _ _ hil hd' om ha aQ (aX h0) (aX h1) (aX @List.append_assoc.{0}) aQ
      | false=>
       rw [c5,if_neg Bool.false_ne_true] at hlen hgo ha;cases c6:xk == 6 with
       | true=>
        rw [c6,if_pos rfl] at hlen hgo ha
        try simp only [List.length_cons,List.length_append,List.length_nil] at hlen
        simp -implicitDefEqProofs (disch:=first | omega | (simp only [List.length_append,List.length_cons,List.length_nil]; omega)) only [ZS,seval,ZX,cx,iz,h0,h1,h5,h6,hil,hfl,hk3,ov,aS,aE,iW,iY,hR2,hR4,c7,c1,c2,c3,c5,c6];subst hL;exact hgo _ _ hil hd' om ha aQ (aX h0) (aX h1) (aX @List.append_assoc.{0}) aQ
       | false=>
        rw [c6,if_neg Bool.false_ne_true] at hlen hgo ha;cases c4:xk == 4 with
        | true=>
         rw [c4,if_pos rfl] at hlen hgo ha;obtain rfl:xk=4:=beq_iff_eq.1 c4;rw [Io] at hlen' hgo' ha';have hS:aK 150 ar.cells (some (xs.drop (i + 1)))=.lit 150 (xs.length - (i + 1)) (((xs.flatMap ar.cells).drop ((i + 1) * 5)).take ((xs.length - (i + 1)) * 5)):=by
          rw [xr ar.len,List.take_of_length_le (by rw [aB ar.len,List.length_drop]; exact Nat.le_refl _)];show PV.lit 150 (xs.drop (i + 1)).length _=_;rw [List.length_drop]
         have hQ:=fun s=>Oa (ext:=ext) (k:=4) (o:=xo) (t:=t) (c:=xc) (ps:=ps) (v:=v) hpl (by rw [pP]; omega) (y:=some (xs.drop (i + 1))) (ns:=suf) hd' (hR _ (by unfold dV; split<;>(try split)<;>omega)) s;simp only [hS,ar.cells] at hQ;have u4:ei Γ 265=true:=rfl;have n1:i + 1≤xs.length:=om;simp -implicitDefEqProofs (disch:=first | omega | (unfold cO bZ; simp<;>omega) | (simp only [List.length_append,List.length_cons,List.length_nil]; omega)) only [ZS,seval,ZT,ZX,cx,iz,h0,h1,h5,h6,hil,hfl,hk3,ov,aS,aE,iW,iY,hR2,hR4,c7,c1,c2,c3,c5,c6,hQ,u4,n1,Jd];subst hL;exact hgo' _ _ hil hd' om ha' aQ (aX h0) (aX h1) aQ aQ
        | false=>
         rw [c4,if_neg Bool.false_ne_true] at hlen hgo ha
         try simp only [List.length_nil] at hlen
         simp -implicitDefEqProofs (disch:=first | omega | (simp only [List.length_append,List.length_cons,List.length_nil]; omega)) only [ZS,seval,ZX,cx,iz,h0,h1,h5,h6,hil,hfl,hk3,ov,aS,aE,iW,iY,hR2,hR4,c7,c1,c2,c3,c5,c6,c4];subst hL;exact hgo _ _ hil hd' om ha aQ (aX h0) (aX h1) (aX h5) aQ
theorem wZ:∀l:List aJ,l.length≤gK l
 | []=>Nat.zero_le _
 | .mk k t o c ps :: l=>by
  have:=wZ l;rw [gK,pP,List.length_cons];omega
theorem CY:∀(n:Nat) (l:List aJ) (v:PV) (pl:Nat),gK l=n→n < 1000000000000→pl≤6→tA l v→∀s,Pc ext 253 [v,iN pl] (.sc (.string ⟨⟨dF pl l⟩⟩)) s:=by
 intro n
 induction n using Nat.strongRecOn with
 | _ n ih=>
 intro l v pl hn h12 hpl h s;have hrec:∀(ps:List aJ) (v:PV) (q:Nat),gK ps < n→q≤6→tA ps v→∀s,Pc ext 253 [v,iN q] (.sc (.string ⟨⟨dF q ps⟩⟩)) s:=fun ps v q h1 h2 h3 s=>ih _ h1 ps v q rfl om h2 h3 s;obtain⟨y,rfl,hy⟩:=h;have hlen:=jU pl l;have hll:=wZ l;have hyl:=hy.length;refine mq MJ 4 ?_;cases y with
 | none=>
  have hl:l=[]:=List.eq_nil_of_length_eq_zero hyl.symm;subst hl;have z0:decide ((0:Int) < 0)=false:=rfl;unfold MJ;refine pJ @cd ?_;refine ad fun L hL=>?_;exact nI @iz.eq_1 @zh.eq_1 @KU z0
 | some xs=>
  unfold MJ;refine pJ @cd ?_;exact H5 hrec h12 hpl (xs:=xs) (by rw [show xs.length=l.length from hyl]; omega) s.n (W:=dF pl l) om l 0 [] _ _ (Nat.zero_le _) hy om rfl ⟨Nat.le_refl _,Nat.le_refl _⟩ aQ aQ aQ aQ
def EC (same:List aJ→Bool):R→Bool
 | .ok (ps,_)=>same ps
 | .error _=>false
def Bv:=And.intro (@EC.eq_1)<|@EC.eq_2
theorem yp {l:List aJ}{v:PV} (hsz:gK l < 1000000000000) (h:tA l v) {same:List aJ→Bool}{r:R} (hs:∀ps j,r=.ok (ps,j)→∀s,Pc ext 149 [cS ps,v] (.sc (.bool (same ps))) s) (hp:fN (dF 0 l) 0 r) (s:PS) :
  Pc ext 240 [v] (.sc (.int .i64 (if EC same r then 0 else 1))) s:=by
 have h1:∀s,Pc ext 253 [v,.sc (.int .i64 0)] (.sc (.string ⟨⟨dF 0 l⟩⟩)) s:=CY _ l v 0 rfl hsz om h;have h2:=fun s=>N2 (ext:=ext) hp s;refine mq P8 2 ?_;unfold P8;cases r with
 | ok x=>
  obtain⟨ps,j⟩:=x;have hs':=hs ps j rfl;have z0:((0:Int) != 0)=false:=rfl;cases c:same ps with
  | true=>exact jK h1 h2 @uN hs' c @Bv
  | false=>exact jK h1 h2 @uN hs' c @Bv
 | error x=>
  obtain⟨a,e⟩:=x;have he:(e == 0)=false:=by
   cases hp with
   | long=>rfl
   | wx _ k=>exact beq_eq_false_iff_ne.2 (k.err _ rfl)
  exact tg h1 h2 @uN he @Bv
theorem Iy {l:List aJ}{v:PV} (hsz:gK l < 1000000000000) (h:tA l v) {same:List aJ→Bool}{r:R} (hs:∀ps j,r=.ok (ps,j)→∀s,Pc ext 149 [cS ps,v] (.sc (.bool (same ps))) s) (hp:fN (dF 0 l) 0 r) (s:PS) :
  Pc ext 250 [v] (.tup [.sc (.string ⟨⟨if EC same r then dF 0 l else []⟩⟩),.sc (.int .i64 (if EC same r then 0 else 1))]) s:=by
 have h1:∀s,Pc ext 253 [v,.sc (.int .i64 0)] (.sc (.string ⟨⟨dF 0 l⟩⟩)) s:=CY _ l v 0 rfl hsz om h;have h2:=fun s=>yp (ext:=ext) hsz h hs hp s;refine dj (fn:=N7) (r:=2) (r2:=3) (by rfl) (by simp [N7]) (by rfl) (by rfl) ?_;unfold N7;have z0:((0:Int) != 0)=false:=rfl;have z1:((1:Int) != 0)=true:=rfl;cases c:EC same r with
 | true=>
  rw [c] at h2;simp only [if_true] at h2;exact l9 h1 h2
 | false=>
  rw [c] at h2;simp only [Bool.false_eq_true,if_false] at h2;exact l9 h2 z1
theorem uJ {l:List aJ}{v:PV} (hsz:gK l < 1000000000000) (h:tA l v) {same:List aJ→Bool}{r:R} (hs:∀ps j,r=.ok (ps,j)→∀s,Pc ext 149 [cS ps,v] (.sc (.bool (same ps))) s) (hp:fN (dF 5 l) 5 r) (s:PS) :
  Pc ext 251 [v] (.tup [.sc (.string ⟨⟨dF 5 l⟩⟩),.sc (.bool (EC same r))]) s:=by
 have h1:∀s,Pc ext 253 [v,.sc (.int .i64 5)] (.sc (.string ⟨⟨dF 5 l⟩⟩)) s:=CY _ l v 5 rfl hsz om h;have h2:=fun s=>Pi (ext:=ext) hp s;refine dj (fn:=NI) (r:=2) (r2:=3) (by rfl) (by simp [NI]) (by rfl) (by rfl) ?_;unfold NI;have z0:((0:Int) == 0)=true:=rfl;cases r with
 | ok x=>
  obtain⟨ps,j⟩:=x;have hs':=hs ps j rfl;exact tg h1 h2 @uN hs' @Bv
 | error x=>
  obtain⟨a,e⟩:=x;have he:(e == 0)=false:=by
   cases hp with
   | long=>rfl
   | wx _ k=>exact beq_eq_false_iff_ne.2 (k.err _ rfl)
  exact tg h1 h2 @uN he @Bv
end Go.Proofs.YtgkggocjoolciaaGreatDoor
namespace Go.Mir
inductive Sm (N:Nat):aJ→Prop where
 | mk {k t o c ps} (h:ps.length≤N) (hs:∀q∈ps,Sm N q):Sm N (.mk k t o c ps)
theorem Sm.nil {N:Nat}{k:Int}{t:List UInt8}{o:Int}{c:Bool} : Sm N (.mk k t o c []):=.mk (Nat.zero_le _) fun q hq=>by cases hq
theorem Sm.one {N:Nat}{k:Int}{t:List UInt8}{o:Int}{c:Bool} : ∀q∈[aJ.mk k t o c []],Sm N q:=fun q hq=>by
 cases hq with
 | head=>exact Sm.nil
 | tail _ h=>cases h
theorem Sm.sub {N:Nat}{k:Int}{t:List UInt8}{o:Int}{c:Bool}{ps:List aJ} (h:ps.length≤N) (hs:∀q∈ps,Sm N q):∀q∈[aJ.mk k t o c ps],Sm N q:=fun q hq=>by
 cases hq with
 | head=>exact .mk h hs
 | tail _ h=>cases h
def dS.pre (N:Nat):dS→Prop
 | .loop a _ _ _ _ acc=>acc.length≤a∧∀q∈acc,Sm N q
 | _=>True
def WS (N:Nat):dS→R→Prop
 | .loop _ _ _ _ _ _,.ok x=>x.1.length≤x.2∧∀q∈x.1,Sm N q
 | _,.ok x=>∀q∈x.1,Sm N q
 | _,.error _=>True
theorem JE {N:Nat}{l:List aJ}{t:List UInt8} (h:∀q∈l,Sm N q):(lK l t).length≤l.length + 1∧∀q∈lK l t,Sm N q:=by
 unfold lK;split
 ·split
  ·refine⟨by simp only [List.length_append,List.length_dropLast,List.length_cons,List.length_nil]; omega,fun q hq=>?_⟩;rcases List.mem_append.1 hq with hq | hq
   ·exact h q (List.dropLast_subset _ hq)
   ·exact Sm.one q hq
  ·refine⟨by simp only [List.length_append,List.length_cons,List.length_nil]; omega,fun q hq=>?_⟩;rcases List.mem_append.1 hq with hq | hq
   ·exact h q hq
   ·exact Sm.one q hq
 ·exact⟨by simp only [List.length_cons,List.length_nil]; omega,Sm.one⟩
theorem MV {N:Nat}{l:List aJ}{p:aJ} (h:∀q∈l,Sm N q) (hp:Sm N p):(mF l p).length≤l.length + 1∧∀q∈mF l p,Sm N q:=by
 unfold mF;split
 ·exact JE h
 ·refine⟨by simp only [List.length_append,List.length_cons,List.length_nil]; omega,fun q hq=>?_⟩;rcases List.mem_append.1 hq with hq | hq
  ·exact h q hq
  ·cases hq with
   | head=>exact hp
   | tail _ h=>cases h
theorem LN {N:Nat}{l ps:List aJ} (h1:ps.length≤1) (h:∀q∈l,Sm N q) (hp:∀q∈ps,Sm N q):(ps.foldl mF l).length≤l.length + 1∧∀q∈ps.foldl mF l,Sm N q:=by
 match ps,h1 with
 | [],_=>exact⟨Nat.le_succ _,h⟩
 | [p],_=>exact MV h (hp p (List.mem_cons_self ..))
theorem Wx.small {l:List UInt8}{t:dS}{r:R} (h:Wx l t r):t.ok l→t.pre l.length→WS l.length t r:=by
 induction h with
 | l_end h=>intro ok pr; exact pr
 | l_q hl h h2=>intro ok pr; exact pr
 | l_a h h2 h3=>intro ok pr; exact pr
 | @l_tilde a p lv fr o r hl h h2 k ih=>
  intro ok pr;have:=ih (by simp only [dS.ok]; omega) ⟨Nat.succ_le_succ (Nat.zero_le _),Sm.one⟩;cases r with
  | error x=>trivial
  | ok x=>exact this
 | @l_on a p lv fr o acc ps j r hl h h2 k k2 ih ih2=>
  intro ok pr;have hb:=k.bound hl;have hf:=LN hb.2.2.1 pr.2 (ih hl trivial);have:=ih2 hb.2.1 ⟨by have:=hb.1; have:=pr.1; have:=hf.1; simp only at *; omega,hf.2⟩;cases r with
  | error x=>trivial
  | ok x=>exact this
 | @x_brc a p lv r h h2 k ih=>
  intro ok pr;have hl:=bS h;have:=ih (by simp only [dS.ok]; omega) trivial;cases r with
  | error x=>trivial
  | ok x=>exact this
 | x_ari h h2 hl h3 h4 k ih=>
  intro ok pr;have hb:=k.bound (by simp only [dS.ok]; omega);have:=ih (by simp only [dS.ok]; omega) ⟨Nat.zero_le _,fun q hq=>by cases hq⟩;exact Sm.sub (Nat.le_trans this.1 hb.2.1) this.2
 | t_dq hl h h2 h3 k ih=>
  intro ok pr;have hb:=k.bound (by simp only [dS.ok]; omega);have:=ih (by simp only [dS.ok]; omega) ⟨Nat.zero_le _,fun q hq=>by cases hq⟩;exact Sm.sub (Nat.le_trans this.1 hb.2.1) this.2
 | s_nl h h2 h3=>intro ok pr q hq; cases hq
 | @r_sharp a p lv j r hl h k h2 h3 k2 ih=>intro ok pr; have:=ih (by simp only [dS.ok] at *; omega) trivial; cases r with | error x=>trivial | ok x=>exact this
 | @r_two a p lv r h k2 ih=>intro ok pr; have:=ih (by simp only [dS.ok] at *; omega) trivial; cases r with | error x=>trivial | ok x=>exact this
 | @w_ok a p lv j ps i k h h2 h3 h4 h5 h6 h7 k2 ih=>
  intro ok pr;have ho:=mB l j h2 h5;have hb:=k2.bound ho.1;have:=ih ho.1 ⟨Nat.zero_le _,fun q hq=>by cases hq⟩;exact Sm.sub (Nat.le_trans this.1 hb.2.1) this.2
 | _=>intro ok pr; first | trivial | exact Sm.one
end Go.Mir
namespace Go.Proofs.YtgkggocjoolciaaGreatDoor
open Go Go.EvL Go.PE
variable {ext:aq}
structure aw where
 pos:Int
 parts:PV
def aw.cells (x:aw):List PV:=[.sc (.int .i64 x.pos),x.parts]
theorem aw.len (x:aw):x.cells.length=2:=(rfl)
def u7:aW:=(.seq (.draw [(⟨some 17,.mv (.tmp 0),none⟩,[0],[]),
       (⟨some 18,.mv (.tmp 5),none⟩,[5],[0]),
       (⟨some 19,.iaddr 2 (.tmp 17) (.tmp 18),none⟩,[17,18],[]),
       (⟨some 20,.faddr 1 (.tmp 19),none⟩,[19],[]),
       (⟨some 21,.load 95 false 1 (.tmp 20),none⟩,[20],[]),
       (⟨some 22,.mv (.tmp 1),none⟩,[1],[4,3,2,1,0]),
       (⟨some 23,.mv (.tmp 5),none⟩,[5],[5,4,3,2,1,0]),
       (⟨some 24,.iaddr 2 (.tmp 22) (.tmp 23),none⟩,[22,23],[4,3,2,1,0]),
       (⟨some 25,.faddr 1 (.tmp 24),none⟩,[24],[4,3,2,1,0]),
       (⟨some 26,.load 95 false 1 (.tmp 25),none⟩,[25],[4,3,2,1,0]),
       (⟨some 27,.call (.func 149) [(.tmp 21),(.tmp 26)],none⟩,[21,26],[]),
       (⟨some 28,.un .not (.tmp 27),none⟩,[27],[])])
     (.cond (.tmp 28)
      (.seq (.reg [⟨some 4,.mv (.const (.bool false)),none⟩])
      .ret)
      (.skip)))
theorem VY:Γ 101=some (mN 29 u7):=(rfl)
theorem X8:Γ 84=some (EI 97 2 #[(.int .i64 0),(.slice none 0 0)] 3):=(rfl)
theorem f47 (x y:aw) (r:Bool) (h:∀s,aD Tryz.prog Γ ext 141 [x.parts,y.parts] s=some (.sc (.bool r),s)) (s:PS):aD Tryz.prog Γ ext 83 [.agg x.cells,.agg y.cells] s=some (.sc (.bool r),s):=by
 rw [dT (fn:=Uw) (by rfl) _ _ (by simp [Uw])];simp -implicitDefEqProofs only [ZS,seval,ZX,Uw,br,az,List.map_cons,List.map_nil,List.append_nil,aw.cells,h]
theorem Ta (x y:aw) (r:Bool) (h:∀s,Pc ext 149 [x.parts,y.parts] (.sc (.bool r)) s):kP Tryz.prog Γ ext 97 aw.cells u7 x y r:=by
 intro l m i hl hm f s hin;obtain⟨l,rfl⟩ : ∃k,l=some k:=by cases l with | none=>simp at hl | some k=>exact⟨k,rfl⟩
 obtain⟨m,rfl⟩ : ∃k,m=some k:=by cases m with | none=>simp at hm | some k=>exact⟨k,rfl⟩
 obtain⟨ha,hb,hii⟩:=hin;simp only [aK,Option.getD_some] at ha hb hl hm;have hi:i < l.length:=(List.getElem?_eq_some_iff.1 hl).1;have hj:i < m.length:=(List.getElem?_eq_some_iff.1 hm).1;have h1:=aB aw.len l;have h2:=aB aw.len m;obtain⟨r1,h3⟩:=bU aw.len hl;obtain⟨r2,h4⟩:=bU aw.len hm;cases r with
 | false=>
  simp -implicitDefEqProofs only [ZS,seval,ZT,ZX,u7,List.map_cons,List.map_nil,List.append_nil,List.mem_cons,List.not_mem_nil,implies_true,forall_const,ha,hb,hii,hi,hj,h1,h2,h3,h4,au,aw.cells,h,zL];exact⟨_,_,rfl,by simp -implicitDefEqProofs only [aU,↓reduceIte],fun n0 w1 w2=>⟨w1,w2⟩⟩
 | true=>
  simp -implicitDefEqProofs only [ZS,seval,ZT,ZX,u7,List.map_cons,List.map_nil,List.append_nil,List.mem_cons,List.not_mem_nil,implies_true,forall_const,ha,hb,hii,hi,hj,h1,h2,h3,h4,au,aw.cells,h,zL];exact⟨_,_,rfl,⟨by simp -implicitDefEqProofs only [aU,↓reduceIte,reduceCtorEq,ha],by simp -implicitDefEqProofs only [aU,Nat.reduceEqDiff,↓reduceIte,hb],by simp -implicitDefEqProofs only [aU,Nat.reduceEqDiff,↓reduceIte,hii]⟩,fun n0 w1 w2=>⟨w1,w2⟩⟩
def mz (d:Nat) (p:PV):Prop:=∃l:Option (List aw),p=aK 97 aw.cells l∧(l.getD []).length < 4611686018427387904∧∀x∈l.getD [],aL d x.parts
theorem vA {d:Nat}{a b:PV} (ha:mz d a) (hb:mz d b):∃r,(∀s,Pc ext 84 [a,b,.fn 83 [] []] (.sc (.bool r)) s)∧∀s,Pc ext 101 [a,b] (.sc (.bool r)) s:=by
 obtain⟨l,rfl,hl,hl'⟩:=ha;obtain⟨m,rfl,hm,hm'⟩:=hb;refine nM aw.len (by rfl) X8 VY om (fun x hx=>?_) hl (fun x hx y hy=>?_)
 ·have:aL d x.parts:=hx.elim (hl' x) (hm' x);simp only [aw.cells,List.all_cons,List.all_nil,this.one,Bool.and_true]; rfl
 ·obtain⟨r,h1,h2⟩:=mo (ext:=ext) d x.parts y.parts (hl' x hx) (hm' y hy);exact⟨r,fun s=>f47 x y r h1 s,Ta x y r h2⟩
structure ax where
 pos:Int
 name:ByteArray
 vpos:Int
 parts:PV
def ax.cells (x:ax):List PV:=[.sc (.int .i64 x.pos),.sc (.string x.name),.sc (.int .i64 x.vpos),x.parts]
theorem ax.len (x:ax):x.cells.length=4:=(rfl)
def rA:aW:=(.seq (.draw [(⟨some 17,.mv (.tmp 0),none⟩,[0],[]),
       (⟨some 18,.mv (.tmp 5),none⟩,[5],[0]),
       (⟨some 19,.iaddr 4 (.tmp 17) (.tmp 18),none⟩,[17,18],[]),
       (⟨some 20,.faddr 1 (.tmp 19),none⟩,[19],[]),
       (⟨some 21,.load 9 false 1 (.tmp 20),none⟩,[20],[]),
       (⟨some 22,.mv (.tmp 1),none⟩,[1],[4,3,2,1,0]),
       (⟨some 23,.mv (.tmp 5),none⟩,[5],[5,4,3,2,1,0]),
       (⟨some 24,.iaddr 4 (.tmp 22) (.tmp 23),none⟩,[22,23],[4,3,2,1,0]),
       (⟨some 25,.faddr 1 (.tmp 24),none⟩,[24],[4,3,2,1,0]),
       (⟨some 26,.load 9 false 1 (.tmp 25),none⟩,[25],[4,3,2,1,0]),
       (⟨some 27,.bin .neq 9 (.tmp 21) (.tmp 26),none⟩,[21,26],[]),
       (⟨some 28,.mv (.tmp 27),none⟩,[27],[]),
       (⟨some 29,.mv (.tmp 0),(some (28,false))⟩,[0,28],[]),
       (⟨some 30,.mv (.tmp 5),(some (28,false))⟩,[5,28],[12]),
       (⟨some 31,.iaddr 4 (.tmp 29) (.tmp 30),(some (28,false))⟩,[29,30,28],[]),
       (⟨some 32,.faddr 2 (.tmp 31),(some (28,false))⟩,[31,28],[]),
       (⟨some 33,.faddr 1 (.tmp 32),(some (28,false))⟩,[32,28],[]),
       (⟨some 34,.load 95 false 1 (.tmp 33),(some (28,false))⟩,[33,28],[]),
       (⟨some 35,.mv (.tmp 1),(some (28,false))⟩,[1,28],[17,16,15,14,13,12]),
       (⟨some 36,.mv (.tmp 5),(some (28,false))⟩,[5,28],[18,17,16,15,14,13,12]),
       (⟨some 37,.iaddr 4 (.tmp 35) (.tmp 36),(some (28,false))⟩,[35,36,28],[17,16,15,14,13,12]),
       (⟨some 38,.faddr 2 (.tmp 37),(some (28,false))⟩,[37,28],[17,16,15,14,13,12]),
       (⟨some 39,.faddr 1 (.tmp 38),(some (28,false))⟩,[38,28],[17,16,15,14,13,12]),
       (⟨some 40,.load 95 false 1 (.tmp 39),(some (28,false))⟩,[39,28],[17,16,15,14,13,12]),
       (⟨some 41,.call (.func 149) [(.tmp 34),(.tmp 40)],(some (28,false))⟩,[34,40,28],[]),
       (⟨some 42,.un .not (.tmp 41),(some (28,false))⟩,[41,28],[]),
       (⟨some 43,.pick (.tmp 28) (.const (.bool true)) (.tmp 42),none⟩,[28,42],[])])
     (.cond (.tmp 43)
      (.seq (.reg [⟨some 4,.mv (.const (.bool false)),none⟩])
      .ret)
      (.skip)))
theorem W8:Γ 100=some (mN 44 rA):=(rfl)
theorem Wu:Γ 81=some (EI 99 4 #[(.int .i64 0),(.string ⟨#[]⟩),(.int .i64 0),(.slice none 0 0)] 3):=(rfl)
theorem f46 (x y:ax) (r:Bool) (h:∀s,aD Tryz.prog Γ ext 141 [x.parts,y.parts] s=some (.sc (.bool r),s)) (s:PS):aD Tryz.prog Γ ext 82 [.agg x.cells,.agg y.cells] s=some (.sc (.bool (x.name.toList == y.name.toList && r)),s):=by
 have h47:=f47 (ext:=ext) ⟨x.vpos,x.parts⟩ ⟨y.vpos,y.parts⟩ r h;simp only [aw.cells] at h47;rw [dT (fn:=Sz) (by rfl) _ _ (by simp [Sz])];cases e1:x.name.toList == y.name.toList with
 | false=>simp -implicitDefEqProofs only [ZS,seval,ZX,Sz,br,bw,az,ax.cells,e1]
 | true=>simp -implicitDefEqProofs only [ZS,seval,ZX,Sz,br,bw,az,List.map_cons,List.map_nil,List.append_nil,ax.cells,e1,h47]
theorem SQ (x y:ax) (r:Bool) (h:∀s,Pc ext 149 [x.parts,y.parts] (.sc (.bool r)) s):kP Tryz.prog Γ ext 99 ax.cells rA x y (x.name.toList == y.name.toList && r):=by
 intro l m i hl hm f s hin;obtain⟨l,rfl⟩ : ∃k,l=some k:=by cases l with | none=>simp at hl | some k=>exact⟨k,rfl⟩
 obtain⟨m,rfl⟩ : ∃k,m=some k:=by cases m with | none=>simp at hm | some k=>exact⟨k,rfl⟩
 obtain⟨ha,hb,hii⟩:=hin;simp only [aK,Option.getD_some] at ha hb hl hm;have hi:i < l.length:=(List.getElem?_eq_some_iff.1 hl).1;have hj:i < m.length:=(List.getElem?_eq_some_iff.1 hm).1;have h1:=aB ax.len l;have h2:=aB ax.len m;obtain⟨r1,h3⟩:=bU ax.len hl;obtain⟨r2,h4⟩:=bU ax.len hm;cases e1:x.name.toList == y.name.toList with
 | false=>
  simp -implicitDefEqProofs only [ZS,seval,ZT,ZX,rA,bw,List.mem_cons,List.not_mem_nil,implies_true,forall_const,ha,hb,hii,hi,hj,h1,h2,h3,h4,au,ax.cells,e1,zL];exact⟨_,_,rfl,by simp -implicitDefEqProofs only [aU,↓reduceIte],fun n0 w1 w2=>⟨w1,w2⟩⟩
 | true=>
  cases r with
  | false=>
   simp -implicitDefEqProofs only [ZS,seval,ZT,ZX,rA,bw,List.map_cons,List.map_nil,List.append_nil,List.mem_cons,List.not_mem_nil,implies_true,forall_const,ha,hb,hii,hi,hj,h1,h2,h3,h4,au,ax.cells,e1,h,zL];exact⟨_,_,rfl,by simp -implicitDefEqProofs only [aU,↓reduceIte],fun n0 w1 w2=>⟨w1,w2⟩⟩
  | true=>
   simp -implicitDefEqProofs only [ZS,seval,ZT,ZX,rA,bw,List.map_cons,List.map_nil,List.append_nil,List.mem_cons,List.not_mem_nil,implies_true,forall_const,ha,hb,hii,hi,hj,h1,h2,h3,h4,au,ax.cells,e1,h,zL];exact⟨_,_,rfl,⟨by simp -implicitDefEqProofs only [aU,↓reduceIte,reduceCtorEq,ha],by simp -implicitDefEqProofs only [aU,Nat.reduceEqDiff,↓reduceIte,hb],by simp -implicitDefEqProofs only [aU,Nat.reduceEqDiff,↓reduceIte,hii]⟩,fun n0 w1 w2=>⟨w1,w2⟩⟩
def lV (d:Nat) (p:PV):Prop:=∃l:Option (List ax),p=aK 99 ax.cells l∧(l.getD []).length < 4611686018427387904∧∀x∈l.getD [],aL d x.parts
theorem zF {d:Nat}{a b:PV} (ha:lV d a) (hb:lV d b):∃r,(∀s,Pc ext 81 [a,b,.fn 82 [] []] (.sc (.bool r)) s)∧∀s,Pc ext 100 [a,b] (.sc (.bool r)) s:=by
 obtain⟨l,rfl,hl,hl'⟩:=ha;obtain⟨m,rfl,hm,hm'⟩:=hb;refine nM ax.len (by rfl) Wu W8 om (fun x hx=>?_) hl (fun x hx y hy=>?_)
 ·have:aL d x.parts:=hx.elim (hl' x) (hm' x);simp only [ax.cells,List.all_cons,List.all_nil,this.one,Bool.and_true]; rfl
 ·obtain⟨r,h1,h2⟩:=mo (ext:=ext) d x.parts y.parts (hl' x hx) (hm' y hy);exact⟨_,fun s=>f46 x y r h1 s,SQ x y r h2⟩
structure aA where
 pos:Int
 fd:Int
 op:Int
 tpos:Int
 parts:PV
def aA.cells (x:aA):List PV:=[.sc (.int .i64 x.pos),.sc (.int .i64 x.fd),.sc (.int .i64 x.op),.sc (.int .i64 x.tpos),x.parts]
theorem aA.len (x:aA):x.cells.length=5:=(rfl)
def aA.eqB (x y:aA) (r:Bool):Bool:=x.fd == y.fd && (x.op == y.op && r)
def pD:aW:=(.seq (.draw [(⟨some 17,.mv (.tmp 0),none⟩,[0],[]),
       (⟨some 18,.mv (.tmp 5),none⟩,[5],[0]),
       (⟨some 19,.iaddr 5 (.tmp 17) (.tmp 18),none⟩,[17,18],[]),
       (⟨some 20,.faddr 1 (.tmp 19),none⟩,[19],[]),
       (⟨some 21,.load 3 false 1 (.tmp 20),none⟩,[20],[]),
       (⟨some 22,.mv (.tmp 1),none⟩,[1],[4,3,2,1,0]),
       (⟨some 23,.mv (.tmp 5),none⟩,[5],[5,4,3,2,1,0]),
       (⟨some 24,.iaddr 5 (.tmp 22) (.tmp 23),none⟩,[22,23],[4,3,2,1,0]),
       (⟨some 25,.faddr 1 (.tmp 24),none⟩,[24],[4,3,2,1,0]),
       (⟨some 26,.load 3 false 1 (.tmp 25),none⟩,[25],[4,3,2,1,0]),
       (⟨some 27,.bin .neq 3 (.tmp 21) (.tmp 26),none⟩,[21,26],[]),
       (⟨some 28,.mv (.tmp 27),none⟩,[27],[]),
       (⟨some 29,.mv (.tmp 0),(some (28,false))⟩,[0,28],[]),
       (⟨some 30,.mv (.tmp 5),(some (28,false))⟩,[5,28],[12]),
       (⟨some 31,.iaddr 5 (.tmp 29) (.tmp 30),(some (28,false))⟩,[29,30,28],[]),
       (⟨some 32,.faddr 2 (.tmp 31),(some (28,false))⟩,[31,28],[]),
       (⟨some 33,.load 3 false 1 (.tmp 32),(some (28,false))⟩,[32,28],[]),
       (⟨some 34,.mv (.tmp 1),(some (28,false))⟩,[1,28],[16,15,14,13,12]),
       (⟨some 35,.mv (.tmp 5),(some (28,false))⟩,[5,28],[17,16,15,14,13,12]),
       (⟨some 36,.iaddr 5 (.tmp 34) (.tmp 35),(some (28,false))⟩,[34,35,28],[16,15,14,13,12]),
       (⟨some 37,.faddr 2 (.tmp 36),(some (28,false))⟩,[36,28],[16,15,14,13,12]),
       (⟨some 38,.load 3 false 1 (.tmp 37),(some (28,false))⟩,[37,28],[16,15,14,13,12]),
       (⟨some 39,.bin .neq 3 (.tmp 33) (.tmp 38),(some (28,false))⟩,[33,38,28],[]),
       (⟨some 40,.pick (.tmp 28) (.const (.bool true)) (.tmp 39),none⟩,[28,39],[]),
       (⟨some 41,.mv (.tmp 40),none⟩,[40],[]),
       (⟨some 42,.mv (.tmp 0),(some (41,false))⟩,[0,41],[]),
       (⟨some 43,.mv (.tmp 5),(some (41,false))⟩,[5,41],[25]),
       (⟨some 44,.iaddr 5 (.tmp 42) (.tmp 43),(some (41,false))⟩,[42,43,41],[]),
       (⟨some 45,.faddr 3 (.tmp 44),(some (41,false))⟩,[44,41],[]),
       (⟨some 46,.faddr 1 (.tmp 45),(some (41,false))⟩,[45,41],[]),
       (⟨some 47,.load 95 false 1 (.tmp 46),(some (41,false))⟩,[46,41],[]),
       (⟨some 48,.mv (.tmp 1),(some (41,false))⟩,[1,41],[30,29,28,27,26,25]),
       (⟨some 49,.mv (.tmp 5),(some (41,false))⟩,[5,41],[31,30,29,28,27,26,25]),
       (⟨some 50,.iaddr 5 (.tmp 48) (.tmp 49),(some (41,false))⟩,[48,49,41],[30,29,28,27,26,25]),
       (⟨some 51,.faddr 3 (.tmp 50),(some (41,false))⟩,[50,41],[30,29,28,27,26,25]),
       (⟨some 52,.faddr 1 (.tmp 51),(some (41,false))⟩,[51,41],[30,29,28,27,26,25]),
       (⟨some 53,.load 95 false 1 (.tmp 52),(some (41,false))⟩,[52,41],[30,29,28,27,26,25]),
       (⟨some 54,.call (.func 149) [(.tmp 47),(.tmp 53)],(some (41,false))⟩,[47,53,41],[]),
       (⟨some 55,.un .not (.tmp 54),(some (41,false))⟩,[54,41],[]),
       (⟨some 56,.pick (.tmp 41) (.const (.bool true)) (.tmp 55),none⟩,[41,55],[])])
     (.cond (.tmp 56)
      (.seq (.reg [⟨some 4,.mv (.const (.bool false)),none⟩])
      .ret)
      (.skip)))
theorem Wl:Γ 102=some (mN 57 pD):=(rfl)
theorem WA:Γ 85=some (EI 124 5 #[(.int .i64 0),(.int .i64 0),(.int .i64 0),(.int .i64 0),(.slice none 0 0)] 3):=(rfl)
theorem f50 (x y:aA) (r:Bool) (h:∀s,aD Tryz.prog Γ ext 141 [x.parts,y.parts] s=some (.sc (.bool r),s)) (s:PS):aD Tryz.prog Γ ext 86 [.agg x.cells,.agg y.cells] s=some (.sc (.bool (x.eqB y r)),s):=by
 have h47:=f47 (ext:=ext) ⟨x.tpos,x.parts⟩ ⟨y.tpos,y.parts⟩ r h;simp only [aw.cells] at h47;rw [dT (fn:=S7) (by rfl) _ _ (by simp [S7])];cases e1:x.fd == y.fd with
 | false=>simp -implicitDefEqProofs only [ZS,seval,ZX,S7,br,bw,az,aA.cells,aA.eqB,e1]
 | true=>
  cases e2:x.op == y.op with
  | false=>simp -implicitDefEqProofs only [ZS,seval,ZX,S7,br,bw,az,aA.cells,aA.eqB,e1,e2]
  | true=>simp -implicitDefEqProofs only [ZS,seval,ZX,S7,br,bw,az,List.map_cons,List.map_nil,List.append_nil,aA.cells,aA.eqB,e1,e2,h47]
theorem So (x y:aA) (r:Bool) (h:∀s,Pc ext 149 [x.parts,y.parts] (.sc (.bool r)) s):kP Tryz.prog Γ ext 124 aA.cells pD x y (x.eqB y r):=by
 intro l m i hl hm f s hin;obtain⟨l,rfl⟩ : ∃k,l=some k:=by cases l with | none=>simp at hl | some k=>exact⟨k,rfl⟩
 obtain⟨m,rfl⟩ : ∃k,m=some k:=by cases m with | none=>simp at hm | some k=>exact⟨k,rfl⟩
 obtain⟨ha,hb,hii⟩:=hin;simp only [aK,Option.getD_some] at ha hb hl hm;have hi:i < l.length:=(List.getElem?_eq_some_iff.1 hl).1;have hj:i < m.length:=(List.getElem?_eq_some_iff.1 hm).1;have h1:=aB aA.len l;have h2:=aB aA.len m;obtain⟨r1,h3⟩:=bU aA.len hl;obtain⟨r2,h4⟩:=bU aA.len hm;have c1:(bne x.fd y.fd)=!(x.fd == y.fd):=(rfl)
 have c2:(bne x.op y.op)=!(x.op == y.op):=(rfl)
 unfold aA.eqB;cases e1:x.fd == y.fd with
 | false=>
  simp -implicitDefEqProofs only [ZS,seval,ZT,ZX,pD,bw,List.mem_cons,List.not_mem_nil,implies_true,forall_const,ha,hb,hii,hi,hj,h1,h2,h3,h4,au,aA.cells,zL,c1,e1];exact⟨_,_,rfl,by simp -implicitDefEqProofs only [aU,↓reduceIte],fun n0 w1 w2=>⟨w1,w2⟩⟩
 | true=>
  cases e2:x.op == y.op with
  | false=>
   simp -implicitDefEqProofs only [ZS,seval,ZT,ZX,pD,bw,List.mem_cons,List.not_mem_nil,implies_true,forall_const,ha,hb,hii,hi,hj,h1,h2,h3,h4,au,aA.cells,zL,c1,c2,e1,e2];exact⟨_,_,rfl,by simp -implicitDefEqProofs only [aU,↓reduceIte],fun n0 w1 w2=>⟨w1,w2⟩⟩
  | true=>
   cases r with
   | false=>
    simp -implicitDefEqProofs only [ZS,seval,ZT,ZX,pD,bw,List.map_cons,List.map_nil,List.append_nil,List.mem_cons,List.not_mem_nil,implies_true,forall_const,ha,hb,hii,hi,hj,h1,h2,h3,h4,au,aA.cells,zL,c1,c2,e1,e2,h];exact⟨_,_,rfl,by simp -implicitDefEqProofs only [aU,↓reduceIte],fun n0 w1 w2=>⟨w1,w2⟩⟩
   | true=>
    simp -implicitDefEqProofs only [ZS,seval,ZT,ZX,pD,bw,List.map_cons,List.map_nil,List.append_nil,List.mem_cons,List.not_mem_nil,implies_true,forall_const,ha,hb,hii,hi,hj,h1,h2,h3,h4,au,aA.cells,zL,c1,c2,e1,e2,h];exact⟨_,_,rfl,⟨by simp -implicitDefEqProofs only [aU,↓reduceIte,reduceCtorEq,ha],by simp -implicitDefEqProofs only [aU,Nat.reduceEqDiff,↓reduceIte,hb],by simp -implicitDefEqProofs only [aU,Nat.reduceEqDiff,↓reduceIte,hii]⟩,fun n0 w1 w2=>⟨w1,w2⟩⟩
def nY (d:Nat) (p:PV):Prop:=∃l:Option (List aA),p=aK 124 aA.cells l∧(l.getD []).length < 4611686018427387904∧∀x∈l.getD [],aL d x.parts
theorem AA {d:Nat}{a b:PV} (ha:nY d a) (hb:nY d b):∃r,(∀s,Pc ext 85 [a,b,.fn 86 [] []] (.sc (.bool r)) s)∧∀s,Pc ext 102 [a,b] (.sc (.bool r)) s:=by
 obtain⟨l,rfl,hl,hl'⟩:=ha;obtain⟨m,rfl,hm,hm'⟩:=hb;refine nM aA.len (by rfl) WA Wl om (fun x hx=>?_) hl (fun x hx y hy=>?_)
 ·have:aL d x.parts:=hx.elim (hl' x) (hm' x);simp only [aA.cells,List.all_cons,List.all_nil,this.one,Bool.and_true]; rfl
 ·obtain⟨r,h1,h2⟩:=mo (ext:=ext) d x.parts y.parts (hl' x hx) (hm' y hy);exact⟨_,fun s=>f50 x y r h1 s,So x y r h2⟩
structure am where
 kind:Int
 pos:Int
 name:ByteArray
 all:Bool
 assigns:PV
 words:PV
 redirs:PV
 kids:PV
 items:PV
def am.cells (x:am):List PV:=[.sc (.int .i64 x.kind),.sc (.int .i64 x.pos),.sc (.string x.name),.sc (.bool x.all),x.assigns,x.words,x.redirs,x.kids,x.items]
theorem am.len (x:am):x.cells.length=9:=(rfl)
structure aF where
 pats:PV
 body:PV
def aF.cells (x:aF):List PV:=[x.pats,x.body]
theorem aF.len (x:aF):x.cells.length=2:=(rfl)
def uo:aW:=(.seq (.draw [(⟨some 17,.mv (.tmp 0),none⟩,[0],[]),
       (⟨some 18,.mv (.tmp 5),none⟩,[5],[0]),
       (⟨some 19,.iaddr 9 (.tmp 17) (.tmp 18),none⟩,[17,18],[]),
       (⟨some 20,.load 69 true 9 (.tmp 19),none⟩,[19],[]),
       (⟨some 21,.mv (.tmp 1),none⟩,[1],[3,2,1,0]),
       (⟨some 22,.mv (.tmp 5),none⟩,[5],[4,3,2,1,0]),
       (⟨some 23,.iaddr 9 (.tmp 21) (.tmp 22),none⟩,[21,22],[3,2,1,0]),
       (⟨some 24,.load 69 true 9 (.tmp 23),none⟩,[23],[3,2,1,0]),
       (⟨some 25,.call (.func 59) [(.tmp 20),(.tmp 24)],none⟩,[20,24],[]),
       (⟨some 26,.un .not (.tmp 25),none⟩,[25],[])])
     (.cond (.tmp 26)
      (.seq (.reg [⟨some 4,.mv (.const (.bool false)),none⟩])
      .ret)
      (.skip)))
def rm:aW:=(.seq (.draw [(⟨some 17,.mv (.tmp 0),none⟩,[0],[]),
       (⟨some 18,.mv (.tmp 5),none⟩,[5],[0]),
       (⟨some 19,.iaddr 2 (.tmp 17) (.tmp 18),none⟩,[17,18],[]),
       (⟨some 20,.faddr 0 (.tmp 19),none⟩,[19],[]),
       (⟨some 21,.load 64 false 1 (.tmp 20),none⟩,[20],[]),
       (⟨some 22,.mv (.tmp 1),none⟩,[1],[4,3,2,1,0]),
       (⟨some 23,.mv (.tmp 5),none⟩,[5],[5,4,3,2,1,0]),
       (⟨some 24,.iaddr 2 (.tmp 22) (.tmp 23),none⟩,[22,23],[4,3,2,1,0]),
       (⟨some 25,.faddr 0 (.tmp 24),none⟩,[24],[4,3,2,1,0]),
       (⟨some 26,.load 64 false 1 (.tmp 25),none⟩,[25],[4,3,2,1,0]),
       (⟨some 27,.call (.func 101) [(.tmp 21),(.tmp 26)],none⟩,[21,26],[]),
       (⟨some 28,.un .not (.tmp 27),none⟩,[27],[]),
       (⟨some 29,.mv (.tmp 28),none⟩,[28],[]),
       (⟨some 30,.mv (.tmp 0),(some (29,false))⟩,[0,29],[]),
       (⟨some 31,.mv (.tmp 5),(some (29,false))⟩,[5,29],[13]),
       (⟨some 32,.iaddr 2 (.tmp 30) (.tmp 31),(some (29,false))⟩,[30,31,29],[]),
       (⟨some 33,.faddr 1 (.tmp 32),(some (29,false))⟩,[32,29],[]),
       (⟨some 34,.load 66 false 1 (.tmp 33),(some (29,false))⟩,[33,29],[]),
       (⟨some 35,.mv (.tmp 1),(some (29,false))⟩,[1,29],[17,16,15,14,13]),
       (⟨some 36,.mv (.tmp 5),(some (29,false))⟩,[5,29],[18,17,16,15,14,13]),
       (⟨some 37,.iaddr 2 (.tmp 35) (.tmp 36),(some (29,false))⟩,[35,36,29],[17,16,15,14,13]),
       (⟨some 38,.faddr 1 (.tmp 37),(some (29,false))⟩,[37,29],[17,16,15,14,13]),
       (⟨some 39,.load 66 false 1 (.tmp 38),(some (29,false))⟩,[38,29],[17,16,15,14,13]),
       (⟨some 40,.call (.func 103) [(.tmp 34),(.tmp 39)],(some (29,false))⟩,[34,39,29],[]),
       (⟨some 41,.un .not (.tmp 40),(some (29,false))⟩,[40,29],[]),
       (⟨some 42,.pick (.tmp 29) (.const (.bool true)) (.tmp 41),none⟩,[29,41],[])])
     (.cond (.tmp 42)
      (.seq (.reg [⟨some 4,.mv (.const (.bool false)),none⟩])
      .ret)
      (.skip)))
theorem U8:ei Γ 59=true:=(rfl)
theorem Q2:ei Γ 101=true:=(rfl)
theorem Qp:ei Γ 103=true:=(rfl)
theorem VM:Γ 103=some (mN 27 uo):=(rfl)
theorem Wk:Γ 104=some (mN 43 rm):=(rfl)
theorem Ws:Γ 87=some (EI 69 9 #[(.int .i64 0),(.int .i64 0),(.string ⟨#[]⟩),(.bool false),(.slice none 0 0),(.slice none 0 0),(.slice none 0 0),(.slice none 0 0),(.slice none 0 0)] 3):=(rfl)
theorem Xa:Γ 88=some (EI 129 2 #[(.slice none 0 0),(.slice none 0 0)] 3):=(rfl)
theorem SO (x y:am) (r:Bool) (h:∀s,Pc ext 59 [.agg x.cells,.agg y.cells] (.sc (.bool r)) s):kP Tryz.prog Γ ext 69 am.cells uo x y r:=by
 intro l m i hl hm f s hin;obtain⟨l,rfl⟩ : ∃k,l=some k:=by cases l with | none=>simp at hl | some k=>exact⟨k,rfl⟩
 obtain⟨m,rfl⟩ : ∃k,m=some k:=by cases m with | none=>simp at hm | some k=>exact⟨k,rfl⟩
 obtain⟨ha,hb,hii⟩:=hin;simp only [aK,Option.getD_some] at ha hb hl hm;have hi:i < l.length:=(List.getElem?_eq_some_iff.1 hl).1;have hj:i < m.length:=(List.getElem?_eq_some_iff.1 hm).1;have h1:=aB am.len l;have h2:=aB am.len m;obtain⟨r1,h3⟩:=bU am.len hl;obtain⟨r2,h4⟩:=bU am.len hm;simp only [am.cells] at h;cases r with
 | false=>
  simp -implicitDefEqProofs only [ZS,seval,ZT,ZX,uo,List.map_cons,List.map_nil,List.append_nil,List.mem_cons,List.not_mem_nil,implies_true,forall_const,ha,hb,hii,hi,hj,h1,h2,h3,h4,au,am.cells,U8,h];exact⟨_,_,rfl,by simp -implicitDefEqProofs only [aU,↓reduceIte],fun n0 w1 w2=>⟨w1,w2⟩⟩
 | true=>
  simp -implicitDefEqProofs only [ZS,seval,ZT,ZX,uo,List.map_cons,List.map_nil,List.append_nil,List.mem_cons,List.not_mem_nil,implies_true,forall_const,ha,hb,hii,hi,hj,h1,h2,h3,h4,au,am.cells,U8,h];exact⟨_,_,rfl,⟨by simp -implicitDefEqProofs only [aU,↓reduceIte,reduceCtorEq,ha],by simp -implicitDefEqProofs only [aU,Nat.reduceEqDiff,↓reduceIte,hb],by simp -implicitDefEqProofs only [aU,Nat.reduceEqDiff,↓reduceIte,hii]⟩,fun n0 w1 w2=>⟨w1,w2⟩⟩
theorem SB (x y:aF) (r q:Bool) (h:∀s,Pc ext 101 [x.pats,y.pats] (.sc (.bool r)) s) (k:∀s,Pc ext 103 [x.body,y.body] (.sc (.bool q)) s):kP Tryz.prog Γ ext 129 aF.cells rm x y (r && q):=by
 intro l m i hl hm f s hin;obtain⟨l,rfl⟩ : ∃k,l=some k:=by cases l with | none=>simp at hl | some k=>exact⟨k,rfl⟩
 obtain⟨m,rfl⟩ : ∃k,m=some k:=by cases m with | none=>simp at hm | some k=>exact⟨k,rfl⟩
 obtain⟨ha,hb,hii⟩:=hin;simp only [aK,Option.getD_some] at ha hb hl hm;have hi:i < l.length:=(List.getElem?_eq_some_iff.1 hl).1;have hj:i < m.length:=(List.getElem?_eq_some_iff.1 hm).1;have h1:=aB aF.len l;have h2:=aB aF.len m;obtain⟨r1,h3⟩:=bU aF.len hl;obtain⟨r2,h4⟩:=bU aF.len hm;cases r with
 | false=>
  simp -implicitDefEqProofs only [ZS,seval,ZT,ZX,rm,bw,List.map_cons,List.map_nil,List.append_nil,List.mem_cons,List.not_mem_nil,implies_true,forall_const,ha,hb,hii,hi,hj,h1,h2,h3,h4,au,aF.cells,Q2,Qp,h];exact⟨_,_,rfl,by simp -implicitDefEqProofs only [aU,↓reduceIte],fun n0 w1 w2=>⟨w1,w2⟩⟩
 | true=>
  cases q with
  | false=>
   simp -implicitDefEqProofs only [ZS,seval,ZT,ZX,rm,bw,List.map_cons,List.map_nil,List.append_nil,List.mem_cons,List.not_mem_nil,implies_true,forall_const,ha,hb,hii,hi,hj,h1,h2,h3,h4,au,aF.cells,Q2,Qp,h,k];exact⟨_,_,rfl,by simp -implicitDefEqProofs only [aU,↓reduceIte],fun n0 w1 w2=>⟨w1,w2⟩⟩
  | true=>
   simp -implicitDefEqProofs only [ZS,seval,ZT,ZX,rm,bw,List.map_cons,List.map_nil,List.append_nil,List.mem_cons,List.not_mem_nil,implies_true,forall_const,ha,hb,hii,hi,hj,h1,h2,h3,h4,au,aF.cells,Q2,Qp,h,k];exact⟨_,_,rfl,⟨by simp -implicitDefEqProofs only [aU,↓reduceIte,reduceCtorEq,ha],by simp -implicitDefEqProofs only [aU,Nat.reduceEqDiff,↓reduceIte,hb],by simp -implicitDefEqProofs only [aU,Nat.reduceEqDiff,↓reduceIte,hii]⟩,fun n0 w1 w2=>⟨w1,w2⟩⟩
theorem f53 (x y:aF) (r q:Bool) (h:∀s,aD Tryz.prog Γ ext 84 [x.pats,y.pats,.fn 83 [] []] s=some (.sc (.bool r),s)) (k:∀s,aD Tryz.prog Γ ext 87 [x.body,y.body,.fn 46 [] []] s=some (.sc (.bool q),s)) (s:PS):aD Tryz.prog Γ ext 89 [.agg x.cells,.agg y.cells] s=some (.sc (.bool (r && q)),s):=by
 rw [dT (fn:=Uh) (by rfl) _ _ (by simp [Uh])];cases r with
 | false=>simp -implicitDefEqProofs only [ZS,seval,ZX,Uh,br,bw,az,List.map_cons,List.map_nil,List.append_nil,aF.cells,h]
 | true=>simp -implicitDefEqProofs only [ZS,seval,ZX,Uh,br,bw,az,List.map_cons,List.map_nil,List.append_nil,aF.cells,h,k]
def wQ (x y:am) (a w q k i:Bool):Bool:=x.kind == y.kind && (x.name.toList == y.name.toList && (x.all == y.all && (a && (w && (q && (k && i))))))
set_option maxHeartbeats 1000000 in
theorem f20 (x y:am) (a w q k i:Bool) (hA:∀s,aD Tryz.prog Γ ext 81 [x.assigns,y.assigns,.fn 82 [] []] s=some (.sc (.bool a),s)) (hW:∀s,aD Tryz.prog Γ ext 84 [x.words,y.words,.fn 83 [] []] s=some (.sc (.bool w),s)) (hR:∀s,aD Tryz.prog Γ ext 85 [x.redirs,y.redirs,.fn 86 [] []] s=some (.sc (.bool q),s)) (hK:∀s,aD Tryz.prog Γ ext 87 [x.kids,y.kids,.fn 46 [] []] s=some (.sc (.bool k),s)) (hI:∀s,aD Tryz.prog Γ ext 88 [x.items,y.items,.fn 89 [] []] s=some (.sc (.bool i),s)) (s:PS) :
  aD Tryz.prog Γ ext 46 [.agg x.cells,.agg y.cells] s=some (.sc (.bool (wQ x y a w q k i)),s):=by
 rw [dT (fn:=Hq) (by rfl) _ _ (by simp [Hq])];cases e1:x.kind == y.kind with
 | false=>simp -implicitDefEqProofs only [ZS,seval,ZX,Hq,br,bw,az,am.cells,wQ,e1]
 | true=>
  cases e2:x.name.toList == y.name.toList with
  | false=>simp -implicitDefEqProofs only [ZS,seval,ZX,Hq,br,bw,az,am.cells,wQ,e1,e2]
  | true=>
   cases e3:x.all == y.all with
   | false=>simp -implicitDefEqProofs only [ZS,seval,ZX,Hq,br,bw,az,am.cells,wQ,e1,e2,e3,gy Tryz.underlying4]
   | true=>
    cases a with
    | false=>simp -implicitDefEqProofs only [ZS,seval,ZX,Hq,br,bw,az,List.map_cons,List.map_nil,List.append_nil,am.cells,wQ,e1,e2,e3,hA,gy Tryz.underlying4]
    | true=>
     cases w with
     | false=>simp -implicitDefEqProofs only [ZS,seval,ZX,Hq,br,bw,az,List.map_cons,List.map_nil,List.append_nil,am.cells,wQ,e1,e2,e3,hA,hW,gy Tryz.underlying4]
     | true=>
      cases q with
      | false=>simp -implicitDefEqProofs only [ZS,seval,ZX,Hq,br,bw,az,List.map_cons,List.map_nil,List.append_nil,am.cells,wQ,e1,e2,e3,hA,hW,hR,gy Tryz.underlying4]
      | true=>
       cases k with
       | false=>simp -implicitDefEqProofs only [ZS,seval,ZX,Hq,br,bw,az,List.map_cons,List.map_nil,List.append_nil,am.cells,wQ,e1,e2,e3,hA,hW,hR,hK,gy Tryz.underlying4]
       | true=>
        cases i with
        | false=>simp -implicitDefEqProofs only [ZS,seval,ZX,Hq,br,bw,az,List.map_cons,List.map_nil,List.append_nil,am.cells,wQ,e1,e2,e3,hA,hW,hR,hK,hI,gy Tryz.underlying4]
        | true=>simp -implicitDefEqProofs only [ZS,seval,ZX,Hq,br,bw,az,List.map_cons,List.map_nil,List.append_nil,am.cells,wQ,e1,e2,e3,hA,hW,hR,hK,hI,gy Tryz.underlying4]
set_option maxHeartbeats 1000000 in
theorem f21 (x y:am) (a w q k i:Bool) (hA:∀s,aD Tryz.prog Γ ext 100 [x.assigns,y.assigns] s=some (.sc (.bool a),s)) (hW:∀s,aD Tryz.prog Γ ext 101 [x.words,y.words] s=some (.sc (.bool w),s)) (hR:∀s,aD Tryz.prog Γ ext 102 [x.redirs,y.redirs] s=some (.sc (.bool q),s)) (hK:∀s,aD Tryz.prog Γ ext 103 [x.kids,y.kids] s=some (.sc (.bool k),s)) (hI:∀s,aD Tryz.prog Γ ext 104 [x.items,y.items] s=some (.sc (.bool i),s)) (s:PS) :
  aD Tryz.prog Γ ext 59 [.agg x.cells,.agg y.cells] s=some (.sc (.bool (wQ x y a w q k i)),s):=by
 have c1:(bne x.kind y.kind)=!(x.kind == y.kind):=(rfl)
 rw [dT (fn:=Hp) (by rfl) _ _ (by simp [Hp])];cases e1:x.kind == y.kind with
 | false=>simp -implicitDefEqProofs only [ZS,seval,ZX,Hp,br,bw,az,am.cells,wQ,e1,c1]
 | true=>
  cases e2:x.name.toList == y.name.toList with
  | false=>simp -implicitDefEqProofs only [ZS,seval,ZX,Hp,br,bw,az,am.cells,wQ,e1,e2,c1]
  | true=>
   cases e3:x.all == y.all with
   | false=>simp -implicitDefEqProofs only [ZS,seval,ZX,Hp,br,bw,az,am.cells,wQ,e1,e2,e3,fF Tryz.underlying4,c1]
   | true=>
    cases a with
    | false=>simp -implicitDefEqProofs only [ZS,seval,ZX,Hp,br,bw,az,List.map_cons,List.map_nil,List.append_nil,am.cells,wQ,e1,e2,e3,hA,fF Tryz.underlying4,c1]
    | true=>
     cases w with
     | false=>simp -implicitDefEqProofs only [ZS,seval,ZX,Hp,br,bw,az,List.map_cons,List.map_nil,List.append_nil,am.cells,wQ,e1,e2,e3,hA,hW,fF Tryz.underlying4,c1]
     | true=>
      cases q with
      | false=>simp -implicitDefEqProofs only [ZS,seval,ZX,Hp,br,bw,az,List.map_cons,List.map_nil,List.append_nil,am.cells,wQ,e1,e2,e3,hA,hW,hR,fF Tryz.underlying4,c1]
      | true=>
       cases k with
       | false=>simp -implicitDefEqProofs only [ZS,seval,ZX,Hp,br,bw,az,List.map_cons,List.map_nil,List.append_nil,am.cells,wQ,e1,e2,e3,hA,hW,hR,hK,fF Tryz.underlying4,c1]
       | true=>
        cases i with
        | false=>simp -implicitDefEqProofs only [ZS,seval,ZX,Hp,br,bw,az,List.map_cons,List.map_nil,List.append_nil,am.cells,wQ,e1,e2,e3,hA,hW,hR,hK,hI,fF Tryz.underlying4,c1]
        | true=>simp -implicitDefEqProofs only [ZS,seval,ZX,Hp,br,bw,az,List.map_cons,List.map_nil,List.append_nil,am.cells,wQ,e1,e2,e3,hA,hW,hR,hK,hI,fF Tryz.underlying4,c1]
def gH {α:Type} (e:Nat) (c:α→List PV) (Q:α→Prop) (p:PV):Prop:=∃l:Option (List α),p=aK e c l∧(l.getD []).length < 4611686018427387904∧∀x∈l.getD [],Q x
theorem gH.one {α:Type}{e:Nat}{c:α→List PV}{Q:α→Prop}{p:PV} (h:gH e c Q p):cL p=true:=by
 obtain⟨l,rfl,_⟩:=h; exact dr _ _ _
def bC (D:Nat):Nat→am→Prop
 | 0,_=>False
 | d + 1,x=>lV D x.assigns∧mz D x.words∧nY D x.redirs∧gH 69 am.cells (bC D d) x.kids∧gH 129 aF.cells (fun it=>mz D it.pats∧gH 69 am.cells (bC D d) it.body) x.items
theorem bC.ones {D d:Nat}{x:am} (h:bC D d x):x.cells.all cL=true:=by
 cases d with
 | zero=>cases h
 | succ d=>
  obtain⟨h1,h2,h3,h4,h5⟩:=h;have w1:cL x.assigns=true:=gH.one h1;have w2:cL x.words=true:=gH.one h2;have w3:cL x.redirs=true:=gH.one h3;simp only [am.cells,List.all_cons,List.all_nil,w1,w2,w3,h4.one,h5.one,Bool.and_true]; rfl
theorem x8 {D d:Nat} (ih:∀x y,bC D d x→bC D d y→∃r,(∀s,Pc ext 46 [.agg x.cells,.agg y.cells] (.sc (.bool r)) s)∧∀s,Pc ext 59 [.agg x.cells,.agg y.cells] (.sc (.bool r)) s)
  {a b:PV} (ha:gH 69 am.cells (bC D d) a) (hb:gH 69 am.cells (bC D d) b):∃r,(∀s,Pc ext 87 [a,b,.fn 46 [] []] (.sc (.bool r)) s)∧∀s,Pc ext 103 [a,b] (.sc (.bool r)) s:=by
 obtain⟨l,rfl,hl,hl'⟩:=ha;obtain⟨m,rfl,hm,hm'⟩:=hb;refine nM am.len (by rfl) Ws VM om (fun x hx=>?_) hl (fun x hx y hy=>?_)
 ·exact (hx.elim (hl' x) (hm' x)).ones
 ·obtain⟨r,h1,h2⟩:=ih x y (hl' x hx) (hm' y hy);exact⟨r,h1,SO x y r h2⟩
theorem GG {D:Nat} : ∀(d:Nat) (x y:am),bC D d x→bC D d y→∃r,(∀s,Pc ext 46 [.agg x.cells,.agg y.cells] (.sc (.bool r)) s)∧∀s,Pc ext 59 [.agg x.cells,.agg y.cells] (.sc (.bool r)) s:=by
 intro d
 induction d with
 | zero=>intro x y h; cases h
 | succ d ih=>
  rintro x y ⟨x1,x2,x3,x4,x5⟩ ⟨y1,y2,y3,y4,y5⟩;obtain⟨a,a1,a2⟩:=zF (ext:=ext) x1 y1;obtain⟨w,w1,w2⟩:=vA (ext:=ext) x2 y2;obtain⟨q,q1,q2⟩:=AA (ext:=ext) x3 y3;obtain⟨k,k1,k2⟩:=x8 ih x4 y4;obtain⟨i,i1,i2⟩ : ∃r,(∀s,Pc ext 88 [x.items,y.items,.fn 89 [] []] (.sc (.bool r)) s)∧∀s,Pc ext 104 [x.items,y.items] (.sc (.bool r)) s:=by
   obtain⟨l,el,hl,hl'⟩:=x5;obtain⟨m,em,hm,hm'⟩:=y5;rw [el,em];refine nM aF.len (by rfl) Xa Wk om (fun z hz=>?_) hl (fun z hz v hv=>?_)
   ·have h:=hz.elim (hl' z) (hm' z);have w1:cL z.pats=true:=gH.one h.1;simp only [aF.cells,List.all_cons,List.all_nil,w1,h.2.one,Bool.and_true]
   ·obtain⟨r1,b1,b2⟩:=vA (ext:=ext) (hl' z hz).1 (hm' v hv).1;obtain⟨r2,d1,d2⟩:=x8 ih (hl' z hz).2 (hm' v hv).2;exact⟨_,fun s=>f53 z v r1 r2 b1 d1 s,SB z v r1 r2 b2 d2⟩
  exact⟨_,fun s=>f20 x y a w q k i a1 w1 q1 k1 i1 s,fun s=>f21 x y a w q k i a2 w2 q2 k2 i2 s⟩
structure PL (a:PV) (s0:PS) (i:Nat) (f:aR) (s:PS):Prop where
 s:s=s0
 a:f 0=a
 i:f 6=.sc (.int .i64 (i:Int))
 x:∃z:Int,f 4=.sc (.int .i64 z)
 y:∃z:Int,f 5=.sc (.int .i64 z)
theorem It:∀(d:Nat) (a:PV),aL d a→∀s,∃z y:Int,aD Tryz.prog Γ ext 65 [a] s=some (.tup [.sc (.int .i64 z),.sc (.int .i64 y)],s):=by
 intro d
 induction d with
 | zero=>intro a h; cases h
 | succ d ih=>
  rintro a ⟨l,rfl,hl,hl'⟩ s;have L:=bE (e:=150) (c:=ar.cells) l;suffices h:∃q,aD Tryz.prog Γ ext 65 [aK 150 ar.cells l] s=some q∧∃z y:Int,q=(.tup [.sc (.int .i64 z),.sc (.int .i64 y)],s) by
   obtain⟨q,e,z,y,rfl⟩:=h;exact⟨z,y,e⟩
  refine yE (fn:=S5) (by rfl) (by simp [S5]) ?_;generalize hQ:G6 S5 s _=Q;unfold S5;refine fB (fun f s'=>s'=⟨s.h,s.n,s.n⟩∧f 0=aK 150 ar.cells l) ?_ ?_
  ·simp -implicitDefEqProofs only [de,bO,bj,aY,bM,br,bT,bY];exact⟨_,_,rfl,rfl,rfl⟩
  rintro f _ ⟨rfl,h0⟩;refine fB (fun f s'=>s'=⟨s.h,s.n,s.n⟩∧f 0=aK 150 ar.cells l∧(∃z:Int,f 4=.sc (.int .i64 z))∧∃z:Int,f 5=.sc (.int .i64 z)) ?_ ?_
  ·simp -implicitDefEqProofs only [ZS,seval,ZX,h0,L];exact⟨_,_,rfl,rfl,h0,⟨_,rfl⟩,⟨_,rfl⟩⟩
  rintro f _ ⟨rfl,h0,h4,h5⟩;refine kO ?_;refine fB (PL (aK 150 ar.cells l) ⟨s.h,s.n,s.n⟩ 0) ?_ ?_
  ·simp -implicitDefEqProofs only [de,bO,bj,aY,bM,bT,bY];exact⟨_,_,rfl,rfl,h0,rfl,h4,h5⟩
  intro f s1 hI;refine ow (l.getD []).length (PL (aK 150 ar.cells l) ⟨s.h,s.n,s.n⟩) (PL (aK 150 ar.cells l) ⟨s.h,s.n,s.n⟩ (l.getD []).length) hI ?_ ?_
  ·rintro i f _ hi ⟨rfl,h0,h6,⟨z,hz⟩,⟨y,hy⟩⟩;by_cases hlt:i < (l.getD []).length
   ·have h5:(decide ((i:Int) < ((l.getD []).length:Int)))=true:=by simp; exact hlt
    have hx:(l.getD [])[i]?=some ((l.getD [])[i]):=List.getElem?_eq_getElem hlt;generalize (l.getD [])[i]=x at hx;obtain⟨m,rfl⟩ : ∃k,l=some k:=by cases l with | none=>simp at hx | some k=>exact⟨k,rfl⟩
    obtain⟨cz,cy,hc⟩:=ih x.parts (hl' x (List.mem_of_getElem? hx)) ⟨s.h,s.n,s.n⟩;simp only [aK,Option.getD_some] at h0 hx hlt L h5 hl;have h1:=aB ar.len m;obtain⟨r1,h3⟩:=bU ar.len hx;have h7:=fD (i:=i) (by omega);simp -implicitDefEqProofs only [ZS,seval,ZX,List.map_cons,List.map_nil,List.append_nil,List.getElem?_cons_zero,List.getElem?_cons_succ,h0,h6,hz,hy,L,h5,h7,hlt,h1,h3,au,ar.cells,hc,aK];exact⟨hlt,rfl,h0,rfl,⟨_,rfl⟩,⟨_,rfl⟩⟩
   ·obtain rfl:i=(l.getD []).length:=by omega
    have h5:(decide (((l.getD []).length:Int) < ((l.getD []).length:Int)))=false:=by simp
    simp -implicitDefEqProofs only [ZS,seval,ZX,h0,h6,L,h5];exact⟨rfl,h0,h6,⟨z,hz⟩,⟨y,hy⟩⟩
  ·rintro f _ ⟨rfl,h0,h6,⟨z,hz⟩,⟨y,hy⟩⟩;refine zk ?_;simp -implicitDefEqProofs only [de,bO,bj,aY,bM,cZ,aU,Nat.reduceEqDiff,↓reduceIte,hz,hy];refine⟨_,_,rfl,?_⟩;subst hQ;refine yS ?_ ⟨z,y,rfl⟩;simp -implicitDefEqProofs only [ZS,seval,ZX,S5]
theorem xY {α β:Type}{g:α→List β}{l:List α}{i:Nat}{x:α} (h:l[i]?=some x):(l.take (i + 1)).flatMap g=(l.take i).flatMap g ++ g x:=by
 rw [List.take_add_one,h,List.flatMap_append];simp
theorem qV {α β:Type}{g:α→List β} (l:List α) (i:Nat):((l.take i).flatMap g).length≤(l.flatMap g).length:=by
 conv=>rhs; rw [← List.take_append_drop i l,List.flatMap_append,List.length_append]
 omega
theorem am.clean {x:am} (h1:cP x.assigns=true) (h2:cP x.words=true) (h3:cP x.redirs=true) (h4:cP x.kids=true) (h5:cP x.items=true):x.cells.all cP=true:=by
 simp only [am.cells,List.all_cons,List.all_nil,h1,h2,h3,h4,h5,Bool.and_true]; rfl
theorem vD {α:Type} (e:Nat) (c:α→List PV) (l:Option (List α)):cP (aK e c l)=true:=by cases l<;>rfl
theorem gH.clean {α:Type}{e:Nat}{c:α→List PV}{Q:α→Prop}{p:PV} (h:gH e c Q p):cP p=true:=by
 obtain⟨l,rfl,_⟩:=h; exact vD _ _ _
theorem bC.cleans {D d:Nat}{x:am} (h:bC D d x):x.cells.all cP=true:=by
 cases d with
 | zero=>cases h
 | succ d=>
  obtain⟨h1,h2,h3,h4,h5⟩:=h;exact am.clean (gH.clean h1) (gH.clean h2) (gH.clean h3) h4.clean h5.clean
structure Ic (x:am) (b:Nat) (l:List am) (f:aR) (s:PS):Prop where
 p:f 1=.ptr b 0 9
 h:s.h b=⟨x.cells,0,69⟩
 n:b + 1≤s.n
 w:b≤s.w
 acc:gL 69 9 am.cells (b + 1) l (f 3) s
theorem kids_ok (x:am) (lk:Option (List am)) (li:Option (List aF)) (bd:aF→Option (List am)) (hk:x.kids=aK 69 am.cells lk) (hit:x.items=aK 129 aF.cells li) (hbd:∀it∈li.getD [],it.body=aK 69 am.cells (bd it))
  (hbig:(lk.getD []).length + ((li.getD []).flatMap fun it=>(bd it).getD []).length≤16777216) (hlen:(li.getD []).length≤16777216)
  (ho:∀y,y∈lk.getD []∨(∃it∈li.getD [],y∈(bd it).getD [])→y.cells.all cL=true∧y.cells.all cP=true) (s:PS) :
  aD Tryz.prog Γ ext 66 [.agg x.cells] s=some (aK 69 am.cells (dx (lk.getD [] ++ (li.getD []).flatMap fun it=>(bd it).getD [])),s):=by
 have L:=bE (e:=129) (c:=aF.cells) li;suffices h:∃q,aD Tryz.prog Γ ext 66 [.agg x.cells] s=some q∧q=(aK 69 am.cells (dx (lk.getD [] ++ (li.getD []).flatMap fun it=>(bd it).getD [])),s) by
  obtain⟨q,e,rfl⟩:=h;exact e
 refine yE (fn:=TL) (by rfl) (by simp [TL]) ?_;generalize hQ:G6 TL s _=Q;unfold TL;refine fB (fun f s'=>f 1=.ptr s.n 0 9∧s'.h s.n=⟨x.cells,0,69⟩∧s'.n=s.n + 1∧s'.w=s.n) ?_ ?_
 ·simp -implicitDefEqProofs only [ZS,seval,ZX,br,az];exact⟨_,_,rfl,rfl,by simp -implicitDefEqProofs only [↓reduceIte,dG],rfl,rfl⟩
 rintro f s1 ⟨p1,p2,p3,p4⟩;refine fB (Ic x s.n []) ?_ ?_
 ·simp -implicitDefEqProofs only [de,bO,bj,aY,bM,bT,bY];exact⟨_,_,rfl,p1,p2,by omega,by omega,.nil _ _ _ _ _⟩
 rintro f s1 ⟨p1,p2,p3,p4,p5⟩;refine fB (Ic x s.n (lk.getD [])) ?_ ?_
 ·obtain⟨v',s',a1,a2,a3,a4,a5⟩:=p5.app (bytes:=160) am.len (lk.getD []) (by omega) (by simp only [List.length_nil]; omega) (by simp only [List.length_nil]; omega) (fun y hy=>(ho y (.inl hy)).1) p3;have he:=rH (e:=69) am.len lk s1;simp only [am.cells] at p2;simp -implicitDefEqProofs only [ZS,seval,ZX,p1,p2,hk,he,a1];refine⟨_,_,rfl,p1,?_,by omega,a5 _ (by omega) p4,by rw [List.nil_append] at a2; exact a2⟩;rw [a3 _ (by omega)];exact p2
 rintro f s1 hI;refine kO ?_;refine fB (fun f s1=>Ic x s.n (lk.getD [] ++ ((li.getD []).take 0).flatMap fun it=>(bd it).getD []) f s1∧f 4=.sc (.int .i64 ((0:Nat):Int))) ?_ ?_
 ·obtain⟨p1,p2,p3,p4,p5⟩:=hI;simp -implicitDefEqProofs only [de,bO,bj,aY,bM,bT,bY,List.take_zero];exact⟨_,_,rfl,⟨p1,p2,p3,p4,by rw [List.flatMap_nil,List.append_nil]; exact p5⟩,rfl⟩
 rintro f s1 hI;refine ow (li.getD []).length (fun i f s1=>Ic x s.n (lk.getD [] ++ ((li.getD []).take i).flatMap fun it=>(bd it).getD []) f s1∧f 4=.sc (.int .i64 (i:Int))) (fun f s1=>Ic x s.n (lk.getD [] ++ (li.getD []).flatMap fun it=>(bd it).getD []) f s1) hI ?_ ?_
 ·rintro i f s1 hi ⟨⟨p1,p2,p3,p4,p5⟩,h4⟩;by_cases hlt:i < (li.getD []).length
  ·have h5:(decide ((i:Int) < ((li.getD []).length:Int)))=true:=by simp; exact hlt
   have hx:(li.getD [])[i]?=some ((li.getD [])[i]):=List.getElem?_eq_getElem hlt;generalize (li.getD [])[i]=it at hx;have hmem:=List.mem_of_getElem? hx;have hb:=hbd it hmem;have hfl:=xY (g:=fun it=>(bd it).getD []) hx;have hle:=qV (g:=fun it=>(bd it).getD []) (li.getD []) (i + 1);rw [hfl,List.length_append] at hle;obtain⟨v',s',a1,a2,a3,a4,a5⟩:=p5.app (bytes:=160) am.len ((bd it).getD []) (by omega) (by rw [List.length_append]; omega) (by rw [List.length_append]; omega) (fun y hy=>(ho y (.inr ⟨it,hmem,hy⟩)).1) p3;have he:=rH (e:=69) am.len (bd it) s1;have h6:s'.h s.n=⟨x.cells,0,69⟩:=by rw [a3 _ (by omega)]; exact p2
   obtain⟨m,rfl⟩ : ∃k,li=some k:=by cases li with | none=>simp at hx | some k=>exact⟨k,rfl⟩
   simp only [aK,Option.getD_some] at hit hx hlt L h5 hlen hfl;have h1:=aB aF.len m;obtain⟨r1,h3⟩:=bU aF.len hx;have h7:=fD (i:=i) (by omega);simp only [am.cells,hit] at p2;simp -implicitDefEqProofs only [ZS,seval,ZX,p1,p2,h4,L,h5,h7,hlt,h1,h3,au,aF.cells,hb,he,a1];refine⟨hlt,p1,h6,by omega,a5 _ (by omega) p4,?_⟩;show gL 69 9 am.cells (s.n + 1) (lk.getD [] ++ (m.take (i + 1)).flatMap fun it=>(bd it).getD []) v' s';rw [hfl,← List.append_assoc];exact a2
  ·obtain rfl:i=(li.getD []).length:=by omega
   have h5:(decide (((li.getD []).length:Int) < ((li.getD []).length:Int)))=false:=by simp
   have p2':=p2;simp only [am.cells,hit] at p2';simp -implicitDefEqProofs only [ZS,seval,ZX,p1,p2',h4,L,h5];refine⟨p1,p2,p3,p4,?_⟩;rw [List.take_length] at p5;exact p5
 ·rintro f s1 ⟨p1,p2,p3,p4,p5⟩;refine zk ?_;simp -implicitDefEqProofs only [de,bO,bj,aY,bM,cZ,aU,↓reduceIte];refine⟨_,_,rfl,?_⟩;subst hQ;refine yS ?_ rfl;refine fM (vs:=[f 3]) rfl rfl p4 ?_;refine zl (p5.frz am.len (by omega) fun y hy=>?_);rw [List.mem_append,List.mem_flatMap] at hy;exact (ho y (hy.imp id id)).2
end Go.Proofs.YtgkggocjoolciaaGreatDoor
