/- What functions of the program and of the reference compute, on values. No statement is proved here. -/
import Derived.Test.YtgkggocjoolciaaGreatDoorTxJ
import Derived.Test.YtgkggocjoolciaaGreatDoorTxA
import Derived.Test.YtgkggocjoolciaaGreatDoorTxI
import Derived.Test.YtgkggocjoolciaaGreatDoorTxC
import Derived.Test.YtgkggocjoolciaaGreatDoorTxH
set_option linter.all false
namespace Go.Proofs.YtgkggocjoolciaaGreatDoor
open Go Go.EvL Go.PE Go.Mir
variable {ext:aq}
def JP (k:Int) (nm:List UInt8) (al:Bool) (na nw nr ni:Nat):Bool:=
 !(decide (0 < na) || (decide (0 < nr) && !mU k) || (decide (0 < ni) && !(k == 14))) && (!((k == 13 || k == 15) == nm.isEmpty) && (!((k == 13 || k == 15) && !fV nm) &&
  (if k == 13 then !al || nw == 0 else if k == 14 then !al && nw == 1 else !al && nw == 0)))
set_option maxHeartbeats 2000000 in
theorem Jo {k p:Int}{nm:ByteArray}{al:Bool}{aa ws rs v is:PV}{na nw nr ni:Nat}{kb wb rb ib sb:Bool} (hnm:nm.data.toList.length < 1000000000000) (hna:gq false aa=some (iN na)) (hnw:gq false ws=some (iN nw)) (hnr:gq false rs=some (iN nr)) (hni:gq false is=some (iN ni))
  (cas:az aa=[aa]) (cws:az ws=[ws]) (crs:az rs=[rs]) (cis:az is=[is])
  (h126:∀s,Pc ext 214 [.agg [.sc (.int .i64 k),.sc (.int .i64 p),.sc (.string nm),.sc (.bool al),aa,ws,rs,v,is]] (.sc (.bool kb)) s) (h127:∀s,Pc ext 215 [ws] (.sc (.bool wb)) s) (h128:∀s,Pc ext 216 [rs] (.sc (.bool rb)) s)
  (h129:∀s,Pc ext 217 [is] (.sc (.bool ib)) s) (h130:k=1→∀s,Pc ext 218 [.agg [.sc (.int .i64 k),.sc (.int .i64 p),.sc (.string nm),.sc (.bool al),aa,ws,rs,v,is]] (.sc (.bool sb)) s) (s:PS) :
  Pc ext 179 [.agg [.sc (.int .i64 k),.sc (.int .i64 p),.sc (.string nm),.sc (.bool al),aa,ws,rs,v,is]] (.sc (.bool (kb && (wb && (rb && (ib && if k == 1 then sb else JP k nm.data.toList al na nw nr ni)))))) s:=by
 have hbn:=fun x y a b=>fF (P:=Tryz.prog) (t:=4) Tryz.underlying4 x y a b;have hN:=fun s=>rS (ext:=ext) (b:=nm) om s;refine mq QX 2 ?_;unfold QX JP;cases c1:kb with
 | false=>
  exact l9 h126 c1
 | true=>
  cases c2:wb with
  | false=>
   exact nI h126 h127 c1 c2
  | true=>
   cases c3:rb with
   | false=>
    exact jK h126 h127 h128 c1 c2 c3
   | true=>
    cases c4:ib with
    | false=>
     exact vY h126 h127 h128 h129 c1 c2 c3 c4
    | true=>
     cases c5:k == 1 with
     | false=>
      cases c6:decide (0 < na) with
      | false=>
       have c6p:=of_decide_eq_false c6;cases c7:decide (0 < nr) with
       | false=>
        have c7p:=of_decide_eq_false c7;cases c8:decide (0 < ni) with
        | false=>
         have c8p:=of_decide_eq_false c8;cases c9:k == 13 with
         | false=>
          cases c10:k == 15 with
          | false=>
           cases c11:nm.data.toList.isEmpty with
           | false=>
            exact kG h126 h127 h128 h129 hna hnr hni @aV hbn c1 c2 c3 c4 c5 c6 c7 c8 c9 c10 c11 tv tv
           | true=>
            cases c12:k == 14 with
            | false=>
             cases al with
             | false=>
              exact kG h126 h127 h128 h129 hna hnw hnr hni @aV hbn c1 c2 c3 c4 c5 c6 c7 c8 c9 c10 c11 c12
             | true=>
              exact kG h126 h127 h128 h129 hna hnw hnr hni @aV hbn c1 c2 c3 c4 c5 c6 c7 c8 c9 c10 c11 c12
            | true=>
             cases al with
             | false=>
              exact kG h126 h127 h128 h129 hna hnw hnr hni @aV hbn c1 c2 c3 c4 c5 c6 c7 c8 c9 c10 c11 c12
             | true=>
              exact kG h126 h127 h128 h129 hna hnw hnr hni @aV hbn c1 c2 c3 c4 c5 c6 c7 c8 c9 c10 c11 c12
          | true=>
           cases c15:nm.data.toList.isEmpty with
           | false=>
            cases c16:fV nm.data.toList with
            | false=>
             exact kG h126 h127 h128 h129 hN hna hnr hni @aV hbn c1 c2 c3 c4 c5 c6 c7 c8 c9 c10 c15 c16
            | true=>
             cases c17:k == 14 with
             | false=>
              cases al with
              | false=>
               exact gn h126 h127 h128 h129 hN hna hnw hnr hni @aV hbn c1 c2 c3 c4 c5 c6 c7 c8 c9 c10 c15 c16 c17 tv tv
              | true=>
               exact gn h126 h127 h128 h129 hN hna hnw hnr hni @aV hbn c1 c2 c3 c4 c5 c6 c7 c8 c9 c10 c15 c16 c17 tv tv
             | true=>
              cases al with
              | false=>
               exact gn h126 h127 h128 h129 hN hna hnw hnr hni @aV hbn c1 c2 c3 c4 c5 c6 c7 c8 c9 c10 c15 c16 c17 tv tv
              | true=>
               exact gn h126 h127 h128 h129 hN hna hnw hnr hni @aV hbn c1 c2 c3 c4 c5 c6 c7 c8 c9 c10 c15 c16 c17 tv tv
           | true=>
            exact kG h126 h127 h128 h129 hna hnr hni @aV hbn c1 c2 c3 c4 c5 c6 c7 c8 c9 c10 c15 tv tv
         | true=>
          cases c20:nm.data.toList.isEmpty with
          | false=>
           cases c21:fV nm.data.toList with
           | false=>
            exact kG h126 h127 h128 h129 hN hna hnr hni @aV hbn c1 c2 c3 c4 c5 c6 c7 c8 c9 c20 c21 tv
           | true=>
            cases al with
            | false=>
             exact kG h126 h127 h128 h129 hN hna hnw hnr hni @aV hbn c1 c2 c3 c4 c5 c6 c7 c8 c9 c20 c21
            | true=>
             exact kG h126 h127 h128 h129 hN hna hnw hnr hni @aV hbn c1 c2 c3 c4 c5 c6 c7 c8 c9 c20 c21
          | true=>
           exact sV h126 h127 h128 h129 hna hnr hni @aV hbn c1 c2 c3 c4 c5 c6 c7 c8 c9 c20
        | true=>
         have c8p:=of_decide_eq_true c8;cases c23:k == 14 with
         | false=>
          exact sV h126 h127 h128 h129 hna hnr hni @eB c1 c2 c3 c4 c5 c6 c7 c8 c23 tv tv
         | true=>
          cases c24:k == 13 with
          | false=>
           cases c25:k == 15 with
           | false=>
            cases c26:nm.data.toList.isEmpty with
            | false=>
             exact kG h126 h127 h128 h129 hna hnr hni @aV @eB hbn c1 c2 c3 c4 c5 c6 c7 c8 c23 c24 c25 c26
            | true=>
             cases al with
             | false=>
              exact gn h126 h127 h128 h129 hna hnw hnr hni @aV @eB hbn c1 c2 c3 c4 c5 c6 c7 c8 c23 c24 c25 c26 tv tv tv
             | true=>
              exact gn h126 h127 h128 h129 hna hnw hnr hni @aV @eB hbn c1 c2 c3 c4 c5 c6 c7 c8 c23 c24 c25 c26 tv tv tv
           | true=>
            cases c28:nm.data.toList.isEmpty with
            | false=>
             cases c29:fV nm.data.toList with
             | false=>
              exact gn h126 h127 h128 h129 hN hna hnr hni @aV @eB hbn c1 c2 c3 c4 c5 c6 c7 c8 c23 c24 c25 c28 c29 tv tv
             | true=>
              cases al with
              | false=>
               exact gn h126 h127 h128 h129 hN hna hnw hnr hni @aV @eB hbn c1 c2 c3 c4 c5 c6 c7 c8 c23 c24 c25 c28 c29 tv
              | true=>
               exact gn h126 h127 h128 h129 hN hna hnw hnr hni @aV @eB hbn c1 c2 c3 c4 c5 c6 c7 c8 c23 c24 c25 c28 c29 tv
            | true=>
             exact kG h126 h127 h128 h129 hna hnr hni @aV @eB hbn c1 c2 c3 c4 c5 c6 c7 c8 c23 c24 c25 c28
          | true=>
           cases c31:nm.data.toList.isEmpty with
           | false=>
            cases c32:fV nm.data.toList with
            | false=>
             exact gn h126 h127 h128 h129 hN hna hnr hni @aV @eB hbn c1 c2 c3 c4 c5 c6 c7 c8 c23 c24 c31 c32 tv tv tv
            | true=>
             cases al with
             | false=>
              exact gn h126 h127 h128 h129 hN hna hnw hnr hni @aV @eB hbn c1 c2 c3 c4 c5 c6 c7 c8 c23 c24 c31 c32 tv tv
             | true=>
              exact gn h126 h127 h128 h129 hN hna hnw hnr hni @aV @eB hbn c1 c2 c3 c4 c5 c6 c7 c8 c23 c24 c31 c32 tv tv
           | true=>
            exact kG h126 h127 h128 h129 hna hnr hni @aV @eB hbn c1 c2 c3 c4 c5 c6 c7 c8 c23 c24 c31 tv
       | true=>
        have c7p:=of_decide_eq_true c7;cases c34:mU k with
        | false=>
         exact vj h126 h127 h128 h129 @dk hna hnr c1 c2 c3 c4 c5 c6 c7 c34 tv
        | true=>
         cases c35:decide (0 < ni) with
         | false=>
          have c35p:=of_decide_eq_false c35;cases c36:k == 13 with
          | false=>
           cases c37:k == 15 with
           | false=>
            cases c38:nm.data.toList.isEmpty with
            | false=>
             exact kG h126 h127 h128 h129 @dk hna hnr hni @aV hbn c1 c2 c3 c4 c5 c6 c7 c34 c35 c36 c37 c38
            | true=>
             cases c39:k == 14 with
             | false=>
              cases al with
              | false=>
               exact gn h126 h127 h128 h129 @dk hna hnw hnr hni @aV hbn c1 c2 c3 c4 c5 c6 c7 c34 c35 c36 c37 c38 c39 tv tv
              | true=>
               exact gn h126 h127 h128 h129 @dk hna hnw hnr hni @aV hbn c1 c2 c3 c4 c5 c6 c7 c34 c35 c36 c37 c38 c39 tv tv
             | true=>
              cases al with
              | false=>
               exact gn h126 h127 h128 h129 @dk hna hnw hnr hni @aV hbn c1 c2 c3 c4 c5 c6 c7 c34 c35 c36 c37 c38 c39 tv tv
              | true=>
               exact gn h126 h127 h128 h129 @dk hna hnw hnr hni @aV hbn c1 c2 c3 c4 c5 c6 c7 c34 c35 c36 c37 c38 c39 tv tv
           | true=>
            cases c42:nm.data.toList.isEmpty with
            | false=>
             cases c43:fV nm.data.toList with
             | false=>
              exact gn h126 h127 h128 h129 @dk hN hna hnr hni @aV hbn c1 c2 c3 c4 c5 c6 c7 c34 c35 c36 c37 c42 c43 tv tv
             | true=>
              cases c44:k == 14 with
              | false=>
               cases al with
               | false=>
                exact gn h126 h127 h128 h129 @dk hN hna hnw hnr hni @aV hbn c1 c2 c3 c4 c5 c6 c7 c34 c35 c36 c37 c42 c43 c44
               | true=>
                exact gn h126 h127 h128 h129 @dk hN hna hnw hnr hni @aV hbn c1 c2 c3 c4 c5 c6 c7 c34 c35 c36 c37 c42 c43 c44
              | true=>
               cases al with
               | false=>
                exact gn h126 h127 h128 h129 @dk hN hna hnw hnr hni @aV hbn c1 c2 c3 c4 c5 c6 c7 c34 c35 c36 c37 c42 c43 c44
               | true=>
                exact gn h126 h127 h128 h129 @dk hN hna hnw hnr hni @aV hbn c1 c2 c3 c4 c5 c6 c7 c34 c35 c36 c37 c42 c43 c44
            | true=>
             exact kG h126 h127 h128 h129 @dk hna hnr hni @aV hbn c1 c2 c3 c4 c5 c6 c7 c34 c35 c36 c37 c42
          | true=>
           cases c47:nm.data.toList.isEmpty with
           | false=>
            cases c48:fV nm.data.toList with
            | false=>
             exact gn h126 h127 h128 h129 @dk hN hna hnr hni @aV hbn c1 c2 c3 c4 c5 c6 c7 c34 c35 c36 c47 c48 tv tv tv
            | true=>
             cases al with
             | false=>
              exact gn h126 h127 h128 h129 @dk hN hna hnw hnr hni @aV hbn c1 c2 c3 c4 c5 c6 c7 c34 c35 c36 c47 c48 tv tv
             | true=>
              exact gn h126 h127 h128 h129 @dk hN hna hnw hnr hni @aV hbn c1 c2 c3 c4 c5 c6 c7 c34 c35 c36 c47 c48 tv tv
           | true=>
            exact kG h126 h127 h128 h129 @dk hna hnr hni @aV hbn c1 c2 c3 c4 c5 c6 c7 c34 c35 c36 c47 tv
         | true=>
          have c35p:=of_decide_eq_true c35;cases c50:k == 14 with
          | false=>
           exact sV h126 h127 h128 h129 @dk hna hnr hni @eB c1 c2 c3 c4 c5 c6 c7 c34 c35 c50
          | true=>
           cases c51:k == 13 with
           | false=>
            cases c52:k == 15 with
            | false=>
             cases c53:nm.data.toList.isEmpty with
             | false=>
              exact gn h126 h127 h128 h129 @dk hna hnr hni @aV @eB hbn c1 c2 c3 c4 c5 c6 c7 c34 c35 c50 c51 c52 c53 tv tv
             | true=>
              cases al with
              | false=>
               exact gn h126 h127 h128 h129 @dk hna hnw hnr hni @aV @eB hbn c1 c2 c3 c4 c5 c6 c7 c34 c35 c50 c51 c52 c53 tv
              | true=>
               exact gn h126 h127 h128 h129 @dk hna hnw hnr hni @aV @eB hbn c1 c2 c3 c4 c5 c6 c7 c34 c35 c50 c51 c52 c53 tv
            | true=>
             cases c55:nm.data.toList.isEmpty with
             | false=>
              cases c56:fV nm.data.toList with
              | false=>
               exact gn h126 h127 h128 h129 @dk hN hna hnr hni @aV @eB hbn c1 c2 c3 c4 c5 c6 c7 c34 c35 c50 c51 c52 c55 c56
              | true=>
               cases al with
               | false=>
                exact JU h126 h127 h128 h129 @dk hN hna hnw hnr hni @aV @eB hbn c1 c2 c3 c4 c5 c6 c7 c34 c35 c50 c51 c52 c55 c56 tv tv tv tv tv
               | true=>
                exact JU h126 h127 h128 h129 @dk hN hna hnw hnr hni @aV @eB hbn c1 c2 c3 c4 c5 c6 c7 c34 c35 c50 c51 c52 c55 c56 tv tv tv tv tv
             | true=>
              exact gn h126 h127 h128 h129 @dk hna hnr hni @aV @eB hbn c1 c2 c3 c4 c5 c6 c7 c34 c35 c50 c51 c52 c55 tv tv
           | true=>
            cases c58:nm.data.toList.isEmpty with
            | false=>
             cases c59:fV nm.data.toList with
             | false=>
              exact gn h126 h127 h128 h129 @dk hN hna hnr hni @aV @eB hbn c1 c2 c3 c4 c5 c6 c7 c34 c35 c50 c51 c58 c59 tv
             | true=>
              cases al with
              | false=>
               exact gn h126 h127 h128 h129 @dk hN hna hnw hnr hni @aV @eB hbn c1 c2 c3 c4 c5 c6 c7 c34 c35 c50 c51 c58 c59
              | true=>
               exact gn h126 h127 h128 h129 @dk hN hna hnw hnr hni @aV @eB hbn c1 c2 c3 c4 c5 c6 c7 c34 c35 c50 c51 c58 c59
            | true=>
             exact gn h126 h127 h128 h129 @dk hna hnr hni @aV @eB hbn c1 c2 c3 c4 c5 c6 c7 c34 c35 c50 c51 c58 tv tv tv
      | true=>
       have c6p:=of_decide_eq_true c6;exact nq h126 h127 h128 h129 hna c1 c2 c3 c4 c5 c6 tv
     | true=>
      exact rG h126 h127 h128 h129 (h130 (eq_of_beq c5)) c1 c2 c3 c4 c5
end Go.Proofs.YtgkggocjoolciaaGreatDoor
namespace Go.PE
open Go Go.EvL
end Go.PE
namespace Go.Proofs.YtgkggocjoolciaaGreatDoor
open Go Go.EvL Go.PE
variable {ext:aq}
structure WE (ext:aq) (D:Nat) (x:am) (kl:List am):Prop where
 ref:∀s,Pc ext 66 [.agg x.cells] (aK 69 am.cells (dx kl)) s
 len:kl.length≤16777216
theorem Q6 {D d:Nat}{x:am} (hx:bC D (d + 1) x) (hN:aM x.cells≤16777216):∃kl,WE ext D x kl∧∀y∈kl,bC D d y∧aM y.cells + 1≤aM x.cells:=by
 obtain⟨la,lw,lr,lk,li,pt,bd,hd⟩:=hx.dec;obtain⟨n1,n2,n3,n4⟩:=hd.sizes hN;have hkb:=hd.kidsBulk;refine⟨iM (lk.getD []) (li.getD []) bd,⟨hd.kids_ok hN,by simp only [iM,List.length_append]; exact n2⟩,fun y hy=>⟨hd.kids y hy,?_⟩⟩;have:=gw (c:=am.cells) hy;omega
end Go.Proofs.YtgkggocjoolciaaGreatDoor
namespace Go.Proofs.YtgkggocjoolciaaGreatDoor
open Go Go.EvL Go.PE Go.Mir
variable {ext:aq}
theorem xU {α:Type}{c:α→List PV} (x:α) (l:List α):aM ((x :: l).flatMap c)=aM (c x) + aM (l.flatMap c):=by rw [List.flatMap_cons,iL]
mutual
theorem Cv:∀(p:aJ) (x:ar),tH p x→pP p≤2 * aM x.cells
 | .mk k t o c ps,x,h=>by
  rw [tH] at h;obtain⟨rfl,h2,rfl,rfl,y,h3,h4⟩:=h;have h5:=qM ps _ h4;have h6:=dB 150 ar.cells y;have h7:(PV.sc (.string x.text)).bulk=t.length + 1:=by rw [h2]; simp only [PV.bulk,BP]
  have b1:=rR (.sc (.int .i64 x.kind));have b2:=rR (.sc (.int .i64 x.op));have b3:=rR (.sc (.bool x.colon));simp only [ar.cells,ch,ck,h3,h7];rw [pP];omega
theorem qM:∀(l:List aJ) (xs:List ar),lz l xs→gK l≤2 * aM (xs.flatMap ar.cells)
 | [],xs,h=>by rw [gK]; exact Nat.zero_le _
 | p :: l,xs,h=>by
  obtain⟨x,xs',rfl,h1,h2⟩:=h.cons;have h3:=Cv p x h1;have h4:=qM l xs' h2;rw [gK,xU];omega
end
theorem mh {l:List aJ}{v:PV} (h:tA l v):gK l≤2 * v.bulk:=by
 obtain⟨y,rfl,h⟩:=h;have h1:=qM l _ h;have h2:=dB 150 ar.cells y;omega
def KF:PS:=⟨fun _=>⟨[],0,0⟩,0,0⟩
open Classical in
noncomputable def wR (ext:aq) (g:Nat) (a:List PV) (q:PV):Bool:=decide (∀s,aD Tryz.prog Γ ext g a s=some (q,s))
open Classical in
theorem gj {g:Nat}{a:List PV}{b:Bool} (h:∀s,aD Tryz.prog Γ ext g a s=some (.sc (.bool b),s)):wR ext g a (.sc (.bool true))=b:=by
 unfold wR;cases b with
 | true=>exact decide_eq_true h
 | false=>
  refine decide_eq_false fun hh=>?_;have h1:=hh KF;rw [h KF] at h1;cases h1
open Classical in
theorem y7 {g:Nat}{a:List PV}{b:Bool} (h:∀s,aD Tryz.prog Γ ext g a s=some (.sc (.int .i64 (if b then 0 else 1)),s)):wR ext g a (.sc (.int .i64 0))=b:=by
 unfold wR;cases b with
 | true=>exact decide_eq_true h
 | false=>
  refine decide_eq_false fun hh=>?_;have h1:=hh KF;rw [h KF] at h1;injection h1 with h1;injection h1 with h1;injection h1 with h1;injection h1 with _ h1;cases h1
noncomputable def okW (ext:aq) (v:PV):Bool:=wR ext 238 [.agg [.sc (.int .i64 0),v]] (.sc (.bool true))
noncomputable def okV (ext:aq) (v:PV):Bool:=wR ext 240 [v] (.sc (.int .i64 0))
noncomputable def okH (ext:aq) (v:PV):Bool:=wR ext 239 [v] (.sc (.bool true))
open Classical in
noncomputable def Eu (v:PV):List ar:=if h:∃y,v=aK 150 ar.cells y then (Classical.choose h).getD [] else []
theorem D3 {v:PV} (h:∃y,v=aK 150 ar.cells y):∃y,v=aK 150 ar.cells y∧y.getD []=Eu v:=by
 refine⟨Classical.choose h,Classical.choose_spec h,?_⟩;unfold Eu;rw [dif_pos h]
theorem aL.sl {d:Nat}{v:PV} (h:aL d v):∃y,v=aK 150 ar.cells y:=by
 cases d with
 | zero=>cases h
 | succ d=>
  obtain⟨y,h,_⟩:=h;exact⟨y,h⟩
theorem aL.one' {d:Nat}{v:PV} (h:aL d v):cL v=true∧az v=[v]:=by
 obtain⟨y,rfl⟩:=h.sl;exact⟨h.one,by cases y<;>rfl⟩
theorem Cx {d:Nat}{v:PV} (h:aL d v) (hb:v.bulk≤16777216) (u:PV) (s:PS):Pc ext 238 [.agg [u,v]] (.sc (.bool (okW ext v))) s:=by
 obtain⟨l,hl⟩:=h.read;have hs:=mh hl;obtain⟨r,same,_,_,_,hS⟩:=tB (ext:=ext) h hl om;obtain⟨y,hy⟩:=h.sl;have hn:=bE (e:=150) (c:=ar.cells) y;rw [← hy] at hn;have hw:=fun u=>Jk (ext:=ext) (u:=u) hn h.one'.2 hS;rw [show okW ext v=_ from gj (hw _)];exact hw u s
theorem Tp {d:Nat}{v:PV} (h:aL d v) (hb:v.bulk≤16777216) (s:PS):Pc ext 240 [v] (.sc (.int .i64 (if okV ext v then 0 else 1))) s:=by
 obtain⟨l,hl⟩:=h.read;have hs:=mh hl;obtain⟨r,same,_,_,hV,_⟩:=tB (ext:=ext) h hl om;rw [show okV ext v=_ from y7 hV];exact hV s
theorem vK {y:Option (List ar)}{N:Nat} (hb:(aK 150 ar.cells y).bulk≤N):(y.getD []).length≤N∧∀p∈y.getD [],p.text.data.toList.length≤N∧p.parts.bulk≤N:=by
 refine⟨lq rfl (fun x=>by rw [ar.len]; omega) hb,fun p hp=>?_⟩;have h1:=(du rfl hp (p:=.sc (.string p.text)) (by simp [ar.cells]) hb).1;have h2:(PV.sc (.string p.text)).bulk=p.text.data.toList.length + 1:=by simp only [PV.bulk,BP]
 exact⟨om,(du rfl hp (p:=p.parts) (by simp [ar.cells]) hb).1⟩
theorem Pz {d:Nat}{v:PV} (h:aL d v) (hb:v.bulk≤16777216) (s:PS):Pc ext 239 [v] (.sc (.bool (okH ext v))) s:=by
 obtain⟨l,hl⟩:=h.read;have hs:=mh hl;obtain⟨r,same,_,_,hS⟩:=DC (ext:=ext) h hl om;cases d with
 | zero=>cases h
 | succ d=>
  obtain⟨y,rfl,h1,h2⟩:=h;obtain⟨t1,t2⟩:=vK hb;have hw:=Ig (ext:=ext) (y:=y) om (fun p hp=>⟨by have:=(t2 p hp).1; omega,(h2 p hp).sl⟩) hS;rw [show okH ext _=_ from gj hw];exact hw s
structure aG where
 name:ByteArray
 body:am
def aG.cells (x:aG):List PV:=.sc (.string x.name) :: x.body.cells
theorem aG.len (x:aG):x.cells.length=10:=rfl
noncomputable def xG (ext:aq) (x y:am):Bool:=wR ext 59 [.agg x.cells,.agg y.cells] (.sc (.bool true))
theorem KC {D d:Nat}{x y:am} (hx:bC D d x) (hy:bC D d y):(∀s,Pc ext 46 [.agg x.cells,.agg y.cells] (.sc (.bool (xG ext x y))) s)∧∀s,Pc ext 59 [.agg x.cells,.agg y.cells] (.sc (.bool (xG ext x y))) s:=by
 obtain⟨r,h1,h2⟩:=GG (ext:=ext) d x y hx hy;rw [show xG ext x y=r from gj h2];exact⟨h1,h2⟩
noncomputable def nu (ext:aq) (x y:aG):Bool:=kh x.name y.name && xG ext x.body y.body
theorem Sx {D d:Nat}{x y:aG} (hx:bC D d x.body) (hy:bC D d y.body) (s:PS):Pc ext 45 [.agg x.cells,.agg y.cells] (.sc (.bool (nu ext x y))) s:=by
 have h:=(KC (ext:=ext) hx hy).1;have o1:=hx.ones;have o2:=hy.ones;refine mq US 4 ?_;unfold US nu;obtain⟨n,⟨k,p,nm,al,aa,ws,rs,v,is⟩⟩:=x;obtain⟨n',⟨k',p',nm',al',aa',ws',rs',v',is'⟩⟩:=y;simp only [aG.cells,am.cells] at h ⊢;have hs:(n.toList == n'.toList)=kh n n':=rfl;cases c1:kh n n' with
 | false=>exact l9 hs c1
 | true=>exact lR hs c1 h
theorem Hb {D d:Nat}{l m:List aG} (hl:∀x∈l,bC D d x.body) (hm:∀x∈m,bC D d x.body) (hlm:l.length=m.length) (hx:l.length < 1000000000000) (s:PS):∀(k i:Nat) (f:aR),i + k=l.length→f 0=.lit 71 l.length (l.flatMap aG.cells)→f 1=.lit 71 m.length (m.flatMap aG.cells)→f 5=iN i→
  Er (fun f' s'=>s'=s∧f' 4=.sc (.bool (im (nu ext) (l.drop i) (m.drop i)))) (LP Tryz.prog Γ ext 0 r7 uL f s):=by
 intro k
 induction k with
 | zero=>
  intro i f hk h0 h1 h5;have e1:decide (i < l.length)=false:=df;have ha:im (nu ext) (l.drop i) (m.drop i)=true:=by rw [List.drop_eq_nil_of_le om,List.drop_eq_nil_of_le om]; rfl
  refine ad fun L hL=>?_;exact jK @r7.eq_1 @uL.eq_1 h0 h5 e1 ha
 | succ k ih=>
  intro i f hk h0 h1 h5;have hil:i < l.length:=om;have him:i < m.length:=om;have e1:decide (i < l.length)=true:=decide_eq_true hil;have hj:l[i]?=some l[i]:=List.getElem?_eq_getElem hil;have hj2:m[i]?=some m[i]:=List.getElem?_eq_getElem him;have hfl:=aB aG.len l;have hfm:=aB aG.len m;obtain⟨rr,hk3⟩:=bU aG.len hj;obtain⟨rr2,hk4⟩:=bU aG.len hj2;have hs:=(KC (ext:=ext) (hl _ (List.getElem_mem hil)) (hm _ (List.getElem_mem him))).2;have hd:im (nu ext) (l.drop i) (m.drop i)=(nu ext l[i] m[i] && im (nu ext) (l.drop (i + 1)) (m.drop (i + 1))):=by
   rw [List.drop_eq_getElem_cons hil,List.drop_eq_getElem_cons him];rfl
  rw [hd];have hgo:=ih (i + 1);have pu56:ei Γ 59=true:=rfl;generalize l[i]=x at *;generalize m[i]=y at *;obtain⟨n,⟨k1,p,nm,al,aa,ws,rs,v,is⟩⟩:=x;obtain⟨n',⟨k',p',nm',al',aa',ws',rs',v',is'⟩⟩:=y;simp only [aG.cells,am.cells,List.cons_append,List.nil_append] at hk3 hk4 hs;simp only [nu];have hq:(n.toList == n'.toList)=kh n n':=rfl;refine ad fun L hL=>?_;cases c1:kh n n' with
  | false=>simp -implicitDefEqProofs (disch:=first | omega | (unfold cO bZ; simp<;>omega)) only [ZS,seval,ZT,ZX,r7,uL,h0,h1,h5,hil,him,hfl,hfm,hk3,hk4,au,hq,c1,pu56]
  | true=>
   generalize hcs:xG ext _ _=cs at hs ⊢;cases cs with
   | false=>simp -implicitDefEqProofs (disch:=first | omega | (unfold cO bZ; simp<;>omega)) only [ZS,seval,ZT,ZX,r7,uL,h0,h1,h5,hil,him,hfl,hfm,hk3,hk4,au,hq,c1,hs,pu56]
   | true=>
    simp -implicitDefEqProofs (disch:=first | omega | (unfold cO bZ; simp<;>omega)) only [ZS,seval,ZT,ZX,r7,h0,h1,h5,hil,him,hfl,hfm,hk3,hk4,au,hq,c1,hs,pu56];subst hL;exact hgo _ om (aX h0) (aX h1) aQ
theorem Nh {D d:Nat}{la lb:Option (List aG)} (hl:∀x∈la.getD [],bC D d x.body) (hm:∀x∈lb.getD [],bC D d x.body) (hx:(la.getD []).length < 1000000000000) (hy:(lb.getD []).length < 1000000000000) (s:PS) :
  Pc ext 20 [aK 71 aG.cells la,aK 71 aG.cells lb] (.sc (.bool (im (nu ext) (la.getD []) (lb.getD [])))) s:=by
 have h1:=bE (e:=71) (c:=aG.cells) la;have h2:=bE (e:=71) (c:=aG.cells) lb;refine q1 pG 4 ?_;unfold pG;cases cn:(la.getD []).length == (lb.getD []).length with
 | false=>
  rw [rJ (aj cn)];exact nI h1 h2 @eB cn
 | true=>
  have hn:=eq_of_beq cn;refine xz h1 h2 @eB cn ?_;cases la with
  | none=>
   have hb:lb.getD []=[]:=List.eq_nil_of_length_eq_zero hn.symm;have z0:decide ((0:Int) < 0)=false:=rfl;rw [hb];refine ad fun L hL=>?_;refine xz @r7.eq_1 @uL.eq_1 @cd z0 ?_;rfl
  | some l=>
   cases lb with
   | none=>
    have ha:l=[]:=List.eq_nil_of_length_eq_zero hn;subst ha;have z0:decide ((0:Int) < ((0:Nat):Int))=false:=rfl;refine ad fun L hL=>?_;refine xz @r7.eq_1 @uL.eq_1 @cd z0 ?_;rfl
   | some m=>
    have key:=fun f a b c=>Hb (ext:=ext) hl hm hn hx ⟨s.h,s.n,s.n⟩ l.length 0 f (Nat.zero_add _) a b c;simp only [List.drop_zero,Option.getD_some] at key;exact key _ (aX @cd) (aX @cd) aQ
theorem UX:Γ 49=some (EI 71 10 #[(.string ⟨#[]⟩),(.int .i64 0),(.int .i64 0),(.string ⟨#[]⟩),(.bool false),(.slice none 0 0),(.slice none 0 0),(.slice none 0 0),(.slice none 0 0),(.slice none 0 0)] 3):=rfl
theorem xW {α:Type}{q:α→α→Bool}{R:Nat→Bool} : ∀(l m:List α) (i0:Nat),l.length=m.length→(∀i x y,l[i]?=some x→m[i]?=some y→R (i0 + i)=q x y)→iR R i0 l.length=im q l m
 | [],[],i0,_,_=>rfl
 | [],_ :: _,_,h,_=>by cases h
 | _ :: _,[],_,h,_=>by cases h
 | p :: l,r :: m,i0,h,hr=>by
  rw [im,← hr 0 p r rfl rfl,← xW l m (i0 + 1) (by simpa using h) fun i p q h1 h2=>by
   rw [← hr (i + 1) p q (by simpa using h1) (by simpa using h2)];congr 1;omega]
  rfl
theorem NT {D d:Nat}{la lb:Option (List aG)} (hl:∀x∈la.getD [],bC D d x.body) (hm:∀x∈lb.getD [],bC D d x.body) (hx:(la.getD []).length < 1000000000000) (s:PS) :
  Pc ext 49 [aK 71 aG.cells la,aK 71 aG.cells lb,.fn 45 [] []] (.sc (.bool (im (nu ext) (la.getD []) (lb.getD [])))) s:=by
 have ones:∀{x:aG},bC D d x.body→x.cells.all cL=true:=fun {x} h=>by
  have:=h.ones;simp only [aG.cells,List.all_cons,this,Bool.and_true];rfl
 have h:=tW (P:=Tryz.prog) (ext:=ext) (e:=71) (t:=71) aG.len (by rfl) UX (l:=la) (m:=lb) (fun x hx=>hx.elim (fun h=>ones (hl x h)) (fun h=>ones (hm x h))) (g:=45) om (r:=fun i=>match (la.getD [])[i]?,(lb.getD [])[i]? with | some x,some y=>nu ext x y | _,_=>true) (fun i x y h1 h2 s=>by
  simp only [h1,h2];exact Sx (hl x (List.mem_of_getElem? h1)) (hm y (List.mem_of_getElem? h2)) s) s
 have e:((la.getD []).length == (lb.getD []).length && iR (fun i=>match (la.getD [])[i]?,(lb.getD [])[i]? with | some x,some y=>nu ext x y | _,_=>true) 0 (la.getD []).length)=im (nu ext) (la.getD []) (lb.getD []):=by
  cases cn:(la.getD []).length == (lb.getD []).length with
  | false=>rw [Bool.false_and,rJ (aj cn)]
  | true=>
   rw [Bool.true_and];exact xW _ _ 0 (eq_of_beq cn) fun i x y h1 h2=>by simp only [Nat.zero_add,h1,h2]
 rw [← e];exact h
structure cY where
 name:ByteArray
 vars:PV
 params:PV
 funcs:PV
 aliases:PV
 traps:PV
 opts:Int
 stat:Int
 pid:Int
 last:Int
 cwd:ByteArray
 gi:Int
 go:Int
 lev:Int
 talks:Bool
def cY.cells (x:cY):List PV:=[.sc (.string x.name),x.vars,x.params,x.funcs,x.aliases,x.traps,.sc (.int .i64 x.opts),.sc (.int .i64 x.stat),.sc (.int .i64 x.pid),.sc (.int .i64 x.last),.sc (.string x.cwd),.sc (.int .i64 x.gi),.sc (.int .i64 x.go),.sc (.int .i64 x.lev),.sc (.bool x.talks)]
theorem cY.len (x:cY):x.cells.length=15:=rfl
set_option maxHeartbeats 4000000 in
theorem QL {an bn ac bc:ByteArray}{av ap af aa at' bv bp bf ba bt':PV}{ao as' ai al ag ah ae bo bs bi' bl bg bh be:Int}{ak bk:Bool}{qn qv qp qf qa qt qo qs qi ql qc qg qe qk:Bool} (hn:(an.toList == bn.toList)=qn) (hc:(ac.toList == bc.toList)=qc) (ho:(ao == bo)=qo) (hs:(as' == bs)=qs) (hi:(ai == bi')=qi) (hl:(al == bl)=ql) (hg:(ag == bg && ah == bh)=qg) (he:(ae == be)=qe) (hk:(ak == bk)=qk) (cv1:az av=[av]) (cv2:az bv=[bv]) (cp1:az ap=[ap]) (cp2:az bp=[bp]) (cf1:az af=[af]) (cf2:az bf=[bf]) (ca1:az aa=[aa]) (ca2:az ba=[ba]) (ct1:az at'=[at']) (ct2:az bt'=[bt']) (h101:∀s,Pc ext 47 [av,bv] (.sc (.bool qv)) s) (h102:∀s,Pc ext 48 [ap,bp] (.sc (.bool qp)) s) (h103:∀s,Pc ext 49 [af,bf,.fn 45 [] []] (.sc (.bool qf)) s) (h104:∀s,Pc ext 50 [aa,ba] (.sc (.bool qa)) s) (h105:∀s,Pc ext 51 [at',bt'] (.sc (.bool qt)) s) (s:PS) :
  Pc ext 18 [.agg [.sc (.string an),av,ap,af,aa,at',.sc (.int .i64 ao),.sc (.int .i64 as'),.sc (.int .i64 ai),.sc (.int .i64 al),.sc (.string ac),.sc (.int .i64 ag),.sc (.int .i64 ah),.sc (.int .i64 ae),.sc (.bool ak)],.agg [.sc (.string bn),bv,bp,bf,ba,bt',.sc (.int .i64 bo),.sc (.int .i64 bs),.sc (.int .i64 bi'),.sc (.int .i64 bl),.sc (.string bc),.sc (.int .i64 bg),.sc (.int .i64 bh),.sc (.int .i64 be),.sc (.bool bk)]] (.sc (.bool (qn && (qv && (qp && (qf && (qa && (qt && (qo && (qs && (qi && (ql && (qc && (qg && (qe && (qk)))))))))))))))) s:=by
 have hb1:=fun x y a b=>gy (P:=Tryz.prog) (t:=4) Tryz.underlying4 x y a b;have hb2:=fun x y a b=>fF (P:=Tryz.prog) (t:=4) Tryz.underlying4 x y a b;have hg1:=fun i j=>(ug ag ah bg bh i j).1;have hg2:=fun i j=>(ug ag ah bg bh i j).2;simp only [hg] at hg1 hg2;refine mq lu 4 ?_;unfold lu;cases c1:qn with
 | false=>
  exact l9 hn c1
 | true=>
  cases c2:qv with
  | false=>
   exact nI hn h101 c1 c2
  | true=>
   cases c3:qp with
   | false=>
    exact jK hn h101 h102 c1 c2 c3
   | true=>
    cases c4:qf with
    | false=>
     exact vY hn h101 h102 h103 c1 c2 c3 c4
    | true=>
     cases c5:qa with
     | false=>
      exact rG hn h101 h102 h103 h104 c1 c2 c3 c4 c5
     | true=>
      cases c6:qt with
      | false=>
       exact nq hn h101 h102 h103 h104 h105 c1 c2 c3 c4 c5 c6
      | true=>
       cases c7:qo with
       | false=>
        exact qB hn ho h101 h102 h103 h104 h105 c1 c2 c3 c4 c5 c6 c7
       | true=>
        cases c8:qs with
        | false=>
         exact vj hn ho hs h101 h102 h103 h104 h105 c1 c2 c3 c4 c5 c6 c7 c8
        | true=>
         cases c9:qi with
         | false=>
          exact sV hn ho hs hi h101 h102 h103 h104 h105 c1 c2 c3 c4 c5 c6 c7 c8 c9 tv
         | true=>
          cases c10:ql with
          | false=>
           exact kG hn ho hs hi hl h101 h102 h103 h104 h105 c1 c2 c3 c4 c5 c6 c7 c8 c9 c10 tv tv
          | true=>
           cases c11:qc with
           | false=>
            exact kG hn hc ho hs hi hl h101 h102 h103 h104 h105 c1 c2 c3 c4 c5 c6 c7 c8 c9 c10 c11
           | true=>
            cases c12:qg with
            | false=>
             exact gn hn hc ho hs hi hl hg2 h101 h102 h103 h104 h105 c1 c2 c3 c4 c5 c6 c7 c8 c9 c10 c11 c12 tv tv
            | true=>
             cases c13:qe with
             | false=>
              exact gn hn hc ho hs hi hl he hg2 h101 h102 h103 h104 h105 c1 c2 c3 c4 c5 c6 c7 c8 c9 c10 c11 c12 c13
             | true=>
              exact JU hn hc ho hs hi hl he hk hg2 hb1 h101 h102 h103 h104 h105 c1 c2 c3 c4 c5 c6 c7 c8 c9 c10 c11 c12 c13 tv tv tv tv
set_option maxHeartbeats 4000000 in
theorem QZ {an bn ac bc:ByteArray}{av ap af aa at' bv bp bf ba bt':PV}{ao as' ai al ag ah ae bo bs bi' bl bg bh be:Int}{ak bk:Bool}{qn qv qp qf qa qt qo qs qi ql qc qg qe qk:Bool} (hn:(an.toList == bn.toList)=qn) (hc:(ac.toList == bc.toList)=qc) (ho:(ao == bo)=qo) (hs:(as' == bs)=qs) (hi:(ai == bi')=qi) (hl:(al == bl)=ql) (hg:(ag == bg && ah == bh)=qg) (he:(ae == be)=qe) (hk:(ak == bk)=qk) (cv1:az av=[av]) (cv2:az bv=[bv]) (cp1:az ap=[ap]) (cp2:az bp=[bp]) (cf1:az af=[af]) (cf2:az bf=[bf]) (ca1:az aa=[aa]) (ca2:az ba=[ba]) (ct1:az at'=[at']) (ct2:az bt'=[bt']) (h42:∀s,Pc ext 10 [av,bv] (.sc (.bool qv)) s) (h43:∀s,Pc ext 11 [ap,bp] (.sc (.bool qp)) s) (h82:∀s,Pc ext 20 [af,bf] (.sc (.bool qf)) s) (h44:∀s,Pc ext 12 [aa,ba] (.sc (.bool qa)) s) (h83:∀s,Pc ext 21 [at',bt'] (.sc (.bool qt)) s) (s:PS) :
  Pc ext 7 [.agg [.sc (.string an),av,ap,af,aa,at',.sc (.int .i64 ao),.sc (.int .i64 as'),.sc (.int .i64 ai),.sc (.int .i64 al),.sc (.string ac),.sc (.int .i64 ag),.sc (.int .i64 ah),.sc (.int .i64 ae),.sc (.bool ak)],.agg [.sc (.string bn),bv,bp,bf,ba,bt',.sc (.int .i64 bo),.sc (.int .i64 bs),.sc (.int .i64 bi'),.sc (.int .i64 bl),.sc (.string bc),.sc (.int .i64 bg),.sc (.int .i64 bh),.sc (.int .i64 be),.sc (.bool bk)]] (.sc (.bool (qn && (qo && (qs && (qi && (ql && (qc && (qg && (qe && (qk && (qv && (qp && (qf && (qa && (qt)))))))))))))))) s:=by
 have hb1:=fun x y a b=>gy (P:=Tryz.prog) (t:=4) Tryz.underlying4 x y a b;have hb2:=fun x y a b=>fF (P:=Tryz.prog) (t:=4) Tryz.underlying4 x y a b;have hg1:=fun i j=>(ug ag ah bg bh i j).1;have hg2:=fun i j=>(ug ag ah bg bh i j).2;simp only [hg] at hg1 hg2;refine mq p7 4 ?_;unfold p7;cases c1:qn with
 | false=>
  exact l9 hn c1
 | true=>
  cases c2:qo with
  | false=>
   exact tg hn ho @eB c1 c2
  | true=>
   cases c3:qs with
   | false=>
    exact tD hn ho hs @eB c1 c2 c3
   | true=>
    cases c4:qi with
    | false=>
     exact wF hn ho hs hi @eB c1 c2 c3 c4
    | true=>
     cases c5:ql with
     | false=>
      exact nq hn ho hs hi hl @eB c1 c2 c3 c4 c5 tv
     | true=>
      cases c6:qc with
      | false=>
       exact qB hn hc ho hs hi hl @eB c1 c2 c3 c4 c5 c6 tv
      | true=>
       cases c7:qg with
       | false=>
        exact vj hn hc ho hs hi hl hg1 @eB c1 c2 c3 c4 c5 c6 c7 tv
       | true=>
        cases c8:qe with
        | false=>
         exact sV hn hc ho hs hi hl he hg1 @eB c1 c2 c3 c4 c5 c6 c7 c8 tv tv
        | true=>
         cases c9:qk with
         | false=>
          exact kG hn hc ho hs hi hl he hk hg1 hb2 @eB c1 c2 c3 c4 c5 c6 c7 c8 c9 tv tv
         | true=>
          cases c10:qv with
          | false=>
           exact kG hn hc ho hs hi hl he hk hg1 hb2 @eB h42 c1 c2 c3 c4 c5 c6 c7 c8 c9 c10
          | true=>
           cases c11:qp with
           | false=>
            exact gn hn hc ho hs hi hl he hk hg1 hb2 @eB h42 h43 c1 c2 c3 c4 c5 c6 c7 c8 c9 c10 c11 tv tv
           | true=>
            cases c12:qf with
            | false=>
             exact gn hn hc ho hs hi hl he hk hg1 hb2 @eB h42 h43 h82 c1 c2 c3 c4 c5 c6 c7 c8 c9 c10 c11 c12
            | true=>
             cases c13:qa with
             | false=>
              exact JU hn hc ho hs hi hl he hk hg1 hb2 @eB h42 h43 h82 h44 c1 c2 c3 c4 c5 c6 c7 c8 c9 c10 c11 c12 c13 tv tv tv tv
             | true=>
              exact JU hn hc ho hs hi hl he hk hg1 hb2 @eB h42 h43 h82 h44 h83 c1 c2 c3 c4 c5 c6 c7 c8 c9 c10 c11 c12 c13 tv tv tv
end Go.Proofs.YtgkggocjoolciaaGreatDoor
namespace Go.PE
open Go Go.EvL
section
variable {P:Program}{Γ:Nat→Option fJ}{ext:aq}
theorem uQ {g r:Nat}{fn:fJ}{args:List PV}{s:PS} (hg:Γ g=some fn) (hl:args.length≤fn.nt) (hr:fn.res=[.tmp r]) (hk:fn.keep=false) (h:Er (fun f' s'=>s.n≤s'.w∧∃b:Bool,f' r=.sc (.bool b)) (aN P Γ ext fn.body (br args 0) ⟨s.h,s.n,s.n⟩)):∃b:Bool,aD P Γ ext g args s=some (.sc (.bool b),s):=by
 obtain⟨f',s',e,hw,b,hb⟩:=h;exact⟨b,eI hg hl hr hk ⟨f',s',e,hw,hb⟩⟩
end
end Go.PE
namespace Go.Proofs.YtgkggocjoolciaaGreatDoor
open Go Go.EvL Go.PE Go.Mir
variable {ext:aq}
def vR (t:List UInt8):Bool:=decide (t.length≤60) || decide (4096 < t.length)
theorem iS {b:ByteArray} (s:PS):Pc ext 31 [.sc (.string b)] (.sc (.bool (vR b.data.toList))) s:=by
 refine q1 DU 2 ?_;unfold DU vR;cases c1:decide (b.data.toList.length≤60) with
 | true=>exact aX c1
 | false=>exact aX c1
theorem KR {xs:List dw} (hx:xs.length < 1000000000000) {n0:Nat}{s:PS} (hn:n0≤s.w):∀(k i:Nat) (f:aR),i + k=xs.length→f 0=.lit 43 xs.length (xs.flatMap dw.cells)→f 3=iN i→
  Er (fun f' s'=>n0≤s'.w∧∃b:Bool,f' 2=.sc (.bool b)) (LP Tryz.prog Γ ext 0 pO vZ f s):=by
 intro k
 induction k with
 | zero=>
  intro i f hk h0 h3;have e1:decide (i < xs.length)=false:=df;refine ad fun L hL=>?_;refine wP @pO.eq_1 @vZ.eq_1 h0 h3 e1 ?_;exact⟨hn,_,rfl⟩
 | succ k ih=>
  intro i f hk h0 h3;have hl:i < xs.length:=om;have e1:decide (i < xs.length)=true:=decide_eq_true hl;have hj:xs[i]?=some xs[i]:=List.getElem?_eq_getElem hl;have hfl:=aB (c:=dw.cells) (es:=5) (fun _=>rfl) xs;obtain⟨rr,hk3⟩:=bU (c:=dw.cells) (es:=5) (fun _=>rfl) hj;have hgo:=ih (i + 1);generalize xs[i]=x at hk3;obtain⟨n,v,a1,a2,a3⟩:=x;simp only [dw.cells,List.cons_append,List.nil_append] at hk3;refine ad fun L hL=>?_;cases c2:decide (i≤130) with
  | false=>
   refine u0 @pO.eq_1 @vZ.eq_1 h0 h3 c2 hl ?_;exact⟨hn,_,rfl⟩
  | true=>
  cases c3:decide (60 < n.data.toList.length) with
  | true=>
   refine wA @pO.eq_1 @vZ.eq_1 h0 h3 c2 c3 hl hfl hk3 @au ?_;exact⟨hn,_,rfl⟩
  | false=>
  cases c4:decide (60 < v.data.toList.length) with
  | false=>
   refine wA @pO.eq_1 h0 h3 c2 c3 c4 hl hfl hk3 @au ?_;subst hL;exact hgo _ om (aX h0) aQ
  | true=>
  cases c5:decide (v.data.toList.length≤4096) with
  | true=>
   refine mT @pO.eq_1 @vZ.eq_1 h0 h3 c2 c3 c4 c5 hl hfl hk3 @au ?_;exact⟨hn,_,rfl⟩
  | false=>
   refine mT @pO.eq_1 h0 h3 c2 c3 c4 c5 hl hfl hk3 @au tv ?_;subst hL;exact hgo _ om (aX h0) aQ
theorem Iu {y:Option (List dw)} (hx:(y.getD []).length < 1000000000000) (s:PS):∃b:Bool,Pc ext 29 [aK 43 dw.cells y] (.sc (.bool b)) s:=by
 refine uQ (fn:=BO) (r:=2) (by rfl) (by simp [BO]) (by rfl) (by rfl) ?_;unfold BO;cases y with
 | none=>
  have z0:decide ((0:Int) < 0)=false:=rfl;refine pJ @cd ?_;refine ad fun L hL=>?_;simp -implicitDefEqProofs (disch:=omega) only [ZS,seval,pO,vZ,z0]
  all_goals first | exact⟨Nat.le_refl _,_,rfl⟩ | exact⟨_,rfl⟩
 | some xs=>
  refine pJ @cd ?_;exact KR (xs:=xs) hx (n0:=s.n) aQ xs.length 0 _ (Nat.zero_add _) aQ aQ
theorem MW {xs:List ByteArray} (hx:xs.length < 1000000000000) {n0:Nat}{s:PS} (hn:n0≤s.w):∀(k i:Nat) (f:aR),i + k=xs.length→f 0=.lit 9 xs.length (xs.flatMap fj)→f 3=iN i→
  Er (fun f' s'=>n0≤s'.w∧∃b:Bool,f' 2=.sc (.bool b)) (LP Tryz.prog Γ ext 0 th xj f s):=by
 intro k
 induction k with
 | zero=>
  intro i f hk h0 h3;have e1:decide (i < xs.length)=false:=df;refine ad fun L hL=>?_;refine wP @th.eq_1 @xj.eq_1 h0 h3 e1 ?_;exact⟨hn,_,rfl⟩
 | succ k ih=>
  intro i f hk h0 h3;have hl:i < xs.length:=om;have e1:decide (i < xs.length)=true:=decide_eq_true hl;have hj:xs[i]?=some xs[i]:=List.getElem?_eq_getElem hl;have hfl:=aB (c:=fj) (es:=1) (fun _=>rfl) xs;obtain⟨rr,hk3⟩:=bU (c:=fj) (es:=1) (fun _=>rfl) hj;have hgo:=ih (i + 1);generalize xs[i]=x at hk3;simp only [fj,List.cons_append,List.nil_append,Nat.mul_one] at hk3 hfl;refine ad fun L hL=>?_;cases c2:decide (i≤514) with
  | false=>
   refine u0 @th.eq_1 @xj.eq_1 h0 h3 c2 hl ?_;exact⟨hn,_,rfl⟩
  | true=>
  cases c3:vR x.data.toList with
  | false=>
   refine mT @th.eq_1 @xj.eq_1 h0 h3 c2 c3 hl hfl hk3 @Nat.mul_one @au @iS ?_;exact⟨hn,_,rfl⟩
  | true=>
   refine mT @th.eq_1 h0 h3 c2 c3 hl hfl hk3 @Nat.mul_one @au @iS tv ?_;subst hL;exact hgo _ om (aX h0) aQ
theorem Mi {y:Option (List ByteArray)} (hx:(y.getD []).length < 1000000000000) (s:PS):∃b:Bool,Pc ext 30 [aK 9 fj y] (.sc (.bool b)) s:=by
 refine uQ (fn:=BN) (r:=2) (by rfl) (by simp [BN]) (by rfl) (by rfl) ?_;unfold BN;cases y with
 | none=>
  have z0:decide ((0:Int) < 0)=false:=rfl;refine pJ @cd ?_;refine ad fun L hL=>?_;simp -implicitDefEqProofs (disch:=omega) only [ZS,seval,th,xj,z0]
  all_goals first | exact⟨Nat.le_refl _,_,rfl⟩ | exact⟨_,rfl⟩
 | some xs=>
  refine pJ @cd ?_;exact MW (xs:=xs) hx (n0:=s.n) aQ xs.length 0 _ (Nat.zero_add _) aQ aQ
noncomputable def TP (ext:aq) (x:am) (la:List ax) (lw:List aw) (lr:List aA) (lk:List am) (li:List aF) (pt:aF→Option (List aw)) (bd:aF→Option (List am)):Bool:=
 eQ x.kind (kinds lk) && ((lw.all fun w=>okW ext w.parts) && (lr.all (Aa (okW ext) (okH ext)) && (li.all (rU (okW ext) pt bd) &&
  if x.kind == 1 then oH (okV ext) Eu x la lw lr.length li.length else JP x.kind x.name.data.toList x.all la.length lw.length lr.length li.length)))
theorem cu {α:Type}{e:Nat}{c:α→List PV} (y:Option (List α)):az (aK e c y)=[aK e c y]:=by cases y<;>rfl
theorem Fu {D d:Nat}{x:am}{la:Option (List ax)}{lw:Option (List aw)}{lr:Option (List aA)}{lk:Option (List am)}{li:Option (List aF)}{pt:aF→Option (List aw)}{bd:aF→Option (List am)} (hd:Hr D d x la lw lr lk li pt bd) (hN:aM x.cells≤16777216) (s:PS) :
  Pc ext 218 [.agg x.cells] (.sc (.bool (oH (okV ext) Eu x (la.getD []) (lw.getD []) (lr.getD []).length (li.getD []).length))) s:=by
 obtain⟨n1,n2,n3,n4⟩:=hd.sizes hN;have hA:=fun a (ha:a∈la.getD [])=>hd.words a.val (by
  simp only [eC,List.mem_append,List.mem_map];exact .inl (.inl (.inl ⟨a,ha,rfl⟩)))
 have hW:=fun w (hw:w∈lw.getD [])=>hd.words w (by
  simp only [eC,List.mem_append];exact .inl (.inl (.inr hw)))
 have hba:x.assigns.bulk≤16777216:=Nat.le_trans (ga (by simp [am.cells])) hN;have hbw:x.words.bulk≤16777216:=Nat.le_trans (ga (by simp [am.cells])) hN;have hav:∀a∈la.getD [],∀s,Pc ext 240 [a.parts] (.sc (.int .i64 (if okV ext a.parts then 0 else 1))) s:=fun a ha s=>
  Tp (hA a ha) (du hd.a ha (p:=a.parts) (by simp [ax.cells]) hba).1 s
 have hac:∀a∈la.getD [],a.name.data.toList.length < 1000000000000∧az a.parts=[a.parts]:=fun a ha=>by
  have h1:=(du hd.a ha (p:=.sc (.string a.name)) (by simp [ax.cells]) hba).1;have h2:(PV.sc (.string a.name)).bulk=a.name.data.toList.length + 1:=by simp only [PV.bulk,BP]
  exact⟨om,(hA a ha).one'.2⟩
 have hw:∃y:Option (List ar),((lw.getD []).length=0∧gq false x.words=some (.sc (.int .i64 0))∧lw.getD []=[])∨∃w r,lw.getD []=w :: r∧(lw.getD []).length=(lw.getD []).length∧x.words=.lit 97 (lw.getD []).length ((lw.getD []).flatMap aw.cells)∧w.parts=aK 150 ar.cells y∧Eu w.parts=y.getD []∧(y.getD []).length < 1000000000000∧∀p∈y.getD [],p.text.data.toList.length < 1000000000000:=by
  have hxw:=hd.w;cases lw with
  | none=>exact⟨none,.inl ⟨rfl,by rw [hxw]; rfl,rfl⟩⟩
  | some l=>
   cases l with
   | nil=>exact⟨none,.inl ⟨rfl,by rw [hxw]; rfl,rfl⟩⟩
   | cons w r=>
    have hp:=hW w (List.mem_cons_self ..);obtain⟨y,hy,hy2⟩:=D3 hp.sl;have hb:=(du hd.w (x:=w) (List.mem_cons_self ..) (p:=w.parts) (by simp [aw.cells]) hbw).1;rw [hy] at hb;obtain⟨t1,t2⟩:=vK hb;exact⟨y,.inr ⟨w,r,rfl,rfl,hxw,hy,hy2.symm,om,fun p hp=>by have:=(t2 p hp).1; omega⟩⟩
 obtain⟨y,hw⟩:=hw;have hr:=bE (e:=124) (c:=aA.cells) lr;have hi:=bE (e:=129) (c:=aF.cells) li;have ha:=bE (e:=99) (c:=ax.cells) la;rw [← hd.r] at hr;rw [← hd.i] at hi;rw [← hd.a] at ha;obtain⟨k,p,nm,al,aa,ws,rs,v,is⟩:=x;simp only at hr hi ha hw;have hrest:=fun (b n0:Nat) (s:PS) (h1:n0≤s.w) (h2:s.h b=_) f h3=>G1 (ext:=ext) (k:=k) (p:=p) (nm:=nm) (al:=al) (aa:=aa) (ws:=ws) (rs:=rs) (v:=v) (is:=is) (na:=(la.getD []).length) (nw:=(lw.getD []).length) (nr:=(lr.getD []).length) (ni:=(li.getD []).length) (lw:=lw.getD []) (y:=y) om om h1 h2 ha hr hi (hw.imp id fun ⟨w,r,e1,e2,e3,e4,_,e5,e6⟩=>⟨w,r,e1,rfl,e3,e4,e5,e6⟩) om f h3;have hm:mW (lw.getD []) (fun _=>gJ (y.getD []))=mW (lw.getD []) (fun w=>gJ (Eu w.parts)):=by
  rcases hw with ⟨_,_,h⟩ | ⟨w,r,h,_,_,_,h2,_⟩
  ·rw [h];rfl
  ·rw [h];show gJ _=gJ _;rw [h2]
 rw [hm] at hrest;have hxa:=hd.a;simp only at hxa;clear hm hw;refine mq RD 2 ?_;unfold RD oH;simp only [am.cells];cases la with
 | none=>
  have z0:decide ((0:Int) < 0)=false:=rfl;simp only [Option.getD_none,List.all_nil,Bool.true_and,List.length_nil,Nat.zero_add] at hrest ⊢;refine yZ ?_;refine ad fun L hL=>?_;simp only [aK] at hxa;subst hxa;refine BW @nL.eq_1 z0 ?_;exact hrest s.n _ _ aQ aQ _ aQ
 | some l=>
  simp only [Option.getD_some] at hrest hav hac n1 ⊢;refine yZ ?_;exact Oe (x:=⟨k,p,nm,al,aa,ws,rs,v,is⟩) (b:=s.n) (n0:=s.n) om aQ (aX @am.cells.eq_1) hxa hav hac (fun f h=>hrest s.n _ _ aQ aQ f h) l.length 0 _ (Nat.zero_add _) aQ aQ
theorem C3 {D d:Nat}{x:am}{la:Option (List ax)}{lw:Option (List aw)}{lr:Option (List aA)}{lk:Option (List am)}{li:Option (List aF)}{pt:aF→Option (List aw)}{bd:aF→Option (List am)} (hd:Hr D d x la lw lr lk li pt bd) (hN:aM x.cells≤16777216) (s:PS) :
  Pc ext 179 [.agg x.cells] (.sc (.bool (TP ext x (la.getD []) (lw.getD []) (lr.getD []) (lk.getD []) (li.getD []) pt bd))) s:=by
 obtain⟨n1,n2,n3,n4⟩:=hd.sizes hN;have hW:=fun w (hw:w∈lw.getD [])=>hd.words w (by
  simp only [eC,List.mem_append];exact .inl (.inl (.inr hw)))
 have hR:=fun r (hr:r∈lr.getD [])=>hd.words r.tgt (by
  simp only [eC,List.mem_append,List.mem_map];exact .inl (.inr ⟨r,hr,rfl⟩))
 have hI:=fun it (hi:it∈li.getD []) w (hw:w∈(pt it).getD [])=>hd.words w (by
  simp only [eC,List.mem_append,List.mem_flatMap];exact .inr ⟨it,hi,hw⟩)
 have hmem:∀p∈x.cells,p.bulk≤16777216:=fun p hp=>Nat.le_trans (ga hp) hN;have hbw:=hmem x.words (by simp [am.cells]);have hbr:=hmem x.redirs (by simp [am.cells]);have hbi:=hmem x.items (by simp [am.cells]);have hbn:=hmem (.sc (.string x.name)) (by simp [am.cells]);rw [show (PV.sc (.string x.name)).bulk=x.name.data.toList.length + 1 by simp only [PV.bulk,BP]] at hbn;have hpb:∀it∈li.getD [],it.pats.bulk≤16777216∧it.body.bulk≤16777216:=fun it hi=>
  ⟨(du hd.i hi (p:=it.pats) (by simp [aF.cells]) hbi).1,(du hd.i hi (p:=it.body) (by simp [aF.cells]) hbi).1⟩
 have h1:=fun s=>Pm (ext:=ext) hd.k om s;have h2:=fun s=>JF (ext:=ext) (y:=lw) (ok:=fun w=>okW ext w.parts) om (fun w hw s=>Cx (hW w hw) (du hd.w hw (p:=w.parts) (by simp [aw.cells]) hbw).1 _ s) s;have hrb:=fun r (hr:r∈lr.getD [])=>(du hd.r hr (p:=r.parts) (by simp [aA.cells]) hbr).1;have h3:=fun s=>Hy (ext:=ext) (y:=lr) (okW:=okW ext) (okH:=okH ext) om (fun r hr=>(hR r hr).one') (fun r hr s=>Cx (hR r hr) (hrb r hr) _ s) (fun r hr s=>Pz (hR r hr) (hrb r hr) s) s;have h4:=fun s=>LF (ext:=ext) (y:=li) (okW:=okW ext) (pt:=pt) (bd:=bd) om hd.hpt hd.hbd (fun it hi w hw s=>Cx (hI it hi w hw) (du (hd.hpt it hi) hw (p:=w.parts) (by simp [aw.cells]) (hpb it hi).1).1 _ s) (fun it hi=>⟨by have:=lq (hd.hpt it hi) (fun x=>by rw [aw.len]; omega) (hpb it hi).1; omega,by have:=lq (hd.hbd it hi) (fun x=>by rw [am.len]; omega) (hpb it hi).2; omega⟩) s;have h5:=fun s=>Fu (ext:=ext) hd hN s;have l1:=bE (e:=99) (c:=ax.cells) la;have l2:=bE (e:=97) (c:=aw.cells) lw;have l3:=bE (e:=124) (c:=aA.cells) lr;have l4:=bE (e:=129) (c:=aF.cells) li;have c1:=cu (e:=99) (c:=ax.cells) la;have c2:=cu (e:=97) (c:=aw.cells) lw;have c3:=cu (e:=124) (c:=aA.cells) lr;have c4:=cu (e:=129) (c:=aF.cells) li;rw [← hd.a] at l1 c1;rw [← hd.w] at l2 c2 h2;rw [← hd.r] at l3 c3 h3;rw [← hd.i] at l4 c4 h4;exact Jo (ext:=ext) om l1 l2 l3 l4 c1 c2 c3 c4 h1 h2 h3 h4 (fun _=>h5) s
theorem Li {x:cY}{la:List b9} (hx:la.length < 1000000000000) {b n0:Nat}{s:PS} (hn:n0≤s.w) (hb:s.h b=⟨x.cells,0,30⟩) (ha:x.aliases=aK 58 b9.cells (some la)) {z:Int} : ∀(k i:Nat) (f:aR),i + k=la.length→f 1=.ptr b 0 15→f 3=.sc (.int .i64 z)→f 5=iN i→
  Er (fun f' s'=>n0≤s'.w∧∃b:Bool,f' 2=.sc (.bool b)) (LP Tryz.prog Γ ext 2 tw xL f s):=by
 obtain⟨nm,vs,ps,fs,als,ts,o,st,pi,la',cw,gi,go,le,tk⟩:=x;simp only at ha;simp only [cY.cells] at hb;subst ha;intro k
 induction k with
 | zero=>
  intro i f hk h1 h3 h5;have e1:decide (i < la.length)=false:=df;refine ad fun L hL=>?_;refine Fe @tw.eq_1 @xL.eq_1 h1 h3 h5 hb @cd e1 ?_;exact⟨hn,_,rfl⟩
 | succ k ih=>
  intro i f hk h1 h3 h5;have hl:i < la.length:=om;have e1:decide (i < la.length)=true:=decide_eq_true hl;have hj:la[i]?=some la[i]:=List.getElem?_eq_getElem hl;have hfl:=aB (c:=b9.cells) (es:=2) (fun _=>rfl) la;obtain⟨rr,hk3⟩:=bU (c:=b9.cells) (es:=2) (fun _=>rfl) hj;have hgo:=ih (i + 1);generalize la[i]=y at hk3;obtain⟨n,v⟩:=y;simp only [b9.cells,List.cons_append,List.nil_append] at hk3;refine ad fun L hL=>?_;cases c3:vR v.data.toList with
  | false=>
   refine mT @tw.eq_1 @xL.eq_1 h1 h5 hb @cd c3 hl hfl hk3 @au @iS ?_;exact⟨hn,_,rfl⟩
  | true=>
   refine mT @tw.eq_1 h1 h5 hb @cd c3 hl hfl hk3 @au @iS tv ?_;subst hL;exact hgo _ om (aX h1) (aX h3) aQ
theorem MX {x:cY}{la:Option (List b9)} (hx:(la.getD []).length < 1000000000000) {b n0:Nat}{s:PS} (hn:n0≤s.w) (hb:s.h b=⟨x.cells,0,30⟩) (ha:x.aliases=aK 58 b9.cells la) {z:Int} (f:aR) (h1:f 1=.ptr b 0 15) (h3:f 3=.sc (.int .i64 z)) :
  Er (fun f' s'=>n0≤s'.w∧∃b:Bool,f' 2=.sc (.bool b)) (aN Tryz.prog Γ ext xX f s):=by
 cases la with
 | some l=>
  have key:=fun f a b c=>Li (ext:=ext) hx hn hb ha (z:=z) l.length 0 f (Nat.zero_add _) a b c;unfold xX;refine yZ ?_;exact key _ (aX h1) (aX h3) aQ
 | none=>
  have z0:decide ((0:Int) < 0)=false:=rfl;obtain⟨nm,vs,ps,fs,als,ts,o,st,pi,la',cw,gi,go,le,tk⟩:=x;simp only [aK] at ha;simp only [cY.cells] at hb;subst ha;unfold xX;refine yZ ?_;refine ad fun L hL=>?_;refine u0 @tw.eq_1 @xL.eq_1 h1 h3 hb z0 ?_;exact⟨hn,_,rfl⟩
theorem Lf {x:cY}{lf:List aG} (hx:lf.length < 1000000000000) {b n0:Nat}{s:PS} (hn:n0≤s.w) (hb:s.h b=⟨x.cells,0,30⟩) (hf:x.funcs=aK 71 aG.cells (some lf)) (hw:∀y∈lf,∃z:Int,Pc ext 32 [.agg y.body.cells] (.sc (.int .i64 z)) s)
  (hR:∀f z,f 1=.ptr b 0 15→f 3=.sc (.int .i64 z)→Er (fun f' s'=>n0≤s'.w∧∃b:Bool,f' 2=.sc (.bool b)) (aN Tryz.prog Γ ext xX f s)):∀(k i:Nat) (z:Int) (f:aR),i + k=lf.length→f 1=.ptr b 0 15→f 3=.sc (.int .i64 z)→f 4=iN i→
  Er (fun f' s'=>n0≤s'.w∧∃b:Bool,f' 2=.sc (.bool b)) (LP Tryz.prog Γ ext 0 rh xX f s):=by
 obtain⟨nm,vs,ps,fs,als,ts,o,st,pi,la',cw,gi,go,le,tk⟩:=x;simp only at hf;simp only [cY.cells] at hb;subst hf;intro k
 induction k with
 | zero=>
  intro i z f hk h1 h3 h4;have e1:decide (i < lf.length)=false:=df;have hgo:=hR;refine ad fun L hL=>?_;refine u0 @rh.eq_1 h1 h4 hb @cd e1 ?_;exact hgo _ z (aX h1) (aX h3)
 | succ k ih=>
  intro i z f hk h1 h3 h4;have hl:i < lf.length:=om;have e1:decide (i < lf.length)=true:=decide_eq_true hl;have hj:lf[i]?=some lf[i]:=List.getElem?_eq_getElem hl;have hfl:=aB aG.len lf;obtain⟨rr,hk3⟩:=bU aG.len hj;obtain⟨z',hz⟩:=hw _ (List.getElem_mem hl);have hgo:=ih (i + 1);have hgo2:=hR;generalize lf[i]=y at hk3 hz;obtain⟨n,⟨k1,p,nm',al,aa,ws,rs,v,is⟩⟩:=y;simp only [aG.cells,am.cells,List.cons_append,List.nil_append] at hk3 hz;refine ad fun L hL=>?_;cases c2:decide (z≤2000) with
  | false=>
   refine Fe @rh.eq_1 h1 h3 h4 hb @cd e1 c2 ?_;exact hgo2 _ z (aX h1) (aX h3)
  | true=>
   refine mT @rh.eq_1 h1 h3 h4 hb @cd c2 hl hfl hk3 @au hz ?_;subst hL;exact hgo _ _ om (aX h1) aQ aQ
structure iq (D d:Nat) (x:cY) (lv:Option (List dw)) (lp:Option (List ByteArray)) (lf:Option (List aG)) (la:Option (List b9)) (lt:Option (List aT)):Prop where
 v:x.vars=aK 43 dw.cells lv
 p:x.params=aK 9 fj lp
 f:x.funcs=aK 71 aG.cells lf
 a:x.aliases=aK 58 b9.cells la
 t:x.traps=aK 46 aT.cells lt
 nv:(lv.getD []).length≤16777216
 np:(lp.getD []).length≤16777216
 nf:(lf.getD []).length≤16777216
 na:(la.getD []).length≤16777216
 nt:(lt.getD []).length≤16777216
 node:∀y∈lf.getD [],bC D d y.body∧aM y.body.cells≤16777216
 name:x.name.data.toList.length≤16777216
 cwd:x.cwd.data.toList.length≤16777216
theorem Mc {D d:Nat}{x:cY}{lv:Option (List dw)}{lp:Option (List ByteArray)}{lf:Option (List aG)}{la:Option (List b9)}{lt:Option (List aT)} (h:iq D d x lv lp lf la lt) (s:PS):∃b:Bool,Pc ext 13 [.agg x.cells] (.sc (.bool b)) s:=by
 obtain⟨bv,hv⟩:=Classical.axiomOfChoice fun s=>Iu (ext:=ext) (y:=lv) (by have:=h.nv; omega) s;obtain⟨bp,hp⟩:=Classical.axiomOfChoice fun s=>Mi (ext:=ext) (y:=lp) (by have:=h.np; omega) s;have hw:=fun s (y:aG) (hy:y∈lf.getD [])=>Gh (ext:=ext) d y.body (h.node y hy).1 (h.node y hy).2 s;have h1:=bE (e:=71) (c:=aG.cells) lf;have h2:=bE (e:=58) (c:=b9.cells) la;have h3:=bE (e:=46) (c:=aT.cells) lt;have c1:=cu (e:=43) (c:=dw.cells) lv;have c2:=cu (e:=9) (c:=fj) lp;have c3:=cu (e:=71) (c:=aG.cells) lf;have c4:=cu (e:=58) (c:=b9.cells) la;have c5:=cu (e:=46) (c:=aT.cells) lt;have hR:=fun (b n0:Nat) (s:PS) (hn:n0≤s.w) (hb:s.h b=_) z f a c=>MX (ext:=ext) (la:=la) (by have:=h.na; omega) hn hb h.a (z:=z) f a c;have hL:=fun l (e:x.funcs=aK 71 aG.cells (some l)) hl (b n0:Nat) (s:PS) (hn:n0≤s.w) (hb:s.h b=_) hw hR=>Lf (ext:=ext) (x:=x) (lf:=l) hl hn hb e hw hR;have hnode:=h.node;have hlf:=h.nf;have hhf:=h.f;have hhv:=h.v;have hhp:=h.p;have hha:=h.a;have hht:=h.t;clear h;refine uQ (fn:=iQ) (r:=2) (by rfl) (by simp [iQ]) (by rfl) (by rfl) ?_;unfold iQ;obtain⟨nm,vs,ps,fs,als,ts,o,st,pi,la',cw,gi,go,le,tk⟩:=x;simp only at hhf hhv hhp hha hht;rw [← hhv] at hv c1;rw [← hhp] at hp c2;rw [← hhf] at h1 c3;rw [← hha] at h2 c4;rw [← hht] at h3 c5;simp only [cY.cells] at hR hL ⊢;generalize hs1:((⟨s.h,s.n,s.n⟩ : PS).new ⟨[.sc (.string nm),vs,ps,fs,als,ts,.sc (.int .i64 o),.sc (.int .i64 st),.sc (.int .i64 pi),.sc (.int .i64 la'),.sc (.string cw),.sc (.int .i64 gi),.sc (.int .i64 go),.sc (.int .i64 le),.sc (.bool tk)],0,30⟩)=s1;have q1:s1.h s.n=⟨[.sc (.string nm),vs,ps,fs,als,ts,.sc (.int .i64 o),.sc (.int .i64 st),.sc (.int .i64 pi),.sc (.int .i64 la'),.sc (.string cw),.sc (.int .i64 gi),.sc (.int .i64 go),.sc (.int .i64 le),.sc (.bool tk)],0,30⟩:=by rw [← hs1]; simp only [PS.new,if_true]
 have q2:s1.w=s.n:=by rw [← hs1]; rfl
 have hw1:s.n≤s1.w:=by rw [q2]; exact Nat.le_refl _
 cases d1:bv s1 with
 | false=>
  have hv1:=hv s1;rw [d1] at hv1;refine P7 hs1 q1 hv1 ?_;exact⟨hw1,_,rfl⟩
 | true=>
 have hv1:=hv s1;rw [d1] at hv1;cases d2:bp s1 with
 | false=>
  have hp1:=hp s1;rw [d2] at hp1;refine xz hs1 q1 hv1 hp1 ?_;exact⟨hw1,_,rfl⟩
 | true=>
 have hp1:=hp s1;rw [d2] at hp1;cases d3:vR nm.data.toList with
 | false=>simp -implicitDefEqProofs (disch:=omega) only [ZS,seval,hs1,q1,hv1,hp1,iS,d3]; exact⟨hw1,_,rfl⟩
 | true=>
 cases d4:decide (66 < (lf.getD []).length) with
 | true=>simp -implicitDefEqProofs (disch:=omega) only [ZS,seval,hs1,q1,hv1,hp1,iS,d3,h1,d4]; exact⟨hw1,_,rfl⟩
 | false=>
 cases d5:decide (66 < (la.getD []).length) with
 | true=>simp -implicitDefEqProofs (disch:=omega) only [ZS,seval,hs1,q1,hv1,hp1,iS,d3,h1,d4,h2,d5]; exact⟨hw1,_,rfl⟩
 | false=>
 cases d6:decide (25 < (lt.getD []).length) with
 | true=>simp -implicitDefEqProofs (disch:=omega) only [ZS,seval,hs1,q1,hv1,hp1,iS,d3,h1,d4,h2,d5,h3,d6]; exact⟨hw1,_,rfl⟩
 | false=>
 cases d7:decide (300 < cw.data.toList.length) with
 | true=>simp -implicitDefEqProofs (disch:=omega) only [ZS,seval,hs1,q1,hv1,hp1,iS,d3,h1,d4,h2,d5,h3,d6,d7]; exact⟨hw1,_,rfl⟩
 | false=>
  have hR1:=fun z f a c=>hR s.n s.n s1 hw1 q1 z f a c;cases lf with
  | none=>
   have z0:decide ((0:Int) < 0)=false:=rfl;simp only [aK] at hhf;subst hhf;refine pK hs1 q1 hv1 hp1 @iS d3 h1 d4 h2 d5 h3 d6 d7 tv ?_;refine ad fun L hL=>?_;refine P7 @rh.eq_1 q1 z0 ?_;exact hR1 0 _ aQ aQ
  | some l=>
   have hL1:=hL l hhf (by have:l.length≤16777216:=hlf; omega) s.n s.n s1 hw1 q1 (fun y hy=>hw s1 y hy) (fun f z a c=>hR1 z f a c) l.length 0 0;refine pK hs1 q1 hv1 hp1 @iS d3 h1 d4 h2 d5 h3 d6 d7 tv ?_;exact hL1 _ (Nat.zero_add _) aQ aQ aQ
theorem G9 {kl:List am}{ok:am→Bool} (hx:kl.length < 1000000000000) (h:∀y∈kl,∀s,Pc ext 153 [.agg y.cells] (.sc (.bool (ok y))) s) {n0:Nat}{s:PS} (hn:n0≤s.w):∀(k i:Nat) (f:aR),i + k=kl.length→f 3=aK 69 am.cells (some kl)→f 4=iN i→
  Er (fun f' s'=>n0≤s'.w∧f' 2=.sc (.bool ((kl.drop i).all ok))) (LP Tryz.prog Γ ext 0 qS wE f s):=by
 intro k
 induction k with
 | zero=>
  intro i f hk h3 h4;have e1:decide (i < kl.length)=false:=df;have ha:(kl.drop i).all ok=true:=by rw [List.drop_eq_nil_of_le om]; rfl
  refine ad fun L hL=>?_;simp only [aK] at h3;refine u0 @qS.eq_1 @wE.eq_1 h3 h4 e1 ha ?_;exact hn
 | succ k ih=>
  intro i f hk h3 h4;have hl:i < kl.length:=om;have e1:decide (i < kl.length)=true:=decide_eq_true hl;have hj:kl[i]?=some kl[i]:=List.getElem?_eq_getElem hl;have hfl:=aB am.len kl;have hk3:=kB am.len hj;have hc:=h _ (List.getElem_mem hl);have hgo:=ih (i + 1);rw [List.drop_eq_getElem_cons hl,List.all_cons];generalize kl[i]=y at hk3 hc ⊢;simp only [am.cells] at hk3 hc;simp only [aK] at h3;refine ad fun L hL=>?_;cases c:ok y with
  | false=>
   rw [c] at hc;refine Fe @qS.eq_1 @wE.eq_1 h3 h4 hl hfl hk3 hc ?_;exact hn
  | true=>
   rw [c] at hc;refine MS @qS.eq_1 h3 h4 hl hfl hk3 hc ?_;subst hL;exact hgo _ om (aX h3) aQ
theorem FV {x:am}{kl:List am}{o:Bool}{ok:am→Bool} (hx:kl.length < 1000000000000) (ho:∀s,Pc ext 179 [.agg x.cells] (.sc (.bool o)) s) (hk:∀s,Pc ext 66 [.agg x.cells] (aK 69 am.cells (dx kl)) s)
  (h:∀y∈kl,∀s,Pc ext 153 [.agg y.cells] (.sc (.bool (ok y))) s) (s:PS):Pc ext 153 [.agg x.cells] (.sc (.bool (o && kl.all ok))) s:=by
 refine mq R9 2 ?_;unfold R9;simp only [am.cells] at ho hk ⊢;cases o with
 | false=>
  exact aX ho
 | true=>
  rw [Bool.true_and];cases kl with
  | nil=>
   have z0:decide ((0:Int) < 0)=false:=rfl;simp only [dx,aK] at hk;refine BW ho hk ?_;refine ad fun L hL=>?_;exact lR @qS.eq_1 @wE.eq_1 z0
  | cons y l=>
   simp only [dx,aK] at hk;refine BW ho hk ?_;exact G9 (kl:=y :: l) hx h (n0:=s.n) aQ (y :: l).length 0 _ (Nat.zero_add _) (aX @cd) aQ
noncomputable def kI (ext:aq) (x:am):Bool:=wR ext 153 [.agg x.cells] (.sc (.bool true))
noncomputable def uy (ext:aq) (x:am):Bool:=wR ext 179 [.agg x.cells] (.sc (.bool true))
theorem Cw {D:Nat} : ∀(d:Nat) (x:am),bC D d x→aM x.cells≤16777216→(∀s,Pc ext 153 [.agg x.cells] (.sc (.bool (kI ext x))) s)∧(∀s,Pc ext 179 [.agg x.cells] (.sc (.bool (uy ext x))) s)∧
  ∀kl,(∀s,Pc ext 66 [.agg x.cells] (aK 69 am.cells (dx kl)) s)→kI ext x=(uy ext x && kl.all (kI ext)):=by
 intro d
 induction d with
 | zero=>intro x h; cases h
 | succ d ih=>
  intro x hx hN;obtain⟨la,lw,lr,lk,li,pt,bd,hd⟩:=hx.dec;have ho:=fun s=>C3 (ext:=ext) hd hN s;have hoo:∀s,Pc ext 179 [.agg x.cells] (.sc (.bool (uy ext x))) s:=fun s=>by
   rw [show uy ext x=_ from gj ho];exact ho s
  obtain⟨kl,hk,hy⟩:=Q6 (ext:=ext) hx hN;have hf:=fun s=>FV (ext:=ext) (ok:=kI ext) (by have:=hk.len; omega) hoo hk.ref (fun y hm=>(ih y (hy y hm).1 (by have:=(hy y hm).2; omega)).1) s;have hb:kI ext x=(uy ext x && kl.all (kI ext)):=gj hf;refine⟨fun s=>by rw [hb]; exact hf s,hoo,fun kl' hk'=>?_⟩;have h1:=(hk.ref KF).symm.trans (hk' KF);injection h1 with h1;injection h1 with h1;have h2:dx kl=dx kl':=eF am.inj am.len h1;have h3:kl=kl':=by rw [← bV kl,← bV kl',h2]
  rw [hb,h3]
theorem Nv (a b:Nat):Ik true (a:Int) (b:Int)=((max a b:Nat):Int):=by
 unfold Ik;simp only [if_true];split<;>omega
open Classical in
noncomputable def Ll (ext:aq) (g:Nat) (a:List PV):Nat:=if h:∃n:Nat,∀s,aD Tryz.prog Γ ext g a s=some (iN n,s) then Classical.choose h else 0
theorem EL {g:Nat}{a:List PV}{n:Nat} (h:∀s,aD Tryz.prog Γ ext g a s=some (iN n,s)):Ll ext g a=n:=by
 unfold Ll;have hx:∃n:Nat,∀s,aD Tryz.prog Γ ext g a s=some (iN n,s):=⟨n,h⟩
 rw [dif_pos hx];have h1:=(Classical.choose_spec hx KF).symm.trans (h KF);injection h1 with h1;injection h1 with h1;injection h1 with h1;injection h1 with _ h1;omega
theorem G7 {kl:List am}{g:am→Nat} (hx:kl.length < 1000000000000) (h:∀y∈kl,∀s,Pc ext 152 [.agg y.cells] (iN (g y)) s) {n0:Nat}{s:PS} (hn:n0≤s.w):∀(k i acc:Nat) (f:aR),i + k=kl.length→acc + ((kl.drop i).map g).sum < 1000000000000→f 3=aK 69 am.cells (some kl)→f 4=iN acc→f 5=iN i→
  Er (fun f' s'=>n0≤s'.w∧f' 2=.sc (.int .i64 ((acc + ((kl.drop i).map g).sum:Nat):Int))) (LP Tryz.prog Γ ext 0 sH ym f s):=by
 intro k
 induction k with
 | zero=>
  intro i acc f hk hb h3 h4 h5;have e1:decide (i < kl.length)=false:=df;have ha:acc + ((kl.drop i).map g).sum=acc:=by rw [List.drop_eq_nil_of_le om]; rfl
  rw [ha];refine ad fun L hL=>?_;simp only [aK] at h3;refine u0 @sH.eq_1 @ym.eq_1 h3 h4 h5 e1 ?_;exact hn
 | succ k ih=>
  intro i acc f hk hb h3 h4 h5;have hl:i < kl.length:=om;have e1:decide (i < kl.length)=true:=decide_eq_true hl;have hj:kl[i]?=some kl[i]:=List.getElem?_eq_getElem hl;have hfl:=aB am.len kl;have hk3:=kB am.len hj;have hc:=h _ (List.getElem_mem hl);have hd:acc + ((kl.drop i).map g).sum=acc + g kl[i] + ((kl.drop (i + 1)).map g).sum:=by
   rw [List.drop_eq_getElem_cons hl,List.map_cons,List.sum_cons,Nat.add_assoc]
  have hgo:=ih (i + 1) (acc + g kl[i]);rw [hd] at hb ⊢;have hq:acc + g kl[i] < 1000000000000:=om;generalize kl[i]=y at *;simp only [am.cells] at hk3 hc;simp only [aK] at h3;refine ad fun L hL=>?_;refine Fe @sH.eq_1 h3 h4 h5 hl hfl hk3 hc ?_;subst hL;exact hgo _ om hb (aX h3) aQ aQ
def tP (l:List Nat) (a:Nat):Nat:=l.foldl max a
theorem EJ {B:Nat} : ∀(l:List Nat) (a:Nat),a≤B→(∀x∈l,x≤B)→tP l a≤B
 | [],a,h,_=>h
 | x :: l,a,h,hl=>EJ l (max a x) (Nat.max_le.2 ⟨h,hl x (List.mem_cons_self ..)⟩) fun y hy=>hl y (List.mem_cons_of_mem _ hy)
theorem E0 {kl:List am}{g:am→Nat} (hx:kl.length < 1000000000000) (h:∀y∈kl,∀s,Pc ext 151 [.agg y.cells] (iN (g y)) s) {n0:Nat}{s:PS} (hn:n0≤s.w):∀(k i acc:Nat) (f:aR),i + k=kl.length→tP ((kl.drop i).map g) acc < 1000000000000→f 3=aK 69 am.cells (some kl)→f 4=iN acc→f 5=iN i→
  Er (fun f' s'=>n0≤s'.w∧f' 2=.sc (.int .i64 ((tP ((kl.drop i).map g) acc + 1:Nat):Int))) (LP Tryz.prog Γ ext 0 so yK f s):=by
 intro k
 induction k with
 | zero=>
  intro i acc f hk hb h3 h4 h5;have e1:decide (i < kl.length)=false:=df;have ha:tP ((kl.drop i).map g) acc=acc:=by rw [List.drop_eq_nil_of_le om]; rfl
  rw [ha] at hb ⊢;refine ad fun L hL=>?_;simp only [aK] at h3;refine u0 @so.eq_1 @yK.eq_1 h3 h4 h5 e1 ?_;exact hn
 | succ k ih=>
  intro i acc f hk hb h3 h4 h5;have hl:i < kl.length:=om;have e1:decide (i < kl.length)=true:=decide_eq_true hl;have hj:kl[i]?=some kl[i]:=List.getElem?_eq_getElem hl;have hfl:=aB am.len kl;have hk3:=kB am.len hj;have hc:=h _ (List.getElem_mem hl);have hd:tP ((kl.drop i).map g) acc=tP ((kl.drop (i + 1)).map g) (max acc (g kl[i])):=by
   rw [List.drop_eq_getElem_cons hl,List.map_cons];rfl
  have hgo:=ih (i + 1) (max acc (g kl[i]));rw [hd] at hb ⊢;generalize kl[i]=y at *;simp only [am.cells] at hk3 hc;simp only [aK] at h3;refine ad fun L hL=>?_;refine Di @so.eq_1 h3 h4 h5 hl hfl hk3 hc @Nv ?_;subst hL;exact hgo _ om hb (aX h3) aQ aQ
theorem Hd {x:am}{kl:List am}{g:am→Nat} (hx:kl.length < 1000000000000) (hb : 1 + (kl.map g).sum < 1000000000000) (hk:∀s,Pc ext 66 [.agg x.cells] (aK 69 am.cells (dx kl)) s)
  (h:∀y∈kl,∀s,Pc ext 152 [.agg y.cells] (iN (g y)) s) (s:PS):Pc ext 152 [.agg x.cells] (iN (1 + (kl.map g).sum:Nat)) s:=by
 refine mq Pg 2 ?_;unfold Pg;simp only [am.cells] at hk ⊢;cases kl with
 | nil=>
  have z0:decide ((0:Int) < 0)=false:=rfl;simp only [dx,aK] at hk;refine pJ hk ?_;refine ad fun L hL=>?_;refine P7 @sH.eq_1 @ym.eq_1 z0 ?_
  first | rfl | exact⟨Nat.le_refl _,rfl⟩
 | cons y l=>
  simp only [dx,aK] at hk;refine pJ hk ?_;exact G7 (kl:=y :: l) hx h (n0:=s.n) aQ (y :: l).length 0 1 _ (Nat.zero_add _) hb (aX @cd) aQ aQ
theorem DD {x:am}{kl:List am}{g:am→Nat} (hx:kl.length < 1000000000000) (hb:tP (kl.map g) 0 < 1000000000000) (hk:∀s,Pc ext 66 [.agg x.cells] (aK 69 am.cells (dx kl)) s)
  (h:∀y∈kl,∀s,Pc ext 151 [.agg y.cells] (iN (g y)) s) (s:PS):Pc ext 151 [.agg x.cells] (iN (tP (kl.map g) 0 + 1:Nat)) s:=by
 refine mq Q7 2 ?_;unfold Q7;simp only [am.cells] at hk ⊢;cases kl with
 | nil=>
  have z0:decide ((0:Int) < 0)=false:=rfl;have z1:IntKind.i64.wrap ((0:Int) + 1)=1:=rfl;simp only [dx,aK] at hk;refine pJ hk ?_;refine ad fun L hL=>?_;refine xz @so.eq_1 @yK.eq_1 z0 z1 ?_
  first | rfl | exact⟨Nat.le_refl _,rfl⟩
 | cons y l=>
  simp only [dx,aK] at hk;refine pJ hk ?_;exact E0 (kl:=y :: l) hx h (n0:=s.n) aQ (y :: l).length 0 0 _ (Nat.zero_add _) hb (aX @cd) aQ aQ
theorem xR {g:am→Nat} : ∀l:List am,(∀y∈l,g y≤aM y.cells)→(l.map g).sum≤aM (l.flatMap am.cells)
 | [],_=>Nat.zero_le _
 | y :: l,h=>by
  have h1:=h y (List.mem_cons_self ..);have h2:=xR l fun z hz=>h z (List.mem_cons_of_mem _ hz);rw [List.map_cons,List.sum_cons,xU];omega
noncomputable def kM (ext:aq) (x:am):Nat:=Ll ext 152 [.agg x.cells]
noncomputable def iy (ext:aq) (x:am):Nat:=Ll ext 151 [.agg x.cells]
structure Vy (ext:aq) (x:am):Prop where
 r16:∀s,Pc ext 152 [.agg x.cells] (iN (kM ext x)) s
 r18:∀s,Pc ext 151 [.agg x.cells] (iN (iy ext x)) s
 s1:kM ext x≤aM x.cells
 d1:iy ext x≤aM x.cells
theorem CC {D:Nat} : ∀(d:Nat) (x:am),bC D d x→aM x.cells≤16777216→Vy ext x∧∀kl,(∀s,Pc ext 66 [.agg x.cells] (aK 69 am.cells (dx kl)) s)→kM ext x=1 + (kl.map (kM ext)).sum∧iy ext x=tP (kl.map (iy ext)) 0 + 1:=by
 intro d
 induction d with
 | zero=>intro x h; cases h
 | succ d ih=>
  intro x hx hN;obtain⟨la,lw,lr,lk,li,pt,bd,hd⟩:=hx.dec;have hkb:=hd.kidsBulk;obtain⟨n1,n2,n3,n4⟩:=hd.sizes hN;have hr:=fun s=>hd.kids_ok (ext:=ext) hN s;have hall:=hd.kids;generalize hkl:iM (lk.getD []) (li.getD []) bd=kl at *;have hlen:kl.length≤16777216:=by
   have h1:=sB (kl.flatMap am.cells);have h2:=aB am.len kl;omega
  have hY:=fun y hy=>(ih y (hall y hy) (n4 y hy)).1;have hs1:=xR (g:=kM ext) kl fun y hy=>(hY y hy).s1;have hm:tP (kl.map (iy ext)) 0 + 1≤aM x.cells:=by
   have:tP (kl.map (iy ext)) 0≤aM (kl.flatMap am.cells):=EJ _ _ (Nat.zero_le _) fun z hz=>by
    obtain⟨y,hy,rfl⟩:=List.mem_map.1 hz;exact Nat.le_trans (hY y hy).d1 (gw hy)
   omega
  have a1:=fun s=>Hd (ext:=ext) (x:=x) (g:=kM ext) om om hr (fun y hy=>(hY y hy).r16) s;have a3:=fun s=>DD (ext:=ext) (x:=x) (g:=iy ext) om om hr (fun y hy=>(hY y hy).r18) s;have e1:kM ext x=1 + (kl.map (kM ext)).sum:=EL a1;have e2:iy ext x=tP (kl.map (iy ext)) 0 + 1:=EL a3;refine⟨⟨fun s=>by rw [e1]; exact a1 s,fun s=>by rw [e2]; exact a3 s,om,om⟩,fun kl' hk'=>?_⟩;have h1:=(hr KF).symm.trans (hk' KF);injection h1 with h1;injection h1 with h1;have h2:dx kl=dx kl':=eF am.inj am.len h1;have h3:kl=kl':=by rw [← bV kl,← bV kl',h2]
  rw [← h3];exact⟨e1,e2⟩
noncomputable def qL (ext:aq) (x:am):Int:=if decide (32 < iy ext x) then 5 else if decide (2048 < kM ext x) then 4 else if kI ext x then 0 else 1
theorem EU {D d:Nat}{x:am} (hx:bC D d x) (hN:aM x.cells≤16777216) (s:PS):Pc ext 108 [.agg x.cells] (.sc (.int .i64 (qL ext x))) s:=by
 have hz:=(CC (ext:=ext) d x hx hN).1;have h1:=hz.r16;have h2:=hz.r18;have h3:=(Cw (ext:=ext) d x hx hN).1;have hs1:=hz.s1;have hs2:=hz.d1;refine mq QK 2 ?_;unfold QK qL;generalize kM ext x=m at *;generalize iy ext x=n at *;simp only [am.cells] at h1 h2 h3 ⊢;cases c1:decide (32 < n) with
 | true=>simp -implicitDefEqProofs (disch:=omega) only [ZS,seval,h2,c1]; all_goals exact Nat.le_refl _
 | false=>
  cases c2:decide (2048 < m) with
  | true=>exact nI h1 h2 c1 c2
  | false=>
   cases c3:kI ext x with
   | true=>rw [c3] at h3; simp -implicitDefEqProofs (disch:=omega) only [ZS,seval,h1,h2,h3,c1,c2]; all_goals exact Nat.le_refl _
   | false=>rw [c3] at h3; simp -implicitDefEqProofs (disch:=omega) only [ZS,seval,h1,h2,h3,c1,c2]; all_goals exact Nat.le_refl _
end Go.Proofs.YtgkggocjoolciaaGreatDoor
namespace Go.Mir
mutual
def Lz:aJ→aJ→Bool
 | .mk k t o c ps,.mk k' t' o' c' qs=>(k == k' && (t == t' && (o == o' && c == c'))) && kF ps qs
def kF:List aJ→List aJ→Bool
 | [],[]=>true
 | p :: ps,q :: qs=>Lz p q && kF ps qs
 | [],_ :: _=>false
 | _ :: _,[]=>false
end
def kg:aJ→List aJ
 | .mk _ _ _ _ ps=>ps
theorem Ab:∀{l m:List aJ},l.length≠m.length→kF l m=false
 | [],[],h=>absurd rfl h
 | [],_ :: _,_=>by rw [kF]
 | _ :: _,[],_=>by rw [kF]
 | p :: l,q :: m,h=>by
  rw [kF,Ab (fun e=>h (by rw [List.length_cons,List.length_cons,e])),Bool.and_false]
end Go.Mir
namespace Go.Proofs.YtgkggocjoolciaaGreatDoor
open Go Go.EvL Go.PE Go.Mir
variable {ext:aq}
theorem ar.inj (x y:ar) (h:x.cells=y.cells):x=y:=by
 obtain⟨a,b,c,d,e⟩:=x;obtain⟨a',b',c',d',e'⟩:=y;simp only [ar.cells] at h;injection h with h1 h;injection h with h2 h;injection h with h3 h;injection h with h4 h;injection h with h5 h;cases h1; cases h2; cases h3; cases h4; cases h5;rfl
theorem xE {R:Nat→Bool} : ∀(l m:List aJ) (i0:Nat),l.length=m.length→(∀i p q,l[i]?=some p→m[i]?=some q→R (i0 + i)=Lz p q)→iR R i0 l.length=kF l m
 | [],[],i0,_,_=>by rw [kF]; rfl
 | [],_ :: _,_,h,_=>by cases h
 | _ :: _,[],_,h,_=>by cases h
 | p :: l,q :: m,i0,h,hr=>by
  rw [kF,← hr 0 p q rfl rfl,← xE l m (i0 + 1) (by simpa using h) fun i p q h1 h2=>by
   rw [← hr (i + 1) p q (by simpa using h1) (by simpa using h2)];congr 1;omega]
  rfl
theorem lz.at:∀{l:List aJ}{xs:List ar}{i:Nat}{x:ar},lz l xs→xs[i]?=some x→∃p,l[i]?=some p∧tH p x
 | [],_,_,_,h,hx=>by rw [h.nil] at hx; simp at hx
 | p :: l,_,i,x,h,hx=>by
  obtain⟨y,xs',rfl,h1,h2⟩:=h.cons;cases i with
  | zero=>injection hx with hx; subst hx; exact⟨p,rfl,h1⟩
  | succ i=>exact lz.at (i:=i) h2 (by simpa using hx)
theorem tH.kids {p:aJ}{x:ar} (h:tH p x):tA (kg p) x.parts:=by
 cases p with
 | mk k t o c ps=>
  rw [tH] at h;obtain⟨_,_,_,_,y,h1,h2⟩:=h;exact⟨y,h1,h2⟩
theorem Pa {p q:aJ}{x y:ar} (h:tH p x) (k:tH q y):(x.eqB y && kF (kg p) (kg q))=Lz p q:=by
 cases p with
 | mk k1 t1 o1 c1 ps=>
  cases q with
  | mk k2 t2 o2 c2 qs=>
   rw [tH] at h k;obtain⟨rfl,h2,rfl,rfl,_⟩:=h;obtain⟨rfl,k2,rfl,rfl,_⟩:=k;rw [Lz,ar.eqB,h2,k2,ByteArray.toList_eq,ByteArray.toList_eq];rfl
theorem Ix:∀(d:Nat) (a b:PV) (l m:List aJ),aL d a→aL d b→tA l a→tA m b→(∀s,aD Tryz.prog Γ ext 141 [a,b] s=some (.sc (.bool (kF l m)),s))∧∀s,aD Tryz.prog Γ ext 149 [a,b] s=some (.sc (.bool (kF l m)),s):=by
 intro d
 induction d with
 | zero=>intro a b l m h; cases h
 | succ d ih=>
  rintro a b L M ⟨l,rfl,hl,hl'⟩ ⟨m,rfl,hm,hm'⟩ ⟨l2,e1,hL⟩ ⟨m2,e2,hM⟩;obtain rfl:=eF ar.inj ar.len e1;obtain rfl:=eF ar.inj ar.len e2;have hr:∀(i:Nat) (x y:ar) (p q:aJ),(l.getD [])[i]?=some x→(m.getD [])[i]?=some y→L[i]?=some p→M[i]?=some q→(∀s,aD Tryz.prog Γ ext 141 [x.parts,y.parts] s=some (.sc (.bool (kF (kg p) (kg q))),s))∧∀s,aD Tryz.prog Γ ext 149 [x.parts,y.parts] s=some (.sc (.bool (kF (kg p) (kg q))),s):=by
   intro i x y p q h1 h2 h3 h4;obtain⟨p',g1,g2⟩:=hL.at h1;obtain⟨q',g3,g4⟩:=hM.at h2;rw [h3] at g1;rw [h4] at g3;injection g1 with g1;injection g3 with g3;subst g1;subst g3;exact ih _ _ _ _ (hl' x (List.mem_of_getElem? h1)) (hm' y (List.mem_of_getElem? h2)) g2.kids g4.kids
  have hln:=hL.length;have hmn:=hM.length;have hR:∃r:Nat→Bool,∀i p q,L[i]?=some p→M[i]?=some q→r i=kF (kg p) (kg q):=⟨fun i=>match L[i]?,M[i]? with
   | some p,some q=>kF (kg p) (kg q)
   | _,_=>true,fun i p q h1 h2=>by simp only [h1,h2]⟩
  obtain⟨r,hrr⟩:=hR;have hat:∀{i:Nat}{x:ar},(l.getD [])[i]?=some x→∃p,L[i]?=some p∧tH p x:=fun h=>hL.at h;have hbt:∀{i:Nat}{y:ar},(m.getD [])[i]?=some y→∃q,M[i]?=some q∧tH q y:=fun h=>hM.at h;have hfin:((l.getD []).length == (m.getD []).length && iR (fun i=>(match (l.getD [])[i]?,(m.getD [])[i]? with | some x,some y=>x.eqB y | _,_=>true) && r i) 0 (l.getD []).length)=kF L M:=by
   rw [hln,hmn];cases hc:L.length == M.length with
   | false=>rw [Bool.false_and,Ab (aj hc)]
   | true=>
    rw [Bool.true_and];refine xE L M 0 (eq_of_beq hc) fun i p q h1 h2=>?_;have i1:=(List.getElem?_eq_some_iff.1 h1).1;have i2:=(List.getElem?_eq_some_iff.1 h2).1;obtain⟨p',g1,g2⟩:=hat (i:=i) (List.getElem?_eq_getElem om);obtain⟨q',g3,g4⟩:=hbt (i:=i) (List.getElem?_eq_getElem om);rw [h1] at g1;rw [h2] at g3;injection g1 with g1;injection g3 with g3;subst g1;subst g3;simp only [Nat.zero_add,List.getElem?_eq_getElem (show i < (l.getD []).length by omega),List.getElem?_eq_getElem (show i < (m.getD []).length by omega)];rw [hrr i p q h1 h2];exact Pa g2 g4
  have hpq:∀(i:Nat) (x y:ar),(l.getD [])[i]?=some x→(m.getD [])[i]?=some y→(∀s,aD Tryz.prog Γ ext 141 [x.parts,y.parts] s=some (.sc (.bool (r i)),s))∧∀s,aD Tryz.prog Γ ext 149 [x.parts,y.parts] s=some (.sc (.bool (r i)),s):=fun i x y h1 h2=>by
   obtain⟨p,g1,_⟩:=hat h1;obtain⟨q,g2,_⟩:=hbt h2;rw [hrr i p q g1 g2];exact hr i x y p q h1 h2 g1 g2
  rw [← hfin];refine⟨fun s=>?_,fun s=>?_⟩
  ·have h132:=tW (P:=Tryz.prog) (ext:=ext) (e:=150) (t:=150) ar.len (by rfl) SC (l:=l) (m:=m) (fun x hx=>hx.elim (fun h=>ar.ones (hl' x h)) (fun h=>ar.ones (hm' x h))) (g:=177) hl (r:=fun i=>(match (l.getD [])[i]?,(m.getD [])[i]? with | some x,some y=>x.eqB y | _,_=>true) && r i) (fun i x y h1 h2 s=>by
    simp only [h1,h2];exact Sj x y s (r i) (hpq i x y h1 h2).1)
   rw [dT (fn:=Dg) (by rfl) _ _ (by simp [Dg])];simp -implicitDefEqProofs only [ZS,seval,ZX,Dg,br,List.map_cons,List.map_nil,List.append_nil,h132]
  ·refine sN hl (G:=149) (nt:=61) (inner:=oY) (by rw [← Ro]; rfl) om (fun i x y h1 h2 f s hin=>?_) s;have h:=Rw (ext:=ext) x y (hl' x (List.mem_of_getElem? h1)).one (hm' y (List.mem_of_getElem? h2)).one (r i) (hpq i x y h1 h2).2 h1 h2 f s hin;simp only [h1,h2];exact h
end Go.Proofs.YtgkggocjoolciaaGreatDoor
namespace Go.Mir
end Go.Mir
namespace Go.PE
open Go Go.EvL
end Go.PE
namespace Go.Proofs.YtgkggocjoolciaaGreatDoor
open Go Go.EvL Go.PE Go.Mir
variable {ext:aq}
def X6 (ext:aq) (g h:Nat) (fa:List PV) (a b:PV) (r:Bool):Prop:=((∀s,aD Tryz.prog Γ ext g (a :: b :: fa) s=some (.sc (.bool r),s))∧∀s,aD Tryz.prog Γ ext h [a,b] s=some (.sc (.bool r),s))∧(∀s,aD Tryz.prog Γ ext g (b :: a :: fa) s=some (.sc (.bool r),s))∧∀s,aD Tryz.prog Γ ext h [b,a] s=some (.sc (.bool r),s)
section
variable {ext:aq}
theorem iO {α:Type}{q:α→α→Bool} : ∀{l:List α},(∀x∈l,q x x=true)→im q l l=true
 | [],_=>rfl
 | x :: l,h=>by rw [im,h x (List.mem_cons_self ..),iO fun a ha=>h a (List.mem_cons_of_mem _ ha),Bool.and_self]
theorem g9 (a:ByteArray):kh a a=true:=by unfold kh; rw [beq_self_eq_true]
theorem QY (n v p f a t o s i l c g e k:Bool):(n && (o && (s && (i && (l && (c && (g && (e && (k && (v && (p && (f && (a && t)))))))))))))=(n && (v && (p && (f && (a && (t && (o && (s && (i && (l && (c && (g && (e && k))))))))))))):=by
 cases n<;>cases v<;>cases p<;>cases f<;>cases a<;>cases t<;>simp
theorem NA {D d:Nat}{x y:cY}{lv lv':Option (List dw)}{lp lp':Option (List ByteArray)}{lf lf':Option (List aG)}{la la':Option (List b9)}{lt lt':Option (List aT)} (h:iq D d x lv lp lf la lt) (k:iq D d y lv' lp' lf' la' lt') :
  ∃Q:Bool,Q=(kh x.name y.name && (im DX (lv.getD []) (lv'.getD []) && (im kh (lp.getD []) (lp'.getD []) && (im (nu ext) (lf.getD []) (lf'.getD []) && (im qI (la.getD []) (la'.getD []) && (im A3 (lt.getD []) (lt'.getD []) && (x.opts == y.opts && (x.stat == y.stat && (x.pid == y.pid && (x.last == y.last && (kh x.cwd y.cwd && ((x.gi == y.gi && x.go == y.go) && (x.lev == y.lev && x.talks == y.talks)))))))))))))∧
   (∀s,Pc ext 18 [.agg x.cells,.agg y.cells] (.sc (.bool Q)) s)∧∀s,Pc ext 7 [.agg x.cells,.agg y.cells] (.sc (.bool Q)) s:=by
 have g1:=k.nv;have g2:=k.np;have g3:=k.nf;have g4:=k.na;have g5:=k.nt;have v1:=fun s=>zC (ext:=ext) VI (la:=lv) (lb:=lv') (CJ _ _) (by have:=h.nv; omega) om s;have v2:=fun s=>qb (ext:=ext) VL (la:=lv) (lb:=lv') (CJ _ _) (by have:=h.nv; omega) om s;have p1:=fun s=>zC (ext:=ext) Vk (la:=lp) (lb:=lp') (Cq _ _) (by have:=h.np; omega) om s;have p2:=fun s=>qb (ext:=ext) VS (la:=lp) (lb:=lp') (Cq _ _) (by have:=h.np; omega) om s;have a1:=fun s=>zC (ext:=ext) UL (la:=la) (lb:=la') (uF _ _) (by have:=h.na; omega) om s;have a2:=fun s=>qb (ext:=ext) W1 (la:=la) (lb:=la') (uF _ _) (by have:=h.na; omega) om s;have t1:=fun s=>zC (ext:=ext) UG (la:=lt) (lb:=lt') (Eh _ _) (by have:=h.nt; omega) om s;have t2:=fun s=>qb (ext:=ext) Wq (la:=lt) (lb:=lt') (Eh _ _) (by have:=h.nt; omega) om s;have f1:=fun s=>NT (ext:=ext) (la:=lf) (lb:=lf') (fun z hz=>(h.node z hz).1) (fun z hz=>(k.node z hz).1) (by have:=h.nf; omega) s;have f2:=fun s=>Nh (ext:=ext) (la:=lf) (lb:=lf') (fun z hz=>(h.node z hz).1) (fun z hz=>(k.node z hz).1) (by have:=h.nf; omega) om s;have cv1:=cu (e:=43) (c:=dw.cells) lv;have cv2:=cu (e:=43) (c:=dw.cells) lv';have cp1:=cu (e:=9) (c:=fj) lp;have cp2:=cu (e:=9) (c:=fj) lp';have cf1:=cu (e:=71) (c:=aG.cells) lf;have cf2:=cu (e:=71) (c:=aG.cells) lf';have ca1:=cu (e:=58) (c:=b9.cells) la;have ca2:=cu (e:=58) (c:=b9.cells) la';have ct1:=cu (e:=46) (c:=aT.cells) lt;have ct2:=cu (e:=46) (c:=aT.cells) lt';rw [← h.v] at v1 v2 cv1;rw [← k.v] at v1 v2 cv2;rw [← h.p] at p1 p2 cp1;rw [← k.p] at p1 p2 cp2;rw [← h.f] at f1 f2 cf1;rw [← k.f] at f1 f2 cf2;rw [← h.a] at a1 a2 ca1;rw [← k.a] at a1 a2 ca2;rw [← h.t] at t1 t2 ct1;rw [← k.t] at t1 t2 ct2;refine⟨_,rfl,fun s=>?_,fun s=>?_⟩
 ·exact QL (ext:=ext) rfl rfl rfl rfl rfl rfl rfl rfl rfl cv1 cv2 cp1 cp2 cf1 cf2 ca1 ca2 ct1 ct2 v1 p1 f1 a1 t1 s
 ·rw [← QY];exact QZ (ext:=ext) rfl rfl rfl rfl rfl rfl rfl rfl rfl cv1 cv2 cp1 cp2 cf1 cf2 ca1 ca2 ct1 ct2 v2 p2 f2 a2 t2 s
end
theorem U2 (s:PS):aD Tryz.prog Γ (B5 5) 5 [] s=some (.sc (.bool true),s):=by
 rw [G5 (by rfl)];rfl
theorem V0:ei Γ 7=true:=(rfl)
end Go.Proofs.YtgkggocjoolciaaGreatDoor
