/- What functions of the program and of the reference compute, on values. No statement is proved here. -/
import Derived.Test.YtflfflfodghgpaaGreatDoorTxF
import Derived.Test.YtflfflfodghgpaaGreatDoorTxA
import Derived.Test.YtflfflfodghgpaaGreatDoorTxE
import Derived.Test.YtflfflfodghgpaaGreatDoorTxC
import Derived.Laws.StructEq
import Derived.Test.YtflfflfodghgpaaGreatDoorTxD
import Derived.KernelRfl
set_option linter.unusedSimpArgs false
set_option linter.unusedVariables false
set_option linter.unusedSimpArgs false
namespace Go.Proofs.YtflfflfodghgpaaGreatDoor
open Go Go.EvL Go.PE Go.Mir
variable {ext:ai}
def JQ (k:Int) (nm:List UInt8) (al:Bool) (na nw nr ni:Nat):Bool:=
 !(decide (0 < na) || (decide (0 < nr) && !nu k) || (decide (0 < ni) && !(k == 14))) && (!((k == 13 || k == 15) == nm.isEmpty) && (!((k == 13 || k == 15) && !gK nm) &&
  (if k == 13 then !al || nw == 0 else if k == 14 then !al && nw == 1 else !al && nw == 0)))
set_option maxHeartbeats 2000000 in
theorem bX:(true == false)=false:=rfl
theorem bY:(false == true)=false:=rfl
set_option maxHeartbeats 2000000 in
theorem IW {k p:Int}{nm:ByteArray}{al:Bool}{aa ws rs v is:PV}{na nw nr ni:Nat}{kb wb rb ib sb:Bool} (hnm:nm.data.toList.length < 1000000000000) (hna:eA false aa=some (iN na)) (hnw:eA false ws=some (iN nw)) (hnr:eA false rs=some (iN nr)) (hni:eA false is=some (iN ni))
  (cas:bx aa=[aa]) (cws:bx ws=[ws]) (crs:bx rs=[rs]) (cis:bx is=[is])
  (h126:∀s,Pc ext 206 [.agg [.sc (.int .i64 k),.sc (.int .i64 p),.sc (.string nm),.sc (.bool al),aa,ws,rs,v,is]] (.sc (.bool kb)) s) (h127:∀s,Pc ext 207 [ws] (.sc (.bool wb)) s) (h128:∀s,Pc ext 208 [rs] (.sc (.bool rb)) s)
  (h129:∀s,Pc ext 209 [is] (.sc (.bool ib)) s) (h130:k=1→∀s,Pc ext 210 [.agg [.sc (.int .i64 k),.sc (.int .i64 p),.sc (.string nm),.sc (.bool al),aa,ws,rs,v,is]] (.sc (.bool sb)) s) (s:PS) :
  Pc ext 141 [.agg [.sc (.int .i64 k),.sc (.int .i64 p),.sc (.string nm),.sc (.bool al),aa,ws,rs,v,is]] (.sc (.bool (kb && (wb && (rb && (ib && if k == 1 then sb else JQ k nm.data.toList al na nw nr ni)))))) s:=by
 have hbn:=fun x y a b=>qX (P:=Tryz.prog) (t:=4) Tryz.underlying4 x y a b;have hN:=fun s=>qT (ext:=ext) (b:=nm) om s;refine mu Pz 2 ?_;unfold Pz JQ;cases c1:kb with
 | false=>
  exact qO h126 hna hnw hnr hni cas cws crs cis @aJ @cO hbn c1 @bX @bY tv
 | true=>
  cases c2:wb with
  | false=>
   exact lb h126 h127 hna hnw hnr hni cas cws crs cis @aJ @cO hbn c1 c2 @bX @bY tv tv
  | true=>
   cases c3:rb with
   | false=>
    exact lb h126 h127 h128 hna hnw hnr hni cas cws crs cis @aJ @cO hbn c1 c2 c3 @bX @bY
   | true=>
    cases c4:ib with
    | false=>
     exact AU h126 h127 h128 h129 hna hnw hnr hni cas cws crs cis @aJ @cO hbn c1 c2 c3 c4 @bX @bY tv
    | true=>
     cases c5:k == 1 with
     | false=>
      cases c6:decide (0 < na) with
      | false=>
       have c6p:=of_decide_eq_false c6;cases c7:decide (0 < nr) with
       | false=>
        have c7p:=of_decide_eq_false c7;cases c8:decide (0 < ni) with
        | false=>
         have c8p:=of_decide_eq_false c8;cases c9:k == 13 with
         | false=>
          cases c10:k == 15 with
          | false=>
           cases c11:nm.data.toList.isEmpty with
           | false=>
            exact eQ h126 h127 h128 h129 hna hnw hnr hni cas cws crs cis @aJ @cO hbn c1 c2 c3 c4 c5 c6 c7 c8 c9 c10 c11 @bX @bY tv tv tv tv
           | true=>
            cases c12:k == 14 with
            | false=>
             cases al with
             | false=>
              exact eQ h126 h127 h128 h129 hna hnw hnr hni cas cws crs cis @aJ @cO hbn c1 c2 c3 c4 c5 c6 c7 c8 c9 c10 c11 c12 @bX @bY tv tv tv
             | true=>
              exact eQ h126 h127 h128 h129 hna hnw hnr hni cas cws crs cis @aJ @cO hbn c1 c2 c3 c4 c5 c6 c7 c8 c9 c10 c11 c12 @bX @bY tv tv tv
            | true=>
             cases al with
             | false=>
              exact eQ h126 h127 h128 h129 hna hnw hnr hni cas cws crs cis @aJ @cO hbn c1 c2 c3 c4 c5 c6 c7 c8 c9 c10 c11 c12 @bX @bY tv tv tv
             | true=>
              exact eQ h126 h127 h128 h129 hna hnw hnr hni cas cws crs cis @aJ @cO hbn c1 c2 c3 c4 c5 c6 c7 c8 c9 c10 c11 c12 @bX @bY tv tv tv
          | true=>
           cases c15:nm.data.toList.isEmpty with
           | false=>
            cases c16:gK nm.data.toList with
            | false=>
             exact eQ h126 h127 h128 h129 hN hna hnw hnr hni cas cws crs cis @aJ @cO hbn c1 c2 c3 c4 c5 c6 c7 c8 c9 c10 c15 c16 @bX @bY tv tv
            | true=>
             cases c17:k == 14 with
             | false=>
              cases al with
              | false=>
               exact eQ h126 h127 h128 h129 hN hna hnw hnr hni cas cws crs cis @aJ @cO hbn c1 c2 c3 c4 c5 c6 c7 c8 c9 c10 c15 c16 c17 @bX @bY tv
              | true=>
               exact eQ h126 h127 h128 h129 hN hna hnw hnr hni cas cws crs cis @aJ @cO hbn c1 c2 c3 c4 c5 c6 c7 c8 c9 c10 c15 c16 c17 @bX @bY tv
             | true=>
              cases al with
              | false=>
               exact eQ h126 h127 h128 h129 hN hna hnw hnr hni cas cws crs cis @aJ @cO hbn c1 c2 c3 c4 c5 c6 c7 c8 c9 c10 c15 c16 c17 @bX @bY tv
              | true=>
               exact eQ h126 h127 h128 h129 hN hna hnw hnr hni cas cws crs cis @aJ @cO hbn c1 c2 c3 c4 c5 c6 c7 c8 c9 c10 c15 c16 c17 @bX @bY tv
           | true=>
            exact eQ h126 h127 h128 h129 hna hnw hnr hni cas cws crs cis @aJ @cO hbn c1 c2 c3 c4 c5 c6 c7 c8 c9 c10 c15 @bX @bY tv tv tv tv
         | true=>
          cases c20:nm.data.toList.isEmpty with
          | false=>
           cases c21:gK nm.data.toList with
           | false=>
            exact eQ h126 h127 h128 h129 hN hna hnw hnr hni cas cws crs cis @aJ @cO hbn c1 c2 c3 c4 c5 c6 c7 c8 c9 c20 c21 @bX @bY tv tv tv
           | true=>
            cases al with
            | false=>
             exact eQ h126 h127 h128 h129 hN hna hnw hnr hni cas cws crs cis @aJ @cO hbn c1 c2 c3 c4 c5 c6 c7 c8 c9 c20 c21 @bX @bY tv tv tv
            | true=>
             exact eQ h126 h127 h128 h129 hN hna hnw hnr hni cas cws crs cis @aJ @cO hbn c1 c2 c3 c4 c5 c6 c7 c8 c9 c20 c21 @bX @bY tv tv tv
          | true=>
           exact eQ h126 h127 h128 h129 hna hnw hnr hni cas cws crs cis @aJ @cO hbn c1 c2 c3 c4 c5 c6 c7 c8 c9 c20 @bX @bY tv tv tv tv tv
        | true=>
         have c8p:=of_decide_eq_true c8;cases c23:k == 14 with
         | false=>
          exact Gh h126 h127 h128 h129 hna hnw hnr hni cas cws crs cis @aJ @cO hbn c1 c2 c3 c4 c5 c6 c7 c8 c23 @bX @bY
         | true=>
          cases c24:k == 13 with
          | false=>
           cases c25:k == 15 with
           | false=>
            cases c26:nm.data.toList.isEmpty with
            | false=>
             exact eQ h126 h127 h128 h129 hna hnw hnr hni cas cws crs cis @aJ @cO hbn c1 c2 c3 c4 c5 c6 c7 c8 c23 c24 c25 c26 @bX @bY tv tv tv
            | true=>
             cases al with
             | false=>
              exact eQ h126 h127 h128 h129 hna hnw hnr hni cas cws crs cis @aJ @cO hbn c1 c2 c3 c4 c5 c6 c7 c8 c23 c24 c25 c26 @bX @bY tv tv tv
             | true=>
              exact eQ h126 h127 h128 h129 hna hnw hnr hni cas cws crs cis @aJ @cO hbn c1 c2 c3 c4 c5 c6 c7 c8 c23 c24 c25 c26 @bX @bY tv tv tv
           | true=>
            cases c28:nm.data.toList.isEmpty with
            | false=>
             cases c29:gK nm.data.toList with
             | false=>
              exact eQ h126 h127 h128 h129 hN hna hnw hnr hni cas cws crs cis @aJ @cO hbn c1 c2 c3 c4 c5 c6 c7 c8 c23 c24 c25 c28 c29 @bX @bY tv
             | true=>
              cases al with
              | false=>
               exact eQ h126 h127 h128 h129 hN hna hnw hnr hni cas cws crs cis @aJ @cO hbn c1 c2 c3 c4 c5 c6 c7 c8 c23 c24 c25 c28 c29 @bX @bY tv
              | true=>
               exact eQ h126 h127 h128 h129 hN hna hnw hnr hni cas cws crs cis @aJ @cO hbn c1 c2 c3 c4 c5 c6 c7 c8 c23 c24 c25 c28 c29 @bX @bY tv
            | true=>
             exact eQ h126 h127 h128 h129 hna hnw hnr hni cas cws crs cis @aJ @cO hbn c1 c2 c3 c4 c5 c6 c7 c8 c23 c24 c25 c28 @bX @bY tv tv tv
          | true=>
           cases c31:nm.data.toList.isEmpty with
           | false=>
            cases c32:gK nm.data.toList with
            | false=>
             exact eQ h126 h127 h128 h129 hN hna hnw hnr hni cas cws crs cis @aJ @cO hbn c1 c2 c3 c4 c5 c6 c7 c8 c23 c24 c31 c32 @bX @bY tv tv
            | true=>
             cases al with
             | false=>
              exact eQ h126 h127 h128 h129 hN hna hnw hnr hni cas cws crs cis @aJ @cO hbn c1 c2 c3 c4 c5 c6 c7 c8 c23 c24 c31 c32 @bX @bY tv tv
             | true=>
              exact eQ h126 h127 h128 h129 hN hna hnw hnr hni cas cws crs cis @aJ @cO hbn c1 c2 c3 c4 c5 c6 c7 c8 c23 c24 c31 c32 @bX @bY tv tv
           | true=>
            exact eQ h126 h127 h128 h129 hna hnw hnr hni cas cws crs cis @aJ @cO hbn c1 c2 c3 c4 c5 c6 c7 c8 c23 c24 c31 @bX @bY tv tv tv tv
       | true=>
        have c7p:=of_decide_eq_true c7;cases c34:nu k with
        | false=>
         exact Gh h126 h127 h128 h129 @bT hna hnw hnr hni cas cws crs cis @aJ @cO hbn c1 c2 c3 c4 c5 c6 c7 c34 @bX @bY
        | true=>
         cases c35:decide (0 < ni) with
         | false=>
          have c35p:=of_decide_eq_false c35;cases c36:k == 13 with
          | false=>
           cases c37:k == 15 with
           | false=>
            cases c38:nm.data.toList.isEmpty with
            | false=>
             exact eQ h126 h127 h128 h129 @bT hna hnw hnr hni cas cws crs cis @aJ @cO hbn c1 c2 c3 c4 c5 c6 c7 c34 c35 c36 c37 c38 @bX @bY tv tv
            | true=>
             cases c39:k == 14 with
             | false=>
              cases al with
              | false=>
               exact eQ h126 h127 h128 h129 @bT hna hnw hnr hni cas cws crs cis @aJ @cO hbn c1 c2 c3 c4 c5 c6 c7 c34 c35 c36 c37 c38 c39 @bX @bY tv
              | true=>
               exact eQ h126 h127 h128 h129 @bT hna hnw hnr hni cas cws crs cis @aJ @cO hbn c1 c2 c3 c4 c5 c6 c7 c34 c35 c36 c37 c38 c39 @bX @bY tv
             | true=>
              cases al with
              | false=>
               exact eQ h126 h127 h128 h129 @bT hna hnw hnr hni cas cws crs cis @aJ @cO hbn c1 c2 c3 c4 c5 c6 c7 c34 c35 c36 c37 c38 c39 @bX @bY tv
              | true=>
               exact eQ h126 h127 h128 h129 @bT hna hnw hnr hni cas cws crs cis @aJ @cO hbn c1 c2 c3 c4 c5 c6 c7 c34 c35 c36 c37 c38 c39 @bX @bY tv
           | true=>
            cases c42:nm.data.toList.isEmpty with
            | false=>
             cases c43:gK nm.data.toList with
             | false=>
              exact eQ h126 h127 h128 h129 @bT hN hna hnw hnr hni cas cws crs cis @aJ @cO hbn c1 c2 c3 c4 c5 c6 c7 c34 c35 c36 c37 c42 c43 @bX @bY
             | true=>
              cases c44:k == 14 with
              | false=>
               cases al with
               | false=>
                exact Cl h126 h127 h128 h129 @bT hN hna hnw hnr hni cas cws crs cis @aJ @cO hbn c1 c2 c3 c4 c5 c6 c7 c34 c35 c36 c37 c42 c43 c44 @bX @bY tv tv tv tv tv tv tv
               | true=>
                exact Cl h126 h127 h128 h129 @bT hN hna hnw hnr hni cas cws crs cis @aJ @cO hbn c1 c2 c3 c4 c5 c6 c7 c34 c35 c36 c37 c42 c43 c44 @bX @bY tv tv tv tv tv tv tv
              | true=>
               cases al with
               | false=>
                exact Cl h126 h127 h128 h129 @bT hN hna hnw hnr hni cas cws crs cis @aJ @cO hbn c1 c2 c3 c4 c5 c6 c7 c34 c35 c36 c37 c42 c43 c44 @bX @bY tv tv tv tv tv tv tv
               | true=>
                exact Cl h126 h127 h128 h129 @bT hN hna hnw hnr hni cas cws crs cis @aJ @cO hbn c1 c2 c3 c4 c5 c6 c7 c34 c35 c36 c37 c42 c43 c44 @bX @bY tv tv tv tv tv tv tv
            | true=>
             exact eQ h126 h127 h128 h129 @bT hna hnw hnr hni cas cws crs cis @aJ @cO hbn c1 c2 c3 c4 c5 c6 c7 c34 c35 c36 c37 c42 @bX @bY tv tv
          | true=>
           cases c47:nm.data.toList.isEmpty with
           | false=>
            cases c48:gK nm.data.toList with
            | false=>
             exact eQ h126 h127 h128 h129 @bT hN hna hnw hnr hni cas cws crs cis @aJ @cO hbn c1 c2 c3 c4 c5 c6 c7 c34 c35 c36 c47 c48 @bX @bY tv
            | true=>
             cases al with
             | false=>
              exact eQ h126 h127 h128 h129 @bT hN hna hnw hnr hni cas cws crs cis @aJ @cO hbn c1 c2 c3 c4 c5 c6 c7 c34 c35 c36 c47 c48 @bX @bY tv
             | true=>
              exact eQ h126 h127 h128 h129 @bT hN hna hnw hnr hni cas cws crs cis @aJ @cO hbn c1 c2 c3 c4 c5 c6 c7 c34 c35 c36 c47 c48 @bX @bY tv
           | true=>
            exact eQ h126 h127 h128 h129 @bT hna hnw hnr hni cas cws crs cis @aJ @cO hbn c1 c2 c3 c4 c5 c6 c7 c34 c35 c36 c47 @bX @bY tv tv tv
         | true=>
          have c35p:=of_decide_eq_true c35;cases c50:k == 14 with
          | false=>
           exact eQ h126 h127 h128 h129 @bT hna hnw hnr hni cas cws crs cis @aJ @cO hbn c1 c2 c3 c4 c5 c6 c7 c34 c35 c50 @bX @bY tv tv tv tv
          | true=>
           cases c51:k == 13 with
           | false=>
            cases c52:k == 15 with
            | false=>
             cases c53:nm.data.toList.isEmpty with
             | false=>
              exact eQ h126 h127 h128 h129 @bT hna hnw hnr hni cas cws crs cis @aJ @cO hbn c1 c2 c3 c4 c5 c6 c7 c34 c35 c50 c51 c52 c53 @bX @bY tv
             | true=>
              cases al with
              | false=>
               exact eQ h126 h127 h128 h129 @bT hna hnw hnr hni cas cws crs cis @aJ @cO hbn c1 c2 c3 c4 c5 c6 c7 c34 c35 c50 c51 c52 c53 @bX @bY tv
              | true=>
               exact eQ h126 h127 h128 h129 @bT hna hnw hnr hni cas cws crs cis @aJ @cO hbn c1 c2 c3 c4 c5 c6 c7 c34 c35 c50 c51 c52 c53 @bX @bY tv
            | true=>
             cases c55:nm.data.toList.isEmpty with
             | false=>
              cases c56:gK nm.data.toList with
              | false=>
               exact Cl h126 h127 h128 h129 @bT hN hna hnw hnr hni cas cws crs cis @aJ @cO hbn c1 c2 c3 c4 c5 c6 c7 c34 c35 c50 c51 c52 c55 c56 @bX @bY tv tv tv tv tv tv tv
              | true=>
               cases al with
               | false=>
                exact Cl h126 h127 h128 h129 @bT hN hna hnw hnr hni cas cws crs cis @aJ @cO hbn c1 c2 c3 c4 c5 c6 c7 c34 c35 c50 c51 c52 c55 c56 @bX @bY tv tv tv tv tv tv tv
               | true=>
                exact Cl h126 h127 h128 h129 @bT hN hna hnw hnr hni cas cws crs cis @aJ @cO hbn c1 c2 c3 c4 c5 c6 c7 c34 c35 c50 c51 c52 c55 c56 @bX @bY tv tv tv tv tv tv tv
             | true=>
              exact eQ h126 h127 h128 h129 @bT hna hnw hnr hni cas cws crs cis @aJ @cO hbn c1 c2 c3 c4 c5 c6 c7 c34 c35 c50 c51 c52 c55 @bX @bY tv
           | true=>
            cases c58:nm.data.toList.isEmpty with
            | false=>
             cases c59:gK nm.data.toList with
             | false=>
              exact eQ h126 h127 h128 h129 @bT hN hna hnw hnr hni cas cws crs cis @aJ @cO hbn c1 c2 c3 c4 c5 c6 c7 c34 c35 c50 c51 c58 c59 @bX @bY
             | true=>
              cases al with
              | false=>
               exact eQ h126 h127 h128 h129 @bT hN hna hnw hnr hni cas cws crs cis @aJ @cO hbn c1 c2 c3 c4 c5 c6 c7 c34 c35 c50 c51 c58 c59 @bX @bY
              | true=>
               exact eQ h126 h127 h128 h129 @bT hN hna hnw hnr hni cas cws crs cis @aJ @cO hbn c1 c2 c3 c4 c5 c6 c7 c34 c35 c50 c51 c58 c59 @bX @bY
            | true=>
             exact eQ h126 h127 h128 h129 @bT hna hnw hnr hni cas cws crs cis @aJ @cO hbn c1 c2 c3 c4 c5 c6 c7 c34 c35 c50 c51 c58 @bX @bY tv tv
      | true=>
       have c6p:=of_decide_eq_true c6;exact Gh h126 h127 h128 h129 hna hnw hnr hni cas cws crs cis @aJ @cO hbn c1 c2 c3 c4 c5 c6 @bX @bY tv tv tv
     | true=>
      exact Gh h126 h127 h128 h129 (h130 (eq_of_beq c5)) hna hnw hnr hni cas cws crs cis @aJ @cO hbn c1 c2 c3 c4 c5 @bX @bY tv tv tv
end Go.Proofs.YtflfflfodghgpaaGreatDoor
namespace Go.PE
open Go Go.EvL
end Go.PE
namespace Go.Proofs.YtflfflfodghgpaaGreatDoor
open Go Go.EvL Go.PE
variable {ext:ai}
structure UQ (ext:ai) (D:Nat) (x:ah) (kl:List ah):Prop where
 ref:∀s,Pc ext 59 [.agg x.cells] (b9 28 ah.cells (eH kl)) s
 len:kl.length≤16777216
theorem O9 {D d:Nat}{x:ah} (hx:dn D (d + 1) x) (hN:bj x.cells≤16777216):∃kl,UQ ext D x kl∧∀y∈kl,dn D d y∧bj y.cells + 1≤bj x.cells:=by
 obtain⟨la,lw,lr,lk,li,pt,bd,hd⟩:=hx.dec;obtain⟨n1,n2,n3,n4⟩:=hd.sizes hN;have hkb:=hd.kidsBulk;refine⟨jX (lk.getD []) (li.getD []) bd,⟨hd.kids_ok hN,by simp only [jX,List.length_append]; exact n2⟩,fun y hy=>⟨hd.kids y hy,?_⟩⟩;have:=gD (c:=ah.cells) hy;omega
end Go.Proofs.YtflfflfodghgpaaGreatDoor
namespace Go.Proofs.YtflfflfodghgpaaGreatDoor
open Go Go.EvL Go.PE Go.Mir
variable {ext:ai}
theorem wK {α:Type}{c:α→List PV} (x:α) (l:List α):bj ((x :: l).flatMap c)=bj (c x) + bj (l.flatMap c):=by rw [List.flatMap_cons,jR]
mutual
theorem BV:∀(p:aT) (x:ao),Kj p x→oS p≤2 * bj x.cells
 | .mk k t o c ps,x,h=>by
  rw [Kj] at h;obtain⟨rfl,h2,rfl,rfl,y,h3,h4⟩:=h;have h5:=pM ps _ h4;have h6:=eC 90 ao.cells y;have h7:(PV.sc (.string x.text)).bulk=t.length + 1:=by rw [h2]; simp only [PV.bulk,JO]
  have b1:=qj (.sc (.int .i64 x.kind));have b2:=qj (.sc (.int .i64 x.op));have b3:=qj (.sc (.bool x.colon));simp only [ao.cells,db,dk,h3,h7];rw [oS];omega
theorem pM:∀(l:List aT) (xs:List ao),tH l xs→iD l≤2 * bj (xs.flatMap ao.cells)
 | [],xs,h=>by rw [iD]; exact Nat.zero_le _
 | p :: l,xs,h=>by
  obtain⟨x,xs',rfl,h1,h2⟩:=h.cons;have h3:=BV p x h1;have h4:=pM l xs' h2;rw [iD,wK];omega
end
theorem pN {l:List aT}{v:PV} (h:Ki l v):iD l≤2 * v.bulk:=by
 obtain⟨y,rfl,h⟩:=h;have h1:=pM l _ h;have h2:=eC 90 ao.cells y;omega
def Kl:PS:=⟨fun _=>⟨[],0,0⟩,0,0⟩
open Classical in
noncomputable def yT (ext:ai) (g:Nat) (a:List PV) (q:PV):Bool:=decide (∀s,aU Tryz.prog Γ ext g a s=some (q,s))
open Classical in
theorem oe {g:Nat}{a:List PV}{b:Bool} (h:∀s,aU Tryz.prog Γ ext g a s=some (.sc (.bool b),s)):yT ext g a (.sc (.bool true))=b:=by
 unfold yT;cases b with
 | true=>exact decide_eq_true h
 | false=>
  refine decide_eq_false fun hh=>?_;have h1:=hh Kl;rw [h Kl] at h1;cases h1
open Classical in
theorem Gy {g:Nat}{a:List PV}{b:Bool} (h:∀s,aU Tryz.prog Γ ext g a s=some (.sc (.int .i64 (if b then 0 else 1)),s)):yT ext g a (.sc (.int .i64 0))=b:=by
 unfold yT;cases b with
 | true=>exact decide_eq_true h
 | false=>
  refine decide_eq_false fun hh=>?_;have h1:=hh Kl;rw [h Kl] at h1;injection h1 with h1;injection h1 with h1;injection h1 with h1;injection h1 with _ h1;cases h1
noncomputable def okW (ext:ai) (v:PV):Bool:=yT ext 263 [.agg [.sc (.int .i64 0),v]] (.sc (.bool true))
noncomputable def okV (ext:ai) (v:PV):Bool:=yT ext 265 [v] (.sc (.int .i64 0))
noncomputable def okH (ext:ai) (v:PV):Bool:=yT ext 264 [v] (.sc (.bool true))
open Classical in
noncomputable def Rb (v:PV):List ao:=if h:∃y,v=b9 90 ao.cells y then (Classical.choose h).getD [] else []
theorem Q1 {v:PV} (h:∃y,v=b9 90 ao.cells y):∃y,v=b9 90 ao.cells y∧y.getD []=Rb v:=by
 refine⟨Classical.choose h,Classical.choose_spec h,?_⟩;unfold Rb;rw [dif_pos h]
theorem bA.sl {d:Nat}{v:PV} (h:bA d v):∃y,v=b9 90 ao.cells y:=by
 cases d with
 | zero=>cases h
 | succ d=>
  obtain⟨y,h,_⟩:=h;exact⟨y,h⟩
theorem bA.one' {d:Nat}{v:PV} (h:bA d v):cX v=true∧bx v=[v]:=by
 obtain⟨y,rfl⟩:=h.sl;exact⟨h.one,by cases y<;>rfl⟩
theorem Dh {d:Nat}{v:PV} (h:bA d v) (hb:v.bulk≤16777216) (u:PV) (s:PS):Pc ext 263 [.agg [u,v]] (.sc (.bool (okW ext v))) s:=by
 obtain⟨l,hl⟩:=h.read;have hs:=pN hl;obtain⟨r,same,_,_,_,hS⟩:=sF (ext:=ext) h hl om;obtain⟨y,hy⟩:=h.sl;have hn:=cA (e:=90) (c:=ao.cells) y;rw [← hy] at hn;have hw:=fun u=>Q6 (ext:=ext) (u:=u) hn h.one'.2 hS;rw [show okW ext v=_ from oe (hw _)];exact hw u s
theorem Ti {d:Nat}{v:PV} (h:bA d v) (hb:v.bulk≤16777216) (s:PS):Pc ext 265 [v] (.sc (.int .i64 (if okV ext v then 0 else 1))) s:=by
 obtain⟨l,hl⟩:=h.read;have hs:=pN hl;obtain⟨r,same,_,_,hV,_⟩:=sF (ext:=ext) h hl om;rw [show okV ext v=_ from Gy hV];exact hV s
theorem Af {y:Option (List ao)}{N:Nat} (hb:(b9 90 ao.cells y).bulk≤N):(y.getD []).length≤N∧∀p∈y.getD [],p.text.data.toList.length≤N∧p.parts.bulk≤N:=by
 refine⟨nC rfl (fun x=>by rw [ao.len]; omega) hb,fun p hp=>?_⟩;have h1:=(fb rfl hp (p:=.sc (.string p.text)) (by simp [ao.cells]) hb).1;have h2:(PV.sc (.string p.text)).bulk=p.text.data.toList.length + 1:=by simp only [PV.bulk,JO]
 exact⟨om,(fb rfl hp (p:=p.parts) (by simp [ao.cells]) hb).1⟩
theorem OB {d:Nat}{v:PV} (h:bA d v) (hb:v.bulk≤16777216) (s:PS):Pc ext 264 [v] (.sc (.bool (okH ext v))) s:=by
 obtain⟨l,hl⟩:=h.read;have hs:=pN hl;obtain⟨r,same,_,_,hS⟩:=C3 (ext:=ext) h hl om;cases d with
 | zero=>cases h
 | succ d=>
  obtain⟨y,rfl,h1,h2⟩:=h;obtain⟨t1,t2⟩:=Af hb;have hw:=ON (ext:=ext) (y:=y) om (fun p hp=>⟨by have:=(t2 p hp).1; omega,(h2 p hp).sl⟩) hS;rw [show okH ext _=_ from oe hw];exact hw s
end Go.Proofs.YtflfflfodghgpaaGreatDoor
set_option linter.unusedSimpArgs false
namespace Go.Proofs.YtflfflfodghgpaaGreatDoor
open Go Go.EvL Go.PE Go.Mir
variable {ext:ai}
structure bD where
 name:ByteArray
 body:ah
def bD.cells (x:bD):List PV:=.sc (.string x.name) :: x.body.cells
theorem bD.len (x:bD):x.cells.length=10:=rfl
end Go.Proofs.YtflfflfodghgpaaGreatDoor
set_option linter.unusedSimpArgs false
namespace Go.Proofs.YtflfflfodghgpaaGreatDoor
open Go Go.EvL Go.PE Go.Mir
variable {ext:ai}
structure eu where
 name:ByteArray
 vars:PV
 params:PV
 funcs:PV
 aliases:PV
 traps:PV
 opts:Int
 stat:Int
 pid:Int
 last:Int
 cwd:ByteArray
 gi:Int
 go:Int
 lev:Int
 talks:Bool
def eu.cells (x:eu):List PV:=[.sc (.string x.name),x.vars,x.params,x.funcs,x.aliases,x.traps,.sc (.int .i64 x.opts),.sc (.int .i64 x.stat),.sc (.int .i64 x.pid),.sc (.int .i64 x.last),.sc (.string x.cwd),.sc (.int .i64 x.gi),.sc (.int .i64 x.go),.sc (.int .i64 x.lev),.sc (.bool x.talks)]
theorem eu.len (x:eu):x.cells.length=15:=rfl
end Go.Proofs.YtflfflfodghgpaaGreatDoor
set_option linter.unusedSimpArgs false
namespace Go.PE
open Go Go.EvL
section
variable {P:Program}{Γ:Nat→Option fN}{ext:ai}
theorem uU {g r:Nat}{fn:fN}{args:List PV}{s:PS} (hg:Γ g=some fn) (hl:args.length≤fn.nt) (hr:fn.res=[.tmp r]) (hk:fn.keep=false) (h:Er (fun f' s'=>s.n≤s'.w∧∃b:Bool,f' r=.sc (.bool b)) (aS P Γ ext fn.body (cK args 0) ⟨s.h,s.n,s.n⟩)):∃b:Bool,aU P Γ ext g args s=some (.sc (.bool b),s):=by
 obtain⟨f',s',e,hw,b,hb⟩:=h;exact⟨b,eF hg hl hr hk ⟨f',s',e,hw,hb⟩⟩
end
end Go.PE
namespace Go.Proofs.YtflfflfodghgpaaGreatDoor
open Go Go.EvL Go.PE Go.Mir
variable {ext:ai}
def uF (t:List UInt8):Bool:=decide (t.length≤60) || decide (4096 < t.length)
theorem iW {b:ByteArray} (s:PS):Pc ext 72 [.sc (.string b)] (.sc (.bool (uF b.data.toList))) s:=by
 refine q1 TO 2 ?_;unfold TO uF;cases c1:decide (b.data.toList.length≤60) with
 | true=>exact aL c1
 | false=>exact aL c1
theorem Na {xs:List fu} (hx:xs.length < 1000000000000) {n0:Nat}{s:PS} (hn:n0≤s.w):∀(k i:Nat) (f:aO),i + k=xs.length→f 0=.lit 99 xs.length (xs.flatMap fu.cells)→f 3=iN i→
  Er (fun f' s'=>n0≤s'.w∧∃b:Bool,f' 2=.sc (.bool b)) (LP Tryz.prog Γ ext 0 pg uL f s):=by
 intro k
 induction k with
 | zero=>
  intro i f hk h0 h3;have e1:decide (i < xs.length)=false:=df;refine ac fun L hL=>?_;refine FX @pg.eq_1 @uL.eq_1 h0 h3 e1 ?_;exact⟨hn,_,rfl⟩
 | succ k ih=>
  intro i f hk h0 h3;have hl:i < xs.length:=om;have e1:decide (i < xs.length)=true:=decide_eq_true hl;have hj:xs[i]?=some xs[i]:=List.getElem?_eq_getElem hl;have hfl:=aQ (c:=fu.cells) (es:=5) (fun _=>rfl) xs;obtain⟨rr,hk3⟩:=de (c:=fu.cells) (es:=5) (fun _=>rfl) hj;have hgo:=ih (i + 1);generalize xs[i]=x at hk3;obtain⟨n,v,a1,a2,a3⟩:=x;simp only [fu.cells,List.cons_append,List.nil_append] at hk3;refine ac fun L hL=>?_;cases c2:decide (i≤130) with
  | false=>
   refine Ci @pg.eq_1 @uL.eq_1 h0 h3 e1 c2 hl ?_;exact⟨hn,_,rfl⟩
  | true=>
  cases c3:decide (60 < n.data.toList.length) with
  | true=>
   refine jp @pg.eq_1 @uL.eq_1 h0 h3 e1 c2 c3 hl hfl hk3 @ap tv ?_;exact⟨hn,_,rfl⟩
  | false=>
  cases c4:decide (60 < v.data.toList.length) with
  | false=>
   refine jp @pg.eq_1 h0 h3 e1 c2 c3 c4 hl hfl hk3 @ap tv ?_;subst hL;exact hgo _ om (aL h0) bh
  | true=>
  cases c5:decide (v.data.toList.length≤4096) with
  | true=>
   refine qJ @pg.eq_1 @uL.eq_1 h0 h3 e1 c2 c3 c4 c5 hl hfl hk3 @ap tv ?_;exact⟨hn,_,rfl⟩
  | false=>
   refine jp @pg.eq_1 h0 h3 e1 c2 c3 c4 c5 hl hfl hk3 @ap ?_;subst hL;exact hgo _ om (aL h0) bh
theorem Jn {y:Option (List fu)} (hx:(y.getD []).length < 1000000000000) (s:PS):∃b:Bool,Pc ext 89 [b9 99 fu.cells y] (.sc (.bool b)) s:=by
 refine uU (fn:=Tj) (r:=2) (by rfl) (by simp [Tj]) (by rfl) (by rfl) ?_;unfold Tj;cases y with
 | none=>
  have z0:decide ((0:Int) < 0)=false:=rfl;refine tJ @bW ?_;refine ac fun L hL=>?_;simp -implicitDefEqProofs (disch:=omega) only [ZS,seval,pg,uL,z0]
  all_goals first | exact⟨Nat.le_refl _,_,rfl⟩ | exact⟨_,rfl⟩
 | some xs=>
  refine tJ @bW ?_;exact Na (xs:=xs) hx (n0:=s.n) bh xs.length 0 _ (Nat.zero_add _) (aL @bW) bh
theorem LV {xs:List ByteArray} (hx:xs.length < 1000000000000) {n0:Nat}{s:PS} (hn:n0≤s.w):∀(k i:Nat) (f:aO),i + k=xs.length→f 0=.lit 9 xs.length (xs.flatMap gx)→f 3=iN i→
  Er (fun f' s'=>n0≤s'.w∧∃b:Bool,f' 2=.sc (.bool b)) (LP Tryz.prog Γ ext 0 sy xn f s):=by
 intro k
 induction k with
 | zero=>
  intro i f hk h0 h3;have e1:decide (i < xs.length)=false:=df;refine ac fun L hL=>?_;refine FX @sy.eq_1 @xn.eq_1 h0 h3 e1 ?_;exact⟨hn,_,rfl⟩
 | succ k ih=>
  intro i f hk h0 h3;have hl:i < xs.length:=om;have e1:decide (i < xs.length)=true:=decide_eq_true hl;have hj:xs[i]?=some xs[i]:=List.getElem?_eq_getElem hl;have hfl:=aQ (c:=gx) (es:=1) (fun _=>rfl) xs;obtain⟨rr,hk3⟩:=de (c:=gx) (es:=1) (fun _=>rfl) hj;have hgo:=ih (i + 1);generalize xs[i]=x at hk3;simp only [gx,List.cons_append,List.nil_append,Nat.mul_one] at hk3 hfl;refine ac fun L hL=>?_;cases c2:decide (i≤514) with
  | false=>
   refine Ci @sy.eq_1 @xn.eq_1 h0 h3 e1 c2 hl ?_;exact⟨hn,_,rfl⟩
  | true=>
  cases c3:uF x.data.toList with
  | false=>
   refine qJ @sy.eq_1 @xn.eq_1 h0 h3 e1 c2 c3 hl hfl hk3 @Nat.mul_one @ap @iW tv ?_;exact⟨hn,_,rfl⟩
  | true=>
   refine jp @sy.eq_1 h0 h3 e1 c2 c3 hl hfl hk3 @Nat.mul_one @ap @iW ?_;subst hL;exact hgo _ om (aL h0) bh
theorem KJ {y:Option (List ByteArray)} (hx:(y.getD []).length < 1000000000000) (s:PS):∃b:Bool,Pc ext 30 [b9 9 gx y] (.sc (.bool b)) s:=by
 refine uU (fn:=yY) (r:=2) (by rfl) (by simp [yY]) (by rfl) (by rfl) ?_;unfold yY;cases y with
 | none=>
  have z0:decide ((0:Int) < 0)=false:=rfl;refine tJ @bW ?_;refine ac fun L hL=>?_;simp -implicitDefEqProofs (disch:=omega) only [ZS,seval,sy,xn,z0]
  all_goals first | exact⟨Nat.le_refl _,_,rfl⟩ | exact⟨_,rfl⟩
 | some xs=>
  refine tJ @bW ?_;exact LV (xs:=xs) hx (n0:=s.n) bh xs.length 0 _ (Nat.zero_add _) (aL @bW) bh
end Go.Proofs.YtflfflfodghgpaaGreatDoor
set_option linter.unusedSimpArgs false
namespace Go.Proofs.YtflfflfodghgpaaGreatDoor
open Go Go.EvL Go.PE Go.Mir
variable {ext:ai}
noncomputable def U7 (ext:ai) (x:ah) (la:List aF) (lw:List aw) (lr:List bo) (lk:List ah) (li:List be) (pt:be→Option (List aw)) (bd:be→Option (List ah)):Bool:=
 eR x.kind (kinds lk) && ((lw.all fun w=>okW ext w.parts) && (lr.all (Ij (okW ext) (okH ext)) && (li.all (x8 (okW ext) pt bd) &&
  if x.kind == 1 then xX (okV ext) Rb x la lw lr.length li.length else JQ x.kind x.name.data.toList x.all la.length lw.length lr.length li.length)))
theorem dE {α:Type}{e:Nat}{c:α→List PV} (y:Option (List α)):bx (b9 e c y)=[b9 e c y]:=by cases y<;>rfl
theorem GM {D d:Nat}{x:ah}{la:Option (List aF)}{lw:Option (List aw)}{lr:Option (List bo)}{lk:Option (List ah)}{li:Option (List be)}{pt:be→Option (List aw)}{bd:be→Option (List ah)} (hd:IY D d x la lw lr lk li pt bd) (hN:bj x.cells≤16777216) (s:PS) :
  Pc ext 210 [.agg x.cells] (.sc (.bool (xX (okV ext) Rb x (la.getD []) (lw.getD []) (lr.getD []).length (li.getD []).length))) s:=by
 obtain⟨n1,n2,n3,n4⟩:=hd.sizes hN;have hA:=fun a (ha:a∈la.getD [])=>hd.words a.val (by
  simp only [ft,List.mem_append,List.mem_map];exact .inl (.inl (.inl ⟨a,ha,rfl⟩)))
 have hW:=fun w (hw:w∈lw.getD [])=>hd.words w (by
  simp only [ft,List.mem_append];exact .inl (.inl (.inr hw)))
 have hba:x.assigns.bulk≤16777216:=Nat.le_trans (iz (by simp [ah.cells])) hN;have hbw:x.words.bulk≤16777216:=Nat.le_trans (iz (by simp [ah.cells])) hN;have hav:∀a∈la.getD [],∀s,Pc ext 265 [a.parts] (.sc (.int .i64 (if okV ext a.parts then 0 else 1))) s:=fun a ha s=>
  Ti (hA a ha) (fb hd.a ha (p:=a.parts) (by simp [aF.cells]) hba).1 s
 have hac:∀a∈la.getD [],a.name.data.toList.length < 1000000000000∧bx a.parts=[a.parts]:=fun a ha=>by
  have h1:=(fb hd.a ha (p:=.sc (.string a.name)) (by simp [aF.cells]) hba).1;have h2:(PV.sc (.string a.name)).bulk=a.name.data.toList.length + 1:=by simp only [PV.bulk,JO]
  exact⟨om,(hA a ha).one'.2⟩
 have hw:∃y:Option (List ao),((lw.getD []).length=0∧eA false x.words=some (.sc (.int .i64 0))∧lw.getD []=[])∨∃w r,lw.getD []=w :: r∧(lw.getD []).length=(lw.getD []).length∧x.words=.lit 82 (lw.getD []).length ((lw.getD []).flatMap aw.cells)∧w.parts=b9 90 ao.cells y∧Rb w.parts=y.getD []∧(y.getD []).length < 1000000000000∧∀p∈y.getD [],p.text.data.toList.length < 1000000000000:=by
  have hxw:=hd.w;cases lw with
  | none=>exact⟨none,.inl ⟨rfl,by rw [hxw]; rfl,rfl⟩⟩
  | some l=>
   cases l with
   | nil=>exact⟨none,.inl ⟨rfl,by rw [hxw]; rfl,rfl⟩⟩
   | cons w r=>
    have hp:=hW w (List.mem_cons_self ..);obtain⟨y,hy,hy2⟩:=Q1 hp.sl;have hb:=(fb hd.w (x:=w) (List.mem_cons_self ..) (p:=w.parts) (by simp [aw.cells]) hbw).1;rw [hy] at hb;obtain⟨t1,t2⟩:=Af hb;exact⟨y,.inr ⟨w,r,rfl,rfl,hxw,hy,hy2.symm,om,fun p hp=>by have:=(t2 p hp).1; omega⟩⟩
 obtain⟨y,hw⟩:=hw;have hr:=cA (e:=148) (c:=bo.cells) lr;have hi:=cA (e:=150) (c:=be.cells) li;have ha:=cA (e:=84) (c:=aF.cells) la;rw [← hd.r] at hr;rw [← hd.i] at hi;rw [← hd.a] at ha;obtain⟨k,p,nm,al,aa,ws,rs,v,is⟩:=x;simp only at hr hi ha hw;have hrest:=fun (b n0:Nat) (s:PS) (h1:n0≤s.w) (h2:s.h b=_) f h3=>FO (ext:=ext) (k:=k) (p:=p) (nm:=nm) (al:=al) (aa:=aa) (ws:=ws) (rs:=rs) (v:=v) (is:=is) (na:=(la.getD []).length) (nw:=(lw.getD []).length) (nr:=(lr.getD []).length) (ni:=(li.getD []).length) (lw:=lw.getD []) (y:=y) om om h1 h2 ha hr hi (hw.imp id fun ⟨w,r,e1,e2,e3,e4,_,e5,e6⟩=>⟨w,r,e1,rfl,e3,e4,e5,e6⟩) om f h3;have hm:rS (lw.getD []) (fun _=>pA (y.getD []))=rS (lw.getD []) (fun w=>pA (Rb w.parts)):=by
  rcases hw with ⟨_,_,h⟩ | ⟨w,r,h,_,_,_,h2,_⟩
  ·rw [h];rfl
  ·rw [h];show pA _=pA _;rw [h2]
 rw [hm] at hrest;have hxa:=hd.a;simp only at hxa;clear hm hw;refine mu Qn 2 ?_;unfold Qn xX;simp only [ah.cells];cases la with
 | none=>
  have z0:decide ((0:Int) < 0)=false:=rfl;simp only [Option.getD_none,List.all_nil,Bool.true_and,List.length_nil,Nat.zero_add] at hrest ⊢;refine Hm ?_;refine ac fun L hL=>?_;simp only [b9] at hxa;subst hxa;refine u6 @nb.eq_1 z0 ?_;exact hrest s.n _ _ bh bh _ bh
 | some l=>
  simp only [Option.getD_some] at hrest hav hac n1 ⊢;refine Hm ?_;exact Kz (x:=⟨k,p,nm,al,aa,ws,rs,v,is⟩) (b:=s.n) (n0:=s.n) om bh (aL @ah.cells.eq_1) hxa hav hac (fun f h=>hrest s.n _ _ bh bh f h) l.length 0 _ (Nat.zero_add _) bh bh
theorem Qv {D d:Nat}{x:ah}{la:Option (List aF)}{lw:Option (List aw)}{lr:Option (List bo)}{lk:Option (List ah)}{li:Option (List be)}{pt:be→Option (List aw)}{bd:be→Option (List ah)} (hd:IY D d x la lw lr lk li pt bd) (hN:bj x.cells≤16777216) (s:PS) :
  Pc ext 141 [.agg x.cells] (.sc (.bool (U7 ext x (la.getD []) (lw.getD []) (lr.getD []) (lk.getD []) (li.getD []) pt bd))) s:=by
 obtain⟨n1,n2,n3,n4⟩:=hd.sizes hN;have hW:=fun w (hw:w∈lw.getD [])=>hd.words w (by
  simp only [ft,List.mem_append];exact .inl (.inl (.inr hw)))
 have hR:=fun r (hr:r∈lr.getD [])=>hd.words r.tgt (by
  simp only [ft,List.mem_append,List.mem_map];exact .inl (.inr ⟨r,hr,rfl⟩))
 have hI:=fun it (hi:it∈li.getD []) w (hw:w∈(pt it).getD [])=>hd.words w (by
  simp only [ft,List.mem_append,List.mem_flatMap];exact .inr ⟨it,hi,hw⟩)
 have hmem:∀p∈x.cells,p.bulk≤16777216:=fun p hp=>Nat.le_trans (iz hp) hN;have hbw:=hmem x.words (by simp [ah.cells]);have hbr:=hmem x.redirs (by simp [ah.cells]);have hbi:=hmem x.items (by simp [ah.cells]);have hbn:=hmem (.sc (.string x.name)) (by simp [ah.cells]);rw [show (PV.sc (.string x.name)).bulk=x.name.data.toList.length + 1 by simp only [PV.bulk,JO]] at hbn;have hpb:∀it∈li.getD [],it.pats.bulk≤16777216∧it.body.bulk≤16777216:=fun it hi=>
  ⟨(fb hd.i hi (p:=it.pats) (by simp [be.cells]) hbi).1,(fb hd.i hi (p:=it.body) (by simp [be.cells]) hbi).1⟩
 have h1:=fun s=>QE (ext:=ext) hd.k om s;have h2:=fun s=>K5 (ext:=ext) (y:=lw) (ok:=fun w=>okW ext w.parts) om (fun w hw s=>Dh (hW w hw) (fb hd.w hw (p:=w.parts) (by simp [aw.cells]) hbw).1 _ s) s;have hrb:=fun r (hr:r∈lr.getD [])=>(fb hd.r hr (p:=r.parts) (by simp [bo.cells]) hbr).1;have h3:=fun s=>J7 (ext:=ext) (y:=lr) (okW:=okW ext) (okH:=okH ext) om (fun r hr=>(hR r hr).one') (fun r hr s=>Dh (hR r hr) (hrb r hr) _ s) (fun r hr s=>OB (hR r hr) (hrb r hr) s) s;have h4:=fun s=>Ko (ext:=ext) (y:=li) (okW:=okW ext) (pt:=pt) (bd:=bd) om hd.hpt hd.hbd (fun it hi w hw s=>Dh (hI it hi w hw) (fb (hd.hpt it hi) hw (p:=w.parts) (by simp [aw.cells]) (hpb it hi).1).1 _ s) (fun it hi=>⟨by have:=nC (hd.hpt it hi) (fun x=>by rw [aw.len]; omega) (hpb it hi).1; omega,by have:=nC (hd.hbd it hi) (fun x=>by rw [ah.len]; omega) (hpb it hi).2; omega⟩) s;have h5:=fun s=>GM (ext:=ext) hd hN s;have l1:=cA (e:=84) (c:=aF.cells) la;have l2:=cA (e:=82) (c:=aw.cells) lw;have l3:=cA (e:=148) (c:=bo.cells) lr;have l4:=cA (e:=150) (c:=be.cells) li;have c1:=dE (e:=84) (c:=aF.cells) la;have c2:=dE (e:=82) (c:=aw.cells) lw;have c3:=dE (e:=148) (c:=bo.cells) lr;have c4:=dE (e:=150) (c:=be.cells) li;rw [← hd.a] at l1 c1;rw [← hd.w] at l2 c2 h2;rw [← hd.r] at l3 c3 h3;rw [← hd.i] at l4 c4 h4;exact IW (ext:=ext) om l1 l2 l3 l4 c1 c2 c3 c4 h1 h2 h3 h4 (fun _=>h5) s
end Go.Proofs.YtflfflfodghgpaaGreatDoor
set_option linter.unusedSimpArgs false
namespace Go.Proofs.YtflfflfodghgpaaGreatDoor
open Go Go.EvL Go.PE Go.Mir
variable {ext:ai}
theorem Me {x:eu}{la:List cj} (hx:la.length < 1000000000000) {b n0:Nat}{s:PS} (hn:n0≤s.w) (hb:s.h b=⟨x.cells,0,56⟩) (ha:x.aliases=b9 123 cj.cells (some la)) {z:Int} : ∀(k i:Nat) (f:aO),i + k=la.length→f 1=.ptr b 0 15→f 3=.sc (.int .i64 z)→f 5=iN i→
  Er (fun f' s'=>n0≤s'.w∧∃b:Bool,f' 2=.sc (.bool b)) (LP Tryz.prog Γ ext 2 sw wP f s):=by
 obtain⟨nm,vs,ps,fs,als,ts,o,st,pi,la',cw,gi,go,le,tk⟩:=x;simp only at ha;simp only [eu.cells] at hb;subst ha;intro k
 induction k with
 | zero=>
  intro i f hk h1 h3 h5;have e1:decide (i < la.length)=false:=df;refine ac fun L hL=>?_;refine Bz @sw.eq_1 @wP.eq_1 h1 h3 h5 hb @bW e1 ?_;exact⟨hn,_,rfl⟩
 | succ k ih=>
  intro i f hk h1 h3 h5;have hl:i < la.length:=om;have e1:decide (i < la.length)=true:=decide_eq_true hl;have hj:la[i]?=some la[i]:=List.getElem?_eq_getElem hl;have hfl:=aQ (c:=cj.cells) (es:=2) (fun _=>rfl) la;obtain⟨rr,hk3⟩:=de (c:=cj.cells) (es:=2) (fun _=>rfl) hj;have hgo:=ih (i + 1);generalize la[i]=y at hk3;obtain⟨n,v⟩:=y;simp only [cj.cells,List.cons_append,List.nil_append] at hk3;refine ac fun L hL=>?_;cases c3:uF v.data.toList with
  | false=>
   refine qJ @sw.eq_1 @wP.eq_1 h1 h3 h5 hb @bW e1 c3 hl hfl hk3 @ap @iW ?_;exact⟨hn,_,rfl⟩
  | true=>
   refine qJ @sw.eq_1 h1 h3 h5 hb @bW e1 c3 hl hfl hk3 @ap @iW tv ?_;subst hL;exact hgo _ om (aL h1) (aL h3) bh
theorem L8 {x:eu}{la:Option (List cj)} (hx:(la.getD []).length < 1000000000000) {b n0:Nat}{s:PS} (hn:n0≤s.w) (hb:s.h b=⟨x.cells,0,56⟩) (ha:x.aliases=b9 123 cj.cells la) {z:Int} (f:aO) (h1:f 1=.ptr b 0 15) (h3:f 3=.sc (.int .i64 z)) :
  Er (fun f' s'=>n0≤s'.w∧∃b:Bool,f' 2=.sc (.bool b)) (aS Tryz.prog Γ ext wY f s):=by
 cases la with
 | some l=>
  have key:=fun f a b c=>Me (ext:=ext) hx hn hb ha (z:=z) l.length 0 f (Nat.zero_add _) a b c;unfold wY;refine Hm ?_;exact key _ (aL h1) (aL h3) bh
 | none=>
  have z0:decide ((0:Int) < 0)=false:=rfl;obtain⟨nm,vs,ps,fs,als,ts,o,st,pi,la',cw,gi,go,le,tk⟩:=x;simp only [b9] at ha;simp only [eu.cells] at hb;subst ha;unfold wY;refine tJ h1 ?_;refine ac fun L hL=>?_;refine BD @sw.eq_1 @wP.eq_1 h1 h3 hb z0 ?_;exact⟨hn,_,rfl⟩
theorem Mk {x:eu}{lf:List bD} (hx:lf.length < 1000000000000) {b n0:Nat}{s:PS} (hn:n0≤s.w) (hb:s.h b=⟨x.cells,0,56⟩) (hf:x.funcs=b9 121 bD.cells (some lf)) (hw:∀y∈lf,∃z:Int,Pc ext 15 [.agg y.body.cells] (.sc (.int .i64 z)) s)
  (hR:∀f z,f 1=.ptr b 0 15→f 3=.sc (.int .i64 z)→Er (fun f' s'=>n0≤s'.w∧∃b:Bool,f' 2=.sc (.bool b)) (aS Tryz.prog Γ ext wY f s)):∀(k i:Nat) (z:Int) (f:aO),i + k=lf.length→f 1=.ptr b 0 15→f 3=.sc (.int .i64 z)→f 4=iN i→
  Er (fun f' s'=>n0≤s'.w∧∃b:Bool,f' 2=.sc (.bool b)) (LP Tryz.prog Γ ext 0 rx wY f s):=by
 obtain⟨nm,vs,ps,fs,als,ts,o,st,pi,la',cw,gi,go,le,tk⟩:=x;simp only at hf;simp only [eu.cells] at hb;subst hf;intro k
 induction k with
 | zero=>
  intro i z f hk h1 h3 h4;have e1:decide (i < lf.length)=false:=df;have hgo:=hR;refine ac fun L hL=>?_;refine Ci @rx.eq_1 h1 h3 h4 hb @bW e1 ?_;exact hgo _ z (aL h1) (aL h3)
 | succ k ih=>
  intro i z f hk h1 h3 h4;have hl:i < lf.length:=om;have e1:decide (i < lf.length)=true:=decide_eq_true hl;have hj:lf[i]?=some lf[i]:=List.getElem?_eq_getElem hl;have hfl:=aQ bD.len lf;obtain⟨rr,hk3⟩:=de bD.len hj;obtain⟨z',hz⟩:=hw _ (List.getElem_mem hl);have hgo:=ih (i + 1);have hgo2:=hR;generalize lf[i]=y at hk3 hz;obtain⟨n,⟨k1,p,nm',al,aa,ws,rs,v,is⟩⟩:=y;simp only [bD.cells,ah.cells,List.cons_append,List.nil_append] at hk3 hz;refine ac fun L hL=>?_;cases c2:decide (z≤2000) with
  | false=>
   refine Bz @rx.eq_1 h1 h3 h4 hb @bW e1 c2 ?_;exact hgo2 _ z (aL h1) (aL h3)
  | true=>
   refine qJ @rx.eq_1 h1 h3 h4 hb @bW e1 c2 hl hfl hk3 @ap hz tv ?_;subst hL;exact hgo _ _ om (aL h1) bh bh
structure sM (D d:Nat) (x:eu) (lv:Option (List fu)) (lp:Option (List ByteArray)) (lf:Option (List bD)) (la:Option (List cj)) (lt:Option (List ei)):Prop where
 v:x.vars=b9 99 fu.cells lv
 p:x.params=b9 9 gx lp
 f:x.funcs=b9 121 bD.cells lf
 a:x.aliases=b9 123 cj.cells la
 t:x.traps=b9 101 ei.cells lt
 nv:(lv.getD []).length≤16777216
 np:(lp.getD []).length≤16777216
 nf:(lf.getD []).length≤16777216
 na:(la.getD []).length≤16777216
 nt:(lt.getD []).length≤16777216
 node:∀y∈lf.getD [],dn D d y.body∧bj y.body.cells≤16777216
 name:x.name.data.toList.length≤16777216
 cwd:x.cwd.data.toList.length≤16777216
theorem NA {D d:Nat}{x:eu}{lv:Option (List fu)}{lp:Option (List ByteArray)}{lf:Option (List bD)}{la:Option (List cj)}{lt:Option (List ei)} (h:sM D d x lv lp lf la lt) (s:PS):∃b:Bool,Pc ext 37 [.agg x.cells] (.sc (.bool b)) s:=by
 obtain⟨bv,hv⟩:=Classical.axiomOfChoice fun s=>Jn (ext:=ext) (y:=lv) (by have:=h.nv; omega) s;obtain⟨bp,hp⟩:=Classical.axiomOfChoice fun s=>KJ (ext:=ext) (y:=lp) (by have:=h.np; omega) s;have hw:=fun s (y:bD) (hy:y∈lf.getD [])=>G3 (ext:=ext) d y.body (h.node y hy).1 (h.node y hy).2 s;have h1:=cA (e:=121) (c:=bD.cells) lf;have h2:=cA (e:=123) (c:=cj.cells) la;have h3:=cA (e:=101) (c:=ei.cells) lt;have c1:=dE (e:=99) (c:=fu.cells) lv;have c2:=dE (e:=9) (c:=gx) lp;have c3:=dE (e:=121) (c:=bD.cells) lf;have c4:=dE (e:=123) (c:=cj.cells) la;have c5:=dE (e:=101) (c:=ei.cells) lt;have hR:=fun (b n0:Nat) (s:PS) (hn:n0≤s.w) (hb:s.h b=_) z f a c=>L8 (ext:=ext) (la:=la) (by have:=h.na; omega) hn hb h.a (z:=z) f a c;have hL:=fun l (e:x.funcs=b9 121 bD.cells (some l)) hl (b n0:Nat) (s:PS) (hn:n0≤s.w) (hb:s.h b=_) hw hR=>Mk (ext:=ext) (x:=x) (lf:=l) hl hn hb e hw hR;have hnode:=h.node;have hlf:=h.nf;have hhf:=h.f;have hhv:=h.v;have hhp:=h.p;have hha:=h.a;have hht:=h.t;clear h;refine uU (fn:=Km) (r:=2) (by rfl) (by simp [Km]) (by rfl) (by rfl) ?_;unfold Km;obtain⟨nm,vs,ps,fs,als,ts,o,st,pi,la',cw,gi,go,le,tk⟩:=x;simp only at hhf hhv hhp hha hht;rw [← hhv] at hv c1;rw [← hhp] at hp c2;rw [← hhf] at h1 c3;rw [← hha] at h2 c4;rw [← hht] at h3 c5;simp only [eu.cells] at hR hL ⊢;generalize hs1:((⟨s.h,s.n,s.n⟩ : PS).new ⟨[.sc (.string nm),vs,ps,fs,als,ts,.sc (.int .i64 o),.sc (.int .i64 st),.sc (.int .i64 pi),.sc (.int .i64 la'),.sc (.string cw),.sc (.int .i64 gi),.sc (.int .i64 go),.sc (.int .i64 le),.sc (.bool tk)],0,56⟩)=s1;have q1:s1.h s.n=⟨[.sc (.string nm),vs,ps,fs,als,ts,.sc (.int .i64 o),.sc (.int .i64 st),.sc (.int .i64 pi),.sc (.int .i64 la'),.sc (.string cw),.sc (.int .i64 gi),.sc (.int .i64 go),.sc (.int .i64 le),.sc (.bool tk)],0,56⟩:=by rw [← hs1]; simp only [PS.new,if_true]
 have q2:s1.w=s.n:=by rw [← hs1]; rfl
 have hw1:s.n≤s1.w:=by rw [q2]; exact Nat.le_refl _
 cases d1:bv s1 with
 | false=>
  have hv1:=hv s1;rw [d1] at hv1;refine R9 hs1 q1 c1 hv1 ?_;exact⟨hw1,_,rfl⟩
 | true=>
 have hv1:=hv s1;rw [d1] at hv1;cases d2:bp s1 with
 | false=>
  have hp1:=hp s1;rw [d2] at hp1;refine BD hs1 q1 c1 hv1 c2 hp1 ?_;exact⟨hw1,_,rfl⟩
 | true=>
 have hp1:=hp s1;rw [d2] at hp1;cases d3:uF nm.data.toList with
 | false=>simp -implicitDefEqProofs (disch:=omega) only [ZS,seval,hs1,q1,c1,hv1,c2,hp1,iW,d3]; exact⟨hw1,_,rfl⟩
 | true=>
 cases d4:decide (66 < (lf.getD []).length) with
 | true=>simp -implicitDefEqProofs (disch:=omega) only [ZS,seval,hs1,q1,c1,hv1,c2,hp1,iW,d3,c3,h1,d4]; exact⟨hw1,_,rfl⟩
 | false=>
 cases d5:decide (66 < (la.getD []).length) with
 | true=>simp -implicitDefEqProofs (disch:=omega) only [ZS,seval,hs1,q1,c1,hv1,c2,hp1,iW,d3,c3,h1,d4,c4,h2,d5]; exact⟨hw1,_,rfl⟩
 | false=>
 cases d6:decide (25 < (lt.getD []).length) with
 | true=>simp -implicitDefEqProofs (disch:=omega) only [ZS,seval,hs1,q1,c1,hv1,c2,hp1,iW,d3,c3,h1,d4,c4,h2,d5,c5,h3,d6]; exact⟨hw1,_,rfl⟩
 | false=>
 cases d7:decide (300 < cw.data.toList.length) with
 | true=>simp -implicitDefEqProofs (disch:=omega) only [ZS,seval,hs1,q1,c1,hv1,c2,hp1,iW,d3,c3,h1,d4,c4,h2,d5,c5,h3,d6,d7]; exact⟨hw1,_,rfl⟩
 | false=>
  have hR1:=fun z f a c=>hR s.n s.n s1 hw1 q1 z f a c;cases lf with
  | none=>
   have z0:decide ((0:Int) < 0)=false:=rfl;simp only [b9] at hhf;subst hhf;refine rG hs1 q1 c1 hv1 c2 hp1 @iW d3 c3 h1 d4 c4 h2 d5 c5 h3 d6 d7 tv ?_;refine ac fun L hL=>?_;refine OX @rx.eq_1 q1 z0 ?_;exact hR1 0 _ bh bh
  | some l=>
   have hL1:=hL l hhf (by have:l.length≤16777216:=hlf; omega) s.n s.n s1 hw1 q1 (fun y hy=>hw s1 y hy) (fun f z a c=>hR1 z f a c) l.length 0 0;refine rG hs1 q1 c1 hv1 c2 hp1 @iW d3 c3 h1 d4 c4 h2 d5 c5 h3 d6 d7 tv ?_;exact hL1 _ (Nat.zero_add _) bh bh bh
end Go.Proofs.YtflfflfodghgpaaGreatDoor
set_option linter.unusedSimpArgs false
namespace Go.Proofs.YtflfflfodghgpaaGreatDoor
open Go Go.EvL Go.PE Go.Mir
variable {ext:ai}
theorem GG {kl:List ah}{ok:ah→Bool} (hx:kl.length < 1000000000000) (h:∀y∈kl,∀s,Pc ext 65 [.agg y.cells] (.sc (.bool (ok y))) s) {n0:Nat}{s:PS} (hn:n0≤s.w):∀(k i:Nat) (f:aO),i + k=kl.length→f 3=b9 28 ah.cells (some kl)→f 4=iN i→
  Er (fun f' s'=>n0≤s'.w∧f' 2=.sc (.bool ((kl.drop i).all ok))) (LP Tryz.prog Γ ext 0 vA A0 f s):=by
 intro k
 induction k with
 | zero=>
  intro i f hk h3 h4;have e1:decide (i < kl.length)=false:=df;have ha:(kl.drop i).all ok=true:=by rw [List.drop_eq_nil_of_le om]; rfl
  refine ac fun L hL=>?_;simp only [b9] at h3;refine BD @vA.eq_1 @A0.eq_1 h3 h4 e1 ha ?_;exact hn
 | succ k ih=>
  intro i f hk h3 h4;have hl:i < kl.length:=om;have e1:decide (i < kl.length)=true:=decide_eq_true hl;have hj:kl[i]?=some kl[i]:=List.getElem?_eq_getElem hl;have hfl:=aQ ah.len kl;have hk3:=mO ah.len hj;have hc:=h _ (List.getElem_mem hl);have hgo:=ih (i + 1);rw [List.drop_eq_getElem_cons hl,List.all_cons];generalize kl[i]=y at hk3 hc ⊢;simp only [ah.cells] at hk3 hc;simp only [b9] at h3;refine ac fun L hL=>?_;cases c:ok y with
  | false=>
   rw [c] at hc;refine GI @vA.eq_1 @A0.eq_1 h3 h4 e1 hl hfl hk3 hc ?_;exact hn
  | true=>
   rw [c] at hc;refine Bz @vA.eq_1 h3 h4 e1 hl hfl hk3 hc ?_;subst hL;exact hgo _ om (aL h3) bh
theorem He {x:ah}{kl:List ah}{o:Bool}{ok:ah→Bool} (hx:kl.length < 1000000000000) (ho:∀s,Pc ext 141 [.agg x.cells] (.sc (.bool o)) s) (hk:∀s,Pc ext 59 [.agg x.cells] (b9 28 ah.cells (eH kl)) s)
  (h:∀y∈kl,∀s,Pc ext 65 [.agg y.cells] (.sc (.bool (ok y))) s) (s:PS):Pc ext 65 [.agg x.cells] (.sc (.bool (o && kl.all ok))) s:=by
 refine mu TJ 2 ?_;unfold TJ;simp only [ah.cells] at ho hk ⊢;cases o with
 | false=>
  exact aL ho
 | true=>
  rw [Bool.true_and];cases kl with
  | nil=>
   have z0:decide ((0:Int) < 0)=false:=rfl;simp only [eH,b9] at hk;refine u6 ho hk ?_;refine ac fun L hL=>?_;exact jC @vA.eq_1 @A0.eq_1 z0
  | cons y l=>
   simp only [eH,b9] at hk;refine u6 ho hk ?_;exact GG (kl:=y :: l) hx h (n0:=s.n) bh (y :: l).length 0 _ (Nat.zero_add _) (aL @bW) bh
noncomputable def sK (ext:ai) (x:ah):Bool:=yT ext 65 [.agg x.cells] (.sc (.bool true))
noncomputable def HM (ext:ai) (x:ah):Bool:=yT ext 141 [.agg x.cells] (.sc (.bool true))
theorem Qx {D:Nat} : ∀(d:Nat) (x:ah),dn D d x→bj x.cells≤16777216→(∀s,Pc ext 65 [.agg x.cells] (.sc (.bool (sK ext x))) s)∧(∀s,Pc ext 141 [.agg x.cells] (.sc (.bool (HM ext x))) s)∧
  ∀kl,(∀s,Pc ext 59 [.agg x.cells] (b9 28 ah.cells (eH kl)) s)→sK ext x=(HM ext x && kl.all (sK ext)):=by
 intro d
 induction d with
 | zero=>intro x h; cases h
 | succ d ih=>
  intro x hx hN;obtain⟨la,lw,lr,lk,li,pt,bd,hd⟩:=hx.dec;have ho:=fun s=>Qv (ext:=ext) hd hN s;have hoo:∀s,Pc ext 141 [.agg x.cells] (.sc (.bool (HM ext x))) s:=fun s=>by
   rw [show HM ext x=_ from oe ho];exact ho s
  obtain⟨kl,hk,hy⟩:=O9 (ext:=ext) hx hN;have hf:=fun s=>He (ext:=ext) (ok:=sK ext) (by have:=hk.len; omega) hoo hk.ref (fun y hm=>(ih y (hy y hm).1 (by have:=(hy y hm).2; omega)).1) s;have hb:sK ext x=(HM ext x && kl.all (sK ext)):=oe hf;refine⟨fun s=>by rw [hb]; exact hf s,hoo,fun kl' hk'=>?_⟩;have h1:=(hk.ref Kl).symm.trans (hk' Kl);injection h1 with h1;injection h1 with h1;have h2:eH kl=eH kl':=EC ah.inj ah.len h1;have h3:kl=kl':=by rw [← fU kl,← fU kl',h2]
  rw [hb,h3]
end Go.Proofs.YtflfflfodghgpaaGreatDoor
set_option linter.unusedSimpArgs false
namespace Go.Proofs.YtflfflfodghgpaaGreatDoor
open Go Go.EvL Go.PE Go.Mir
variable {ext:ai}
theorem MR (a b:Nat):Iu true (a:Int) (b:Int)=((max a b:Nat):Int):=by
 unfold Iu;simp only [if_true];split<;>omega
open Classical in
noncomputable def Mt (ext:ai) (g:Nat) (a:List PV):Nat:=if h:∃n:Nat,∀s,aU Tryz.prog Γ ext g a s=some (iN n,s) then Classical.choose h else 0
theorem DF {g:Nat}{a:List PV}{n:Nat} (h:∀s,aU Tryz.prog Γ ext g a s=some (iN n,s)):Mt ext g a=n:=by
 unfold Mt;have hx:∃n:Nat,∀s,aU Tryz.prog Γ ext g a s=some (iN n,s):=⟨n,h⟩
 rw [dif_pos hx];have h1:=(Classical.choose_spec hx Kl).symm.trans (h Kl);injection h1 with h1;injection h1 with h1;injection h1 with h1;injection h1 with _ h1;omega
theorem Fx {kl:List ah}{g:ah→Nat} (hx:kl.length < 1000000000000) (h:∀y∈kl,∀s,Pc ext 20 [.agg y.cells] (iN (g y)) s) {n0:Nat}{s:PS} (hn:n0≤s.w):∀(k i acc:Nat) (f:aO),i + k=kl.length→acc + ((kl.drop i).map g).sum < 1000000000000→f 3=b9 28 ah.cells (some kl)→f 4=iN acc→f 5=iN i→
  Er (fun f' s'=>n0≤s'.w∧f' 2=.sc (.int .i64 ((acc + ((kl.drop i).map g).sum:Nat):Int))) (LP Tryz.prog Γ ext 0 xq Et f s):=by
 intro k
 induction k with
 | zero=>
  intro i acc f hk hb h3 h4 h5;have e1:decide (i < kl.length)=false:=df;have ha:acc + ((kl.drop i).map g).sum=acc:=by rw [List.drop_eq_nil_of_le om]; rfl
  rw [ha];refine ac fun L hL=>?_;simp only [b9] at h3;refine BD @xq.eq_1 @Et.eq_1 h3 h4 h5 e1 ?_;exact hn
 | succ k ih=>
  intro i acc f hk hb h3 h4 h5;have hl:i < kl.length:=om;have e1:decide (i < kl.length)=true:=decide_eq_true hl;have hj:kl[i]?=some kl[i]:=List.getElem?_eq_getElem hl;have hfl:=aQ ah.len kl;have hk3:=mO ah.len hj;have hc:=h _ (List.getElem_mem hl);have hd:acc + ((kl.drop i).map g).sum=acc + g kl[i] + ((kl.drop (i + 1)).map g).sum:=by
   rw [List.drop_eq_getElem_cons hl,List.map_cons,List.sum_cons,Nat.add_assoc]
  have hgo:=ih (i + 1) (acc + g kl[i]);rw [hd] at hb ⊢;have hq:acc + g kl[i] < 1000000000000:=om;generalize kl[i]=y at *;simp only [ah.cells] at hk3 hc;simp only [b9] at h3;refine ac fun L hL=>?_;refine GI @xq.eq_1 h3 h4 h5 e1 hl hfl hk3 hc ?_;subst hL;exact hgo _ om hb (aL h3) bh bh
def tn (l:List Nat) (a:Nat):Nat:=l.foldl max a
theorem ER {B:Nat} : ∀(l:List Nat) (a:Nat),a≤B→(∀x∈l,x≤B)→tn l a≤B
 | [],a,h,_=>h
 | x :: l,a,h,hl=>ER l (max a x) (Nat.max_le.2 ⟨h,hl x (List.mem_cons_self ..)⟩) fun y hy=>hl y (List.mem_cons_of_mem _ hy)
theorem BL {kl:List ah}{g:ah→Nat} (hx:kl.length < 1000000000000) (h:∀y∈kl,∀s,Pc ext 22 [.agg y.cells] (iN (g y)) s) {n0:Nat}{s:PS} (hn:n0≤s.w):∀(k i acc:Nat) (f:aO),i + k=kl.length→tn ((kl.drop i).map g) acc < 1000000000000→f 3=b9 28 ah.cells (some kl)→f 4=iN acc→f 5=iN i→
  Er (fun f' s'=>n0≤s'.w∧f' 2=.sc (.int .i64 ((tn ((kl.drop i).map g) acc + 1:Nat):Int))) (LP Tryz.prog Γ ext 0 xu Dw f s):=by
 intro k
 induction k with
 | zero=>
  intro i acc f hk hb h3 h4 h5;have e1:decide (i < kl.length)=false:=df;have ha:tn ((kl.drop i).map g) acc=acc:=by rw [List.drop_eq_nil_of_le om]; rfl
  rw [ha] at hb ⊢;refine ac fun L hL=>?_;simp only [b9] at h3;refine BD @xu.eq_1 @Dw.eq_1 h3 h4 h5 e1 ?_;exact hn
 | succ k ih=>
  intro i acc f hk hb h3 h4 h5;have hl:i < kl.length:=om;have e1:decide (i < kl.length)=true:=decide_eq_true hl;have hj:kl[i]?=some kl[i]:=List.getElem?_eq_getElem hl;have hfl:=aQ ah.len kl;have hk3:=mO ah.len hj;have hc:=h _ (List.getElem_mem hl);have hd:tn ((kl.drop i).map g) acc=tn ((kl.drop (i + 1)).map g) (max acc (g kl[i])):=by
   rw [List.drop_eq_getElem_cons hl,List.map_cons];rfl
  have hgo:=ih (i + 1) (max acc (g kl[i]));rw [hd] at hb ⊢;generalize kl[i]=y at *;simp only [ah.cells] at hk3 hc;simp only [b9] at h3;refine ac fun L hL=>?_;refine yi @xu.eq_1 h3 h4 h5 e1 hl hfl hk3 hc @MR ?_;subst hL;exact hgo _ om hb (aL h3) bh bh
theorem FY {x:ah}{kl:List ah}{g:ah→Nat} (hx:kl.length < 1000000000000) (hb : 1 + (kl.map g).sum < 1000000000000) (hk:∀s,Pc ext 59 [.agg x.cells] (b9 28 ah.cells (eH kl)) s)
  (h:∀y∈kl,∀s,Pc ext 20 [.agg y.cells] (iN (g y)) s) (s:PS):Pc ext 20 [.agg x.cells] (iN (1 + (kl.map g).sum:Nat)) s:=by
 refine mu lW 2 ?_;unfold lW;simp only [ah.cells] at hk ⊢;cases kl with
 | nil=>
  have z0:decide ((0:Int) < 0)=false:=rfl;simp only [eH,b9] at hk;refine tJ hk ?_;refine ac fun L hL=>?_;refine OX @xq.eq_1 @Et.eq_1 z0 ?_
  first | rfl | exact⟨Nat.le_refl _,rfl⟩
 | cons y l=>
  simp only [eH,b9] at hk;refine tJ hk ?_;exact Fx (kl:=y :: l) hx h (n0:=s.n) bh (y :: l).length 0 1 _ (Nat.zero_add _) hb (aL @bW) bh bh
theorem Cc {x:ah}{kl:List ah}{g:ah→Nat} (hx:kl.length < 1000000000000) (hb:tn (kl.map g) 0 < 1000000000000) (hk:∀s,Pc ext 59 [.agg x.cells] (b9 28 ah.cells (eH kl)) s)
  (h:∀y∈kl,∀s,Pc ext 22 [.agg y.cells] (iN (g y)) s) (s:PS):Pc ext 22 [.agg x.cells] (iN (tn (kl.map g) 0 + 1:Nat)) s:=by
 refine mu rB 2 ?_;unfold rB;simp only [ah.cells] at hk ⊢;cases kl with
 | nil=>
  have z0:decide ((0:Int) < 0)=false:=rfl;have z1:IntKind.i64.wrap ((0:Int) + 1)=1:=rfl;simp only [eH,b9] at hk;refine tJ hk ?_;refine ac fun L hL=>?_;refine R9 @xu.eq_1 @Dw.eq_1 z0 z1 ?_
  first | rfl | exact⟨Nat.le_refl _,rfl⟩
 | cons y l=>
  simp only [eH,b9] at hk;refine tJ hk ?_;exact BL (kl:=y :: l) hx h (n0:=s.n) bh (y :: l).length 0 0 _ (Nat.zero_add _) hb (aL @bW) bh bh
end Go.Proofs.YtflfflfodghgpaaGreatDoor
set_option linter.unusedSimpArgs false
namespace Go.Proofs.YtflfflfodghgpaaGreatDoor
open Go Go.EvL Go.PE Go.Mir
variable {ext:ai}
theorem xh {g:ah→Nat} : ∀l:List ah,(∀y∈l,g y≤bj y.cells)→(l.map g).sum≤bj (l.flatMap ah.cells)
 | [],_=>Nat.zero_le _
 | y :: l,h=>by
  have h1:=h y (List.mem_cons_self ..);have h2:=xh l fun z hz=>h z (List.mem_cons_of_mem _ hz);rw [List.map_cons,List.sum_cons,wK];omega
noncomputable def oY (ext:ai) (x:ah):Nat:=Mt ext 20 [.agg x.cells]
noncomputable def kq (ext:ai) (x:ah):Nat:=Mt ext 22 [.agg x.cells]
structure TV (ext:ai) (x:ah):Prop where
 r16:∀s,Pc ext 20 [.agg x.cells] (iN (oY ext x)) s
 r18:∀s,Pc ext 22 [.agg x.cells] (iN (kq ext x)) s
 s1:oY ext x≤bj x.cells
 d1:kq ext x≤bj x.cells
theorem Oe {D:Nat} : ∀(d:Nat) (x:ah),dn D d x→bj x.cells≤16777216→TV ext x∧∀kl,(∀s,Pc ext 59 [.agg x.cells] (b9 28 ah.cells (eH kl)) s)→oY ext x=1 + (kl.map (oY ext)).sum∧kq ext x=tn (kl.map (kq ext)) 0 + 1:=by
 intro d
 induction d with
 | zero=>intro x h; cases h
 | succ d ih=>
  intro x hx hN;obtain⟨la,lw,lr,lk,li,pt,bd,hd⟩:=hx.dec;have hkb:=hd.kidsBulk;obtain⟨n1,n2,n3,n4⟩:=hd.sizes hN;have hr:=fun s=>hd.kids_ok (ext:=ext) hN s;have hall:=hd.kids;generalize hkl:jX (lk.getD []) (li.getD []) bd=kl at *;have hlen:kl.length≤16777216:=by
   have h1:=rD (kl.flatMap ah.cells);have h2:=aQ ah.len kl;omega
  have hY:=fun y hy=>(ih y (hall y hy) (n4 y hy)).1;have hs1:=xh (g:=oY ext) kl fun y hy=>(hY y hy).s1;have hm:tn (kl.map (kq ext)) 0 + 1≤bj x.cells:=by
   have:tn (kl.map (kq ext)) 0≤bj (kl.flatMap ah.cells):=ER _ _ (Nat.zero_le _) fun z hz=>by
    obtain⟨y,hy,rfl⟩:=List.mem_map.1 hz;exact Nat.le_trans (hY y hy).d1 (gD hy)
   omega
  have a1:=fun s=>FY (ext:=ext) (x:=x) (g:=oY ext) om om hr (fun y hy=>(hY y hy).r16) s;have a3:=fun s=>Cc (ext:=ext) (x:=x) (g:=kq ext) om om hr (fun y hy=>(hY y hy).r18) s;have e1:oY ext x=1 + (kl.map (oY ext)).sum:=DF a1;have e2:kq ext x=tn (kl.map (kq ext)) 0 + 1:=DF a3;refine⟨⟨fun s=>by rw [e1]; exact a1 s,fun s=>by rw [e2]; exact a3 s,om,om⟩,fun kl' hk'=>?_⟩;have h1:=(hr Kl).symm.trans (hk' Kl);injection h1 with h1;injection h1 with h1;have h2:eH kl=eH kl':=EC ah.inj ah.len h1;have h3:kl=kl':=by rw [← fU kl,← fU kl',h2]
  rw [← h3];exact⟨e1,e2⟩
noncomputable def yO (ext:ai) (x:ah):Int:=if decide (32 < kq ext x) then 5 else if decide (2048 < oY ext x) then 4 else if sK ext x then 0 else 1
theorem Ml {D d:Nat}{x:ah} (hx:dn D d x) (hN:bj x.cells≤16777216) (s:PS):Pc ext 18 [.agg x.cells] (.sc (.int .i64 (yO ext x))) s:=by
 have hz:=(Oe (ext:=ext) d x hx hN).1;have h1:=hz.r16;have h2:=hz.r18;have h3:=(Qx (ext:=ext) d x hx hN).1;have hs1:=hz.s1;have hs2:=hz.d1;refine mu jw 2 ?_;unfold jw yO;generalize oY ext x=m at *;generalize kq ext x=n at *;simp only [ah.cells] at h1 h2 h3 ⊢;cases c1:decide (32 < n) with
 | true=>simp -implicitDefEqProofs (disch:=omega) only [ZS,seval,h2,c1,if_true]; all_goals exact Nat.le_refl _
 | false=>
  cases c2:decide (2048 < m) with
  | true=>exact qs h1 h2 c1 c2
  | false=>
   cases c3:sK ext x with
   | true=>rw [c3] at h3; simp -implicitDefEqProofs (disch:=omega) only [ZS,seval,ZX,h1,h2,h3,c1,c2]; all_goals exact Nat.le_refl _
   | false=>rw [c3] at h3; simp -implicitDefEqProofs (disch:=omega) only [ZS,seval,ZX,h1,h2,h3,c1,c2]; all_goals exact Nat.le_refl _
end Go.Proofs.YtflfflfodghgpaaGreatDoor
set_option linter.unusedSimpArgs false
namespace Go.Proofs.YtflfflfodghgpaaGreatDoor
open Go Go.EvL Go.PE Go.Mir
theorem Kk (s:PS):aU Tryz.prog Γ (pP 32) 32 [] s=some (.sc (.bool true),s):=by
 rw [Ft (by rfl)];rfl
end Go.Proofs.YtflfflfodghgpaaGreatDoor
namespace Go.Proofs.YtflfflfodghgpaaGreatDoor
open Go Go.EvL Go.PE Go.Mir
theorem Ph {P:Program}{n:Nat}{f1 f2 f3 f4 f5 f6 f7 f8 f9 f10 f11 f12 f13 f14:Field}{ls:List (List PV)} (h:yV P n [f1,f2,f3,f4,f5,f6,f7,f8,f9,f10,f11,f12,f13,f14] ls):∃a1 a2 a3 a4 a5 a6 a7 a8 a9 a10 a11 a12 a13 a14,ls=[a1,a2,a3,a4,a5,a6,a7,a8,a9,a10,a11,a12,a13,a14]∧i6 P n f1.type a1∧i6 P n f2.type a2∧i6 P n f3.type a3∧i6 P n f4.type a4∧i6 P n f5.type a5∧i6 P n f6.type a6∧i6 P n f7.type a7∧i6 P n f8.type a8∧i6 P n f9.type a9∧i6 P n f10.type a10∧i6 P n f11.type a11∧i6 P n f12.type a12∧i6 P n f13.type a13∧i6 P n f14.type a14:=by
 match ls,h with
 | [a1,a2,a3,a4,a5,a6,a7,a8,a9,a10,a11,a12,a13,a14],⟨h1,h2,h3,h4,h5,h6,h7,h8,h9,h10,h11,h12,h13,h14,_⟩=>exact⟨a1,a2,a3,a4,a5,a6,a7,a8,a9,a10,a11,a12,a13,a14,rfl,h1,h2,h3,h4,h5,h6,h7,h8,h9,h10,h11,h12,h13,h14⟩
theorem vt {α:Type}{e N:Nat}{c:α→List PV} (hc:∀d,1≤(c d).length) {l:Option (List α)}{p:PV} (h:p=b9 e c l) (hb:bj [p]≤N):(l.getD []).length≤N:=by
 subst h;have h1:=gL (e:=e) hc l;rw [db,dk] at hb;omega
theorem Cd {N:Nat}{a:ByteArray} (hb:bj [.sc (.string a)]≤N):a.data.toList.length≤N:=by
 rw [db,dk] at hb;have:PV.bulk (.sc (.string a))=a.data.toList.length + 1:=by simp [PV.bulk,JO]
 omega
theorem env_of {D n:Nat}{ps:List PV} (hD:n≤D) (h:i6 Tryz.prog n 56 ps) (hb:bj ps≤16777216):∃(x:eu) (lv:Option (List fu)) (lp:Option (List ByteArray)) (lf:Option (List bD)) (la:Option (List cj)) (lt:Option (List ei)),ps=x.cells∧sM D n x lv lp lf la lt:=by
 obtain⟨k,ls,hk,rfl,hf⟩:=eV Tryz.underlying56 h;clear h;obtain⟨a1,a2,a3,a4,a5,a6,a7,a8,a9,a10,a11,a12,a13,a14,rfl,f1,f2,f3,f4,f5,f6,f7,f8,f9,f10,f11,f12,f13,f14⟩:=Ph hf;have hN : 16777216 < 4611686018427387904:=by decide
 have hsub:∀{x:List PV},x∈[a1,a2,a3,a4,a5,a6,a7,a8,a9,a10,a11,a12,a13,a14]→bj x≤16777216:=fun hx=>Nat.le_trans (cB hx) hb;have b1:=hsub (x:=a1) (by simp);have b2:=hsub (x:=a2) (by simp);have b3:=hsub (x:=a3) (by simp);have b4:=hsub (x:=a4) (by simp);have b5:=hsub (x:=a5) (by simp);have b6:=hsub (x:=a6) (by simp);have b11:=hsub (x:=a11) (by simp);obtain⟨z1,rfl,_⟩:=eD Tryz.underlying9 f1;obtain⟨p2,l2,rfl,g2,_,_⟩:=mE (c:=fu.cells) (Q:=fun _=>True) Tryz.underlying49 f2 (fun d=>by simp [fu.cells]) b2 hN (fun m x hm hx hbx=>by
  obtain⟨k',ls,rfl,rfl,hf⟩:=eV Tryz.underlying99 hx;obtain⟨a,b,c,d,e,rfl,e1,e2,e3,e4,e5⟩:=NT hf;obtain⟨y1,rfl,_⟩:=eD Tryz.underlying9 e1;obtain⟨y2,rfl,_⟩:=eD Tryz.underlying9 e2;obtain⟨y3,rfl⟩:=lJ Tryz.underlying4 e3;obtain⟨y4,rfl⟩:=lJ Tryz.underlying4 e4;obtain⟨y5,rfl⟩:=lJ Tryz.underlying4 e5;exact⟨⟨y1,y2,y3,y4,y5⟩,rfl,trivial⟩)
 obtain⟨p3,l3,rfl,g3,_,_⟩:=mE (c:=gx) (Q:=fun _=>True) Tryz.underlying47 f3 (fun d=>by simp [gx]) b3 hN (fun m x hm hx hbx=>by
  obtain⟨y1,rfl,_⟩:=eD Tryz.underlying9 hx;exact⟨y1,rfl,trivial⟩)
 obtain⟨p4,l4,rfl,g4,_,q4⟩:=mE (c:=bD.cells) (Q:=fun y=>dn D n y.body∧bj y.body.cells≤16777216) Tryz.underlying50 f4 (fun d=>by simp [bD.cells]) b4 hN (fun m x hm hx hbx=>by
  obtain⟨k',ls,rfl,rfl,hf⟩:=eV Tryz.underlying121 hx;obtain⟨a,b,rfl,e1,e2⟩:=xg hf;obtain⟨y1,rfl,_⟩:=eD Tryz.underlying9 e1;have hbb:bj b≤16777216:=Nat.le_trans (cB (by simp)) hbx;obtain⟨y2,rfl,hy⟩:=Mc hN (D:=D) k' om b e2 hbb;exact⟨⟨y1,y2⟩,by simp [bD.cells],hy.mono om,hbb⟩)
 obtain⟨p5,l5,rfl,g5,_,_⟩:=mE (c:=cj.cells) (Q:=fun _=>True) Tryz.underlying51 f5 (fun d=>by simp [cj.cells]) b5 hN (fun m x hm hx hbx=>by
  obtain⟨k',ls,rfl,rfl,hf⟩:=eV Tryz.underlying123 hx;obtain⟨a,b,rfl,e1,e2⟩:=xg hf;obtain⟨y1,rfl,_⟩:=eD Tryz.underlying9 e1;obtain⟨y2,rfl,_⟩:=eD Tryz.underlying9 e2;exact⟨⟨y1,y2⟩,rfl,trivial⟩)
 obtain⟨p6,l6,rfl,g6,_,_⟩:=mE (c:=ei.cells) (Q:=fun _=>True) Tryz.underlying52 f6 (fun d=>by simp [ei.cells]) b6 hN (fun m x hm hx hbx=>by
  obtain⟨k',ls,rfl,rfl,hf⟩:=eV Tryz.underlying101 hx;obtain⟨a,b,rfl,e1,e2⟩:=xg hf;obtain⟨y1,rfl,_⟩:=gC Tryz.underlying3 e1;obtain⟨y2,rfl,_⟩:=eD Tryz.underlying9 e2;exact⟨⟨y1,y2⟩,rfl,trivial⟩)
 obtain⟨z7,rfl,_⟩:=gC Tryz.underlying3 f7;obtain⟨z8,rfl,_⟩:=gC Tryz.underlying3 f8;obtain⟨z9,rfl,_⟩:=gC Tryz.underlying3 f9;obtain⟨z10,rfl,_⟩:=gC Tryz.underlying3 f10;obtain⟨z11,rfl,_⟩:=eD Tryz.underlying9 f11;obtain⟨k2,ls2,_,rfl,hf2⟩:=eV Tryz.underlying54 f12;obtain⟨c1,c2,rfl,e1,e2⟩:=xg hf2;obtain⟨y1,rfl,_⟩:=gC Tryz.underlying3 e1;obtain⟨y2,rfl,_⟩:=gC Tryz.underlying3 e2;obtain⟨z13,rfl,_⟩:=gC Tryz.underlying3 f13;obtain⟨z14,rfl⟩:=lJ Tryz.underlying4 f14;refine⟨⟨z1,p2,p3,p4,p5,p6,z7,z8,z9,z10,z11,y1,y2,z13,z14⟩,l2,l3,l4,l5,l6,rfl,⟨g2,g3,g4,g5,g6,vt (fun d=>by simp [fu.cells]) g2 b2,vt (fun d=>by simp [gx]) g3 b3,vt (fun d=>by simp [bD.cells]) g4 b4,vt (fun d=>by simp [cj.cells]) g5 b5,vt (fun d=>by simp [ei.cells]) g6 b6,q4,Cd b1,Cd b11⟩⟩
end Go.Proofs.YtflfflfodghgpaaGreatDoor
set_option linter.unusedSimpArgs false
namespace Go.PE
open Go Go.EvL
section
variable {P:Program}{Γ:Nat→Option fN}{ext:ai}
def jB (t es bytes:Nat) (z:List Value) (keep:Bool):fN:=⟨14,(sr [mk 2 (.slice none 0 0)]
 (.seq (uH [mt 4 0,ob 5 (.len false (tp 4)),ob 6 (bi .eql 5 0)] 6
 (sr [mk 2 (.slice none 0 0)]
 .ret)
 .skip)
 (sr [mt 7 0,ob 8 (.len false (tp 7)),ob 9 (.mks t es bytes z (tp 8) (tp 8)),mt 3 9]
 (sr [mt 10 3,mt 11 0,ob 12 (.cpy es (tp 10) (tp 11))]
 (sr [mt 13 3,mt 2 13]
 .ret))))),[.tmp 2],keep⟩
def B0 (t es:Nat):bw:=(sr [ob 12 (bn .lss 3 11 10)]
 (.seq (.cond (tp 12)
 .skip
 (.exit 0))
 (.seq (.block 1 (sr [mt 13 11,mt 6 13]
 (.reg [mt 14 5,mt 15 6,mt 16 1,mt 17 5,mt 18 6,ob 19 (.iaddr es (tp 17) (tp 18)),ob 20 (.load t true es (tp 19)),ob 21 (.call (tp 16) [(tp 20)]),ob 22 (.iaddr es (tp 14) (tp 15)),o0 (.store t es (tp 22) (tp 21))])))
 (.reg [ob 23 (bi .add 11 1),mt 11 23]))))
def DK:bw:=(sr [mt 24 5,mt 4 24]
 .ret)
def kG (t es H:Nat):fN:=⟨25,(sr [mk 4 (.slice none 0 0)]
 (sr [mt 7 0,ob 8 (cl H [(tp 7)]),mt 5 8]
 (.seq (sr [mt 9 5,ob 10 (.len false (tp 9)),mk 11 (.int .i64 0)]
 (.block 0 (.loop (B0 t es)))) DK))),[.tmp 4],false⟩
theorem Gz (z:List Value) (es n:Nat):(sO z es n).length=n * es:=by simp [sO]
theorem Ei {α:Type}{t e es bytes G:Nat}{z:List Value}{keep:Bool}{c:α→List PV} (hc:∀x,(c x).length=es) (hby:bytes≤1024) {l:List α} (hl:l≠[]) (hbig:l.length≤16777216) (ho:∀x∈l,(c x).all cX=true) (s:PS) :
  Er (fun f' s'=>f' 2=.own s.n 0 l.length (l.length * es)∧s'.n=s.n + 1∧s'.w=s.n∧s'.h s.n=⟨l.flatMap c,l.length * es,t⟩∧∀j,j < s.n→s'.h j=s.h j) (aS P Γ ext (jB t es bytes z keep).body (cK [b9 e c (some l)] 0) ⟨s.h,s.n,s.n⟩):=by
 have hn : 0 < l.length:=List.length_pos_iff.2 hl;have c0:(l.length == 0)=false:=by
  cases h:l.length with
  | zero=>omega
  | succ n=>rfl
 have hfl:=aQ hc l;have hone:(l.flatMap c).all cX=true:=by rw [List.all_flatMap]; exact List.all_eq_true.2 ho
 have b1:bytes * l.length≤281474976710656:=Nat.le_trans (Nat.mul_le_mul hby hbig) (by decide);have b2:l.length≤1073741824:=om;have hlen:=Gz z es l.length;have hel:∀s:PS,eU s es (.lit e l.length (l.flatMap c))=some (l.flatMap c,l.length):=fun s=>by
  unfold eU;simp only [hfl,if_true]
 have hst:∀s:PS,∀k,s.h k=⟨sO z es l.length,0,t⟩→G6 s (.ptr k 0 (l.length * es)) (l.flatMap c)=some (s.put k ⟨l.flatMap c,l.length * es,t⟩):=fun s k hk=>by
  unfold G6;simp only [hk,hfl,hlen,hone,Nat.zero_add,Nat.le_refl,and_self,if_true,List.take_zero,List.nil_append];rw [List.drop_of_length_le (by rw [hlen]; exact Nat.le_refl _),List.append_nil]
 have hst':=hst ((⟨s.h,s.n,s.n⟩ : PS).new ⟨sO z es l.length,0,t⟩) s.n (if_pos rfl);have cn:(l.length=0)=False:=eq_false om;unfold jB;refine GI @bW c0 b1 b2 hlen hel hst' cn hfl ?_;intro j hj;rw [if_neg om,if_neg om]
theorem Ee {α:Type}{t e es bytes G:Nat}{z:List Value}{keep:Bool}{c:α→List PV}{y:Option (List α)} (hy:y.getD []=[]) (s:PS) :
  Er (fun f' s'=>f' 2=.sc (.slice none 0 0)∧s'=⟨s.h,s.n,s.n⟩) (aS P Γ ext (jB t es bytes z keep).body (cK [b9 e c y] 0) ⟨s.h,s.n,s.n⟩):=by
 have z0:((0:Int) == 0)=true:=rfl;have z1:(0 == 0)=true:=rfl;cases y with
 | none=>
  unfold jB;exact qf @bW z0
 | some l=>
  simp only [Option.getD_some] at hy;subst hy;unfold jB;exact qf @bW z1
theorem xY {α:Type}{t es bytes G:Nat}{z:List Value}{c:α→List PV} (hG:Γ G=some (jB t es bytes z false)) (hc:∀x,(c x).length=es) (hby:bytes≤1024) {y:Option (List α)} (hbig:(y.getD []).length≤16777216) (ho:∀x∈y.getD [],(c x).all cX=true∧(c x).all cM=true) (s:PS) :
  aU P Γ ext G [b9 t c y] s=some (b9 t c (eH (y.getD [])),s):=by
 by_cases hy:y.getD []=[]
 ·rw [hy];refine ij hG (by simp [jB]) (Ee (G:=G) hy s) ?_;rintro f s' ⟨h1,rfl⟩;refine fJ (vs:=[f 2]) (by rfl) (by rfl) (Nat.le_refl _) ?_;rw [h1];rfl
 ·obtain⟨l,rfl⟩ : ∃l,y=some l:=by cases y with | none=>exact absurd rfl hy | some l=>exact⟨l,rfl⟩
  simp only [Option.getD_some] at hy hbig ho ⊢;refine ij hG (by simp [jB]) (Ei (G:=G) hc hby hy hbig (fun x hx=>(ho x hx).1) s) ?_;rintro f s' ⟨h1,h2,h3,h4,_⟩;refine fJ (vs:=[f 2]) (by rfl) (by rfl) om ?_;rw [h1];have hfl:=aQ hc l;have hcl:(l.flatMap c).all cM=true:=by rw [List.all_flatMap]; exact List.all_eq_true.2 fun x hx=>(ho x hx).2
  show bQ s.n s' (.own s.n 0 l.length (l.length * es))=_;unfold bQ;simp only [h4];rw [if_neg (Nat.lt_irrefl _),List.drop_zero,Nat.sub_zero,List.take_of_length_le om,if_pos ⟨Nat.le_refl _,om,Nat.zero_le _,hcl⟩];cases l with
  | nil=>exact absurd rfl hy
  | cons x l=>rfl
theorem IS {α:Type}{t es bytes G:Nat}{z:List Value}{c:α→List PV} (hG:Γ G=some (jB t es bytes z true)) (hc:∀x,(c x).length=es) (hby:bytes≤1024) {l:List α} (hl:l≠[]) (hbig:l.length≤16777216) (ho:∀x∈l,(c x).all cX=true) (s:PS) :
  ∃s',aU P Γ ext G [b9 t c (some l)] s=some (.own s.n 0 l.length (l.length * es),s')∧s'.n=s.n + 1∧s'.w=min s.w s.n∧s'.h s.n=⟨l.flatMap c,l.length * es,t⟩∧∀j,j < s.n→s'.h j=s.h j:=by
 obtain⟨f,s1,e1,h1,h2,h3,h4,h5⟩:=Ei (P:=P) (Γ:=Γ) (ext:=ext) (G:=G) (t:=t) (e:=t) (bytes:=bytes) (z:=z) (keep:=true) hc hby hl hbig ho s;refine⟨⟨s1.h,s1.n,min s.w s1.w⟩,?_,h2,by show min s.w s1.w=_; rw [h3],h4,h5⟩;rw [gv hG _ _ (by simp [jB]),e1,i4];unfold aP;show (ck f s1 [.tmp 2]).bind _=_;simp only [ck,h1,Option.map_some,Option.bind_some];rfl
theorem GN {α:Type}{t es bytes G:Nat}{z:List Value}{c:α→List PV} (hG:Γ G=some (jB t es bytes z true)) {y:Option (List α)} (hy:y.getD []=[]) (s:PS) :
  aU P Γ ext G [b9 t c y] s=some (.sc (.slice none 0 0),⟨s.h,s.n,min s.w s.n⟩):=by
 obtain⟨f,s1,e1,h1,rfl⟩:=Ee (P:=P) (Γ:=Γ) (ext:=ext) (G:=G) (t:=t) (e:=t) (es:=es) (bytes:=bytes) (z:=z) (keep:=true) (c:=c) hy s;rw [gv hG _ _ (by simp [jB]),e1,i4];unfold aP;show (ck f _ [.tmp 2]).bind _=_;simp only [ck,h1,Option.map_some,Option.bind_some];rfl
theorem Gr {α:Type}{t es g kb:Nat}{c:α→List PV} (hc:∀x,(c x).length=es) (hes:es≠0) {l:List α} (hbig:l.length≤16777216) (hes2:es≤1000) {cp:α→α} (hr:∀x∈l,∀s,aU P Γ ext g [.agg (c x)] s=some (.agg (c (cp x)),s)) (ho:∀x∈l,(c (cp x)).all cX=true) {n0:Nat} (hk:n0≤kb) :
  ∀(j i:Nat) (f:aO) (s:PS),i + j=l.length→n0≤s.w→kb < s.n→f 1=.fn g [] []→f 5=.own kb 0 l.length (l.length * es)→f 10=.sc (.int .i64 (l.length:Int))→f 11=iN i→s.h kb=⟨((l.take i).map cp ++ l.drop i).flatMap c,l.length * es,t⟩→
  Er (fun f' s'=>n0≤s'.w∧f' 4=.own kb 0 l.length (l.length * es)∧s'.h kb=⟨(l.map cp).flatMap c,l.length * es,t⟩) (LP P Γ ext 0 (B0 t es) DK f s):=by
 intro j
 induction j with
 | zero=>
  intro i f s hij hw hkn h1 h5 h10 h11 hh;have e1:decide (i < l.length)=false:=df;rw [List.take_of_length_le om,List.drop_of_length_le om,List.append_nil] at hh;refine ac fun L hL=>?_;unfold B0 DK;refine FX h1 h5 h10 h11 e1 ?_;exact⟨hw,hh⟩
 | succ j ih=>
  intro i f s hij hw hkn h1 h5 h10 h11 hh;have hl:i < l.length:=om;have e1:decide (i < l.length)=true:=decide_eq_true hl;have hx:l[i]?=some l[i]:=List.getElem?_eq_getElem hl;have hcall:=hr l[i] (List.getElem_mem ..);have hone:=ho l[i] (List.getElem_mem ..);have hdr:l.drop i=l[i] :: l.drop (i + 1):=List.drop_eq_getElem_cons hl;have htk:(l.take (i + 1)).map cp=(l.take i).map cp ++ [cp l[i]]:=by rw [List.take_add_one,hx,List.map_append]; rfl
  generalize l[i]=x at *;have hA:(((l.take i).map cp).flatMap c).length=i * es:=by rw [aQ hc,List.length_map,List.length_take,Nat.min_eq_left om]
  have hcx:=hc x;have hcy:=hc (cp x);have hB:=aQ hc (l.drop (i + 1));rw [List.length_drop] at hB;have hmul:i * es + es + (l.length - (i + 1)) * es=l.length * es:=by
   rw [show l.length=i + 1 + (l.length - (i + 1)) by omega,Nat.add_mul,Nat.add_mul,Nat.one_mul,show i + 1 + (l.length - (i + 1)) - (i + 1)=l.length - (i + 1) by omega]
  rw [hdr,List.flatMap_append,List.flatMap_cons] at hh;generalize hAA:((l.take i).map cp).flatMap c=A at *;generalize hBB:(l.drop (i + 1)).flatMap c=B at *;have hlen:(A ++ (c x ++ B)).length=l.length * es:=by rw [List.length_append,List.length_append,hA,hcx,hB]; omega
  have hld:AB s (.ptr kb (i * es) (l.length * es)) es=some (c x):=by
   unfold AB;simp only [hh];rw [if_pos ⟨om,Nat.le_refl _,om⟩,List.drop_append,List.drop_of_length_le om,List.nil_append,hA,Nat.sub_self,List.drop_zero,List.take_left' hcx]
  have hst:G6 s (.ptr kb (i * es) (l.length * es)) (c (cp x))=some (s.put kb ⟨A ++ (c (cp x) ++ B),l.length * es,t⟩):=by
   unfold G6;simp only [hh];rw [if_pos ⟨by omega,by omega,hone⟩,List.take_left' hA,hcy,List.drop_append,List.drop_of_length_le (by omega),List.nil_append,hA,show i * es + es - i * es=es by omega,List.drop_left' hcx]
  refine ac fun L hL=>?_;unfold B0;refine jp h1 h5 h10 h11 e1 hl hld hst hcall hcy and_self tv ?_;subst hL;refine ih (i + 1) _ _ om ?_ ?_ (aL h1) (aL h5) (aL h10) bh ?_
  ·rw [kC]; omega
  ·rw [ek]; exact hkn
  ·rw [dD,if_pos rfl,htk,List.flatMap_append,List.flatMap_append,hAA,hBB];simp
theorem LJ {α:Type}{t es bytes G H g:Nat}{z:List Value}{c:α→List PV} (hG:Γ G=some (kG t es H)) (hH:Γ H=some (jB t es bytes z true)) (hc:∀x,(c x).length=es) (hes:es≠0) (hes2:es≤1000) (hby:bytes≤1024) {y:Option (List α)} (hbig:(y.getD []).length≤16777216) {cp:α→α} (ho:∀x∈y.getD [],(c x).all cX=true∧(c (cp x)).all cX=true∧(c (cp x)).all cM=true)
  (hr:∀x∈y.getD [],∀s,aU P Γ ext g [.agg (c x)] s=some (.agg (c (cp x)),s)) (s:PS) :
  aU P Γ ext G [b9 t c y,.fn g [] []] s=some (b9 t c (eH ((y.getD []).map cp)),s):=by
 by_cases hy:y.getD []=[]
 ·rw [hy];refine eF (fn:=kG t es H) (r:=4) hG (by simp [kG]) (by rfl) (by rfl) ?_;have h0:=GN (P:=P) (ext:=ext) (c:=c) hH hy;have z0:decide ((0:Int) < 0)=false:=rfl;unfold kG;refine tJ h0 ?_;refine ac fun L hL=>?_;unfold B0 DK;exact aL z0
 ·obtain⟨l,rfl⟩ : ∃l,y=some l:=by cases y with | none=>exact absurd rfl hy | some l=>exact⟨l,rfl⟩
  simp only [Option.getD_some] at hy hbig ho hr ⊢;obtain⟨s1,h1,h2,h3,h4,h5⟩:=IS (P:=P) (ext:=ext) hH hc hby hy hbig (fun x hx=>(ho x hx).1) ⟨s.h,s.n,s.n⟩;have h3':s1.w=s.n:=by rw [h3]; exact Nat.min_self _
  simp only at h1 h2 h4 h5;refine ij (V:=fun f' s'=>s.n≤s'.w∧f' 4=.own s.n 0 l.length (l.length * es)∧s'.h s.n=⟨(l.map cp).flatMap c,l.length * es,t⟩) hG (by simp [kG]) ?_ ?_
  ·unfold kG;refine tJ h1 ?_;exact Gr hc hes hbig hes2 hr (fun x hx=>(ho x hx).2.1) (Nat.le_refl _) l.length 0 _ _ (Nat.zero_add _) om om bh bh bh bh (by rw [List.take_zero,List.drop_zero]; exact h4)
  ·rintro f s' ⟨hw,g1,g2⟩;refine fJ (vs:=[f 4]) (by rfl) (by rfl) hw ?_;rw [g1];have hfl:=aQ hc (l.map cp);rw [List.length_map] at hfl;have hcl:((l.map cp).flatMap c).all cM=true:=by
    rw [List.all_flatMap];refine List.all_eq_true.2 fun x hx=>?_;obtain⟨w,hw,rfl⟩:=List.mem_map.1 hx;exact (ho w hw).2.2
   show bQ s.n s' (.own s.n 0 l.length (l.length * es))=_;unfold bQ;simp only [g2];rw [if_neg (Nat.lt_irrefl _),List.drop_zero,Nat.sub_zero,List.take_of_length_le om,if_pos ⟨Nat.le_refl _,om,Nat.zero_le _,hcl⟩];cases l with
   | nil=>exact absurd rfl hy
   | cons x l=>simp only [List.map_cons,eH,b9,List.length_cons,List.length_map]
end
end Go.PE
set_option linter.unusedSimpArgs false
namespace Go.Proofs.YtflfflfodghgpaaGreatDoor
open Go Go.EvL Go.PE
variable {ext:ai}
theorem io {α:Type}{t es bytes:Nat}{z:List Value}{c:α→List PV} (hc:∀x,(c x).length=es) (hes:es≠0) (hes2:es≤1000) (hby:bytes≤1024) {G H g:Nat} (hG:Γ G=some (kG t es H)) (hH:Γ H=some (jB t es bytes z true)) {R:α→α→Prop}{a:PV}{l:Option (List α)} (ha:a=b9 t c l) (hbig:(l.getD []).length≤16777216)
  (ho:∀x∈l.getD [],(c x).all cX=true) (hR:∀x y,R y x→(c y).all cX=true∧(c y).all cM=true)
  (h:∀x∈l.getD [],∃y,(∀s,aU Tryz.prog Γ ext g [.agg (c x)] s=some (.agg (c y),s))∧R y x):∃b,(∀s,aU Tryz.prog Γ ext G [a,.fn g [] []] s=some (b,s))∧jW t c R b a:=by
 subst ha;obtain⟨cp,hcp⟩:=Nr h;refine⟨b9 t c (eH ((l.getD []).map cp)),fun s=>LJ hG hH hc hes hes2 hby hbig (cp:=cp) (fun x hx=>⟨ho x hx,(hR _ _ (hcp x hx).2).1,(hR _ _ (hcp x hx).2).2⟩) (fun x hx=>(hcp x hx).1) s,_,l,rfl,rfl,?_,?_,fun i x y hx hy=>?_⟩
 ·rw [fU,List.length_map]
 ·rw [fU,List.length_map]; omega
 ·rw [fU,List.getElem?_map,hy] at hx;have hx':cp y=x:=by simpa using hx
  rw [← hx'];exact (hcp y (List.mem_of_getElem? hy)).2
theorem SB:Γ 173=some (kG 84 4 241):=(rfl)
theorem Sv:Γ 241=some (jB 84 4 56 [(.int .i64 0),(.string ⟨#[]⟩),(.int .i64 0),(.slice none 0 0)] true):=(rfl)
theorem S8:Γ 242=some (kG 90 5 283):=(rfl)
theorem Td:Γ 283=some (jB 90 5 64 [(.int .i64 0),(.string ⟨#[]⟩),(.int .i64 0),(.bool false),(.slice none 0 0)] true):=(rfl)
theorem Sp:Γ 176=some (kG 82 2 244):=(rfl)
theorem Ro:Γ 244=some (jB 82 2 32 [(.int .i64 0),(.slice none 0 0)] true):=(rfl)
theorem Rq:Γ 177=some (kG 148 5 245):=(rfl)
theorem SU:Γ 245=some (jB 148 5 56 [(.int .i64 0),(.int .i64 0),(.int .i64 0),(.int .i64 0),(.slice none 0 0)] true):=(rfl)
theorem Rp:Γ 179=some (kG 28 9 246):=(rfl)
theorem RY:Γ 246=some (jB 28 9 160 [(.int .i64 0),(.int .i64 0),(.string ⟨#[]⟩),(.bool false),(.slice none 0 0),(.slice none 0 0),(.slice none 0 0),(.slice none 0 0),(.slice none 0 0)] true):=(rfl)
theorem Sa:Γ 180=some (kG 150 2 247):=(rfl)
theorem Su:Γ 247=some (jB 150 2 48 [(.slice none 0 0),(.slice none 0 0)] true):=(rfl)
theorem RP:Γ 171=some (kG 121 10 240):=(rfl)
theorem Ta:Γ 240=some (jB 121 10 176 [(.string ⟨#[]⟩),(.int .i64 0),(.int .i64 0),(.string ⟨#[]⟩),(.bool false),(.slice none 0 0),(.slice none 0 0),(.slice none 0 0),(.slice none 0 0),(.slice none 0 0)] true):=(rfl)
theorem Sz (x:ao) (m:Option (List ao)) (h:∀s,Pc ext 242 [x.parts,.fn 243 [] []] (b9 90 ao.cells m) s) (s:PS) :
  Pc ext 243 [.agg x.cells] (.agg (ao.cells ⟨x.kind,x.text,x.op,x.colon,b9 90 ao.cells m⟩)) s:=by
 refine qC (s.n + 1) Pu 2 5 ?_;unfold Pu
 skip
 simp only [ao.cells];refine Bz h @aR @fx @fC @eG @dH @dW @du ?_;exact⟨_,_,_,rfl,rfl,Nat.le_refl _,by simp only [j7,jk,iJ,Option.bind_some,Option.map_some]⟩
theorem ng:∀(d:Nat) (a:PV),bA d a→a.bulk≤16777216→∃b,(∀s,Pc ext 242 [a,.fn 243 [] []] b s)∧uP d b a:=by
 intro d
 induction d with
 | zero=>intro a h; cases h
 | succ d ih=>
  rintro a ⟨l,ha,hl,hl'⟩ hb;have hn:=gL (e:=90) (c:=ao.cells) (fun y=>by rw [ao.len]; omega) l;have hbl:=eC 90 ao.cells l;rw [← ha] at hn hbl;refine io (R:=fun y x=>(y.kind=x.kind∧y.text=x.text∧y.op=x.op∧y.colon=x.colon)∧uP d y.parts x.parts) ao.len (by decide) (by decide) (by decide) S8 Td ha om (fun x hx=>ao.ones (hl' x hx)) (fun x y h=>Hk h.2) (fun x hx=>?_);have hbx:x.parts.bulk≤16777216:=by
   have h1:=gD (c:=ao.cells) hx;have h2:=iz (p:=x.parts) (l:=x.cells) (by simp [ao.cells]);omega
  obtain⟨q,q1,q2⟩:=ih x.parts (hl' x hx) hbx;obtain⟨m,hm⟩ : ∃m,q=b9 90 ao.cells m:=by
   cases d with
   | zero=>cases q2
   | succ d=>obtain⟨m,_,h,_⟩:=q2; exact⟨m,h⟩
  subst hm;exact⟨⟨x.kind,x.text,x.op,x.colon,b9 90 ao.cells m⟩,Sz x m q1,⟨rfl,rfl,rfl,rfl⟩,q2⟩
theorem PU (x:aw) (m:Option (List ao)) (h:∀s,Pc ext 242 [x.parts,.fn 243 [] []] (b9 90 ao.cells m) s) (s:PS) :
  Pc ext 175 [.agg x.cells] (.agg (aw.cells ⟨x.pos,b9 90 ao.cells m⟩)) s:=by
 refine qC (s.n + 1) QL 2 2 ?_;unfold QL
 skip
 simp only [aw.cells];refine Bz h @aR @fx @fC @eG @dH @dW @du ?_;exact⟨_,_,_,rfl,rfl,Nat.le_refl _,by simp only [j7,jk,iJ,Option.bind_some,Option.map_some]⟩
theorem U5 (x:aF) (m:Option (List ao)) (h:∀s,Pc ext 175 [.agg (aw.cells ⟨x.vpos,x.parts⟩)] (.agg (aw.cells ⟨x.vpos,b9 90 ao.cells m⟩)) s) (s:PS) :
  Pc ext 174 [.agg x.cells] (.agg (aF.cells ⟨x.pos,x.name,x.vpos,b9 90 ao.cells m⟩)) s:=by
 refine qC (s.n + 1) Q0 2 4 ?_;unfold Q0;simp only [aw.cells] at h;simp only [aF.cells];refine Bz h @aR @fx @fC @eG @dH @dW @du ?_;exact⟨_,_,_,rfl,rfl,Nat.le_refl _,by simp only [j7,jk,iJ,Option.bind_some,Option.map_some]⟩
theorem Tz (x:bo) (m:Option (List ao)) (h:∀s,Pc ext 175 [.agg (aw.cells ⟨x.tpos,x.parts⟩)] (.agg (aw.cells ⟨x.tpos,b9 90 ao.cells m⟩)) s) (s:PS) :
  Pc ext 178 [.agg x.cells] (.agg (bo.cells ⟨x.pos,x.fd,x.op,x.tpos,b9 90 ao.cells m⟩)) s:=by
 refine qC (s.n + 1) Qg 2 5 ?_;unfold Qg;simp only [aw.cells] at h;simp only [bo.cells];refine Bz h @aR @fx @fC @eG @dH @dW @du ?_;exact⟨_,_,_,rfl,rfl,Nat.le_refl _,by simp only [j7,jk,iJ,Option.bind_some,Option.map_some]⟩
theorem U3 (x:be) (m:Option (List aw)) (k:Option (List ah)) (h:∀s,Pc ext 176 [x.pats,.fn 175 [] []] (b9 82 aw.cells m) s) (h':∀s,Pc ext 179 [x.body,.fn 106 [] []] (b9 28 ah.cells k) s) (s:PS) :
  Pc ext 181 [.agg x.cells] (.agg (be.cells ⟨b9 82 aw.cells m,b9 28 ah.cells k⟩)) s:=by
 refine qC (s.n + 1) P3 2 2 ?_;unfold P3
 skip
 simp only [be.cells];refine GI h h' @aR @fx @fC @eG @dH @dW @du ?_;exact⟨_,_,_,rfl,rfl,Nat.le_refl _,by simp only [j7,jk,iJ,Option.bind_some,Option.map_some]⟩
theorem TN (x:ah) (ma:Option (List aF)) (mw:Option (List aw)) (mr:Option (List bo)) (mk:Option (List ah)) (mi:Option (List be))
  (h1:∀s,Pc ext 173 [x.assigns,.fn 174 [] []] (b9 84 aF.cells ma) s) (h2:∀s,Pc ext 176 [x.words,.fn 175 [] []] (b9 82 aw.cells mw) s) (h3:∀s,Pc ext 177 [x.redirs,.fn 178 [] []] (b9 148 bo.cells mr) s)
  (h4:∀s,Pc ext 179 [x.kids,.fn 106 [] []] (b9 28 ah.cells mk) s) (h5:∀s,Pc ext 180 [x.items,.fn 181 [] []] (b9 150 be.cells mi) s) (s:PS) :
  Pc ext 106 [.agg x.cells] (.agg (ah.cells ⟨x.kind,x.pos,x.name,x.all,b9 84 aF.cells ma,b9 82 aw.cells mw,b9 148 bo.cells mr,b9 28 ah.cells mk,b9 150 be.cells mi⟩)) s:=by
 refine qC (s.n + 1) Qj 2 9 ?_;unfold Qj;simp only [ah.cells];refine jp h1 h2 h3 h4 h5 @aR @fx @fC @eG @dH @dW @du ?_;exact⟨_,_,_,rfl,rfl,Nat.le_refl _,by simp only [j7,jk,iJ,Option.bind_some,Option.map_some]⟩
theorem Cn {D:Nat}{x:aw} (h:bA D x.parts) (hb:x.parts.bulk≤16777216):∃y,(∀s,Pc ext 175 [.agg x.cells] (.agg (aw.cells y)) s)∧FU D y x:=by
 obtain⟨q,q1,q2⟩:=ng (ext:=ext) D x.parts h hb;obtain⟨m,rfl⟩:=q2.sl;exact⟨⟨x.pos,b9 90 ao.cells m⟩,PU x m q1,rfl,q2⟩
theorem sR {D:Nat}{a:PV} (h:qZ D a) (hb:a.bulk≤16777216):∃b,(∀s,Pc ext 176 [a,.fn 175 [] []] b s)∧jW 82 aw.cells (FU D) b a:=by
 obtain⟨l,ha,hl,hl'⟩:=h;refine io aw.len (by decide) (by decide) (by decide) Sp Ro ha (nC ha (fun x=>by rw [aw.len]; omega) hb) (fun x hx=>aw.one (hl' x hx).one) Fb (fun x hx=>?_);exact Cn (hl' x hx) (fb ha hx (p:=x.parts) (by simp [aw.cells]) hb).1
theorem wu {D:Nat}{a:PV} (h:s6 D a) (hb:a.bulk≤16777216):∃b,(∀s,Pc ext 173 [a,.fn 174 [] []] b s)∧jW 84 aF.cells (RA D) b a:=by
 obtain⟨l,ha,hl,hl'⟩:=h;refine io aF.len (by decide) (by decide) (by decide) SB Sv ha (nC ha (fun x=>by rw [aF.len]; omega) hb) (fun x hx=>?_) (fun x y h=>?_) (fun x hx=>?_)
 ·simp only [aF.cells,List.all_cons,List.all_nil,(hl' x hx).one,Bool.and_true]; rfl
 ·obtain⟨h1,_,h3⟩:=h.2.one;simp only [aF.cells,List.all_cons,List.all_nil,h1,h3,Bool.and_true]; exact⟨rfl,rfl⟩
 ·obtain⟨q,q1,q2⟩:=ng (ext:=ext) D x.parts (hl' x hx) (fb ha hx (p:=x.parts) (by simp [aF.cells]) hb).1;obtain⟨m,rfl⟩:=q2.sl;exact⟨⟨x.pos,x.name,x.vpos,b9 90 ao.cells m⟩,U5 x m (PU ⟨x.vpos,x.parts⟩ m q1),⟨rfl,rfl,rfl⟩,q2⟩
theorem xI {D:Nat}{a:PV} (h:vL D a) (hb:a.bulk≤16777216):∃b,(∀s,Pc ext 177 [a,.fn 178 [] []] b s)∧jW 148 bo.cells (RJ D) b a:=by
 obtain⟨l,ha,hl,hl'⟩:=h;refine io bo.len (by decide) (by decide) (by decide) Rq SU ha (nC ha (fun x=>by rw [bo.len]; omega) hb) (fun x hx=>?_) (fun x y h=>?_) (fun x hx=>?_)
 ·simp only [bo.cells,List.all_cons,List.all_nil,(hl' x hx).one,Bool.and_true]; rfl
 ·obtain⟨h1,_,h3⟩:=h.2.one;simp only [bo.cells,List.all_cons,List.all_nil,h1,h3,Bool.and_true]; exact⟨rfl,rfl⟩
 ·obtain⟨q,q1,q2⟩:=ng (ext:=ext) D x.parts (hl' x hx) (fb ha hx (p:=x.parts) (by simp [bo.cells]) hb).1;obtain⟨m,rfl⟩:=q2.sl;exact⟨⟨x.pos,x.fd,x.op,x.tpos,b9 90 ao.cells m⟩,Tz x m (PU ⟨x.tpos,x.parts⟩ m q1),⟨rfl,rfl,rfl,rfl⟩,q2⟩
theorem uf {D d:Nat} (ih:∀x,dn D d x→bj x.cells≤16777216→∃y,(∀s,Pc ext 106 [.agg x.cells] (.agg (ah.cells y)) s)∧zD D d y x) {a:PV} (h:iC 28 ah.cells (dn D d) a) (hb:a.bulk≤16777216) :
  ∃b,(∀s,Pc ext 179 [a,.fn 106 [] []] b s)∧jW 28 ah.cells (zD D d) b a:=by
 obtain⟨l,ha,hl,hl'⟩:=h;refine io ah.len (by decide) (by decide) (by decide) Rp RY ha (nC ha (fun x=>by rw [ah.len]; omega) hb) (fun x hx=>(hl' x hx).ones) sq (fun x hx=>?_);exact ih x (hl' x hx) (fb ha hx (p:=x.kids) (by simp [ah.cells]) hb).2
theorem C4 {D:Nat} : ∀(d:Nat) (x:ah),dn D d x→bj x.cells≤16777216→∃y,(∀s,Pc ext 106 [.agg x.cells] (.agg (ah.cells y)) s)∧zD D d y x:=by
 intro d
 induction d with
 | zero=>intro x h; cases h
 | succ d ih=>
  rintro x ⟨h1,h2,h3,h4,h5⟩ hb;have hbm:∀p∈x.cells,p.bulk≤16777216:=fun p hp=>Nat.le_trans (iz hp) hb;obtain⟨qa,a1,a2⟩:=wu (ext:=ext) h1 (hbm _ (by simp [ah.cells]));obtain⟨qw,w1,w2⟩:=sR (ext:=ext) h2 (hbm _ (by simp [ah.cells]));obtain⟨qr,r1,r2⟩:=xI (ext:=ext) h3 (hbm _ (by simp [ah.cells]));obtain⟨qk,k1,k2⟩:=uf ih h4 (hbm _ (by simp [ah.cells]));obtain⟨qi,i1,i2⟩ : ∃b,(∀s,Pc ext 180 [x.items,.fn 181 [] []] b s)∧jW 150 be.cells (fun j i=>jW 82 aw.cells (FU D) j.pats i.pats∧jW 28 ah.cells (zD D d) j.body i.body) b x.items:=by
   have hbi:x.items.bulk≤16777216:=hbm _ (by simp [ah.cells]);obtain⟨l,ha,hl,hl'⟩:=h5;refine io be.len (by decide) (by decide) (by decide) Sa Su ha (nC ha (fun x=>by rw [be.len]; omega) hbi) (fun z hz=>?_) (fun z y h=>?_) (fun z hz=>?_)
   ·have h:=hl' z hz;have w1:cX z.pats=true:=iC.one h.1;simp only [be.cells,List.all_cons,List.all_nil,w1,h.2.one,Bool.and_true]
   ·obtain⟨u1,_,u3⟩:=h.1.one;obtain⟨v1,_,v3⟩:=h.2.one;simp only [be.cells,List.all_cons,List.all_nil,u1,u3,v1,v3,Bool.and_true,and_self]
   ·obtain⟨p1,e1,e2⟩:=sR (ext:=ext) (hl' z hz).1 (fb ha hz (p:=z.pats) (by simp [be.cells]) hbi).1;obtain⟨p2,e3,e4⟩:=uf ih (hl' z hz).2 (fb ha hz (p:=z.body) (by simp [be.cells]) hbi).1;obtain⟨m1,rfl⟩:=e2.sl;obtain⟨m2,rfl⟩:=e4.sl;exact⟨⟨b9 82 aw.cells m1,b9 28 ah.cells m2⟩,U3 z m1 m2 e1 e3,e2,e4⟩
  obtain⟨ma,rfl⟩:=a2.sl;obtain⟨mw,rfl⟩:=w2.sl;obtain⟨mr,rfl⟩:=r2.sl;obtain⟨mk,rfl⟩:=k2.sl;obtain⟨mi,rfl⟩:=i2.sl;exact⟨_,TN x ma mw mr mk mi a1 w1 r1 k1 i1,⟨rfl,rfl,rfl,rfl⟩,a2,w2,r2,k2,i2⟩
end Go.Proofs.YtflfflfodghgpaaGreatDoor
set_option linter.unusedSimpArgs false
namespace Go.PE
open Go Go.EvL
section
variable {P:Program}{Γ:Nat→Option fN}{ext:ai}
def Tl (a b:ByteArray):Bool:=!(Op.bytesLess a.toList b.toList)
theorem jn (t:Nat) (x y:Operand) (a b:ByteArray):gP P .geq t x y (.sc (.string a)) (.sc (.string b))=some (.sc (.bool (Tl a b))):=(rfl)
end
end Go.PE
namespace Go.Proofs.YtflfflfodghgpaaGreatDoor
open Go Go.EvL Go.PE Go.Mir
variable {ext:ai}
theorem Ku {xs:List fu} (hx:xs.length < 1000000000000) (hs:∀x∈xs,x.name.data.toList.length < 1000000000000):∀(k i:Nat),i + k=xs.length→∃z:Int,∀(n0:Nat) (f:aO) (s:PS),n0≤s.w→f 0=.lit 99 xs.length (xs.flatMap fu.cells)→f 3=iN i→
  Er (fun f' s'=>n0≤s'.w∧f' 2=.sc (.int .i64 z)) (LP Tryz.prog Γ ext 0 kh pq f s):=by
 intro k
 induction k with
 | zero=>
  intro i hk;refine⟨0,fun n0 f s hn h0 h3=>?_⟩;have e1:decide (i < xs.length)=false:=df;refine ac fun L hL=>?_;refine FX @kh.eq_1 @pq.eq_1 h0 h3 e1 ?_;exact hn
 | succ k ih=>
  intro i hk;obtain⟨z,hgo⟩:=ih (i + 1) om;have hl:i < xs.length:=om;have e1:decide (i < xs.length)=true:=decide_eq_true hl;have hj:xs[i]?=some xs[i]:=List.getElem?_eq_getElem hl;have hfl:=aQ (c:=fu.cells) (es:=5) (fun _=>rfl) xs;obtain⟨rr,hk3⟩:=de (c:=fu.cells) (es:=5) (fun _=>rfl) hj;have hnm:=hs xs[i] (List.getElem_mem ..);generalize xs[i]=x at hk3 hnm;obtain⟨n,v,a1,a2,a3⟩:=x;simp only at hnm;simp only [fu.cells,List.cons_append,List.nil_append] at hk3;have hr:=fun s=>qT (ext:=ext) (b:=n) om s;cases c2:gK n.data.toList with
  | false=>
   refine⟨10,fun n0 f s hn h0 h3=>?_⟩;refine ac fun L hL=>?_;refine jp @kh.eq_1 @pq.eq_1 h0 h3 e1 c2 hl hfl hk3 @ap hr tv ?_;exact hn
  | true=>
  cases c3:decide (4096 < v.data.toList.length) with
  | true=>
   refine⟨3,fun n0 f s hn h0 h3=>?_⟩;refine ac fun L hL=>?_;refine jp @kh.eq_1 @pq.eq_1 h0 h3 e1 c2 c3 hl hfl hk3 @ap hr ?_;exact hn
  | false=>
  cases c4:(!a1 && !v.data.toList.isEmpty) with
  | true=>
   refine⟨1,fun n0 f s hn h0 h3=>?_⟩;have c5:a1=false:=by cases a1<;>simp_all
   have c6:v.data.toList.isEmpty=false:=by cases h:v.data.toList.isEmpty<;>simp_all
   subst c5;refine ac fun L hL=>?_;simp -implicitDefEqProofs (disch:=first | omega | (unfold cH bM; simp<;>omega)) only [ZS,seval,ZT,ZX,kh,pq,h0,h3,e1,c2,c3,c6,hl,hfl,hk3,ap,hr,aJ];exact hn
  | false=>
  have c5:a1=true∨a1=false∧v.data.toList.isEmpty=true:=by cases a1<;>cases h:v.data.toList.isEmpty<;>simp_all
  cases i with
  | zero=>
   refine⟨z,fun n0 f s hn h0 h3=>?_⟩;refine ac fun L hL=>?_;rcases c5 with rfl | ⟨rfl,c5⟩
   ·simp -implicitDefEqProofs (disch:=first | omega | (unfold cH bM; simp<;>omega)) only [ZA,Nat.reduceAdd,Nat.reduceEqDiff,↓reduceIte,Nat.reduceLeDiff,reduceCtorEq,Nat.reduceBEq,Nat.reduceLT,aN,bm,bH,au,bS,aP,ck,br,frz,cx,bQ,dK,ZD,cC,ec,gy,kh,h0,h3,e1,c2,c3,hl,eA,hfl,hk3,ap,hr,Bool.not_true,Bool.not_false,aJ];subst hL;exact hgo _ _ _ hn (fR h0) eY
   ·simp -implicitDefEqProofs (disch:=first | omega | (unfold cH bM; simp<;>omega)) only [ZA,Nat.reduceAdd,Nat.reduceEqDiff,↓reduceIte,Nat.reduceLeDiff,reduceCtorEq,Nat.reduceBEq,Nat.reduceLT,aN,bm,bH,au,bS,aP,ck,br,frz,cx,bQ,dK,ZD,cC,ec,gy,kh,h0,h3,e1,c2,c3,c5,hl,eA,hfl,hk3,ap,hr,Bool.not_true,Bool.not_false,aJ];subst hL;exact hgo _ _ _ hn (fR h0) eY
  | succ j=>
  have hl2:j < xs.length:=om;have hj2:xs[j]?=some xs[j]:=List.getElem?_eq_getElem hl2;obtain⟨rr2,hk4⟩:=de (c:=fu.cells) (es:=5) (fun _=>rfl) hj2;generalize xs[j]=x2 at hk4;obtain⟨n2,v2,b1,b2,b3⟩:=x2;simp only [fu.cells,List.cons_append,List.nil_append] at hk4;have e3:decide (0 < j + 1)=true:=decide_eq_true (Nat.succ_pos _);cases c6:Tl n2 n with
  | true=>
   refine⟨1,fun n0 f s hn h0 h3=>?_⟩;refine ac fun L hL=>?_;rcases c5 with rfl | ⟨rfl,c5⟩
   ·simp -implicitDefEqProofs (disch:=first | omega | (unfold cH bM; simp<;>omega)) only [ZS,seval,ZT,ZX,kh,pq,h0,h3,e1,e3,c2,c3,c6,hl,hl2,hfl,hk3,hk4,ap,hr,aJ,jn,Nat.add_sub_cancel];exact hn
   ·simp -implicitDefEqProofs (disch:=first | omega | (unfold cH bM; simp<;>omega)) only [ZS,seval,ZT,ZX,kh,pq,h0,h3,e1,e3,c2,c3,c5,c6,hl,hl2,hfl,hk3,hk4,ap,hr,aJ,jn,Nat.add_sub_cancel];exact hn
  | false=>
   refine⟨z,fun n0 f s hn h0 h3=>?_⟩;refine ac fun L hL=>?_;rcases c5 with rfl | ⟨rfl,c5⟩
   ·simp -implicitDefEqProofs (disch:=first | omega | (unfold cH bM; simp<;>omega)) only [ZS,seval,ZT,ZX,kh,h0,h3,e1,e3,c2,c3,c6,hl,hl2,hfl,hk3,hk4,ap,hr,aJ,jn,Nat.add_sub_cancel];subst hL;exact hgo _ _ _ hn (aL h0) bh
   ·simp -implicitDefEqProofs (disch:=first | omega | (unfold cH bM; simp<;>omega)) only [ZS,seval,ZT,ZX,kh,h0,h3,e1,e3,c2,c3,c5,c6,hl,hl2,hfl,hk3,hk4,ap,hr,aJ,jn,Nat.add_sub_cancel];subst hL;exact hgo _ _ _ hn (aL h0) bh
theorem PX (l:List fu) (hx:l.length < 1000000000000) (hs:∀x∈l,x.name.data.toList.length < 1000000000000):∃z:Int,∀y,y.getD []=l→∀s,Pc ext 84 [b9 99 fu.cells y] (.sc (.int .i64 z)) s:=by
 have z1:decide ((0:Int) > 128)=false:=rfl;cases c1:decide (128 < l.length) with
 | true=>
  refine⟨4,fun y hy s=>?_⟩;subst hy;refine mu PM 2 ?_;unfold PM;cases y with
  | none=>simp at c1
  | some l=>
   simp only [Option.getD_some] at c1;exact qf @bW c1
 | false=>
  obtain⟨z,hz⟩:=Ku (ext:=ext) hx hs l.length 0 (Nat.zero_add _);by_cases hl:l=[]
  ·subst hl;refine⟨0,fun y hy s=>?_⟩;refine mu PM 2 ?_;unfold PM;have z0:decide ((0:Int) < 0)=false:=rfl;have z2:decide (0 < 0)=false:=rfl;cases y with
   | none=>
    refine u6 @bW z1 ?_;refine ac fun L hL=>?_;exact jC @kh.eq_1 @pq.eq_1 z0
   | some m=>
    simp only [Option.getD_some] at hy;subst hy;simp only [List.length_nil] at *;refine u6 @bW c1 ?_;refine ac fun L hL=>?_;exact jC @kh.eq_1 @pq.eq_1 z2
  ·refine⟨z,fun y hy s=>?_⟩;refine mu PM 2 ?_;unfold PM;cases y with
   | none=>exact absurd hy.symm hl
   | some m=>
    simp only [Option.getD_some] at hy;subst hy;refine u6 @bW c1 ?_;exact hz s.n _ _ bh (aL @bW) bh
end Go.Proofs.YtflfflfodghgpaaGreatDoor
set_option linter.unusedSimpArgs false
namespace Go.Proofs.YtflfflfodghgpaaGreatDoor
open Go Go.EvL Go.PE Go.Mir
variable {ext:ai}
theorem Nv {xs:List ByteArray} (hx:xs.length < 1000000000000):∀(k i:Nat),i + k=xs.length→∃z:Int,∀(n0:Nat) (f:aO) (s:PS),n0≤s.w→f 0=.lit 9 xs.length (xs.flatMap gx)→f 3=iN i→
  Er (fun f' s'=>n0≤s'.w∧f' 2=.sc (.int .i64 z)) (LP Tryz.prog Γ ext 0 sD wO f s):=by
 intro k
 induction k with
 | zero=>
  intro i hk;refine⟨0,fun n0 f s hn h0 h3=>?_⟩;have e1:decide (i < xs.length)=false:=df;refine ac fun L hL=>?_;refine FX @sD.eq_1 @wO.eq_1 h0 h3 e1 ?_;exact hn
 | succ k ih=>
  intro i hk;obtain⟨z,hgo⟩:=ih (i + 1) om;have hl:i < xs.length:=om;have e1:decide (i < xs.length)=true:=decide_eq_true hl;have hj:xs[i]?=some xs[i]:=List.getElem?_eq_getElem hl;have hfl:=aQ (c:=gx) (es:=1) (fun _=>rfl) xs;obtain⟨rr,hk3⟩:=de (c:=gx) (es:=1) (fun _=>rfl) hj;generalize xs[i]=x at *;simp only [gx,List.cons_append,List.nil_append] at hk3;cases c1:decide (4096 < x.data.toList.length) with
  | true=>
   refine⟨3,fun n0 f s hn h0 h3=>?_⟩;refine ac fun L hL=>?_;refine yi @sD.eq_1 @wO.eq_1 h0 h3 e1 hl hfl hk3 @ap c1 ?_;exact hn
  | false=>
   refine⟨z,fun n0 f s hn h0 h3=>?_⟩;refine ac fun L hL=>?_;refine GI @sD.eq_1 h0 h3 e1 hl hfl hk3 @ap c1 ?_;subst hL;exact hgo _ _ _ hn (aL h0) bh
theorem I5 (l:List ByteArray) (hx:l.length < 1000000000000):∃z:Int,∀y,y.getD []=l→∀s,Pc ext 80 [b9 9 gx y] (.sc (.int .i64 z)) s:=by
 have z1:decide ((0:Int) > 512)=false:=rfl;cases c1:decide (512 < l.length) with
 | true=>
  refine⟨4,fun y hy s=>?_⟩;subst hy;refine mu QT 2 ?_;unfold QT;cases y with
  | none=>simp at c1
  | some l=>
   simp only [Option.getD_some] at c1;exact qf @bW c1
 | false=>
  obtain⟨z,hz⟩:=Nv (ext:=ext) hx l.length 0 (Nat.zero_add _);by_cases hl:l=[]
  ·subst hl;refine⟨0,fun y hy s=>?_⟩;refine mu QT 2 ?_;unfold QT;have z0:decide ((0:Int) < 0)=false:=rfl;have z2:decide (0 < 0)=false:=rfl;cases y with
   | none=>
    refine u6 @bW z1 ?_;refine ac fun L hL=>?_;exact jC @sD.eq_1 @wO.eq_1 z0
   | some m=>
    simp only [Option.getD_some] at hy;subst hy;simp only [List.length_nil] at *;refine u6 @bW c1 ?_;refine ac fun L hL=>?_;exact jC @sD.eq_1 @wO.eq_1 z2
  ·refine⟨z,fun y hy s=>?_⟩;refine mu QT 2 ?_;unfold QT;cases y with
   | none=>exact absurd hy.symm hl
   | some m=>
    simp only [Option.getD_some] at hy;subst hy;refine u6 @bW c1 ?_;exact hz s.n _ _ bh (aL @bW) bh
theorem N7 {xs:List ei} (hx:xs.length < 1000000000000):∀(k i:Nat),i + k=xs.length→∃z:Int,∀(n0:Nat) (f:aO) (s:PS),n0≤s.w→f 0=.lit 101 xs.length (xs.flatMap ei.cells)→f 3=iN i→
  Er (fun f' s'=>n0≤s'.w∧f' 2=.sc (.int .i64 z)) (LP Tryz.prog Γ ext 0 mp qS f s):=by
 intro k
 induction k with
 | zero=>
  intro i hk;refine⟨0,fun n0 f s hn h0 h3=>?_⟩;have e1:decide (i < xs.length)=false:=df;refine ac fun L hL=>?_;refine FX @mp.eq_1 @qS.eq_1 h0 h3 e1 ?_;exact hn
 | succ k ih=>
  intro i hk;obtain⟨z,hgo⟩:=ih (i + 1) om;have hl:i < xs.length:=om;have e1:decide (i < xs.length)=true:=decide_eq_true hl;have hj:xs[i]?=some xs[i]:=List.getElem?_eq_getElem hl;have hfl:=aQ (c:=ei.cells) (es:=2) (fun _=>rfl) xs;obtain⟨rr,hk3⟩:=de (c:=ei.cells) (es:=2) (fun _=>rfl) hj;generalize xs[i]=x at *;obtain⟨g,a⟩:=x;simp only [ei.cells,List.cons_append,List.nil_append] at hk3;cases c1:decide (g < 0) with
  | true=>
   refine⟨2,fun n0 f s hn h0 h3=>?_⟩;refine ac fun L hL=>?_;simp -implicitDefEqProofs (disch:=first | omega | (unfold cH bM; simp<;>omega)) only [ZS,seval,ZT,mp,qS,h0,h3,e1,hl,hfl,hk3,ap,c1];exact hn
  | false=>
  cases c2:decide (g > 20) with
  | true=>
   refine⟨2,fun n0 f s hn h0 h3=>?_⟩;refine ac fun L hL=>?_;simp -implicitDefEqProofs (disch:=first | omega | (unfold cH bM; simp<;>omega)) only [ZS,seval,ZT,mp,qS,h0,h3,e1,hl,hfl,hk3,ap,c1,c2];exact hn
  | false=>
  cases c3:decide (16384 < a.data.toList.length) with
  | true=>
   refine⟨3,fun n0 f s hn h0 h3=>?_⟩;refine ac fun L hL=>?_;simp -implicitDefEqProofs (disch:=first | omega | (unfold cH bM; simp<;>omega)) only [ZS,seval,ZT,mp,qS,h0,h3,e1,hl,hfl,hk3,ap,c1,c2,c3];exact hn
  | false=>
  cases i with
  | zero=>
   refine⟨z,fun n0 f s hn h0 h3=>?_⟩;refine ac fun L hL=>?_;simp -implicitDefEqProofs (disch:=first | omega | (unfold cH bM; simp<;>omega)) only [ZA,Nat.reduceAdd,Nat.reduceEqDiff,↓reduceIte,Nat.reduceLeDiff,reduceCtorEq,Nat.reduceBEq,Nat.reduceLT,aN,bm,bH,au,bS,aP,ck,br,frz,cx,bQ,dK,ZD,cC,ec,gy,mp,h0,h3,e1,hl,eA,hfl,hk3,ap,c1,c2,c3];subst hL;exact hgo _ _ _ hn (fR h0) eY
  | succ j=>
  have hl2:j < xs.length:=om;have hj2:xs[j]?=some xs[j]:=List.getElem?_eq_getElem hl2;obtain⟨rr2,hk4⟩:=de (c:=ei.cells) (es:=2) (fun _=>rfl) hj2;generalize xs[j]=x2 at *;obtain⟨g2,a2⟩:=x2;simp only [ei.cells,List.cons_append,List.nil_append] at hk4;have e3:decide (0 < j + 1)=true:=decide_eq_true (Nat.succ_pos _);cases co:decide (g2 ≥ g) with
  | true=>
   refine⟨1,fun n0 f s hn h0 h3=>?_⟩;refine ac fun L hL=>?_;simp -implicitDefEqProofs (disch:=first | omega | (unfold cH bM; simp<;>omega)) only [ZS,seval,ZT,mp,qS,h0,h3,e1,hl,hfl,hk3,ap,c1,c2,c3,e3,hl2,hk4,co,Nat.add_sub_cancel];exact hn
  | false=>
   refine⟨z,fun n0 f s hn h0 h3=>?_⟩;refine ac fun L hL=>?_;simp -implicitDefEqProofs (disch:=first | omega | (unfold cH bM; simp<;>omega)) only [ZS,seval,ZT,mp,h0,h3,e1,hl,hfl,hk3,ap,c1,c2,c3,e3,hl2,hk4,co,Nat.add_sub_cancel];subst hL;exact hgo _ _ _ hn (aL h0) bh
theorem MQ (l:List ei) (hx:l.length < 1000000000000):∃z:Int,∀y,y.getD []=l→∀s,Pc ext 87 [b9 101 ei.cells y] (.sc (.int .i64 z)) s:=by
 obtain⟨z,hz⟩:=N7 (ext:=ext) hx l.length 0 (Nat.zero_add _);by_cases hl:l=[]
 ·subst hl;refine⟨0,fun y hy s=>?_⟩;refine mu Rr 2 ?_;unfold Rr;have z0:decide ((0:Int) < 0)=false:=rfl;have z2:decide (0 < 0)=false:=rfl;cases y with
  | none=>
   refine tJ @bW ?_;refine ac fun L hL=>?_;exact jC @mp.eq_1 @qS.eq_1 z0
  | some m=>
   simp only [Option.getD_some] at hy;subst hy;simp only [List.length_nil] at *;refine tJ @bW ?_;refine ac fun L hL=>?_;exact jC @mp.eq_1 @qS.eq_1 z2
 ·refine⟨z,fun y hy s=>?_⟩;refine mu Rr 2 ?_;unfold Rr;cases y with
  | none=>exact absurd hy.symm hl
  | some m=>
   simp only [Option.getD_some] at hy;subst hy;refine tJ @bW ?_;exact hz s.n _ _ bh (aL @bW) bh
theorem KI {b:ByteArray} (hb:b.data.toList.length < 1000000000000):∀(k i:Nat),i + k=b.data.toList.length→∃z:Bool,∀(n0:Nat) (f:aO) (s:PS),n0≤s.w→f 0=.sc (.string b)→f 3=iN i→
  Er (fun f' s'=>n0≤s'.w∧f' 2=.sc (.bool z)) (LP Tryz.prog Γ ext 0 pU xR f s):=by
 intro k
 induction k with
 | zero=>
  intro i hk;refine⟨!b.data.toList.isEmpty,fun n0 f s hn h0 h3=>?_⟩;have e1:decide (i < b.data.toList.length)=false:=df;refine ac fun L hL=>?_;refine BD @pU.eq_1 @xR.eq_1 h0 h3 e1 @aJ ?_;exact hn
 | succ k ih=>
  intro i hk;obtain⟨z,hgo⟩:=ih (i + 1) om;have hl:i < b.data.toList.length:=om;have e1:decide (i < b.data.toList.length)=true:=decide_eq_true hl;have hh:=fun s=>NM (ext:=ext) (b:=⟨#[45,46,47,44,58,43,37,64,94]⟩) (by decide) (bt b.data.toList i) s;cases e2:dV (bt b.data.toList i) with
  | true=>
   refine⟨z,fun n0 f s hn h0 h3=>?_⟩;refine ac fun L hL=>?_;refine Ci @pU.eq_1 h0 h3 e1 hl @eI e2 ?_;subst hL;exact hgo _ _ _ hn (aL h0) bh
  | false=>
  generalize ((ByteArray.mk #[45,46,47,44,58,43,37,64,94]).data.toList.any fun x=>x.toNat == bt b.data.toList i)=q at hh;cases q with
  | true=>
   refine⟨z,fun n0 f s hn h0 h3=>?_⟩;refine ac fun L hL=>?_;refine Bz @pU.eq_1 h0 h3 e1 hl @eI e2 hh ?_;subst hL;exact hgo _ _ _ hn (aL h0) bh
  | false=>
   refine⟨false,fun n0 f s hn h0 h3=>?_⟩;refine ac fun L hL=>?_;refine GI @pU.eq_1 @xR.eq_1 h0 h3 e1 hl @eI e2 hh ?_;exact hn
theorem N6 {b:ByteArray} (hb:b.data.toList.length < 1000000000000):∃z:Bool,∀s,Pc ext 228 [.sc (.string b)] (.sc (.bool z)) s:=by
 obtain⟨z,hz⟩:=KI (ext:=ext) hb b.data.toList.length 0 (Nat.zero_add _);refine⟨z,fun s=>?_⟩;refine mu OK 2 ?_;unfold OK;refine Hm ?_;exact hz s.n _ _ bh bh bh
theorem KF {b:ByteArray} (hb:b.data.toList.length < 1000000000000):∃z:Bool,∀s,Pc ext 160 [.sc (.string b)] (.sc (.bool z)) s:=by
 obtain⟨z,hz⟩:=N6 (ext:=ext) hb;have hr:=fun s=>vu (ext:=ext) (b:=b) s;cases z with
 | false=>
  refine⟨false,fun s=>?_⟩;refine mu Cf 2 ?_;unfold Cf;exact aL hz
 | true=>
  cases c1:decide (b.data.toList.length≤32) with
  | false=>
   refine⟨false,fun s=>?_⟩;refine mu Cf 2 ?_;unfold Cf;exact qf hz c1
  | true=>
   refine⟨!lA b.data.toList,fun s=>?_⟩;refine mu Cf 2 ?_;unfold Cf;exact jC hz c1 hr
theorem I2 {xs:List cj} (hx:xs.length < 1000000000000) (hs:∀x∈xs,x.name.data.toList.length < 1000000000000):∀(k i:Nat),i + k=xs.length→∃z:Int,∀(n0:Nat) (f:aO) (s:PS),n0≤s.w→f 0=.lit 123 xs.length (xs.flatMap cj.cells)→f 3=iN i→
  Er (fun f' s'=>n0≤s'.w∧f' 2=.sc (.int .i64 z)) (LP Tryz.prog Γ ext 0 nD sB f s):=by
 intro k
 induction k with
 | zero=>
  intro i hk;refine⟨0,fun n0 f s hn h0 h3=>?_⟩;have e1:decide (i < xs.length)=false:=df;refine ac fun L hL=>?_;refine FX @nD.eq_1 @sB.eq_1 h0 h3 e1 ?_;exact hn
 | succ k ih=>
  intro i hk;obtain⟨z,hgo⟩:=ih (i + 1) om;have hl:i < xs.length:=om;have e1:decide (i < xs.length)=true:=decide_eq_true hl;have hj:xs[i]?=some xs[i]:=List.getElem?_eq_getElem hl;have hfl:=aQ (c:=cj.cells) (es:=2) (fun _=>rfl) xs;obtain⟨rr,hk3⟩:=de (c:=cj.cells) (es:=2) (fun _=>rfl) hj;have hnm:=hs xs[i] (List.getElem_mem ..);generalize xs[i]=x at *;obtain⟨n,v⟩:=x;obtain⟨q,hq⟩:=KF (ext:=ext) (b:=n) hnm;simp only [cj.cells,List.cons_append,List.nil_append] at hk3;cases c1:q with
  | false=>
   refine⟨10,fun n0 f s hn h0 h3=>?_⟩;refine ac fun L hL=>?_;simp -implicitDefEqProofs (disch:=first | omega | (unfold cH bM; simp<;>omega)) only [ZS,seval,ZT,ZX,nD,sB,h0,h3,e1,hl,hfl,hk3,ap,c1,hq];exact hn
  | true=>
  cases c2:decide (4096 < v.data.toList.length) with
  | true=>
   refine⟨3,fun n0 f s hn h0 h3=>?_⟩;refine ac fun L hL=>?_;simp -implicitDefEqProofs (disch:=first | omega | (unfold cH bM; simp<;>omega)) only [ZS,seval,ZT,ZX,nD,sB,h0,h3,e1,hl,hfl,hk3,ap,c1,hq,c2];exact hn
  | false=>
  cases i with
  | zero=>
   refine⟨z,fun n0 f s hn h0 h3=>?_⟩;refine ac fun L hL=>?_;simp -implicitDefEqProofs (disch:=first | omega | (unfold cH bM; simp<;>omega)) only [ZA,Nat.reduceAdd,Nat.reduceEqDiff,↓reduceIte,Nat.reduceLeDiff,reduceCtorEq,Nat.reduceBEq,Nat.reduceLT,aN,bm,bH,au,bS,aP,ck,br,frz,cx,bQ,dK,ZD,cC,ec,gy,nD,h0,h3,e1,hl,eA,hfl,hk3,ap,c1,hq,Bool.not_false,Bool.not_true,c2];subst hL;exact hgo _ _ _ hn (fR h0) eY
  | succ j=>
  have hl2:j < xs.length:=om;have hj2:xs[j]?=some xs[j]:=List.getElem?_eq_getElem hl2;obtain⟨rr2,hk4⟩:=de (c:=cj.cells) (es:=2) (fun _=>rfl) hj2;generalize xs[j]=x2 at *;obtain⟨n2,v2⟩:=x2;simp only [cj.cells,List.cons_append,List.nil_append] at hk4;have e3:decide (0 < j + 1)=true:=decide_eq_true (Nat.succ_pos _);cases co:Tl n2 n with
  | true=>
   refine⟨1,fun n0 f s hn h0 h3=>?_⟩;refine ac fun L hL=>?_;simp -implicitDefEqProofs (disch:=first | omega | (unfold cH bM; simp<;>omega)) only [ZS,seval,ZT,ZX,nD,sB,h0,h3,e1,hl,hfl,hk3,ap,c1,hq,c2,e3,hl2,hk4,co,Nat.add_sub_cancel,jn];exact hn
  | false=>
   refine⟨z,fun n0 f s hn h0 h3=>?_⟩;refine ac fun L hL=>?_;simp -implicitDefEqProofs (disch:=first | omega | (unfold cH bM; simp<;>omega)) only [ZS,seval,ZT,ZX,nD,h0,h3,e1,hl,hfl,hk3,ap,c1,hq,c2,e3,hl2,hk4,co,Nat.add_sub_cancel,jn];subst hL;exact hgo _ _ _ hn (aL h0) bh
theorem Gu (l:List cj) (hx:l.length < 1000000000000) (hs:∀x∈l,x.name.data.toList.length < 1000000000000):∃z:Int,∀y,y.getD []=l→∀s,Pc ext 86 [b9 123 cj.cells y] (.sc (.int .i64 z)) s:=by
 have z1:decide ((0:Int) > 64)=false:=rfl;cases c1:decide (64 < l.length) with
 | true=>
  refine⟨4,fun y hy s=>?_⟩;subst hy;refine mu PC 2 ?_;unfold PC;cases y with
  | none=>simp at c1
  | some l=>
   simp only [Option.getD_some] at c1;exact qf @bW c1
 | false=>
  obtain⟨z,hz⟩:=I2 (ext:=ext) hx hs l.length 0 (Nat.zero_add _);by_cases hl:l=[]
  ·subst hl;refine⟨0,fun y hy s=>?_⟩;refine mu PC 2 ?_;unfold PC;have z0:decide ((0:Int) < 0)=false:=rfl;have z2:decide (0 < 0)=false:=rfl;cases y with
   | none=>
    refine u6 @bW z1 ?_;refine ac fun L hL=>?_;exact jC @nD.eq_1 @sB.eq_1 z0
   | some m=>
    simp only [Option.getD_some] at hy;subst hy;simp only [List.length_nil] at *;refine u6 @bW c1 ?_;refine ac fun L hL=>?_;exact jC @nD.eq_1 @sB.eq_1 z2
  ·refine⟨z,fun y hy s=>?_⟩;refine mu PC 2 ?_;unfold PC;cases y with
   | none=>exact absurd hy.symm hl
   | some m=>
    simp only [Option.getD_some] at hy;subst hy;refine u6 @bW c1 ?_;exact hz s.n _ _ bh (aL @bW) bh
end Go.Proofs.YtflfflfodghgpaaGreatDoor
set_option linter.unusedSimpArgs false
namespace Go.Proofs.YtflfflfodghgpaaGreatDoor
open Go Go.EvL Go.PE Go.Mir
variable {ext:ai}
noncomputable def fE (ext:ai) (x:bD):Int:=if gK x.name.data.toList then (if nu x.body.kind then yO ext x.body else 1) else 10
def mD (ext:ai) (x:bD):Prop:=∀s,Pc ext 111 [.sc (.string x.name),.agg x.body.cells] (.sc (.int .i64 (fE ext x))) s
theorem Rf {x:bD} (hnm:x.name.data.toList.length < 1000000000000) (hv:∀s,Pc ext 18 [.agg x.body.cells] (.sc (.int .i64 (yO ext x.body))) s):mD ext x:=by
 obtain⟨n,b⟩:=x;intro s;have hr:=fun s=>qT (ext:=ext) (b:=n) (by simp only at hnm; omega) s;have hc:=fun s=>bT (ext:=ext) b.kind s;unfold fE;refine mu Qq 4 ?_;unfold Qq;simp only [ah.cells] at hv ⊢;cases c1:gK n.data.toList with
 | false=>
  exact qf hr c1
 | true=>
  cases c2:nu b.kind with
  | false=>
   exact qs hr hc c1 c2
  | true=>
   exact tI hr hc hv c1 c2
theorem Ec:ez Γ 111=true:=(rfl)
theorem NC (q:List (ByteArray × Int)) (hx:q.length < 1000000000000):∀(k i:Nat),i + k=q.length→∃z:Int,∀(xs:List bD),xs.map (fun x=>(x.name,fE ext x))=q→(∀x∈xs,mD ext x)→∀(n0:Nat) (f:aO) (s:PS),n0≤s.w→f 0=.lit 121 xs.length (xs.flatMap bD.cells)→f 3=iN i→
  Er (fun f' s'=>n0≤s'.w∧f' 2=.sc (.int .i64 z)) (LP Tryz.prog Γ ext 0 oW uA f s):=by
 intro k
 induction k with
 | zero=>
  intro i hk;refine⟨0,fun xs hq hok n0 f s hn h0 h3=>?_⟩;have hlen:xs.length=q.length:=by rw [← hq,List.length_map]
  have e1:decide (i < xs.length)=false:=df;refine ac fun L hL=>?_;refine FX @oW.eq_1 @uA.eq_1 h0 h3 e1 ?_;exact hn
 | succ k ih=>
  intro i hk;obtain⟨z,hgo⟩:=ih (i + 1) om;have hlq:i < q.length:=om;have hqi:q[i]?=some q[i]:=List.getElem?_eq_getElem hlq;obtain⟨⟨qn,qz⟩,hqe⟩ : ∃p,p=q[i]:=⟨_,rfl⟩
  rw [← hqe] at hqi;clear hqe;have key:∀xs:List bD,xs.map (fun x=>(x.name,fE ext x))=q→(∀x∈xs,mD ext x)→xs.length=q.length∧∃(b:ah) (rr:List PV),(xs.flatMap bD.cells).drop (i * 10)=bD.cells ⟨qn,b⟩ ++ rr∧fE ext ⟨qn,b⟩=qz∧mD ext ⟨qn,b⟩:=by
   intro xs hq hok;have hlen:xs.length=q.length:=by rw [← hq,List.length_map]
   have hl:i < xs.length:=om;have hj:xs[i]?=some xs[i]:=List.getElem?_eq_getElem hl;obtain⟨rr,hk3⟩:=de (c:=bD.cells) (es:=10) (fun _=>rfl) hj;have h2:(xs.map fun x=>(x.name,fE ext x))[i]?=some (xs[i].name,fE ext xs[i]):=by rw [List.getElem?_map,hj]; rfl
   rw [hq,hqi] at h2;injection h2 with h2;have ho:=hok xs[i] (List.getElem_mem ..);generalize xs[i]=x at *;obtain⟨n,b⟩:=x;simp only [Prod.mk.injEq] at h2;obtain⟨rfl,rfl⟩:=h2;exact⟨hlen,b,rr,hk3,rfl,ho⟩
  cases c1:(qz == 0) with
  | false=>
   refine⟨qz,fun xs hq hok n0 f s hn h0 h3=>?_⟩;obtain⟨hlen,b,rr,hk3,hz,ho⟩:=key xs hq hok;have e1:decide (i < xs.length)=true:=dt;have hl:i < xs.length:=om;have hfl:=aQ (c:=bD.cells) (es:=10) (fun _=>rfl) xs;have c1':(qz != 0)=true:=by rw [bne,c1]; rfl
   unfold mD at ho;rw [hz] at ho;simp only [bD.cells,ah.cells,List.cons_append,List.nil_append] at hk3 ho;refine ac fun L hL=>?_;simp -implicitDefEqProofs (disch:=first | omega | (unfold cH bM; simp<;>omega)) only [ZS,seval,ZT,oW,uA,h0,h3,e1,hl,hfl,hk3,ap,ho,c1',Ec,iE];exact hn
  | true=>
  have c1':(qz != 0)=false:=by rw [bne,c1]; rfl
  cases i with
  | zero=>
   refine⟨z,fun xs hq hok n0 f s hn h0 h3=>?_⟩;obtain⟨hlen,b,rr,hk3,hz,ho⟩:=key xs hq hok;have e1:decide (0 < xs.length)=true:=dt;have hl : 0 < xs.length:=om;have hfl:=aQ (c:=bD.cells) (es:=10) (fun _=>rfl) xs;unfold mD at ho;rw [hz] at ho;simp only [bD.cells,ah.cells,List.cons_append,List.nil_append] at hk3 ho;refine ac fun L hL=>?_;simp -implicitDefEqProofs (disch:=first | omega | (unfold cH bM; simp<;>omega)) only [ZA,Nat.reduceAdd,Nat.reduceEqDiff,↓reduceIte,Nat.reduceLeDiff,reduceCtorEq,Nat.reduceBEq,Nat.reduceLT,aN,bm,bH,au,bS,aP,ck,br,frz,cx,bQ,dK,ZD,cC,ec,gy,oW,h0,h3,e1,hl,eA,hfl,hk3,ap,ho,c1',Ec,iE];subst hL;exact hgo xs hq hok _ _ _ hn (fR h0) eY
  | succ j=>
  have hqj:q[j]?=some q[j]:=List.getElem?_eq_getElem om;obtain⟨⟨pn,pz⟩,hpe⟩ : ∃p,p=q[j]:=⟨_,rfl⟩
  rw [← hpe] at hqj;clear hpe;have key2:∀xs:List bD,xs.map (fun x=>(x.name,fE ext x))=q→∃(b:ah) (rr:List PV),(xs.flatMap bD.cells).drop (j * 10)=bD.cells ⟨pn,b⟩ ++ rr:=by
   intro xs hq;have hlen:xs.length=q.length:=by rw [← hq,List.length_map]
   have hj:xs[j]?=some xs[j]:=List.getElem?_eq_getElem om;obtain⟨rr,hk3⟩:=de (c:=bD.cells) (es:=10) (fun _=>rfl) hj;have h2:(xs.map fun x=>(x.name,fE ext x))[j]?=some (xs[j].name,fE ext xs[j]):=by rw [List.getElem?_map,hj]; rfl
   rw [hq,hqj] at h2;injection h2 with h2;generalize xs[j]=x at *;obtain⟨n,b⟩:=x;simp only [Prod.mk.injEq] at h2;obtain⟨rfl,_⟩:=h2;exact⟨b,rr,hk3⟩
  have e3:decide (0 < j + 1)=true:=decide_eq_true (Nat.succ_pos _);cases co:Tl pn qn with
  | true=>
   refine⟨1,fun xs hq hok n0 f s hn h0 h3=>?_⟩;obtain⟨hlen,b,rr,hk3,hz,ho⟩:=key xs hq hok;obtain⟨b2,rr2,hk4⟩:=key2 xs hq;have e1:decide (j + 1 < xs.length)=true:=dt;have hl:j + 1 < xs.length:=om;have hl2:j < xs.length:=om;have hfl:=aQ (c:=bD.cells) (es:=10) (fun _=>rfl) xs;unfold mD at ho;rw [hz] at ho;simp only [bD.cells,ah.cells,List.cons_append,List.nil_append] at hk3 hk4 ho;refine ac fun L hL=>?_;simp -implicitDefEqProofs (disch:=first | omega | (unfold cH bM; simp<;>omega)) only [ZS,seval,ZT,oW,uA,h0,h3,e1,e3,hl,hl2,hfl,hk3,hk4,ap,ho,c1',co,jn,Ec,iE,Nat.add_sub_cancel];exact hn
  | false=>
   refine⟨z,fun xs hq hok n0 f s hn h0 h3=>?_⟩;obtain⟨hlen,b,rr,hk3,hz,ho⟩:=key xs hq hok;obtain⟨b2,rr2,hk4⟩:=key2 xs hq;have e1:decide (j + 1 < xs.length)=true:=dt;have hl:j + 1 < xs.length:=om;have hl2:j < xs.length:=om;have hfl:=aQ (c:=bD.cells) (es:=10) (fun _=>rfl) xs;unfold mD at ho;rw [hz] at ho;simp only [bD.cells,ah.cells,List.cons_append,List.nil_append] at hk3 hk4 ho;refine ac fun L hL=>?_;simp -implicitDefEqProofs (disch:=first | omega | (unfold cH bM; simp<;>omega)) only [ZS,seval,ZT,oW,h0,h3,e1,e3,hl,hl2,hfl,hk3,hk4,ap,ho,c1',co,jn,Ec,iE,Nat.add_sub_cancel];subst hL;exact hgo xs hq hok _ _ _ hn (aL h0) bh
theorem Aa (q:List (ByteArray × Int)) (hx:q.length < 1000000000000):∃z:Int,∀y:Option (List bD),(y.getD []).map (fun x=>(x.name,fE ext x))=q→(∀x∈y.getD [],mD ext x)→∀s,Pc ext 85 [b9 121 bD.cells y] (.sc (.int .i64 z)) s:=by
 have z1:decide ((0:Int) > 64)=false:=rfl;cases c1:decide (64 < q.length) with
 | true=>
  refine⟨4,fun y hy _ s=>?_⟩;refine mu P7 2 ?_;unfold P7;cases y with
  | none=>rw [← hy] at c1; cases c1
  | some l=>
   simp only [Option.getD_some] at hy;have c2:decide (64 < l.length)=true:=by rw [← hy,List.length_map] at c1; exact c1
   exact qf @bW c2
 | false=>
  obtain⟨z,hz⟩:=NC (ext:=ext) q hx q.length 0 (Nat.zero_add _);by_cases hl:q=[]
  ·subst hl;refine⟨0,fun y hy _ s=>?_⟩;refine mu P7 2 ?_;unfold P7;have z0:decide ((0:Int) < 0)=false:=rfl;have z2:decide (0 < 0)=false:=rfl;cases y with
   | none=>
    refine u6 @bW z1 ?_;refine ac fun L hL=>?_;exact jC @oW.eq_1 @uA.eq_1 z0
   | some m=>
    simp only [Option.getD_some,List.map_eq_nil_iff] at hy;subst hy;simp only [List.length_nil] at c1;refine u6 @bW c1 ?_;refine ac fun L hL=>?_;exact jC @oW.eq_1 @uA.eq_1 z2
  ·refine⟨z,fun y hy hok s=>?_⟩;refine mu P7 2 ?_;unfold P7;cases y with
   | none=>exact absurd hy.symm hl
   | some m=>
    simp only [Option.getD_some] at hy hok;have c2:decide (64 < m.length)=false:=by rw [← hy,List.length_map] at c1; exact c1
    refine u6 @bW c2 ?_;exact hz m hy hok s.n _ _ bh (aL @bW) bh
end Go.Proofs.YtflfflfodghgpaaGreatDoor
set_option linter.unusedSimpArgs false
namespace Go.PE
open Go Go.EvL
theorem Ao {α:Type}{e es bytes b:Nat}{c:α→List PV}{l:List α}{v:PV}{s:PS} (hc:∀x,(c x).length=es) (hes:es≠0) (h:jv e es c b l v s) (hb:b≤s.n) (hn:l.length≤1000000) (hby:bytes≤1024) (x:α) (ho:(c x).all cX=true) :
  ∃v' s',sZ (s.new ⟨c x,0,e⟩) e es bytes v (c x) 1=some (v',s')∧jv e es c b (l ++ [x]) v' s'∧s.n≤s'.n∧∀n0,n0≤b→n0≤s.w→n0≤s'.w:=by
 obtain⟨v',s',a1,a2,a3,a4,a5⟩:=(h.new ⟨c x,0,e⟩).app (bytes:=bytes) hc [x] hes (by simp only [List.length_cons,List.length_nil]; exact Nat.le_trans (Nat.mul_le_mul (show l.length + (0 + 1)≤1000001 by omega) hby) (by decide)) (by simp only [List.length_cons,List.length_nil]; omega) (fun y hy=>by rw [List.mem_singleton] at hy; subst hy; exact ho) (by rw [cR]; omega);rw [List.flatMap_cons,List.flatMap_nil,List.append_nil] at a1;exact⟨v',s',a1,a2,by rw [cR] at a4; omega,fun n0 h1 h2=>a5 n0 h1 (by rw [gV]; exact h2)⟩
end Go.PE
namespace Go.Proofs.YtflfflfodghgpaaGreatDoor
open Go Go.EvL Go.PE Go.Mir
variable {ext:ai}
theorem Ng {b:ByteArray} (hb:b.data.toList.length≤1000):∀(k i a:Nat),i + k=b.data.toList.length→a≤i→∃rest:List ByteArray,rest≠[]∧rest.length≤k + 1∧(∀x∈rest,x.data.toList.length≤1000)∧
  ∀(acc:List ByteArray) (n0:Nat) (f:aO) (s:PS),acc.length≤i→n0≤s.w→n0≤s.n→f 0=.sc (.string b)→f 4=iN a→f 5=iN i→jv 9 1 gx n0 acc (f 3) s→
  Er (fun f' s'=>n0≤s'.w∧jv 9 1 gx n0 (acc ++ rest) (f' 2) s') (LP Tryz.prog Γ ext 0 rH BI f s):=by
 intro k
 induction k with
 | zero=>
  intro i a hk ha;refine⟨[⟨⟨(b.data.toList.drop a).take (b.data.toList.length - a)⟩⟩],by simp,by simp,fun x hx=>?_,fun acc n0 f s hacc hw hn h0 h4 h5 hA=>?_⟩
  ·rw [List.mem_singleton] at hx;subst hx;show ((b.data.toList.drop a).take (b.data.toList.length - a)).length≤1000;rw [List.length_take]; omega
  have e1:decide (i < b.data.toList.length)=false:=df;have n1:a≤b.data.toList.length:=om;have hel:=rV (e:=9) s (gx ⟨⟨(b.data.toList.drop a).take (b.data.toList.length - a)⟩⟩);obtain⟨v1,s1,a1,a2,a3,a4⟩:=Ao (bytes:=16) (c:=gx) (fun _=>rfl) (by decide) hA hn om (by decide) ⟨⟨(b.data.toList.drop a).take (b.data.toList.length - a)⟩⟩ (by rfl);simp only [gx,List.length_cons,List.length_nil] at hel a1;refine ac fun L hL=>?_;refine GI @rH.eq_1 @BI.eq_1 h0 h4 h5 e1 n1 hel a1 ?_;exact⟨a4 _ (Nat.le_refl _) hw,a2⟩
 | succ k ih=>
  intro i a hk ha;have hl:i < b.data.toList.length:=om;have e1:decide (i < b.data.toList.length)=true:=decide_eq_true hl;cases e2:(bt b.data.toList i == 47) with
  | false=>
   obtain⟨rest,r1,r2,r3,hgo⟩:=ih (i + 1) a om om;refine⟨rest,r1,om,r3,fun acc n0 f s hacc hw hn h0 h4 h5 hA=>?_⟩;refine ac fun L hL=>?_;refine Ci @rH.eq_1 h0 h4 h5 e1 hl e2 ?_;subst hL;exact hgo acc n0 _ _ om hw hn (aL h0) (aL h4) bh (by simp -implicitDefEqProofs (disch:=omega) only [ZS,seval]; exact hA)
  | true=>
   obtain⟨rest,r1,r2,r3,hgo⟩:=ih (i + 1) (i + 1) om om;refine⟨⟨⟨(b.data.toList.drop a).take (i - a)⟩⟩ :: rest,by simp,by simp; omega,fun x hx=>?_,fun acc n0 f s hacc hw hn h0 h4 h5 hA=>?_⟩
   ·rcases List.mem_cons.1 hx with rfl | hx
    ·show ((b.data.toList.drop a).take (i - a)).length≤1000;rw [List.length_take]; omega
    ·exact r3 x hx
   have n1:a≤i:=ha;have n2:i≤b.data.toList.length:=om;have hel:=rV (e:=9) s (gx ⟨⟨(b.data.toList.drop a).take (i - a)⟩⟩);obtain⟨v1,s1,a1,a2,a3,a4⟩:=Ao (bytes:=16) (c:=gx) (fun _=>rfl) (by decide) hA hn om (by decide) ⟨⟨(b.data.toList.drop a).take (i - a)⟩⟩ (by rfl);simp only [gx,List.length_cons,List.length_nil] at hel a1;refine ac fun L hL=>?_;refine jp @rH.eq_1 h0 h4 h5 e1 hl e2 n1 n2 hel a1 tv ?_;subst hL;rw [show acc ++ ⟨⟨(b.data.toList.drop a).take (i - a)⟩⟩ :: rest=(acc ++ [⟨⟨(b.data.toList.drop a).take (i - a)⟩⟩]) ++ rest by simp];exact hgo _ n0 _ _ (by simp; omega) (a4 _ (Nat.le_refl _) hw) om (aL h0) bh bh (by simp -implicitDefEqProofs (disch:=omega) only [ZS,seval]; exact a2)
theorem Ls {b:ByteArray} (hb:b.data.toList.length≤1000):∃l:List ByteArray,l.length≤2000∧(∀x∈l,x.data.toList.length≤1000)∧∀s,Pc ext 230 [.sc (.string b)] (b9 9 gx (some l)) s:=by
 obtain⟨l,r1,r2,r3,h⟩:=Ng (ext:=ext) hb b.data.toList.length 0 0 (Nat.zero_add _) (Nat.le_refl _);refine⟨l,om,r3,fun s=>?_⟩;have ho:eH l=some l:=by cases l with | nil=>exact absurd rfl r1 | cons x l=>rfl
 refine ij (fn:=Lg) (by rfl) (by simp [Lg]) (V:=fun f' s'=>s.n≤s'.w∧jv 9 1 gx s.n l (f' 2) s') ?_ ?_
 ·unfold Lg;refine Hm ?_;exact h [] s.n _ _ (Nat.zero_le _) bh bh bh bh bh (by simp -implicitDefEqProofs (disch:=omega) only [ZS,seval]; exact jv.nil ..)
 ·rintro f' s' ⟨hw,hA⟩;refine fJ (vs:=[f' 2]) (by rfl) (by rfl) hw ?_;rw [← ho];exact Cq (hA.frz (fun _=>rfl) (Nat.le_refl _) fun _ _=>rfl)
theorem Lm {b:ByteArray} (hb:b.data.toList.length < 1000000000000):∀(k i:Nat),i + k=b.data.toList.length→∃z:Bool,∀(n0:Nat) (f:aO) (s:PS),n0≤s.w→f 0=.sc (.string b)→f 3=iN i→
  Er (fun f' s'=>n0≤s'.w∧f' 2=.sc (.bool z)) (LP Tryz.prog Γ ext 0 pS ug f s):=by
 intro k
 induction k with
 | zero=>
  intro i hk;refine⟨true,fun n0 f s hn h0 h3=>?_⟩;have e1:decide (i < b.data.toList.length)=false:=df;refine ac fun L hL=>?_;refine FX @pS.eq_1 @ug.eq_1 h0 h3 e1 ?_;exact hn
 | succ k ih=>
  intro i hk;obtain⟨z,hgo⟩:=ih (i + 1) om;have hl:i < b.data.toList.length:=om;have e1:decide (i < b.data.toList.length)=true:=decide_eq_true hl;cases e2:(bt b.data.toList i == 47) with
  | true=>
   refine⟨false,fun n0 f s hn h0 h3=>?_⟩;refine ac fun L hL=>?_;refine Ci @pS.eq_1 @ug.eq_1 h0 h3 e1 hl e2 ?_;exact hn
  | false=>
  cases e3:(bt b.data.toList i == 0) with
  | true=>
   refine⟨false,fun n0 f s hn h0 h3=>?_⟩;refine ac fun L hL=>?_;refine Bz @pS.eq_1 @ug.eq_1 h0 h3 e1 hl e2 e3 ?_;exact hn
  | false=>
   refine⟨z,fun n0 f s hn h0 h3=>?_⟩;refine ac fun L hL=>?_;refine Ci @pS.eq_1 h0 h3 e1 hl e2 e3 ?_;subst hL;exact hgo _ _ _ hn (aL h0) bh
theorem MI {b:ByteArray} (hb:b.data.toList.length < 1000000000000):∃z:Bool,∀s,Pc ext 231 [.sc (.string b)] (.sc (.bool z)) s:=by
 obtain⟨z,hz⟩:=Lm (ext:=ext) hb b.data.toList.length 0 (Nat.zero_add _);cases c1:decide (b.data.toList.length < 1) with
 | true=>
  refine⟨false,fun s=>eF (fn:=oM) (r:=2) (by rfl) (by simp [oM]) (by rfl) (by rfl) ?_⟩;unfold oM;exact qf c1 @fp
 | false=>
 cases c2:decide (32 < b.data.toList.length) with
 | true=>
  refine⟨false,fun s=>eF (fn:=oM) (r:=2) (by rfl) (by simp [oM]) (by rfl) (by rfl) ?_⟩;unfold oM;exact jC c1 c2 @fp
 | false=>
 cases c3:(b.data.toList == [46]) with
 | true=>
  refine⟨false,fun s=>eF (fn:=oM) (r:=2) (by rfl) (by simp [oM]) (by rfl) (by rfl) ?_⟩;unfold oM;exact qs c1 c2 c3 @fp
 | false=>
 cases c4:(b.data.toList == [46,46]) with
 | true=>
  refine⟨false,fun s=>eF (fn:=oM) (r:=2) (by rfl) (by simp [oM]) (by rfl) (by rfl) ?_⟩;unfold oM;exact tI c1 c2 c3 c4 @fp
 | false=>
  refine⟨z,fun s=>eF (fn:=oM) (r:=2) (by rfl) (by simp [oM]) (by rfl) (by rfl) ?_⟩;unfold oM;refine FX c1 c2 c3 c4 @fp ?_;exact hz s.n _ _ bh bh bh
theorem MB {xs:List ByteArray} (hx:xs.length < 1000000000000) (hs:∀x∈xs,x.data.toList.length≤1000):∀(k i:Nat),i + k=xs.length→∃z:Bool,∀(n0:Nat) (f:aO) (s:PS),n0≤s.w→f 3=.lit 9 xs.length (xs.flatMap gx)→f 4=iN i→
  Er (fun f' s'=>n0≤s'.w∧f' 2=.sc (.bool z)) (LP Tryz.prog Γ ext 0 rR yP f s):=by
 intro k
 induction k with
 | zero=>
  intro i hk;refine⟨true,fun n0 f s hn h3 h4=>?_⟩;have e1:decide (i < xs.length)=false:=df;refine ac fun L hL=>?_;refine FX @rR.eq_1 @yP.eq_1 h3 h4 e1 ?_;exact hn
 | succ k ih=>
  intro i hk;obtain⟨z,hgo⟩:=ih (i + 1) om;have hl:i < xs.length:=om;have e1:decide (i < xs.length)=true:=decide_eq_true hl;have hj:xs[i]?=some xs[i]:=List.getElem?_eq_getElem hl;have hfl:=aQ (c:=gx) (es:=1) (fun _=>rfl) xs;obtain⟨rr,hk3⟩:=de (c:=gx) (es:=1) (fun _=>rfl) hj;have hnm:=hs xs[i] (List.getElem_mem ..);generalize xs[i]=x at *;simp only [gx,List.cons_append,List.nil_append] at hk3;obtain⟨q,hq⟩:=MI (ext:=ext) (b:=x) om;cases q with
  | false=>
   refine⟨false,fun n0 f s hn h3 h4=>?_⟩;refine ac fun L hL=>?_;refine yi @rR.eq_1 @yP.eq_1 h3 h4 e1 hl hfl hk3 @ap hq ?_;exact hn
  | true=>
   refine⟨z,fun n0 f s hn h3 h4=>?_⟩;refine ac fun L hL=>?_;refine GI @rR.eq_1 h3 h4 e1 hl hfl hk3 @ap hq ?_;subst hL;exact hgo _ _ _ hn (aL h3) bh
theorem Kb {b:ByteArray} (hb:b.data.toList.length < 1000000000000):∃z:Bool,∀s,Pc ext 161 [.sc (.string b)] (.sc (.bool z)) s:=by
 cases c1:(b.data.toList == [47]) with
 | true=>
  refine⟨true,fun s=>eF (fn:=oJ) (r:=2) (by rfl) (by simp [oJ]) (by rfl) (by rfl) ?_⟩;unfold oJ;exact qf c1 @fp
 | false=>
 cases c2:decide (b.data.toList.length < 2) with
 | true=>
  refine⟨false,fun s=>eF (fn:=oJ) (r:=2) (by rfl) (by simp [oJ]) (by rfl) (by rfl) ?_⟩;unfold oJ;exact jC c1 c2 @fp
 | false=>
 cases c3:decide (128 < b.data.toList.length) with
 | true=>
  refine⟨false,fun s=>eF (fn:=oJ) (r:=2) (by rfl) (by simp [oJ]) (by rfl) (by rfl) ?_⟩;unfold oJ;exact qs c1 c2 c3 @fp
 | false=>
 have hl1 : 1≤b.data.toList.length:=by have:=of_decide_eq_false c2; omega
 have hl0 : 0 < b.data.toList.length:=hl1;have hl3:b.data.toList.length≤128:=by have:=of_decide_eq_false c3; omega
 cases c4:(bt b.data.toList 0 == 47) with
 | false=>
  refine⟨false,fun s=>eF (fn:=oJ) (r:=2) (by rfl) (by simp [oJ]) (by rfl) (by rfl) ?_⟩;unfold oJ;exact kU c1 c2 c3 c4 @fp hl0
 | true=>
  obtain⟨l,l1,l2,l3⟩:=Ls (ext:=ext) (b:=⟨⟨(b.data.toList.drop 1).take (b.data.toList.length - 1)⟩⟩) (by show ((b.data.toList.drop 1).take (b.data.toList.length - 1)).length≤1000; rw [List.length_take]; omega);obtain⟨z,hz⟩:=MB (ext:=ext) (xs:=l) om l2 l.length 0 (Nat.zero_add _);refine⟨z,fun s=>eF (fn:=oJ) (r:=2) (by rfl) (by simp [oJ]) (by rfl) (by rfl) ?_⟩;unfold oJ;have hk1:kw (.sc (.int .i64 1))=some 1:=rfl;refine GI c1 c2 c3 c4 @fp hl0 hl1 hk1 l3 ?_;exact hz s.n _ _ bh (aL @bW) bh
end Go.Proofs.YtflfflfodghgpaaGreatDoor
set_option linter.unusedSimpArgs false
namespace Go.Proofs.YtflfflfodghgpaaGreatDoor
open Go Go.EvL Go.PE Go.Mir
variable {ext:ai}
def D3 (o st pi la:Int) (path:Bool) (gi go le:Int):Int:=
 if decide (o < 0) || decide (o > 255) then 1 else if ((decide (st < 0) || decide (st > 255)) || decide (pi < 0)) || decide (la < 0) then 2 else if !path then 10 else if (decide (gi < 1) || decide (go < 0)) || decide (le < 0) then 2 else 0
theorem H3 {x:eu}{path:Bool} (hp:∀s,Pc ext 161 [.sc (.string x.cwd)] (.sc (.bool path)) s) (s:PS):Pc ext 88 [.agg x.cells] (.sc (.int .i64 (D3 x.opts x.stat x.pid x.last path x.gi x.go x.lev))) s:=by
 obtain⟨nm,vs,ps,fs,als,ts,o,st,pi,la',cw,gi,go,le,tk⟩:=x;simp only [eu.cells] at hp ⊢;refine mu To 2 ?_;unfold To D3;cases c1:decide (o < 0) with
 | true=>
  exact aL c1
 | false=>
 cases c2:decide (o > 255) with
 | true=>
  exact qf c1 c2
 | false=>
 cases c3:decide (st < 0) with
 | true=>
  exact jC c1 c2 c3
 | false=>
 cases c4:decide (st > 255) with
 | true=>
  exact qs c1 c2 c3 c4
 | false=>
 cases c5:decide (pi < 0) with
 | true=>
  exact tI c1 c2 c3 c4 c5
 | false=>
 cases c6:decide (la' < 0) with
 | true=>
  exact kU c1 c2 c3 c4 c5 c6
 | false=>
 cases c7:path with
 | false=>
  rw [c7] at hp;exact wn c1 c2 c3 c4 c5 c6 hp
 | true=>
 rw [c7] at hp;cases c8:decide (gi < 1) with
 | true=>
  exact A9 c1 c2 c3 c4 c5 c6 c8 hp
 | false=>
 cases c9:decide (go < 0) with
 | true=>
  exact tf c1 c2 c3 c4 c5 c6 c8 c9 hp
 | false=>
 cases c10:decide (le < 0) with
 | true=>
  exact tj c1 c2 c3 c4 c5 c6 c8 c9 c10 hp
 | false=>
  exact tj c1 c2 c3 c4 c5 c6 c8 c9 c10 hp
def Dm (nm:ByteArray) (zv zp zf za zt zn:Int):Int:=
 if decide (4096 < nm.data.toList.length) then 3 else if zv != 0 then zv else if zp != 0 then zp else if zf != 0 then zf else if za != 0 then za else if zt != 0 then zt else zn
theorem S3 {x:eu}{zv zp zf za zt zn:Int} (hv:∀s,Pc ext 84 [x.vars] (.sc (.int .i64 zv)) s) (hp:∀s,Pc ext 80 [x.params] (.sc (.int .i64 zp)) s) (hf:∀s,Pc ext 85 [x.funcs] (.sc (.int .i64 zf)) s) (ha:∀s,Pc ext 86 [x.aliases] (.sc (.int .i64 za)) s) (ht:∀s,Pc ext 87 [x.traps] (.sc (.int .i64 zt)) s) (hn:∀s,Pc ext 88 [.agg x.cells] (.sc (.int .i64 zn)) s)
  (cv:bx x.vars=[x.vars]) (cp:bx x.params=[x.params]) (cf:bx x.funcs=[x.funcs]) (ca:bx x.aliases=[x.aliases]) (ct:bx x.traps=[x.traps]) (s:PS):Pc ext 36 [.agg x.cells] (.sc (.int .i64 (Dm x.name zv zp zf za zt zn))) s:=by
 obtain⟨nm,vs,ps,fs,als,ts,o,st,pi,la',cw,gi,go,le,tk⟩:=x;simp only [eu.cells] at hn ⊢;simp only at hv hp hf ha ht cv cp cf ca ct;refine mu Ms 2 ?_;unfold Ms Dm;cases c1:decide (4096 < nm.data.toList.length) with
 | true=>
  exact wn c1 @me cv cp cf ca ct
 | false=>
 cases c2:(zv != 0) with
 | true=>
  exact tf c1 c2 hv @me cv cp cf ca ct
 | false=>
 cases c3:(zp != 0) with
 | true=>
  exact oQ c1 c2 c3 hv hp @me cv cp cf ca ct tv
 | false=>
 cases c4:(zf != 0) with
 | true=>
  exact zT c1 c2 c3 c4 hv hp hf @me cv cp cf ca ct tv
 | false=>
 cases c5:(za != 0) with
 | true=>
  exact qO c1 c2 c3 c4 c5 hv hp hf ha @me cv cp cf ca ct tv
 | false=>
 cases c6:(zt != 0) with
 | true=>
  exact lb c1 c2 c3 c4 c5 c6 hv hp hf ha ht @me cv cp cf ca ct tv tv
 | false=>
  exact lb c1 c2 c3 c4 c5 c6 hv hp hf ha ht hn @me cv cp cf ca ct tv
theorem QI {x:eu}{b:PS→Bool}{z:Int} (hs:∀s,Pc ext 37 [.agg x.cells] (.sc (.bool (b s))) s) (hv:∀s,Pc ext 36 [.agg x.cells] (.sc (.int .i64 z)) s) (s:PS):∃c:Bool,Pc ext 39 [.agg x.cells] (.sc (.bool (c && (z == 0)))) s:=by
 refine⟨b ((⟨s.h,s.n,s.n⟩ : PS).new ⟨x.cells,0,56⟩),?_⟩;simp only [eu.cells] at hs hv ⊢;refine mu L9 2 ?_;unfold L9;generalize hs1:((⟨s.h,s.n,s.n⟩ : PS).new ⟨[.sc (.string x.name),x.vars,x.params,x.funcs,x.aliases,x.traps,.sc (.int .i64 x.opts),.sc (.int .i64 x.stat),.sc (.int .i64 x.pid),.sc (.int .i64 x.last),.sc (.string x.cwd),.sc (.int .i64 x.gi),.sc (.int .i64 x.go),.sc (.int .i64 x.lev),.sc (.bool x.talks)],0,56⟩)=s1;have q1:s1.h s.n=⟨[.sc (.string x.name),x.vars,x.params,x.funcs,x.aliases,x.traps,.sc (.int .i64 x.opts),.sc (.int .i64 x.stat),.sc (.int .i64 x.pid),.sc (.int .i64 x.last),.sc (.string x.cwd),.sc (.int .i64 x.gi),.sc (.int .i64 x.go),.sc (.int .i64 x.lev),.sc (.bool x.talks)],0,56⟩:=by
  rw [← hs1];exact if_pos rfl
 have q2:s.n≤s1.w:=by rw [← hs1]; exact Nat.le_refl _
 have h1:=hs s1;cases c1:b s1 with
 | false=>
  rw [c1] at h1;refine OX hs1 q1 h1 ?_;exact q2
 | true=>
  rw [c1] at h1;refine R9 hs1 q1 h1 hv ?_;exact q2
end Go.Proofs.YtflfflfodghgpaaGreatDoor
set_option linter.unusedSimpArgs false
namespace Go.Proofs.YtflfflfodghgpaaGreatDoor
open Go Go.EvL Go.PE Go.Mir
variable {ext:ai}
theorem ke {n:Nat}{s:PS}{p:PV} (h:cM p=true):bQ n s p=some p:=by
 cases p with
 | fn g a b=>
  simp only [cM,Bool.and_eq_true,List.isEmpty_iff] at h;obtain⟨rfl,rfl⟩:=h;rfl
 | sc v=>rfl
 | lit _ _ _=>rfl
 | litp _=>rfl
 | litx _ _ _=>rfl
 | _=>cases h
def Qm (D d:Nat) (y x:bD):Prop:=y.name=x.name∧zD D d y.body x.body
theorem SO (x:bD) (y:ah) (h:∀s,Pc ext 106 [.agg x.body.cells] (.agg y.cells) s) (ho:y.cells.all cX=true) (hc:y.cells.all cM=true) (s:PS) :
  Pc ext 172 [.agg x.cells] (.agg (bD.cells ⟨x.name,y⟩)) s:=by
 obtain⟨n,b⟩:=x;refine qC (s.n + 1) Ox 2 10 ?_;unfold Ox;simp only [bD.cells,ah.cells,List.all_cons,List.all_nil,Bool.and_eq_true,Bool.and_true] at h ho hc ⊢;obtain⟨_,_,_,_,o5,o6,o7,o8,o9⟩:=ho;obtain⟨_,_,_,_,k5,k6,k7,k8,k9⟩:=hc;refine qJ h o5 o6 o7 o8 o9 @aR @fx @fC @eG @dH @dW @du tv ?_;refine⟨_,_,_,rfl,rfl,Nat.le_refl _,?_⟩;simp only [j7,iJ,ke k5,ke k6,ke k7,ke k8,ke k9,Option.bind_some,Option.map_some]
theorem H6 {D d:Nat} (x y:bD) (h:Qm D d y x):y.cells.all cX=true∧y.cells.all cM=true:=by
 obtain⟨h1,h2⟩:=sq _ _ h.2;simp only [bD.cells,List.all_cons,h1,h2,Bool.and_true];exact⟨rfl,rfl⟩
theorem zX {D d:Nat}{a:PV}{l:Option (List bD)} (ha:a=b9 121 bD.cells l) (hl:∀x∈l.getD [],dn D d x.body∧bj x.body.cells≤16777216) (hn:(l.getD []).length≤16777216) :
  ∃b,(∀s,Pc ext 171 [a,.fn 172 [] []] b s)∧jW 121 bD.cells (Qm D d) b a:=by
 refine io bD.len (by decide) (by decide) (by decide) RP Ta ha hn (fun x hx=>?_) H6 (fun x hx=>?_)
 ·simp only [bD.cells,List.all_cons,(hl x hx).1.ones,Bool.and_true]; rfl
 ·obtain⟨y,h1,h2⟩:=C4 (ext:=ext) d x.body (hl x hx).1 (hl x hx).2;obtain⟨o1,o2⟩:=sq _ _ h2;exact⟨⟨x.name,y⟩,SO x y h1 o1 o2,rfl,h2⟩
theorem SN:Γ 167=some (jB 99 5 40 [(.string ⟨#[]⟩),(.string ⟨#[]⟩),(.bool false),(.bool false),(.bool false)] false):=(rfl)
theorem S1:Γ 168=some (jB 9 1 16 [(.string ⟨#[]⟩)] false):=(rfl)
theorem So:Γ 169=some (jB 123 2 32 [(.string ⟨#[]⟩),(.string ⟨#[]⟩)] false):=(rfl)
theorem SV:Γ 170=some (jB 101 2 24 [(.int .i64 0),(.string ⟨#[]⟩)] false):=(rfl)
theorem RQ:ez Γ 167=true:=(rfl)
theorem Rw:ez Γ 168=true:=(rfl)
theorem Rt:ez Γ 169=true:=(rfl)
theorem T8:ez Γ 170=true:=(rfl)
def eu.copy (x:eu) (lv:Option (List fu)) (lp:Option (List ByteArray)) (b:PV) (la:Option (List cj)) (lt:Option (List ei)):eu:=
 ⟨x.name,b9 99 fu.cells (eH (lv.getD [])),b9 9 gx (eH (lp.getD [])),b,b9 123 cj.cells (eH (la.getD [])),b9 101 ei.cells (eH (lt.getD [])),x.opts,x.stat,x.pid,x.last,x.cwd,x.gi,x.go,x.lev,x.talks⟩
theorem Ot {D d:Nat}{x:eu}{lv:Option (List fu)}{lp:Option (List ByteArray)}{lf:Option (List bD)}{la:Option (List cj)}{lt:Option (List ei)} (h:sM D d x lv lp lf la lt) :
  ∃lf':Option (List bD),jW 121 bD.cells (Qm D d) (b9 121 bD.cells lf') x.funcs∧∀s,Pc ext 95 [.agg x.cells] (.agg (x.copy lv lp (b9 121 bD.cells lf') la lt).cells) s:=by
 obtain⟨b,hb,hq⟩:=zX (ext:=ext) h.f h.node h.nf;obtain⟨lf',rfl⟩:=hq.sl;refine⟨lf',hq,fun s=>?_⟩;have v:=fun s=>xY (P:=Tryz.prog) (ext:=ext) (c:=fu.cells) SN (fun _=>rfl) (by decide) (y:=lv) h.nv (fun _ _=>⟨rfl,rfl⟩) s;have p:=fun s=>xY (P:=Tryz.prog) (ext:=ext) (c:=gx) S1 (fun _=>rfl) (by decide) (y:=lp) h.np (fun _ _=>⟨rfl,rfl⟩) s;have a:=fun s=>xY (P:=Tryz.prog) (ext:=ext) (c:=cj.cells) So (fun _=>rfl) (by decide) (y:=la) h.na (fun _ _=>⟨rfl,rfl⟩) s;have t:=fun s=>xY (P:=Tryz.prog) (ext:=ext) (c:=ei.cells) SV (fun _=>rfl) (by decide) (y:=lt) h.nt (fun _ _=>⟨rfl,rfl⟩) s;have cv:=dE (e:=99) (c:=fu.cells) lv;have cp:=dE (e:=9) (c:=gx) lp;have cf:=dE (e:=121) (c:=bD.cells) lf;have ca:=dE (e:=123) (c:=cj.cells) la;have ct:=dE (e:=101) (c:=ei.cells) lt;have ov:=dH 99 fu.cells lv;have op:=dH 9 gx lp;have of:=dH 121 bD.cells lf;have oa:=dH 123 cj.cells la;have ot:=dH 101 ei.cells lt;rw [← h.v] at v cv ov;rw [← h.p] at p cp op;rw [← h.f] at cf of;rw [← h.a] at a ca oa;rw [← h.t] at t ct ot;obtain⟨nm,vs,ps,fs,als,ts,o,st,pi,la',cw,gi,go,le,tk⟩:=x;simp only at v p a t cv cp cf ca ct hb ov op of oa ot;clear h hq;refine qC (s.n + 1) Tq 2 15 ?_;unfold Tq;simp only [eu.cells,eu.copy];simp -implicitDefEqProofs (disch:=first | omega | (unfold cH bM; simp<;>omega)) only [ZS,seval,ZT,ZX,v,p,a,t,hb,cv,cp,cf,ca,ct,ov,op,of,oa,ot,RQ,Rw,Rt,T8,iE,aR,fx,fC,eG,dH,dW,du];exact⟨_,_,_,rfl,rfl,Nat.le_refl _,by simp only [j7,jk,iJ,Option.bind_some,Option.map_some]⟩
end Go.Proofs.YtflfflfodghgpaaGreatDoor
namespace Go.PE
open Go Go.EvL
def Sk (a b:Int):Int:=IntKind.i64.wrap ((BitVec.ofInt 64 a &&& BitVec.ofInt 64 b).toNat:Int)
def UL (a b:Int):Int:=IntKind.i64.wrap ((BitVec.ofInt 64 a ||| BitVec.ofInt 64 b).toNat:Int)
def Rc (a b:Int):Int:=IntKind.i64.wrap ((BitVec.ofInt 64 a &&& ~~~ BitVec.ofInt 64 b).toNat:Int)
section
variable {P:Program}{Γ:Nat→Option fN}{ext:ai}
theorem Em (t:Nat) (x y:Operand) (a b:Int):gP P .and t x y (.sc (.int .i64 a)) (.sc (.int .i64 b))=some (.sc (.int .i64 (Sk a b))):=(rfl)
theorem IL (t:Nat) (x y:Operand) (a b:Int):gP P .or t x y (.sc (.int .i64 a)) (.sc (.int .i64 b))=some (.sc (.int .i64 (UL a b))):=(rfl)
theorem JY (t:Nat) (x y:Operand) (a b:Int):gP P .andNot t x y (.sc (.int .i64 a)) (.sc (.int .i64 b))=some (.sc (.int .i64 (Rc a b))):=(rfl)
theorem bin_mul (t:Nat) (x y:Operand) (a b:Int):gP P .mul t x y (.sc (.int .i64 a)) (.sc (.int .i64 b))=some (.sc (.int .i64 (IntKind.i64.wrap (a * b)))):=(rfl)
theorem DG (t:Nat) (x y:Operand) (a b:List UInt8) (h:a.length + b.length < 1000000):gP P .add t x y (.sc (.string ⟨⟨a⟩⟩)) (.sc (.string ⟨⟨b⟩⟩))=some (.sc (.string ⟨⟨a ++ b⟩⟩)):=by
 rw [l7 (P:=P) t x y (a:=⟨⟨a⟩⟩) (b:=⟨⟨b⟩⟩) (by show a.length + b.length < _; omega)];exact congrArg (fun z=>some (PV.sc (.string z))) (ByteArray.ext (by simp))
end
def pJ (o b:Int):Bool:=Sk o b != 0
def lS (o b:Int) (on:Bool):Int:=if on then UL (Rc o b) b else Rc o b
def RI (o b:Int) (on:Bool):Int:=if on && !pJ o b then IntKind.i64.wrap (o + b) else if !on && pJ o b then IntKind.i64.wrap (o - b) else o
def er:List (UInt8 × Int):=[(97,32),(67,128),(101,1),(102,8),(109,64),(110,16),(117,2),(120,4)]
def oN (t:List UInt8):Int:=if t == [97] then 32 else if t == [67] then 128 else if t == [101] then 1 else if t == [102] then 8 else if t == [109] then 64 else if t == [110] then 16 else if t == [117] then 2 else if t == [120] then 4 else 0
def iu (o:Int):List (UInt8 × Int)→List UInt8
 | []=>[]
 | (c,b) :: r=>if pJ o b then c :: iu o r else iu o r
def RR:Bool:=(List.range 256).all fun n=>(er.all fun q=>[true,false].all fun on=>(RI (n:Int) q.2 on == lS (n:Int) q.2 on) && decide (0≤lS (n:Int) q.2 on) && decide (lS (n:Int) q.2 on≤255) && (lS (lS (n:Int) q.2 on) q.2 on == lS (n:Int) q.2 on) &&
 er.all fun r=>pJ (lS (n:Int) q.2 on) r.2 == (if r.2 == q.2 then on else pJ (n:Int) r.2)) && ((if pJ (n:Int) 64 then IntKind.i64.wrap ((n:Int) - 64) else (n:Int)) == Rc (n:Int) 64 && decide (0≤Rc (n:Int) 64) && decide (Rc (n:Int) 64≤255))
set_option maxRecDepth 100000 in
theorem Mn:RR=true:=by kernel_rfl
end Go.PE
set_option linter.unusedSimpArgs false
namespace Go.PE
open Go Go.EvL
theorem Ql {o:Int} (h0 : 0≤o) (h1:o≤255) {q:UInt8 × Int} (hq:q∈er) (on:Bool) :
  RI o q.2 on=lS o q.2 on∧0≤lS o q.2 on∧lS o q.2 on≤255∧lS (lS o q.2 on) q.2 on=lS o q.2 on∧∀r∈er,pJ (lS o q.2 on) r.2=(if r.2=q.2 then on else pJ o r.2):=by
 obtain⟨n,rfl⟩ : ∃n:Nat,o=n:=⟨o.toNat,om⟩
 have h:=Mn;unfold RR at h;have h2:=(Bool.and_eq_true _ _ ▸ List.all_eq_true.1 h n (List.mem_range.2 om)).1;have h3:=List.all_eq_true.1 (List.all_eq_true.1 h2 q hq) on (by cases on<;>simp);simp only [Bool.and_eq_true,beq_iff_eq,decide_eq_true_eq,List.all_eq_true] at h3;obtain⟨⟨⟨⟨a1,a2⟩,a3⟩,a4⟩,a5⟩:=h3;exact⟨a1,a2,a3,a4,a5⟩
theorem Mf (t:List UInt8):oN t=0∧(∀q∈er,t≠[q.1])∨∃q∈er,t=[q.1]∧oN t=q.2∧oN t≠0:=by
 unfold oN;by_cases h1:t=[97]; · subst h1; exact .inr ⟨(97,32),by decide,rfl,by decide,by decide⟩
 by_cases h2:t=[67]; · subst h2; exact .inr ⟨(67,128),by decide,rfl,by decide,by decide⟩
 by_cases h3:t=[101]; · subst h3; exact .inr ⟨(101,1),by decide,rfl,by decide,by decide⟩
 by_cases h4:t=[102]; · subst h4; exact .inr ⟨(102,8),by decide,rfl,by decide,by decide⟩
 by_cases h5:t=[109]; · subst h5; exact .inr ⟨(109,64),by decide,rfl,by decide,by decide⟩
 by_cases h6:t=[110]; · subst h6; exact .inr ⟨(110,16),by decide,rfl,by decide,by decide⟩
 by_cases h7:t=[117]; · subst h7; exact .inr ⟨(117,2),by decide,rfl,by decide,by decide⟩
 by_cases h8:t=[120]; · subst h8; exact .inr ⟨(120,4),by decide,rfl,by decide,by decide⟩
 refine .inl ⟨by simp [h1,h2,h3,h4,h5,h6,h7,h8],fun q hq=>?_⟩;simp only [er,List.mem_cons,List.not_mem_nil,or_false] at hq;rcases hq with rfl | rfl | rfl | rfl | rfl | rfl | rfl | rfl<;>assumption
def mC:List UInt8:=[97,67,101,102,109,110,117,120]
theorem C0:∀i,i < 8→(mC.drop i).take (i + 1 - i)=[(er.getD i (0,0)).1]∧oN [(er.getD i (0,0)).1]=(er.getD i (0,0)).2∧er.drop i=er.getD i (0,0) :: er.drop (i + 1)∧er.getD i (0,0)∈er∧mC.getD i 0=(er.getD i (0,0)).1:=by decide
theorem yC (o:Int):∀l:List (UInt8 × Int),(iu o l).length≤l.length
 | []=>Nat.le_refl _
 | (c,b) :: r=>by
  have:=yC o r;unfold iu;split
  ·simp only [List.length_cons]; omega
  ·simp only [List.length_cons]; omega
theorem EI (o:Int):∀(l:List (UInt8 × Int)) (q:UInt8 × Int),q∈l→(∀r∈l,∀r'∈l,r.1=r'.1→r=r')→(iu o l).any (· == q.1)=pJ o q.2
 | [],q,h,_=>absurd h (List.not_mem_nil)
 | (c,b) :: l,q,h,hu=>by
  by_cases hl:q∈l
  ·have ih:=EI o l q hl fun r hr r' hr'=>hu r (List.mem_cons_of_mem _ hr) r' (List.mem_cons_of_mem _ hr');unfold iu;split
   ·rename_i hb;rw [List.any_cons,ih];by_cases hc:c=q.1
    ·have:(c,b)=q:=hu _ (List.mem_cons_self ..) _ h hc;subst this;simp [hb]
    ·simp [hc]
   ·exact ih
  ·rcases List.mem_cons.1 h with rfl | h
   ·have hno:(iu o l).any (· == c)=false:=by
     have key:∀l:List (UInt8 × Int),(∀r∈l,r.1≠c)→(iu o l).any (· == c)=false:=by
      intro l
      induction l with
      | nil=>intro _; rfl
      | cons r l ih=>
       intro hr;obtain⟨c',b'⟩:=r;have h1:c'≠c:=hr _ (List.mem_cons_self ..);have h2:=ih fun r h=>hr r (List.mem_cons_of_mem _ h);unfold iu;split
       ·rw [List.any_cons,h2]; simp [h1]
       ·exact h2
     refine key l fun r hr he=>hl ?_;have:=hu r (List.mem_cons_of_mem _ hr) (c,b) (List.mem_cons_self ..) he;rw [← this]; exact hr
    unfold iu;simp only;split
    ·rename_i hb;rw [List.any_cons]; simp [hb]
    ·rename_i hb;rw [hno]; simpa using hb
   ·exact absurd h hl
theorem Jg:∀r∈er,∀r'∈er,r.1=r'.1→r=r':=by decide
theorem GO:∀r∈er,∀r'∈er,(r.2 == r'.2)=(r.1 == r'.1):=by decide
end Go.PE
namespace Go.Proofs.YtflfflfodghgpaaGreatDoor
open Go Go.EvL Go.PE Go.Mir
variable {ext:ai}
theorem NY {b:ByteArray} (s:PS):Pc ext 97 [.sc (.string b)] (.sc (.int .i64 (oN b.data.toList))) s:=by
 refine mu Tu 2 ?_;unfold Tu oN;cases c1:(b.data.toList == [97]) with
 | true=>exact qf @fp c1
 | false=>
 cases c2:(b.data.toList == [67]) with
 | true=>exact jC @fp c1 c2
 | false=>
 cases c3:(b.data.toList == [101]) with
 | true=>exact qs @fp c1 c2 c3
 | false=>
 cases c4:(b.data.toList == [102]) with
 | true=>exact tI @fp c1 c2 c3 c4
 | false=>
 cases c5:(b.data.toList == [109]) with
 | true=>exact kU @fp c1 c2 c3 c4 c5
 | false=>
 cases c6:(b.data.toList == [110]) with
 | true=>exact wn @fp c1 c2 c3 c4 c5 c6
 | false=>
 cases c7:(b.data.toList == [117]) with
 | true=>exact A9 @fp c1 c2 c3 c4 c5 c6 c7
 | false=>
 cases c8:(b.data.toList == [120]) with
 | true=>exact tf @fp c1 c2 c3 c4 c5 c6 c7 c8
 | false=>exact tf @fp c1 c2 c3 c4 c5 c6 c7 c8
theorem S4:ez Γ 97=true:=(rfl)
theorem Lo {x:eu}{b0 n0:Nat}{s:PS} (hn:n0≤s.w) (hb:s.h b0=⟨x.cells,0,56⟩):∀(k i:Nat) (f:aO) (acc:List UInt8),i + k=8→acc.length≤i→f 1=.ptr b0 0 15→f 3=.sc (.string ⟨⟨acc⟩⟩)→f 6=iN i→
  Er (fun f' s'=>n0≤s'.w∧f' 2=.sc (.string ⟨⟨acc ++ iu x.opts (er.drop i)⟩⟩)) (LP Tryz.prog Γ ext 0 wN It f s):=by
 obtain⟨nm,vs,ps,fs,als,ts,o,st,pi,la',cw,gi,go,le,tk⟩:=x;simp only [eu.cells] at hb;intro k
 induction k with
 | zero=>
  intro i f acc hk ha h1 h3 h6;obtain rfl:i=8:=om;have e1:decide ((8:Int) < 8)=false:=rfl;refine ac fun L hL=>?_;have h6':f 6=.sc (.int .i64 8):=h6;refine BD @wN.eq_1 @It.eq_1 h1 h3 h6' e1 ?_;rw [show er.drop 8=[] from rfl,iu,List.append_nil];exact⟨hn,rfl⟩
 | succ k ih=>
  intro i f acc hk ha h1 h3 h6;have hi:i < 8:=om;obtain⟨t1,t2,t3,_,_⟩:=C0 i hi;have e1:decide (i < 8)=true:=decide_eq_true hi;generalize er.getD i (0,0)=q at t1 t2 t3;obtain⟨c,b⟩:=q;simp only at t1 t2 t3;have hbit:=fun s=>NY (ext:=ext) (b:=⟨⟨[c]⟩⟩) s;simp only [t2] at hbit;have n1:i≤i + 1:=om;have n2:i + 1≤8:=om;unfold mC at t1;have hcat:=fun P ty x y=>DG (P:=P) ty x y acc [c] (by simp only [List.length_cons,List.length_nil]; omega);rw [t3,iu];refine ac fun L hL=>?_;cases c1:pJ o b with
  | false=>
   unfold pJ at c1;simp -implicitDefEqProofs (disch:=first | omega | (unfold cH bM; simp<;>omega)) only [ZS,seval,ZT,ZX,wN,h1,h3,h6,e1,hb,n1,n2,t1,hbit,Em,c1,S4,iE];subst hL;exact ih (i + 1) _ acc om om (aL h1) (aL h3) bh
  | true=>
   unfold pJ at c1;simp -implicitDefEqProofs (disch:=first | omega | (unfold cH bM; simp<;>omega)) only [ZS,seval,ZT,ZX,wN,h1,h3,h6,e1,hb,n1,n2,t1,hbit,Em,c1,S4,iE,hcat];subst hL;rw [show acc ++ c :: iu o (er.drop (i + 1))=(acc ++ [c]) ++ iu o (er.drop (i + 1)) by simp];exact ih (i + 1) _ (acc ++ [c]) om (by simp; omega) (aL h1) bh bh
theorem Eu {x:eu} (s:PS):Pc ext 47 [.agg x.cells] (.sc (.string ⟨⟨iu x.opts er⟩⟩)) s:=by
 refine mu TX 2 ?_;unfold TX;refine Hm ?_;exact Lo (ext:=ext) (x:=x) (b0:=s.n) (n0:=s.n) bh bh 8 0 _ [] om (Nat.zero_le _) bh bh bh
end Go.Proofs.YtflfflfodghgpaaGreatDoor
set_option linter.unusedSimpArgs false
namespace Go.PE
open Go Go.EvL
section
variable {P:Program}{Γ:Nat→Option fN}{ext:ai}
theorem s5 {g r r2 m:Nat}{fn:fN}{args q:List PV}{s:PS}{u:Value} (hg:Γ g=some fn) (hl:args.length≤fn.nt) (hr:fn.res=[.cell r true m,.tmp r2]) (hk:fn.keep=false)
  (h:Er (fun f' s'=>s.n≤s'.w∧f' r2=.sc u∧∃k,f' r=.ptr k 0 m∧∃cs low e,s'.h k=⟨cs,low,e⟩∧cs.length=m∧low≤m∧j7 s.n s' cs=some q) (aS P Γ ext fn.body (cK args 0) ⟨s.h,s.n,s.n⟩)):aU P Γ ext g args s=some (.tup [.agg q,.sc u],s):=by
 refine ij hg hl h ?_;rintro f s' ⟨hw,h2,k,h1,cs,low,e,h3,h4,h5,h6⟩;refine fJ (vs:=[.agg cs,.sc u]) hk ?_ hw ?_
 ·rw [hr];simp only [ck,h1,h2,AB,h3];rw [if_pos ⟨om,h5,om⟩,List.drop_zero,List.take_of_length_le om];rfl
 ·show (dK s.n s' [.agg cs,.sc u]).map PV.tup=_;simp only [dK,cx,h6,Option.map_some,Option.bind_some];rfl
end
end Go.PE
namespace Go.Proofs.YtflfflfodghgpaaGreatDoor
open Go Go.EvL Go.PE Go.Mir
variable {ext:ai}
def eu.withO (x:eu) (o:Int):eu:=⟨x.name,x.vars,x.params,x.funcs,x.aliases,x.traps,o,x.stat,x.pid,x.last,x.cwd,x.gi,x.go,x.lev,x.talks⟩
structure J1 (x:eu) (lv:Option (List fu)) (lp:Option (List ByteArray)) (lf:Option (List bD)) (la:Option (List cj)) (lt:Option (List ei)):Prop where
 v:x.vars=b9 99 fu.cells lv
 p:x.params=b9 9 gx lp
 f:x.funcs=b9 121 bD.cells lf
 a:x.aliases=b9 123 cj.cells la
 t:x.traps=b9 101 ei.cells lt
theorem Ie {x y:eu}{lv lv':Option (List fu)}{lp lp':Option (List ByteArray)}{lf lf':Option (List bD)}{la la':Option (List cj)}{lt lt':Option (List ei)} (h:J1 x lv lp lf la lt) (k:J1 y lv' lp' lf' la' lt') {b:ByteArray}{on:Bool}
  (hc:∀s,Pc ext 95 [.agg x.cells] (.agg y.cells) s) (s:PS) :
  Pc ext 45 [.agg x.cells,.sc (.string b),.sc (.bool on)] (.tup [.agg (if oN b.data.toList == 0 then x else y.withO (lS y.opts (oN b.data.toList) on)).cells,.sc (.int .i64 (if oN b.data.toList == 0 then 1 else 0))]) s:=by
 have hbit:=fun s=>NY (ext:=ext) (b:=b) s;obtain⟨hv,hp,hf,ha,ht⟩:=h;obtain⟨kv,kp,kf,ka,kt⟩:=k;obtain⟨nm,vs,ps,fs,als,ts,o,st,pi,l2,cw,gi,go,le,tk⟩:=x;obtain⟨nm',vs',ps',fs',als',ts',o',st',pi',l2',cw',gi',go',le',tk'⟩:=y;simp only at hv hp hf ha ht kv kp kf ka kt;subst hv hp hf ha ht kv kp kf ka kt;simp only [eu.cells] at hc;cases c1:(oN b.data.toList == 0) with
 | true=>
  rw [if_pos rfl,if_pos rfl];refine s5 (fn:=Kn) (r:=6) (r2:=7) (m:=15) (by rfl) (by simp [Kn]) (by rfl) (by rfl) ?_;unfold Kn;simp only [eu.cells];refine GI hbit c1 @aR @fx @fC @eG @dH @dW @du ?_;exact⟨_,rfl,_,_,_,if_pos rfl,rfl,Nat.le_refl _,by simp only [j7,jk,iJ,Option.bind_some,Option.map_some]⟩
 | false=>
  rw [if_neg (by simp),if_neg (by simp)];unfold lS eu.withO;cases on with
  | true=>
   refine s5 (fn:=Kn) (r:=6) (r2:=7) (m:=15) (by rfl) (by simp [Kn]) (by rfl) (by rfl) ?_;unfold Kn;simp only [eu.cells];simp -implicitDefEqProofs (maxSteps:=3000000) (disch:=omega) only [ZS,seval,ZX,hbit,c1,hc,JY,IL,aR,fx,fC,eG,dH,dW,du];exact⟨_,rfl,_,_,_,if_pos rfl,rfl,Nat.le_refl _,by simp only [j7,jk,iJ,Option.bind_some,Option.map_some]⟩
  | false=>
   refine s5 (fn:=Kn) (r:=6) (r2:=7) (m:=15) (by rfl) (by simp [Kn]) (by rfl) (by rfl) ?_;unfold Kn;simp only [eu.cells];simp -implicitDefEqProofs (maxSteps:=3000000) (disch:=omega) only [ZS,seval,ZX,hbit,c1,hc,JY,IL,aR,fx,fC,eG,dH,dW,du];exact⟨_,rfl,_,_,_,if_pos rfl,rfl,Nat.le_refl _,by simp only [j7,jk,iJ,Option.bind_some,Option.map_some]⟩
end Go.Proofs.YtflfflfodghgpaaGreatDoor
set_option linter.unusedSimpArgs false
namespace Go.PE
open Go Go.EvL
theorem Eo (o:Int):∀l m:List (UInt8 × Int),iu o (l ++ m)=iu o l ++ iu o m
 | [],m=>rfl
 | (c,b) :: l,m=>by
  rw [List.cons_append,iu,iu,Eo o l m];split<;>rfl
def En (s:PS) (V:aO→Prop) (r:jI):Prop:=∃f,r=some (.normal,f,s)∧V f
theorem tU (s:PS) (V:aO→Prop) (f:aO):En s V (some (.normal,f,s))↔V f:=
 ⟨fun ⟨f',h,hv⟩=>by injection h with h; injection h with _ h; injection h with h _; subst h; exact hv,fun h=>⟨f,rfl,h⟩⟩
theorem Od {P:Program}{Γ:Nat→Option fN}{ext:ai}{V:aO→PS→Prop}{L:aO→PS→jI}{id j:Nat}{rest:bw}{W:aO→Prop}{r:jI}{k:aO→PS→jI}{s:PS} (h:En s W r) (hk:∀f,W f→Er V (KP P Γ ext L id rest (gR (ip j (some (.normal,f,s))) k))):Er V (KP P Γ ext L id rest (gR (ip j r) k)):=by
 obtain⟨f,rfl,hf⟩:=h;exact hk f hf
end Go.PE
namespace Go.Proofs.YtflfflfodghgpaaGreatDoor
open Go Go.EvL Go.PE Go.Mir
variable {ext:ai}
structure TG (S T L:List UInt8) (on:Bool) (j:Nat) (w:List UInt8) (f:aO):Prop where
 h1:f 1=.sc (.string ⟨⟨L⟩⟩)
 h2:f 2=.sc (.bool on)
 h9:f 9=.sc (.string ⟨⟨S⟩⟩)
 h10:f 10=.sc (.string ⟨⟨T⟩⟩)
 h11:f 11=.sc (.string ⟨⟨mC⟩⟩)
 h12:f 12=.sc (.string ⟨⟨w⟩⟩)
 h13:f 13=iN j
theorem Nn {S T L:List UInt8}{on:Bool}{w:List UInt8}{j:Nat} (hj:j < 8) (hL:L.length=1) (hS:S.length≤8) (hw:w.length≤8) (s:PS):∀(k i:Nat) (f:aO) (h:Bool),i + k=S.length→TG S T L on j w f→f 14=.sc (.bool h)→f 15=iN i→
  En s (TG S T L on j (if (if bt mC j == bt L 0 then on else (h || (S.drop i).any fun b=>b.toNat == bt mC j)) then w ++ (mC.drop j).take (j + 1 - j) else w)) (LP Tryz.prog Γ ext 2 mQ sC f s):=by
 have hll:mC.length=8:=rfl;have n1:j≤j + 1:=om;have n2:j + 1≤8:=om;have hl0 : 0 < L.length:=om;have htl:((mC.drop j).take (j + 1 - j)).length≤1:=by rw [List.length_take]; omega
 intro k
 induction k with
 | zero=>
  rintro i f h hk ⟨h1,h2,h9,h10,h11,h12,h13⟩ h14 h15;have e1:decide (i < S.length)=false:=df;rw [List.drop_of_length_le om,List.any_nil,Bool.or_false];have hcat:=fun P ty x y=>DG (P:=P) ty x y w ((mC.drop j).take (j + 1 - j)) om;refine ac fun LL hLL=>?_;cases c1:(bt mC j == bt L 0) with
  | true=>
   cases c2:on with
   | true=>
    rw [c2] at h2;simp -implicitDefEqProofs (disch:=first | omega | (unfold cH bM; simp<;>omega)) only [ZS,seval,ZT,mQ,sC,h1,h2,h9,h10,h11,h12,h13,h14,h15,e1,hll,hl0,hj,c1,n1,n2,hcat,if_true,tU];exact⟨aL h1,aL h2,aL h9,aL h10,aL h11,bh,aL h13⟩
   | false=>
    rw [c2] at h2;simp -implicitDefEqProofs (disch:=first | omega | (unfold cH bM; simp<;>omega)) only [ZS,seval,ZT,mQ,sC,h1,h2,h9,h10,h11,h12,h13,h14,h15,e1,hll,hl0,hj,c1,n1,n2,hcat,if_true,tU];exact⟨aL h1,aL h2,aL h9,aL h10,aL h11,aL h12,aL h13⟩
  | false=>
   cases h with
   | true=>
    simp -implicitDefEqProofs (disch:=first | omega | (unfold cH bM; simp<;>omega)) only [ZS,seval,ZT,mQ,sC,h1,h2,h9,h10,h11,h12,h13,h14,h15,e1,hll,hl0,hj,c1,n1,n2,hcat,if_true,tU];exact⟨aL h1,aL h2,aL h9,aL h10,aL h11,bh,aL h13⟩
   | false=>
    simp -implicitDefEqProofs (disch:=first | omega | (unfold cH bM; simp<;>omega)) only [ZS,seval,ZT,mQ,sC,h1,h2,h9,h10,h11,h12,h13,h14,h15,e1,hll,hl0,hj,c1,n1,n2,hcat,if_true,tU];exact⟨aL h1,aL h2,aL h9,aL h10,aL h11,aL h12,aL h13⟩
 | succ k ih=>
  rintro i f h hk ⟨h1,h2,h9,h10,h11,h12,h13⟩ h14 h15;have hl:i < S.length:=om;have e1:decide (i < S.length)=true:=decide_eq_true hl;have hd:S.drop i=S[i] :: S.drop (i + 1):=List.drop_eq_getElem_cons hl;have hb:S[i].toNat=bt S i:=by unfold bt; rw [List.getD_eq_getElem?_getD,List.getElem?_eq_getElem hl]; rfl
  rw [hd,List.any_cons,hb,← Bool.or_assoc];refine ac fun LL hLL=>?_;cases h with
  | true=>
   simp -implicitDefEqProofs (disch:=first | omega | (unfold cH bM; simp<;>omega)) only [ZS,seval,ZT,mQ,h1,h2,h9,h10,h11,h12,h13,h14,h15,e1,hll,hl,hj];subst hLL;exact ih (i + 1) _ true om ⟨aL h1,aL h2,aL h9,aL h10,aL h11,aL h12,aL h13⟩ bh bh
  | false=>
   simp -implicitDefEqProofs (disch:=first | omega | (unfold cH bM; simp<;>omega)) only [ZS,seval,ZT,mQ,h1,h2,h9,h10,h11,h12,h13,h14,h15,e1,hll,hl,hj];subst hLL;rw [Bool.false_or];exact ih (i + 1) _ _ om ⟨aL h1,aL h2,aL h9,aL h10,aL h11,aL h12,aL h13⟩ bh bh
theorem Mh {S T L:List UInt8}{on:Bool} (hL:L.length=1) (hS:S.length≤8) {o:Int} (hT:T=iu o er)
  (hb:∀i,i < 8→(if bt mC i == bt L 0 then on else (S.any fun b=>b.toNat == bt mC i))=pJ o (er.getD i (0,0)).2) {n0:Nat}{s:PS} (hn:n0≤s.w):∀(k i:Nat) (f:aO),i + k=8→TG S T L on i (iu o (er.take i)) f→
  Er (fun f' s'=>n0≤s'.w∧f' 6=.sc (.bool true)) (LP Tryz.prog Γ (pP 32) 0 zY Jd f s):=by
 have hll:mC.length=8:=rfl;intro k
 induction k with
 | zero=>
  rintro i f hk ⟨h1,h2,h9,h10,h11,h12,h13⟩;obtain rfl:i=8:=om;have e1:decide (8 < 8)=false:=rfl;rw [show er.take 8=er from rfl,← hT] at h12;have hTT:(T == T)=true:=beq_self_eq_true T;refine ac fun LL hLL=>?_;refine jp @zY.eq_1 @Jd.eq_1 h10 h11 h12 h13 e1 hll @fp hTT @Kk tv ?_;exact hn
 | succ k ih=>
  rintro i f hk ⟨h1,h2,h9,h10,h11,h12,h13⟩;have hi:i < 8:=om;obtain⟨t1,t2,t3,_,_⟩:=C0 i hi;have e1:decide (i < 8)=true:=decide_eq_true hi;have hin:=fun f a b c=>Nn (ext:=pP 32) (S:=S) (T:=T) (L:=L) (on:=on) (w:=iu o (er.take i)) hi hL hS (Nat.le_trans (yC ..) (by rw [List.length_take]; exact Nat.le_trans (Nat.min_le_right ..) (by decide))) s S.length 0 f false (Nat.zero_add _) a b c;rw [List.drop_zero] at hin;refine ac fun LL hLL=>?_;refine yi @zY.eq_1 h1 h2 h9 h10 h11 h12 h13 e1 hll ?_;refine Od (hin _ ⟨aL h1,aL h2,aL h9,aL h10,aL h11,aL h12,aL h13⟩ bh bh) ?_;rintro f' ⟨g1,g2,g9,g10,g11,g12,g13⟩;have hw:(if (if bt mC i == bt L 0 then on else (false || S.any fun b=>b.toNat == bt mC i)) then iu o (er.take i) ++ (mC.drop i).take (i + 1 - i) else iu o (er.take i))=iu o (er.take (i + 1)):=by
   rw [Bool.false_or,hb i hi,t1];have h8:er.take (i + 1)=er.take i ++ [er.getD i (0,0)]:=by
    have:=List.take_append_drop i er;rw [t3] at this;rw [List.take_add_one,show er[i]?=some (er.getD i (0,0)) by rw [List.getD_eq_getElem?_getD,List.getElem?_eq_getElem (show i < er.length from hi)]; rfl];rfl
   rw [h8,Eo];generalize er.getD i (0,0)=q;obtain⟨c,b⟩:=q;simp only [iu];cases pJ o b<;>simp
  rw [hw] at g12;refine Ci g1 g2 g9 g10 g11 g12 g13 ?_;subst hLL;exact ih (i + 1) _ om ⟨aL g1,aL g2,aL g9,aL g10,aL g11,aL g12,bh⟩
end Go.Proofs.YtflfflfodghgpaaGreatDoor
