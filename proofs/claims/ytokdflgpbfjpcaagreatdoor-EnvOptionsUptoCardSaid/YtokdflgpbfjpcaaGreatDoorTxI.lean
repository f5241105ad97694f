/- What functions of the program and of the reference compute, on values. No statement is proved here. -/
import Derived.Test.YtokdflgpbfjpcaaGreatDoorTxC
import Derived.Test.YtokdflgpbfjpcaaGreatDoorTxH
import Derived.Test.YtokdflgpbfjpcaaGreatDoorTxA
set_option linter.all false
namespace Go.Proofs.YtokdflgpbfjpcaaGreatDoor
open Go Go.EvL Go.PE
variable {ext:ar}
structure am where
 kind:Int
 pos:Int
 name:ByteArray
 all:Bool
 assigns:PV
 words:PV
 redirs:PV
 kids:PV
 items:PV
def am.cells (x:am):List PV:=[.sc (.int .i64 x.kind),.sc (.int .i64 x.pos),.sc (.string x.name),.sc (.bool x.all),x.assigns,x.words,x.redirs,x.kids,x.items]
theorem am.len (x:am):x.cells.length=9:=(rfl)
structure aK where
 pats:PV
 body:PV
def aK.cells (x:aK):List PV:=[x.pats,x.body]
theorem aK.len (x:aK):x.cells.length=2:=(rfl)
def uK:bj:=(.seq (.draw [(⟨some 17,.mv (.tmp 0),none⟩,[0],[]),
       (⟨some 18,.mv (.tmp 5),none⟩,[5],[0]),
       (⟨some 19,.iaddr 9 (.tmp 17) (.tmp 18),none⟩,[17,18],[]),
       (⟨some 20,.load 71 true 9 (.tmp 19),none⟩,[19],[]),
       (⟨some 21,.mv (.tmp 1),none⟩,[1],[3,2,1,0]),
       (⟨some 22,.mv (.tmp 5),none⟩,[5],[4,3,2,1,0]),
       (⟨some 23,.iaddr 9 (.tmp 21) (.tmp 22),none⟩,[21,22],[3,2,1,0]),
       (⟨some 24,.load 71 true 9 (.tmp 23),none⟩,[23],[3,2,1,0]),
       (⟨some 25,.call (.func 61) [(.tmp 20),(.tmp 24)],none⟩,[20,24],[]),
       (⟨some 26,.un .not (.tmp 25),none⟩,[25],[])])
     (.cond (.tmp 26)
      (.seq (.reg [⟨some 4,.mv (.const (.bool false)),none⟩])
      .ret)
      (.skip)))
def rN:bj:=(.seq (.draw [(⟨some 17,.mv (.tmp 0),none⟩,[0],[]),
       (⟨some 18,.mv (.tmp 5),none⟩,[5],[0]),
       (⟨some 19,.iaddr 2 (.tmp 17) (.tmp 18),none⟩,[17,18],[]),
       (⟨some 20,.faddr 0 (.tmp 19),none⟩,[19],[]),
       (⟨some 21,.load 66 false 1 (.tmp 20),none⟩,[20],[]),
       (⟨some 22,.mv (.tmp 1),none⟩,[1],[4,3,2,1,0]),
       (⟨some 23,.mv (.tmp 5),none⟩,[5],[5,4,3,2,1,0]),
       (⟨some 24,.iaddr 2 (.tmp 22) (.tmp 23),none⟩,[22,23],[4,3,2,1,0]),
       (⟨some 25,.faddr 0 (.tmp 24),none⟩,[24],[4,3,2,1,0]),
       (⟨some 26,.load 66 false 1 (.tmp 25),none⟩,[25],[4,3,2,1,0]),
       (⟨some 27,.call (.func 103) [(.tmp 21),(.tmp 26)],none⟩,[21,26],[]),
       (⟨some 28,.un .not (.tmp 27),none⟩,[27],[]),
       (⟨some 29,.mv (.tmp 28),none⟩,[28],[]),
       (⟨some 30,.mv (.tmp 0),(some (29,false))⟩,[0,29],[]),
       (⟨some 31,.mv (.tmp 5),(some (29,false))⟩,[5,29],[13]),
       (⟨some 32,.iaddr 2 (.tmp 30) (.tmp 31),(some (29,false))⟩,[30,31,29],[]),
       (⟨some 33,.faddr 1 (.tmp 32),(some (29,false))⟩,[32,29],[]),
       (⟨some 34,.load 68 false 1 (.tmp 33),(some (29,false))⟩,[33,29],[]),
       (⟨some 35,.mv (.tmp 1),(some (29,false))⟩,[1,29],[17,16,15,14,13]),
       (⟨some 36,.mv (.tmp 5),(some (29,false))⟩,[5,29],[18,17,16,15,14,13]),
       (⟨some 37,.iaddr 2 (.tmp 35) (.tmp 36),(some (29,false))⟩,[35,36,29],[17,16,15,14,13]),
       (⟨some 38,.faddr 1 (.tmp 37),(some (29,false))⟩,[37,29],[17,16,15,14,13]),
       (⟨some 39,.load 68 false 1 (.tmp 38),(some (29,false))⟩,[38,29],[17,16,15,14,13]),
       (⟨some 40,.call (.func 105) [(.tmp 34),(.tmp 39)],(some (29,false))⟩,[34,39,29],[]),
       (⟨some 41,.un .not (.tmp 40),(some (29,false))⟩,[40,29],[]),
       (⟨some 42,.pick (.tmp 29) (.const (.bool true)) (.tmp 41),none⟩,[29,41],[])])
     (.cond (.tmp 42)
      (.seq (.reg [⟨some 4,.mv (.const (.bool false)),none⟩])
      .ret)
      (.skip)))
theorem Ui:ek Γ 61=true:=(rfl)
theorem Q6:ek Γ 103=true:=(rfl)
theorem SD:ek Γ 105=true:=(rfl)
theorem X6:Γ 105=some (nE 27 uK):=(rfl)
theorem WA:Γ 106=some (nE 43 rN):=(rfl)
theorem WY:Γ 89=some (DG 71 9 #[(.int .i64 0),(.int .i64 0),(.string ⟨#[]⟩),(.bool false),(.slice none 0 0),(.slice none 0 0),(.slice none 0 0),(.slice none 0 0),(.slice none 0 0)] 3):=(rfl)
theorem WO:Γ 90=some (DG 134 2 #[(.slice none 0 0),(.slice none 0 0)] 3):=(rfl)
theorem US (x y:am) (r:Bool) (h:∀s,Pc ext 61 [.agg x.cells,.agg y.cells] (.sc (.bool r)) s):lC Tryz.prog Γ ext 71 am.cells uK x y r:=by
 intro l m i hl hm f s hin;obtain⟨l,rfl⟩ : ∃k,l=some k:=by cases l with | none=>simp at hl | some k=>exact⟨k,rfl⟩
 obtain⟨m,rfl⟩ : ∃k,m=some k:=by cases m with | none=>simp at hm | some k=>exact⟨k,rfl⟩
 obtain⟨ha,hb,hii⟩:=hin;simp only [aU,Option.getD_some] at ha hb hl hm;have hi:i < l.length:=(List.getElem?_eq_some_iff.1 hl).1;have hj:i < m.length:=(List.getElem?_eq_some_iff.1 hm).1;have h1:=aJ am.len l;have h2:=aJ am.len m;obtain⟨r1,h3⟩:=cm am.len hl;obtain⟨r2,h4⟩:=cm am.len hm;simp only [am.cells] at h;cases r with
 | false=>
  simp -implicitDefEqProofs only [ZS,seval,ZT,ZX,uK,List.map_cons,List.map_nil,List.append_nil,List.mem_cons,List.not_mem_nil,implies_true,forall_const,ha,hb,hii,hi,hj,h1,h2,h3,h4,aw,am.cells,Ui,h];exact⟨_,_,rfl,by simp -implicitDefEqProofs only [aZ,↓reduceIte],fun n0 w1 w2=>⟨w1,w2⟩⟩
 | true=>
  simp -implicitDefEqProofs only [ZS,seval,ZT,ZX,uK,List.map_cons,List.map_nil,List.append_nil,List.mem_cons,List.not_mem_nil,implies_true,forall_const,ha,hb,hii,hi,hj,h1,h2,h3,h4,aw,am.cells,Ui,h];exact⟨_,_,rfl,⟨by simp -implicitDefEqProofs only [aZ,↓reduceIte,reduceCtorEq,ha],by simp -implicitDefEqProofs only [aZ,Nat.reduceEqDiff,↓reduceIte,hb],by simp -implicitDefEqProofs only [aZ,Nat.reduceEqDiff,↓reduceIte,hii]⟩,fun n0 w1 w2=>⟨w1,w2⟩⟩
theorem Vm (x y:aK) (r q:Bool) (h:∀s,Pc ext 103 [x.pats,y.pats] (.sc (.bool r)) s) (k:∀s,Pc ext 105 [x.body,y.body] (.sc (.bool q)) s):lC Tryz.prog Γ ext 134 aK.cells rN x y (r && q):=by
 intro l m i hl hm f s hin;obtain⟨l,rfl⟩ : ∃k,l=some k:=by cases l with | none=>simp at hl | some k=>exact⟨k,rfl⟩
 obtain⟨m,rfl⟩ : ∃k,m=some k:=by cases m with | none=>simp at hm | some k=>exact⟨k,rfl⟩
 obtain⟨ha,hb,hii⟩:=hin;simp only [aU,Option.getD_some] at ha hb hl hm;have hi:i < l.length:=(List.getElem?_eq_some_iff.1 hl).1;have hj:i < m.length:=(List.getElem?_eq_some_iff.1 hm).1;have h1:=aJ aK.len l;have h2:=aJ aK.len m;obtain⟨r1,h3⟩:=cm aK.len hl;obtain⟨r2,h4⟩:=cm aK.len hm;cases r with
 | false=>
  simp -implicitDefEqProofs only [ZS,seval,ZT,ZX,rN,bG,List.map_cons,List.map_nil,List.append_nil,List.mem_cons,List.not_mem_nil,implies_true,forall_const,ha,hb,hii,hi,hj,h1,h2,h3,h4,aw,aK.cells,Q6,SD,h];exact⟨_,_,rfl,by simp -implicitDefEqProofs only [aZ,↓reduceIte],fun n0 w1 w2=>⟨w1,w2⟩⟩
 | true=>
  cases q with
  | false=>
   simp -implicitDefEqProofs only [ZS,seval,ZT,ZX,rN,bG,List.map_cons,List.map_nil,List.append_nil,List.mem_cons,List.not_mem_nil,implies_true,forall_const,ha,hb,hii,hi,hj,h1,h2,h3,h4,aw,aK.cells,Q6,SD,h,k];exact⟨_,_,rfl,by simp -implicitDefEqProofs only [aZ,↓reduceIte],fun n0 w1 w2=>⟨w1,w2⟩⟩
  | true=>
   simp -implicitDefEqProofs only [ZS,seval,ZT,ZX,rN,bG,List.map_cons,List.map_nil,List.append_nil,List.mem_cons,List.not_mem_nil,implies_true,forall_const,ha,hb,hii,hi,hj,h1,h2,h3,h4,aw,aK.cells,Q6,SD,h,k];exact⟨_,_,rfl,⟨by simp -implicitDefEqProofs only [aZ,↓reduceIte,reduceCtorEq,ha],by simp -implicitDefEqProofs only [aZ,Nat.reduceEqDiff,↓reduceIte,hb],by simp -implicitDefEqProofs only [aZ,Nat.reduceEqDiff,↓reduceIte,hii]⟩,fun n0 w1 w2=>⟨w1,w2⟩⟩
theorem f53 (x y:aK) (r q:Bool) (h:∀s,aH Tryz.prog Γ ext 86 [x.pats,y.pats,.fn 85 [] []] s=some (.sc (.bool r),s)) (k:∀s,aH Tryz.prog Γ ext 89 [x.body,y.body,.fn 48 [] []] s=some (.sc (.bool q),s)) (s:PS):aH Tryz.prog Γ ext 91 [.agg x.cells,.agg y.cells] s=some (.sc (.bool (r && q)),s):=by
 rw [ej (fn:=Ve) (by rfl) _ _ (by simp [Ve])];cases r with
 | false=>simp -implicitDefEqProofs only [ZS,seval,ZX,Ve,bC,bG,aC,List.map_cons,List.map_nil,List.append_nil,aK.cells,h]
 | true=>simp -implicitDefEqProofs only [ZS,seval,ZX,Ve,bC,bG,aC,List.map_cons,List.map_nil,List.append_nil,aK.cells,h,k]
def xf (x y:am) (a w q k i:Bool):Bool:=x.kind == y.kind && (x.name.toList == y.name.toList && (x.all == y.all && (a && (w && (q && (k && i))))))
set_option maxHeartbeats 1000000 in
theorem f20 (x y:am) (a w q k i:Bool) (hA:∀s,aH Tryz.prog Γ ext 83 [x.assigns,y.assigns,.fn 84 [] []] s=some (.sc (.bool a),s)) (hW:∀s,aH Tryz.prog Γ ext 86 [x.words,y.words,.fn 85 [] []] s=some (.sc (.bool w),s)) (hR:∀s,aH Tryz.prog Γ ext 87 [x.redirs,y.redirs,.fn 88 [] []] s=some (.sc (.bool q),s)) (hK:∀s,aH Tryz.prog Γ ext 89 [x.kids,y.kids,.fn 48 [] []] s=some (.sc (.bool k),s)) (hI:∀s,aH Tryz.prog Γ ext 90 [x.items,y.items,.fn 91 [] []] s=some (.sc (.bool i),s)) (s:PS) :
  aH Tryz.prog Γ ext 48 [.agg x.cells,.agg y.cells] s=some (.sc (.bool (xf x y a w q k i)),s):=by
 rw [ej (fn:=Ii) (by rfl) _ _ (by simp [Ii])];cases e1:x.kind == y.kind with
 | false=>simp -implicitDefEqProofs only [ZS,seval,ZX,Ii,bC,bG,aC,am.cells,xf,e1]
 | true=>
  cases e2:x.name.toList == y.name.toList with
  | false=>simp -implicitDefEqProofs only [ZS,seval,ZX,Ii,bC,bG,aC,am.cells,xf,e1,e2]
  | true=>
   cases e3:x.all == y.all with
   | false=>simp -implicitDefEqProofs only [ZS,seval,ZX,Ii,bC,bG,aC,am.cells,xf,e1,e2,e3,gV Tryz.underlying4]
   | true=>
    cases a with
    | false=>simp -implicitDefEqProofs only [ZS,seval,ZX,Ii,bC,bG,aC,List.map_cons,List.map_nil,List.append_nil,am.cells,xf,e1,e2,e3,hA,gV Tryz.underlying4]
    | true=>
     cases w with
     | false=>simp -implicitDefEqProofs only [ZS,seval,ZX,Ii,bC,bG,aC,List.map_cons,List.map_nil,List.append_nil,am.cells,xf,e1,e2,e3,hA,hW,gV Tryz.underlying4]
     | true=>
      cases q with
      | false=>simp -implicitDefEqProofs only [ZS,seval,ZX,Ii,bC,bG,aC,List.map_cons,List.map_nil,List.append_nil,am.cells,xf,e1,e2,e3,hA,hW,hR,gV Tryz.underlying4]
      | true=>
       cases k with
       | false=>simp -implicitDefEqProofs only [ZS,seval,ZX,Ii,bC,bG,aC,List.map_cons,List.map_nil,List.append_nil,am.cells,xf,e1,e2,e3,hA,hW,hR,hK,gV Tryz.underlying4]
       | true=>
        cases i with
        | false=>simp -implicitDefEqProofs only [ZS,seval,ZX,Ii,bC,bG,aC,List.map_cons,List.map_nil,List.append_nil,am.cells,xf,e1,e2,e3,hA,hW,hR,hK,hI,gV Tryz.underlying4]
        | true=>simp -implicitDefEqProofs only [ZS,seval,ZX,Ii,bC,bG,aC,List.map_cons,List.map_nil,List.append_nil,am.cells,xf,e1,e2,e3,hA,hW,hR,hK,hI,gV Tryz.underlying4]
set_option maxHeartbeats 1000000 in
theorem f21 (x y:am) (a w q k i:Bool) (hA:∀s,aH Tryz.prog Γ ext 102 [x.assigns,y.assigns] s=some (.sc (.bool a),s)) (hW:∀s,aH Tryz.prog Γ ext 103 [x.words,y.words] s=some (.sc (.bool w),s)) (hR:∀s,aH Tryz.prog Γ ext 104 [x.redirs,y.redirs] s=some (.sc (.bool q),s)) (hK:∀s,aH Tryz.prog Γ ext 105 [x.kids,y.kids] s=some (.sc (.bool k),s)) (hI:∀s,aH Tryz.prog Γ ext 106 [x.items,y.items] s=some (.sc (.bool i),s)) (s:PS) :
  aH Tryz.prog Γ ext 61 [.agg x.cells,.agg y.cells] s=some (.sc (.bool (xf x y a w q k i)),s):=by
 have c1:(bne x.kind y.kind)=!(x.kind == y.kind):=(rfl)
 rw [ej (fn:=Ie) (by rfl) _ _ (by simp [Ie])];cases e1:x.kind == y.kind with
 | false=>simp -implicitDefEqProofs only [ZS,seval,ZX,Ie,bC,bG,aC,am.cells,xf,e1,c1]
 | true=>
  cases e2:x.name.toList == y.name.toList with
  | false=>simp -implicitDefEqProofs only [ZS,seval,ZX,Ie,bC,bG,aC,am.cells,xf,e1,e2,c1]
  | true=>
   cases e3:x.all == y.all with
   | false=>simp -implicitDefEqProofs only [ZS,seval,ZX,Ie,bC,bG,aC,am.cells,xf,e1,e2,e3,g9 Tryz.underlying4,c1]
   | true=>
    cases a with
    | false=>simp -implicitDefEqProofs only [ZS,seval,ZX,Ie,bC,bG,aC,List.map_cons,List.map_nil,List.append_nil,am.cells,xf,e1,e2,e3,hA,g9 Tryz.underlying4,c1]
    | true=>
     cases w with
     | false=>simp -implicitDefEqProofs only [ZS,seval,ZX,Ie,bC,bG,aC,List.map_cons,List.map_nil,List.append_nil,am.cells,xf,e1,e2,e3,hA,hW,g9 Tryz.underlying4,c1]
     | true=>
      cases q with
      | false=>simp -implicitDefEqProofs only [ZS,seval,ZX,Ie,bC,bG,aC,List.map_cons,List.map_nil,List.append_nil,am.cells,xf,e1,e2,e3,hA,hW,hR,g9 Tryz.underlying4,c1]
      | true=>
       cases k with
       | false=>simp -implicitDefEqProofs only [ZS,seval,ZX,Ie,bC,bG,aC,List.map_cons,List.map_nil,List.append_nil,am.cells,xf,e1,e2,e3,hA,hW,hR,hK,g9 Tryz.underlying4,c1]
       | true=>
        cases i with
        | false=>simp -implicitDefEqProofs only [ZS,seval,ZX,Ie,bC,bG,aC,List.map_cons,List.map_nil,List.append_nil,am.cells,xf,e1,e2,e3,hA,hW,hR,hK,hI,g9 Tryz.underlying4,c1]
        | true=>simp -implicitDefEqProofs only [ZS,seval,ZX,Ie,bC,bG,aC,List.map_cons,List.map_nil,List.append_nil,am.cells,xf,e1,e2,e3,hA,hW,hR,hK,hI,g9 Tryz.underlying4,c1]
def gI {α:Type} (e:Nat) (c:α→List PV) (Q:α→Prop) (p:PV):Prop:=∃l:Option (List α),p=aU e c l∧(l.getD []).length < 4611686018427387904∧∀x∈l.getD [],Q x
theorem gI.one {α:Type}{e:Nat}{c:α→List PV}{Q:α→Prop}{p:PV} (h:gI e c Q p):db p=true:=by
 obtain⟨l,rfl,_⟩:=h; exact dC _ _ _
def bB (D:Nat):Nat→am→Prop
 | 0,_=>False
 | d + 1,x=>ky D x.assigns∧lA D x.words∧m7 D x.redirs∧gI 71 am.cells (bB D d) x.kids∧gI 134 aK.cells (fun it=>lA D it.pats∧gI 71 am.cells (bB D d) it.body) x.items
theorem bB.ones {D d:Nat}{x:am} (h:bB D d x):x.cells.all db=true:=by
 cases d with
 | zero=>cases h
 | succ d=>
  obtain⟨h1,h2,h3,h4,h5⟩:=h;have w1:db x.assigns=true:=gI.one h1;have w2:db x.words=true:=gI.one h2;have w3:db x.redirs=true:=gI.one h3;simp only [am.cells,List.all_cons,List.all_nil,w1,w2,w3,h4.one,h5.one,Bool.and_true]; rfl
theorem yz {D d:Nat} (ih:∀x y,bB D d x→bB D d y→∃r,(∀s,Pc ext 48 [.agg x.cells,.agg y.cells] (.sc (.bool r)) s)∧∀s,Pc ext 61 [.agg x.cells,.agg y.cells] (.sc (.bool r)) s)
  {a b:PV} (ha:gI 71 am.cells (bB D d) a) (hb:gI 71 am.cells (bB D d) b):∃r,(∀s,Pc ext 89 [a,b,.fn 48 [] []] (.sc (.bool r)) s)∧∀s,Pc ext 105 [a,b] (.sc (.bool r)) s:=by
 obtain⟨l,rfl,hl,hl'⟩:=ha;obtain⟨m,rfl,hm,hm'⟩:=hb;refine pj am.len (by rfl) WY X6 om (fun x hx=>?_) hl (fun x hx y hy=>?_)
 ·exact (hx.elim (hl' x) (hm' x)).ones
 ·obtain⟨r,h1,h2⟩:=ih x y (hl' x hx) (hm' y hy);exact⟨r,h1,US x y r h2⟩
theorem GT {D:Nat} : ∀(d:Nat) (x y:am),bB D d x→bB D d y→∃r,(∀s,Pc ext 48 [.agg x.cells,.agg y.cells] (.sc (.bool r)) s)∧∀s,Pc ext 61 [.agg x.cells,.agg y.cells] (.sc (.bool r)) s:=by
 intro d
 induction d with
 | zero=>intro x y h; cases h
 | succ d ih=>
  rintro x y ⟨x1,x2,x3,x4,x5⟩ ⟨y1,y2,y3,y4,y5⟩;obtain⟨a,a1,a2⟩:=Ak (ext:=ext) x1 y1;obtain⟨w,w1,w2⟩:=wi (ext:=ext) x2 y2;obtain⟨q,q1,q2⟩:=Ce (ext:=ext) x3 y3;obtain⟨k,k1,k2⟩:=yz ih x4 y4;obtain⟨i,i1,i2⟩ : ∃r,(∀s,Pc ext 90 [x.items,y.items,.fn 91 [] []] (.sc (.bool r)) s)∧∀s,Pc ext 106 [x.items,y.items] (.sc (.bool r)) s:=by
   obtain⟨l,el,hl,hl'⟩:=x5;obtain⟨m,em,hm,hm'⟩:=y5;rw [el,em];refine pj aK.len (by rfl) WO WA om (fun z hz=>?_) hl (fun z hz v hv=>?_)
   ·have h:=hz.elim (hl' z) (hm' z);have w1:db z.pats=true:=gI.one h.1;simp only [aK.cells,List.all_cons,List.all_nil,w1,h.2.one,Bool.and_true]
   ·obtain⟨r1,b1,b2⟩:=wi (ext:=ext) (hl' z hz).1 (hm' v hv).1;obtain⟨r2,d1,d2⟩:=yz ih (hl' z hz).2 (hm' v hv).2;exact⟨_,fun s=>f53 z v r1 r2 b1 d1 s,Vm z v r1 r2 b2 d2⟩
  exact⟨_,fun s=>f20 x y a w q k i a1 w1 q1 k1 i1 s,fun s=>f21 x y a w q k i a2 w2 q2 k2 i2 s⟩
theorem qY:∀(d:Nat) (a:PV),aN d a→∀s,aH Tryz.prog Γ ext 143 [a,a] s=some (.sc (.bool true),s):=by
 intro d
 induction d with
 | zero=>intro a h; cases h
 | succ d ih=>
  rintro a ⟨l,rfl,hl,hl'⟩ s;have h132:=fun s=>pM (P:=Tryz.prog) (ext:=ext) (e:=155) (t:=155) au.len (by rfl) Qn (l:=l) (fun x hx=>au.ones (hl' x hx)) (g:=179) hl (fun x hx s=>by
   have h:=Qi x x s true (ih x.parts (hl' x hx));rw [h];simp [au.eqB]) s
  rw [ej (fn:=xG) (by rfl) _ _ (by simp [xG])];simp -implicitDefEqProofs only [ZS,seval,ZX,xG,bC,List.map_cons,List.map_nil,List.append_nil,h132]
theorem wT {d:Nat}{a:PV} (ha:lA d a) (s:PS):Pc ext 86 [a,a,.fn 85 [] []] (.sc (.bool true)) s:=by
 obtain⟨l,rfl,hl,hl'⟩:=ha;refine pM ay.len (by rfl) WT (fun x hx=>?_) hl (fun x hx s=>?_) s
 ·have:aN d x.parts:=hl' x hx;simp only [ay.cells,List.all_cons,List.all_nil,this.one,Bool.and_true]; rfl
 ·exact f47 x x true (qY d x.parts (hl' x hx)) s
theorem yS {d:Nat}{a:PV} (ha:ky d a) (s:PS):Pc ext 83 [a,a,.fn 84 [] []] (.sc (.bool true)) s:=by
 obtain⟨l,rfl,hl,hl'⟩:=ha;refine pM aB.len (by rfl) WM (fun x hx=>?_) hl (fun x hx s=>?_) s
 ·have:aN d x.parts:=hl' x hx;simp only [aB.cells,List.all_cons,List.all_nil,this.one,Bool.and_true]; rfl
 ·rw [WR x x true (qY d x.parts (hl' x hx)) s]; simp
theorem Be {d:Nat}{a:PV} (ha:m7 d a) (s:PS):Pc ext 87 [a,a,.fn 88 [] []] (.sc (.bool true)) s:=by
 obtain⟨l,rfl,hl,hl'⟩:=ha;refine pM aD.len (by rfl) X8 (fun x hx=>?_) hl (fun x hx s=>?_) s
 ·have:aN d x.parts:=hl' x hx;simp only [aD.cells,List.all_cons,List.all_nil,this.one,Bool.and_true]; rfl
 ·rw [f50 x x true (qY d x.parts (hl' x hx)) s]; simp [aD.eqB]
theorem xT {D d:Nat} (ih:∀x,bB D d x→∀s,Pc ext 48 [.agg x.cells,.agg x.cells] (.sc (.bool true)) s) {a:PV} (ha:gI 71 am.cells (bB D d) a) (s:PS):Pc ext 89 [a,a,.fn 48 [] []] (.sc (.bool true)) s:=by
 obtain⟨l,rfl,hl,hl'⟩:=ha;exact pM am.len (by rfl) WY (fun x hx=>(hl' x hx).ones) hl (fun x hx s=>ih x (hl' x hx) s) s
theorem HB {D:Nat} : ∀(d:Nat) (x:am),bB D d x→∀s,Pc ext 48 [.agg x.cells,.agg x.cells] (.sc (.bool true)) s:=by
 intro d
 induction d with
 | zero=>intro x h; cases h
 | succ d ih=>
  rintro x ⟨x1,x2,x3,x4,x5⟩ s;have i1:∀s,Pc ext 90 [x.items,x.items,.fn 91 [] []] (.sc (.bool true)) s:=by
   intro s;obtain⟨l,el,hl,hl'⟩:=x5;rw [el];refine pM aK.len (by rfl) WO (fun z hz=>?_) hl (fun z hz s=>?_) s
   ·have h:=hl' z hz;have w1:db z.pats=true:=gI.one h.1;simp only [aK.cells,List.all_cons,List.all_nil,w1,h.2.one,Bool.and_true]
   ·exact f53 z z true true (wT (hl' z hz).1) (xT ih (hl' z hz).2) s
  rw [Pc,f20 x x true true true true true (yS x1) (wT x2) (Be x3) (xT ih x4) i1 s];simp [xf]
structure SI (a:PV) (s0:PS) (i:Nat) (f:aX) (s:PS):Prop where
 s:s=s0
 a:f 0=a
 i:f 6=.sc (.int .i64 (i:Int))
 x:∃z:Int,f 4=.sc (.int .i64 z)
 y:∃z:Int,f 5=.sc (.int .i64 z)
theorem Ld:∀(d:Nat) (a:PV),aN d a→∀s,∃z y:Int,aH Tryz.prog Γ ext 67 [a] s=some (.tup [.sc (.int .i64 z),.sc (.int .i64 y)],s):=by
 intro d
 induction d with
 | zero=>intro a h; cases h
 | succ d ih=>
  rintro a ⟨l,rfl,hl,hl'⟩ s;have L:=bT (e:=155) (c:=au.cells) l;suffices h:∃q,aH Tryz.prog Γ ext 67 [aU 155 au.cells l] s=some q∧∃z y:Int,q=(.tup [.sc (.int .i64 z),.sc (.int .i64 y)],s) by
   obtain⟨q,e,z,y,rfl⟩:=h;exact⟨z,y,e⟩
  refine zg (fn:=Tl) (by rfl) (by simp [Tl]) ?_;generalize hQ:Hr Tl s _=Q;unfold Tl;refine gg (fun f s'=>s'=⟨s.h,s.n,s.n⟩∧f 0=aU 155 au.cells l) ?_ ?_
  ·simp -implicitDefEqProofs only [dA,bY,bD,bE,cg,bC,ci,cI];exact⟨_,_,rfl,rfl,rfl⟩
  rintro f _ ⟨rfl,h0⟩;refine gg (fun f s'=>s'=⟨s.h,s.n,s.n⟩∧f 0=aU 155 au.cells l∧(∃z:Int,f 4=.sc (.int .i64 z))∧∃z:Int,f 5=.sc (.int .i64 z)) ?_ ?_
  ·simp -implicitDefEqProofs only [ZS,seval,ZX,h0,L];exact⟨_,_,rfl,rfl,h0,⟨_,rfl⟩,⟨_,rfl⟩⟩
  rintro f _ ⟨rfl,h0,h4,h5⟩;refine ll ?_;refine gg (SI (aU 155 au.cells l) ⟨s.h,s.n,s.n⟩ 0) ?_ ?_
  ·simp -implicitDefEqProofs only [dA,bY,bD,bE,cg,ci,cI];exact⟨_,_,rfl,rfl,h0,rfl,h4,h5⟩
  intro f s1 hI;refine nR (l.getD []).length (SI (aU 155 au.cells l) ⟨s.h,s.n,s.n⟩) (SI (aU 155 au.cells l) ⟨s.h,s.n,s.n⟩ (l.getD []).length) hI ?_ ?_
  ·rintro i f _ hi ⟨rfl,h0,h6,⟨z,hz⟩,⟨y,hy⟩⟩;by_cases hlt:i < (l.getD []).length
   ·have h5:(decide ((i:Int) < ((l.getD []).length:Int)))=true:=by simp; exact hlt
    have hx:(l.getD [])[i]?=some ((l.getD [])[i]):=List.getElem?_eq_getElem hlt;generalize (l.getD [])[i]=x at hx;obtain⟨m,rfl⟩ : ∃k,l=some k:=by cases l with | none=>simp at hx | some k=>exact⟨k,rfl⟩
    obtain⟨cz,cy,hc⟩:=ih x.parts (hl' x (List.mem_of_getElem? hx)) ⟨s.h,s.n,s.n⟩;simp only [aU,Option.getD_some] at h0 hx hlt L h5 hl;have h1:=aJ au.len m;obtain⟨r1,h3⟩:=cm au.len hx;have h7:=fY (i:=i) (by omega);simp -implicitDefEqProofs only [ZS,seval,ZX,List.map_cons,List.map_nil,List.append_nil,List.getElem?_cons_zero,List.getElem?_cons_succ,h0,h6,hz,hy,L,h5,h7,hlt,h1,h3,aw,au.cells,hc,aU];exact⟨hlt,rfl,h0,rfl,⟨_,rfl⟩,⟨_,rfl⟩⟩
   ·obtain rfl:i=(l.getD []).length:=by omega
    have h5:(decide (((l.getD []).length:Int) < ((l.getD []).length:Int)))=false:=by simp
    simp -implicitDefEqProofs only [ZS,seval,ZX,h0,h6,L,h5];exact⟨rfl,h0,h6,⟨z,hz⟩,⟨y,hy⟩⟩
  ·rintro f _ ⟨rfl,h0,h6,⟨z,hz⟩,⟨y,hy⟩⟩;refine zI ?_;simp -implicitDefEqProofs only [dA,bY,bD,bE,cg,du,aZ,Nat.reduceEqDiff,↓reduceIte,hz,hy];refine⟨_,_,rfl,?_⟩;subst hQ;refine zh ?_ ⟨z,y,rfl⟩;simp -implicitDefEqProofs only [ZS,seval,ZX,Tl]
theorem yC {α β:Type}{g:α→List β}{l:List α}{i:Nat}{x:α} (h:l[i]?=some x):(l.take (i + 1)).flatMap g=(l.take i).flatMap g ++ g x:=by
 rw [List.take_add_one,h,List.flatMap_append];simp
theorem rH {α β:Type}{g:α→List β} (l:List α) (i:Nat):((l.take i).flatMap g).length≤(l.flatMap g).length:=by
 conv=>rhs; rw [← List.take_append_drop i l,List.flatMap_append,List.length_append]
 omega
theorem am.clean {x:am} (h1:dj x.assigns=true) (h2:dj x.words=true) (h3:dj x.redirs=true) (h4:dj x.kids=true) (h5:dj x.items=true):x.cells.all dj=true:=by
 simp only [am.cells,List.all_cons,List.all_nil,h1,h2,h3,h4,h5,Bool.and_true]; rfl
theorem wm {α:Type} (e:Nat) (c:α→List PV) (l:Option (List α)):dj (aU e c l)=true:=by cases l<;>rfl
theorem gI.clean {α:Type}{e:Nat}{c:α→List PV}{Q:α→Prop}{p:PV} (h:gI e c Q p):dj p=true:=by
 obtain⟨l,rfl,_⟩:=h; exact wm _ _ _
theorem bB.cleans {D d:Nat}{x:am} (h:bB D d x):x.cells.all dj=true:=by
 cases d with
 | zero=>cases h
 | succ d=>
  obtain⟨h1,h2,h3,h4,h5⟩:=h;exact am.clean (gI.clean h1) (gI.clean h2) (gI.clean h3) h4.clean h5.clean
structure Lp (x:am) (b:Nat) (l:List am) (f:aX) (s:PS):Prop where
 p:f 1=.ptr b 0 9
 h:s.h b=⟨x.cells,0,71⟩
 n:b + 1≤s.n
 w:b≤s.w
 acc:jX 71 9 am.cells (b + 1) l (f 3) s
theorem kids_ok (x:am) (lk:Option (List am)) (li:Option (List aK)) (bd:aK→Option (List am)) (hk:x.kids=aU 71 am.cells lk) (hit:x.items=aU 134 aK.cells li) (hbd:∀it∈li.getD [],it.body=aU 71 am.cells (bd it))
  (hbig:(lk.getD []).length + ((li.getD []).flatMap fun it=>(bd it).getD []).length≤16777216) (hlen:(li.getD []).length≤16777216)
  (ho:∀y,y∈lk.getD []∨(∃it∈li.getD [],y∈(bd it).getD [])→y.cells.all db=true∧y.cells.all dj=true) (s:PS) :
  aH Tryz.prog Γ ext 68 [.agg x.cells] s=some (aU 71 am.cells (eo (lk.getD [] ++ (li.getD []).flatMap fun it=>(bd it).getD [])),s):=by
 have L:=bT (e:=134) (c:=aK.cells) li;suffices h:∃q,aH Tryz.prog Γ ext 68 [.agg x.cells] s=some q∧q=(aU 71 am.cells (eo (lk.getD [] ++ (li.getD []).flatMap fun it=>(bd it).getD [])),s) by
  obtain⟨q,e,rfl⟩:=h;exact e
 refine zg (fn:=Uk) (by rfl) (by simp [Uk]) ?_;generalize hQ:Hr Uk s _=Q;unfold Uk;refine gg (fun f s'=>f 1=.ptr s.n 0 9∧s'.h s.n=⟨x.cells,0,71⟩∧s'.n=s.n + 1∧s'.w=s.n) ?_ ?_
 ·simp -implicitDefEqProofs only [ZS,seval,ZX,bC,aC];exact⟨_,_,rfl,rfl,by simp -implicitDefEqProofs only [↓reduceIte,eY],rfl,rfl⟩
 rintro f s1 ⟨p1,p2,p3,p4⟩;refine gg (Lp x s.n []) ?_ ?_
 ·simp -implicitDefEqProofs only [dA,bY,bD,bE,cg,ci,cI];exact⟨_,_,rfl,p1,p2,by omega,by omega,.nil _ _ _ _ _⟩
 rintro f s1 ⟨p1,p2,p3,p4,p5⟩;refine gg (Lp x s.n (lk.getD [])) ?_ ?_
 ·obtain⟨v',s',a1,a2,a3,a4,a5⟩:=p5.app (bytes:=160) am.len (lk.getD []) (by omega) (by simp only [List.length_nil]; omega) (by simp only [List.length_nil]; omega) (fun y hy=>(ho y (.inl hy)).1) p3;have he:=rG (e:=71) am.len lk s1;simp only [am.cells] at p2;simp -implicitDefEqProofs only [ZS,seval,ZX,p1,p2,hk,he,a1];refine⟨_,_,rfl,p1,?_,by omega,a5 _ (by omega) p4,by rw [List.nil_append] at a2; exact a2⟩;rw [a3 _ (by omega)];exact p2
 rintro f s1 hI;refine ll ?_;refine gg (fun f s1=>Lp x s.n (lk.getD [] ++ ((li.getD []).take 0).flatMap fun it=>(bd it).getD []) f s1∧f 4=.sc (.int .i64 ((0:Nat):Int))) ?_ ?_
 ·obtain⟨p1,p2,p3,p4,p5⟩:=hI;simp -implicitDefEqProofs only [dA,bY,bD,bE,cg,ci,cI,List.take_zero];exact⟨_,_,rfl,⟨p1,p2,p3,p4,by rw [List.flatMap_nil,List.append_nil]; exact p5⟩,rfl⟩
 rintro f s1 hI;refine nR (li.getD []).length (fun i f s1=>Lp x s.n (lk.getD [] ++ ((li.getD []).take i).flatMap fun it=>(bd it).getD []) f s1∧f 4=.sc (.int .i64 (i:Int))) (fun f s1=>Lp x s.n (lk.getD [] ++ (li.getD []).flatMap fun it=>(bd it).getD []) f s1) hI ?_ ?_
 ·rintro i f s1 hi ⟨⟨p1,p2,p3,p4,p5⟩,h4⟩;by_cases hlt:i < (li.getD []).length
  ·have h5:(decide ((i:Int) < ((li.getD []).length:Int)))=true:=by simp; exact hlt
   have hx:(li.getD [])[i]?=some ((li.getD [])[i]):=List.getElem?_eq_getElem hlt;generalize (li.getD [])[i]=it at hx;have hmem:=List.mem_of_getElem? hx;have hb:=hbd it hmem;have hfl:=yC (g:=fun it=>(bd it).getD []) hx;have hle:=rH (g:=fun it=>(bd it).getD []) (li.getD []) (i + 1);rw [hfl,List.length_append] at hle;obtain⟨v',s',a1,a2,a3,a4,a5⟩:=p5.app (bytes:=160) am.len ((bd it).getD []) (by omega) (by rw [List.length_append]; omega) (by rw [List.length_append]; omega) (fun y hy=>(ho y (.inr ⟨it,hmem,hy⟩)).1) p3;have he:=rG (e:=71) am.len (bd it) s1;have h6:s'.h s.n=⟨x.cells,0,71⟩:=by rw [a3 _ (by omega)]; exact p2
   obtain⟨m,rfl⟩ : ∃k,li=some k:=by cases li with | none=>simp at hx | some k=>exact⟨k,rfl⟩
   simp only [aU,Option.getD_some] at hit hx hlt L h5 hlen hfl;have h1:=aJ aK.len m;obtain⟨r1,h3⟩:=cm aK.len hx;have h7:=fY (i:=i) (by omega);simp only [am.cells,hit] at p2;simp -implicitDefEqProofs only [ZS,seval,ZX,p1,p2,h4,L,h5,h7,hlt,h1,h3,aw,aK.cells,hb,he,a1];refine⟨hlt,p1,h6,by omega,a5 _ (by omega) p4,?_⟩;show jX 71 9 am.cells (s.n + 1) (lk.getD [] ++ (m.take (i + 1)).flatMap fun it=>(bd it).getD []) v' s';rw [hfl,← List.append_assoc];exact a2
  ·obtain rfl:i=(li.getD []).length:=by omega
   have h5:(decide (((li.getD []).length:Int) < ((li.getD []).length:Int)))=false:=by simp
   have p2':=p2;simp only [am.cells,hit] at p2';simp -implicitDefEqProofs only [ZS,seval,ZX,p1,p2',h4,L,h5];refine⟨p1,p2,p3,p4,?_⟩;rw [List.take_length] at p5;exact p5
 ·rintro f s1 ⟨p1,p2,p3,p4,p5⟩;refine zI ?_;simp -implicitDefEqProofs only [dA,bY,bD,bE,cg,du,aZ,↓reduceIte];refine⟨_,_,rfl,?_⟩;subst hQ;refine zh ?_ rfl;refine gx (vs:=[f 3]) rfl rfl p4 ?_;refine Ek (p5.frz am.len (by omega) fun y hy=>?_);rw [List.mem_append,List.mem_flatMap] at hy;exact (ho y (hy.imp id id)).2
theorem AC {α β:Type}{g:α→β}{l:List α}{i:Nat}{x:α} (h:l[i]?=some x):(l.take (i + 1)).map g=(l.take i).map g ++ [g x]:=by
 rw [List.take_add_one,h,List.map_append];simp
def aB.val (y:aB):ay:=⟨y.vpos,y.parts⟩
def aD.tgt (y:aD):ay:=⟨y.tpos,y.parts⟩
theorem ay.one {y:ay} (h:db y.parts=true):y.cells.all db=true:=by simp only [ay.cells,List.all_cons,List.all_nil,h,Bool.and_true]; rfl
theorem ay.clean {y:ay} (h:dj y.parts=true):y.cells.all dj=true:=by simp only [ay.cells,List.all_cons,List.all_nil,h,Bool.and_true]; rfl
structure uW (x:am) (b:Nat) (l:List ay) (f:aX) (s:PS):Prop where
 p:f 1=.ptr b 0 9
 h:s.h b=⟨x.cells,0,71⟩
 n:b + 1≤s.n
 w:b≤s.w
 acc:jX 102 2 ay.cells (b + 1) l (f 3) s
def eT (la:List aB) (lw:List ay) (lr:List aD) (li:List aK) (pt:aK→Option (List ay)):List ay:=la.map aB.val ++ lw ++ lr.map aD.tgt ++ li.flatMap fun it=>(pt it).getD []
theorem Ic (x:am) (la:Option (List aB)) (lw:Option (List ay)) (lr:Option (List aD)) (li:Option (List aK)) (pt:aK→Option (List ay)) (ha:x.assigns=aU 104 aB.cells la) (hw:x.words=aU 102 ay.cells lw) (hr:x.redirs=aU 129 aD.cells lr) (hit:x.items=aU 134 aK.cells li)
  (hpt:∀it∈li.getD [],it.pats=aU 102 ay.cells (pt it)) (hbig:(la.getD []).length + (lw.getD []).length + (lr.getD []).length + ((li.getD []).flatMap fun it=>(pt it).getD []).length≤16777216) (hlen:(li.getD []).length≤16777216)
  (ho:∀y∈eT (la.getD []) (lw.getD []) (lr.getD []) (li.getD []) pt,db y.parts=true∧dj y.parts=true) (s:PS) :
  aH Tryz.prog Γ ext 66 [.agg x.cells] s=some (aU 102 ay.cells (eo (eT (la.getD []) (lw.getD []) (lr.getD []) (li.getD []) pt)),s):=by
 have LA:=bT (e:=104) (c:=aB.cells) la;have LR:=bT (e:=129) (c:=aD.cells) lr;have LI:=bT (e:=134) (c:=aK.cells) li;have o1:∀y∈la.getD [],db y.parts=true:=fun y hy=>(ho y.val (by simp only [eT,List.mem_append,List.mem_map]; exact .inl (.inl (.inl ⟨y,hy,rfl⟩)))).1;have o2:∀y∈lw.getD [],db y.parts=true:=fun y hy=>(ho y (by simp only [eT,List.mem_append]; exact .inl (.inl (.inr hy)))).1;have o3:∀y∈lr.getD [],db y.parts=true:=fun y hy=>(ho y.tgt (by simp only [eT,List.mem_append,List.mem_map]; exact .inl (.inr ⟨y,hy,rfl⟩))).1;have o4:∀it∈li.getD [],∀y∈(pt it).getD [],db y.parts=true:=fun it hi y hy=>(ho y (by simp only [eT,List.mem_append,List.mem_flatMap]; exact .inr ⟨it,hi,hy⟩)).1;suffices h:∃q,aH Tryz.prog Γ ext 66 [.agg x.cells] s=some q∧q=(aU 102 ay.cells (eo (eT (la.getD []) (lw.getD []) (lr.getD []) (li.getD []) pt)),s) by
  obtain⟨q,e,rfl⟩:=h;exact e
 refine zg (fn:=TU) (by rfl) (by simp [TU]) ?_;generalize hQ:Hr TU s _=Q;unfold TU;refine gg (fun f s'=>f 1=.ptr s.n 0 9∧s'.h s.n=⟨x.cells,0,71⟩∧s'.n=s.n + 1∧s'.w=s.n) ?_ ?_
 ·simp -implicitDefEqProofs only [ZS,seval,ZX,bC,aC];exact⟨_,_,rfl,rfl,by simp -implicitDefEqProofs only [↓reduceIte,eY],rfl,rfl⟩
 rintro f s1 ⟨p1,p2,p3,p4⟩;refine gg (uW x s.n []) ?_ ?_
 ·simp -implicitDefEqProofs only [dA,bY,bD,bE,cg,ci,cI];exact⟨_,_,rfl,p1,p2,by omega,by omega,.nil _ _ _ _ _⟩
 rintro f s1 hI;refine ll ?_;refine gg (fun f s1=>uW x s.n ([] ++ ((la.getD []).take 0).map aB.val) f s1∧f 4=.sc (.int .i64 ((0:Nat):Int))) ?_ ?_
 ·obtain⟨p1,p2,p3,p4,p5⟩:=hI;simp -implicitDefEqProofs only [dA,bY,bD,bE,cg,ci,cI,List.take_zero,List.map_nil,List.append_nil];exact⟨_,_,rfl,⟨p1,p2,p3,p4,by first | exact p5 | (rw [List.append_nil]; exact p5)⟩,rfl⟩
 rintro f s1 hI;refine nR (la.getD []).length (fun i f s1=>uW x s.n ([] ++ ((la.getD []).take i).map aB.val) f s1∧f 4=.sc (.int .i64 (i:Int))) (fun f s1=>uW x s.n ([] ++ (la.getD []).map aB.val) f s1) hI ?_ ?_
 ·rintro i f s1 hi ⟨⟨p1,p2,p3,p4,p5⟩,h4⟩;by_cases hlt:i < (la.getD []).length
  ·have h5:(decide ((i:Int) < ((la.getD []).length:Int)))=true:=by simp; exact hlt
   have hx:(la.getD [])[i]?=some ((la.getD [])[i]):=List.getElem?_eq_getElem hlt;generalize (la.getD [])[i]=y at hx;have hmem:=List.mem_of_getElem? hx;have hfl:=AC (g:=aB.val) hx;obtain⟨v',s',a1,a2,a3,a4,a5⟩:=(p5.new ⟨y.val.cells,0,102⟩).app (bytes:=32) ay.len [y.val] (by omega) (by simp only [List.length_append,List.length_map,List.length_take,List.length_cons,List.length_nil]; omega) (by simp only [List.length_append,List.length_map,List.length_take,List.length_cons,List.length_nil]; omega) (fun z hz=>by rw [List.mem_singleton] at hz; subst hz; exact ay.one (o1 y hmem)) (by rw [dN]; omega);have h6:s'.h s.n=⟨x.cells,0,71⟩:=by rw [a3 _ (by omega),eY,if_neg (by omega)]; exact p2
   have h8:s.n≤s'.w:=a5 _ (by omega) (by rw [kq]; exact p4);rw [dN] at a4;obtain⟨m,rfl⟩ : ∃k,la=some k:=by cases la with | none=>simp at hx | some k=>exact⟨k,rfl⟩
   simp only [aU,Option.getD_some] at ha hx hlt LA h5 hbig hfl;have h1:=aJ aB.len m;obtain⟨r1,h3⟩:=cm aB.len hx;have h7:=fY (i:=i) (by omega);simp only [am.cells,ha] at p2;simp only [List.flatMap_cons,List.flatMap_nil,List.append_nil,ay.cells,aB.val,List.length_cons,List.length_nil,Nat.zero_add] at a1;simp -implicitDefEqProofs only [ZS,seval,ZX,aC,List.map_cons,List.map_nil,List.append_nil,p1,p2,h4,LA,h5,h7,hlt,h1,h3,aw,aB.cells,a1];refine⟨hlt,p1,h6,by omega,h8,?_⟩;show jX 102 2 ay.cells (s.n + 1) ([] ++ (m.take (i + 1)).map aB.val) v' s';rw [hfl,← List.append_assoc];exact a2
  ·obtain rfl:i=(la.getD []).length:=by omega
   have h5:(decide (((la.getD []).length:Int) < ((la.getD []).length:Int)))=false:=by simp
   have p2':=p2;simp only [am.cells,ha] at p2';simp -implicitDefEqProofs only [ZS,seval,ZX,p1,p2',h4,LA,h5];refine⟨p1,p2,p3,p4,?_⟩;rw [List.take_length] at p5;exact p5
 rintro f s1 ⟨p1,p2,p3,p4,p5⟩;refine gg (uW x s.n ([] ++ (la.getD []).map aB.val ++ lw.getD [])) ?_ ?_
 ·obtain⟨v',s',a1,a2,a3,a4,a5⟩:=p5.app (bytes:=32) ay.len (lw.getD []) (by omega) (by simp only [List.length_append,List.length_map,List.length_nil]; omega) (by simp only [List.length_append,List.length_map,List.length_nil]; omega) (fun y hy=>ay.one (o2 y hy)) p3;have he:=rG (e:=102) ay.len lw s1;have h6:s'.h s.n=⟨x.cells,0,71⟩:=by rw [a3 _ (by omega)]; exact p2
  simp only [am.cells] at p2;simp -implicitDefEqProofs only [ZS,seval,ZX,p1,p2,hw,he,a1];refine⟨_,_,rfl,p1,h6,by omega,a5 _ (by omega) p4,?_⟩;rw [List.nil_append] at a2;exact a2
 rintro f s1 hI;refine ll ?_;refine gg (fun f s1=>uW x s.n (([] ++ (la.getD []).map aB.val ++ lw.getD []) ++ ((lr.getD []).take 0).map aD.tgt) f s1∧f 5=.sc (.int .i64 ((0:Nat):Int))) ?_ ?_
 ·obtain⟨p1,p2,p3,p4,p5⟩:=hI;simp -implicitDefEqProofs only [dA,bY,bD,bE,cg,ci,cI,List.take_zero,List.map_nil,List.nil_append,List.append_nil];exact⟨_,_,rfl,⟨p1,p2,p3,p4,by first | exact p5 | (rw [List.append_nil]; exact p5)⟩,rfl⟩
 rintro f s1 hI;refine nR (lr.getD []).length (fun i f s1=>uW x s.n (([] ++ (la.getD []).map aB.val ++ lw.getD []) ++ ((lr.getD []).take i).map aD.tgt) f s1∧f 5=.sc (.int .i64 (i:Int))) (fun f s1=>uW x s.n (([] ++ (la.getD []).map aB.val ++ lw.getD []) ++ (lr.getD []).map aD.tgt) f s1) hI ?_ ?_
 ·rintro i f s1 hi ⟨⟨p1,p2,p3,p4,p5⟩,h4⟩;by_cases hlt:i < (lr.getD []).length
  ·have h5:(decide ((i:Int) < ((lr.getD []).length:Int)))=true:=by simp; exact hlt
   have hx:(lr.getD [])[i]?=some ((lr.getD [])[i]):=List.getElem?_eq_getElem hlt;generalize (lr.getD [])[i]=y at hx;have hmem:=List.mem_of_getElem? hx;have hfl:=AC (g:=aD.tgt) hx;obtain⟨v',s',a1,a2,a3,a4,a5⟩:=(p5.new ⟨y.tgt.cells,0,102⟩).app (bytes:=32) ay.len [y.tgt] (by omega) (by simp only [List.length_append,List.length_map,List.length_take,List.length_cons,List.length_nil]; omega) (by simp only [List.length_append,List.length_map,List.length_take,List.length_cons,List.length_nil]; omega) (fun z hz=>by rw [List.mem_singleton] at hz; subst hz; exact ay.one (o3 y hmem)) (by rw [dN]; omega);have h6:s'.h s.n=⟨x.cells,0,71⟩:=by rw [a3 _ (by omega),eY,if_neg (by omega)]; exact p2
   have h8:s.n≤s'.w:=a5 _ (by omega) (by rw [kq]; exact p4);rw [dN] at a4;obtain⟨m,rfl⟩ : ∃k,lr=some k:=by cases lr with | none=>simp at hx | some k=>exact⟨k,rfl⟩
   simp only [aU,Option.getD_some] at hr hx hlt LR h5 hbig hfl;have h1:=aJ aD.len m;obtain⟨r1,h3⟩:=cm aD.len hx;have h7:=fY (i:=i) (by omega);simp only [am.cells,hr] at p2;simp only [List.flatMap_cons,List.flatMap_nil,List.append_nil,ay.cells,aD.tgt,List.length_cons,List.length_nil,Nat.zero_add] at a1;simp -implicitDefEqProofs only [ZS,seval,ZX,aC,List.map_cons,List.map_nil,List.append_nil,p1,p2,h4,LR,h5,h7,hlt,h1,h3,aw,aD.cells,a1];refine⟨hlt,p1,h6,by omega,h8,?_⟩;show jX 102 2 ay.cells (s.n + 1) (([] ++ (la.getD []).map aB.val ++ lw.getD []) ++ (m.take (i + 1)).map aD.tgt) v' s';rw [hfl,← List.append_assoc];exact a2
  ·obtain rfl:i=(lr.getD []).length:=by omega
   have h5:(decide (((lr.getD []).length:Int) < ((lr.getD []).length:Int)))=false:=by simp
   have p2':=p2;simp only [am.cells,hr] at p2';simp -implicitDefEqProofs only [ZS,seval,ZX,p1,p2',h4,LR,h5];refine⟨p1,p2,p3,p4,?_⟩;rw [List.take_length] at p5;exact p5
 rintro f s1 hI;refine ll ?_;refine gg (fun f s1=>uW x s.n ((([] ++ (la.getD []).map aB.val ++ lw.getD []) ++ (lr.getD []).map aD.tgt) ++ ((li.getD []).take 0).flatMap fun it=>(pt it).getD []) f s1∧f 6=.sc (.int .i64 ((0:Nat):Int))) ?_ ?_
 ·obtain⟨p1,p2,p3,p4,p5⟩:=hI;simp -implicitDefEqProofs only [dA,bY,bD,bE,cg,ci,cI,List.take_zero,List.nil_append];exact⟨_,_,rfl,⟨p1,p2,p3,p4,by rw [List.flatMap_nil,List.append_nil]; exact p5⟩,rfl⟩
 rintro f s1 hI;refine nR (li.getD []).length (fun i f s1=>uW x s.n ((([] ++ (la.getD []).map aB.val ++ lw.getD []) ++ (lr.getD []).map aD.tgt) ++ ((li.getD []).take i).flatMap fun it=>(pt it).getD []) f s1∧f 6=.sc (.int .i64 (i:Int))) (fun f s1=>uW x s.n (eT (la.getD []) (lw.getD []) (lr.getD []) (li.getD []) pt) f s1) hI ?_ ?_
 ·rintro i f s1 hi ⟨⟨p1,p2,p3,p4,p5⟩,h4⟩;by_cases hlt:i < (li.getD []).length
  ·have h5:(decide ((i:Int) < ((li.getD []).length:Int)))=true:=by simp; exact hlt
   have hx:(li.getD [])[i]?=some ((li.getD [])[i]):=List.getElem?_eq_getElem hlt;generalize (li.getD [])[i]=it at hx;have hmem:=List.mem_of_getElem? hx;have hb:=hpt it hmem;have hfl:=yC (g:=fun it=>(pt it).getD []) hx;have hle:=rH (g:=fun it=>(pt it).getD []) (li.getD []) (i + 1);rw [hfl,List.length_append] at hle;obtain⟨v',s',a1,a2,a3,a4,a5⟩:=p5.app (bytes:=32) ay.len ((pt it).getD []) (by omega) (by simp only [List.length_append,List.length_map,List.length_nil]; omega) (by simp only [List.length_append,List.length_map,List.length_nil]; omega) (fun y hy=>ay.one (o4 it hmem y hy)) p3;have he:=rG (e:=102) ay.len (pt it) s1;have h6:s'.h s.n=⟨x.cells,0,71⟩:=by rw [a3 _ (by omega)]; exact p2
   obtain⟨m,rfl⟩ : ∃k,li=some k:=by cases li with | none=>simp at hx | some k=>exact⟨k,rfl⟩
   simp only [aU,Option.getD_some] at hit hx hlt LI h5 hlen hfl;have h1:=aJ aK.len m;obtain⟨r1,h3⟩:=cm aK.len hx;have h7:=fY (i:=i) (by omega);simp only [am.cells,hit] at p2;simp -implicitDefEqProofs only [ZS,seval,ZX,p1,p2,h4,LI,h5,h7,hlt,h1,h3,aw,aK.cells,hb,he,a1];refine⟨hlt,p1,h6,by omega,a5 _ (by omega) p4,?_⟩;show jX 102 2 ay.cells (s.n + 1) ((([] ++ (la.getD []).map aB.val ++ lw.getD []) ++ (lr.getD []).map aD.tgt) ++ (m.take (i + 1)).flatMap fun it=>(pt it).getD []) v' s';rw [hfl,← List.append_assoc];exact a2
  ·obtain rfl:i=(li.getD []).length:=by omega
   have h5:(decide (((li.getD []).length:Int) < ((li.getD []).length:Int)))=false:=by simp
   have p2':=p2;simp only [am.cells,hit] at p2';simp -implicitDefEqProofs only [ZS,seval,ZX,p1,p2',h4,LI,h5];refine⟨p1,p2,p3,p4,?_⟩;rw [List.take_length] at p5;exact p5
 ·rintro f s1 ⟨p1,p2,p3,p4,p5⟩;refine zI ?_;simp -implicitDefEqProofs only [dA,bY,bD,bE,cg,du,aZ,↓reduceIte];refine⟨_,_,rfl,?_⟩;subst hQ;refine zh ?_ rfl;refine gx (vs:=[f 3]) rfl rfl p4 ?_;exact Ek (p5.frz ay.len (by omega) fun y hy=>ay.clean (ho y hy).2)
def j9 (lk:List am) (li:List aK) (bd:aK→Option (List am)):List am:=lk ++ li.flatMap fun it=>(bd it).getD []
structure Ih (D d:Nat) (x:am) (la:Option (List aB)) (lw:Option (List ay)) (lr:Option (List aD)) (lk:Option (List am)) (li:Option (List aK)) (pt:aK→Option (List ay)) (bd:aK→Option (List am)):Prop where
 a:x.assigns=aU 104 aB.cells la
 w:x.words=aU 102 ay.cells lw
 r:x.redirs=aU 129 aD.cells lr
 k:x.kids=aU 71 am.cells lk
 i:x.items=aU 134 aK.cells li
 hpt:∀it∈li.getD [],it.pats=aU 102 ay.cells (pt it)
 hbd:∀it∈li.getD [],it.body=aU 71 am.cells (bd it)
 words:∀y∈eT (la.getD []) (lw.getD []) (lr.getD []) (li.getD []) pt,aN D y.parts
 kids:∀y∈j9 (lk.getD []) (li.getD []) bd,bB D d y
theorem bB.dec {D d:Nat}{x:am} (h:bB D (d + 1) x):∃la lw lr lk li pt bd,Ih D d x la lw lr lk li pt bd:=by
 obtain⟨⟨la,a1,_,a2⟩,⟨lw,w1,_,w2⟩,⟨lr,r1,_,r2⟩,⟨lk,k1,_,k2⟩,⟨li,i1,_,i2⟩⟩:=h;have hp:∀it:aK,∃l:Option (List ay),it∈li.getD []→it.pats=aU 102 ay.cells l∧∀y∈l.getD [],aN D y.parts:=fun it=>by
  by_cases hi:it∈li.getD []
  ·obtain⟨l,e1,_,e2⟩:=(i2 it hi).1;exact⟨l,fun _=>⟨e1,e2⟩⟩
  ·exact⟨none,fun hh=>absurd hh hi⟩
 have hb:∀it:aK,∃l:Option (List am),it∈li.getD []→it.body=aU 71 am.cells l∧∀y∈l.getD [],bB D d y:=fun it=>by
  by_cases hi:it∈li.getD []
  ·obtain⟨l,e1,_,e2⟩:=(i2 it hi).2;exact⟨l,fun _=>⟨e1,e2⟩⟩
  ·exact⟨none,fun hh=>absurd hh hi⟩
 obtain⟨pt,hpt⟩:=Classical.axiomOfChoice hp;obtain⟨bd,hbd⟩:=Classical.axiomOfChoice hb;refine⟨la,lw,lr,lk,li,pt,bd,a1,w1,r1,k1,i1,fun it hi=>(hpt it hi).1,fun it hi=>(hbd it hi).1,fun y hy=>?_,fun y hy=>?_⟩
 ·simp only [eT,List.mem_append,List.mem_map,List.mem_flatMap] at hy;rcases hy with ((⟨z,hz,rfl⟩ | hy) | ⟨z,hz,rfl⟩) | ⟨it,hi,hy⟩
  ·exact a2 z hz
  ·exact w2 y hy
  ·exact r2 z hz
  ·exact (hpt it hi).2 y hy
 ·simp only [j9,List.mem_append,List.mem_flatMap] at hy;rcases hy with hy | ⟨it,hi,hy⟩
  ·exact k2 y hy
  ·exact (hbd it hi).2 y hy
theorem aN.clean {d:Nat}{p:PV} (h:aN d p):dj p=true:=by
 cases d with
 | zero=>cases h
 | succ d=>obtain⟨l,rfl,_⟩:=h; exact wm _ _ _
section
variable {D d:Nat}{x:am}{la:Option (List aB)}{lw:Option (List ay)}{lr:Option (List aD)}{lk:Option (List am)}{li:Option (List aK)}{pt:aK→Option (List ay)}{bd:aK→Option (List am)}
theorem Ih.sizes (h:Ih D d x la lw lr lk li pt bd) {N:Nat} (hN:aR x.cells≤N):(la.getD []).length + (lw.getD []).length + (lr.getD []).length + ((li.getD []).flatMap fun it=>(pt it).getD []).length≤N∧(lk.getD []).length + ((li.getD []).flatMap fun it=>(bd it).getD []).length≤N∧(li.getD []).length≤N∧∀y∈j9 (lk.getD []) (li.getD []) bd,aR y.cells≤N:=by
 simp only [am.cells,cx,cH,h.a,h.w,h.r,h.k,h.i] at hN;have hA:=ip (e:=104) (c:=aB.cells) (fun y=>by rw [aB.len]; omega) la;have hW:=ip (e:=102) (c:=ay.cells) (fun y=>by rw [ay.len]; omega) lw;have hR:=ip (e:=129) (c:=aD.cells) (fun y=>by rw [aD.len]; omega) lr;have hK:=ip (e:=71) (c:=am.cells) (fun y=>by rw [am.len]; omega) lk;have hI:=ip (e:=134) (c:=aK.cells) (fun y=>by rw [aK.len]; omega) li;have hK2:=dO 71 am.cells lk;have hI2:=dO 134 aK.cells li;have hic:∀it∈li.getD [],aR it.cells=(aU 102 ay.cells (pt it)).bulk + (aU 71 am.cells (bd it)).bulk:=fun it hi=>by
  simp only [aK.cells,cx,cH,h.hpt it hi,h.hbd it hi,Nat.add_zero]
 have hP:=BK (c:=aK.cells) (g:=fun it=>(pt it).getD []) (li.getD []) fun it hi=>by
  have:=ip (e:=102) (c:=ay.cells) (fun y=>by rw [ay.len]; omega) (pt it);rw [hic it hi]; omega
 have hB:=BK (c:=aK.cells) (g:=fun it=>(bd it).getD []) (li.getD []) fun it hi=>by
  have:=ip (e:=71) (c:=am.cells) (fun y=>by rw [am.len]; omega) (bd it);rw [hic it hi]; omega
 refine⟨by omega,by omega,by omega,fun y hy=>?_⟩;simp only [j9,List.mem_append,List.mem_flatMap] at hy;rcases hy with hy | ⟨it,hi,hy⟩
 ·have:=gY (c:=am.cells) hy; omega
 ·have h1:=gY (c:=am.cells) hy;have h2:=dO 71 am.cells (bd it);have h3:=gY (c:=aK.cells) hi;rw [hic it hi] at h3;omega
theorem Ih.words_ok (h:Ih D d x la lw lr lk li pt bd) (hN:aR x.cells≤16777216) (s:PS):aH Tryz.prog Γ ext 66 [.agg x.cells] s=some (aU 102 ay.cells (eo (eT (la.getD []) (lw.getD []) (lr.getD []) (li.getD []) pt)),s):=by
 obtain⟨n1,n2,n3,_⟩:=h.sizes hN;exact Ic x la lw lr li pt h.a h.w h.r h.i h.hpt n1 n3 (fun y hy=>⟨(h.words y hy).one,(h.words y hy).clean⟩) s
theorem Ih.kids_ok (h:Ih D d x la lw lr lk li pt bd) (hN:aR x.cells≤16777216) (s:PS):aH Tryz.prog Γ ext 68 [.agg x.cells] s=some (aU 71 am.cells (eo (j9 (lk.getD []) (li.getD []) bd)),s):=by
 obtain⟨n1,n2,n3,_⟩:=h.sizes hN;refine Go.Proofs.YtokdflgpbfjpcaaGreatDoor.kids_ok x lk li bd h.k h.i h.hbd n2 n3 (fun y hy=>?_) s;have hy':y∈j9 (lk.getD []) (li.getD []) bd:=by
  simp only [j9,List.mem_append,List.mem_flatMap];exact hy
 exact⟨(h.kids y hy').ones,(h.kids y hy').cleans⟩
end
structure ze (x:am) (b:Nat) (s0:PS) (slot:Nat) (i:Nat) (f:aX) (s:PS):Prop where
 s:s0=s
 p:f 1=.ptr b 0 9
 z:∃z:Int,f 3=.sc (.int .i64 z)
 i:f slot=.sc (.int .i64 (i:Int))
theorem HV {D:Nat} : ∀(d:Nat) (x:am),bB D d x→aR x.cells≤16777216→∀s,∃z:Int,aH Tryz.prog Γ ext 35 [.agg x.cells] s=some (.sc (.int .i64 z),s):=by
 intro d
 induction d with
 | zero=>intro x h; cases h
 | succ d ih=>
  intro x hx hN s;obtain⟨la,lw,lr,lk,li,pt,bd,hd⟩:=hx.dec;obtain⟨n1,n2,n3,n4⟩:=hd.sizes hN;have LA:=bT (e:=104) (c:=aB.cells) la;have LR:=bT (e:=129) (c:=aD.cells) lr;have LI:=bT (e:=134) (c:=aK.cells) li;suffices h:∃q,aH Tryz.prog Γ ext 35 [.agg x.cells] s=some q∧∃z:Int,q=(.sc (.int .i64 z),s) by
   obtain⟨q,e,z,rfl⟩:=h;exact⟨z,e⟩
  refine zg (fn:=Lg) (by rfl) (by simp [Lg]) ?_;generalize hQ:Hr Lg s _=Q;unfold Lg;refine gg (fun f s'=>f 1=.ptr s.n 0 9∧s'.h s.n=⟨x.cells,0,71⟩∧s'.n=s.n + 1∧s'.w=s.n) ?_ ?_
  ·simp -implicitDefEqProofs only [ZS,seval,ZX,bC,aC];exact⟨_,_,rfl,rfl,by simp -implicitDefEqProofs only [↓reduceIte,eY],rfl,rfl⟩
  rintro f s1 ⟨p1,p2,p3,p4⟩;have q2:=p2;simp only [am.cells,hd.a,hd.r,hd.i] at q2;refine gg (fun f s'=>s1=s'∧f 1=.ptr s.n 0 9∧∃z:Int,f 3=.sc (.int .i64 z)) ?_ ?_
  ·simp -implicitDefEqProofs only [ZS,seval,ZX,p1,q2,LA,LR,LI];exact⟨_,_,rfl,rfl,p1,_,rfl⟩
  rintro f _ ⟨rfl,p1,hz⟩;refine ll ?_;refine gg (ze x s.n s1 4 0) ?_ ?_
  ·simp -implicitDefEqProofs only [dA,bY,bD,bE,cg,ci,cI];exact⟨_,_,rfl,rfl,p1,hz,rfl⟩
  intro f s' hI;refine nR (la.getD []).length (ze x s.n s1 4) (ze x s.n s1 4 (la.getD []).length) hI ?_ ?_
  ·rintro i f _ hi ⟨rfl,p1,⟨z,hz⟩,h4⟩;by_cases hlt:i < (la.getD []).length
   ·have h5:(decide ((i:Int) < ((la.getD []).length:Int)))=true:=by simp; exact hlt
    have hx:(la.getD [])[i]?=some ((la.getD [])[i]):=List.getElem?_eq_getElem hlt;generalize (la.getD [])[i]=y at hx;obtain⟨m,rfl⟩ : ∃k,la=some k:=by cases la with | none=>simp at hx | some k=>exact⟨k,rfl⟩
    simp only [aU,Option.getD_some] at q2 hx hlt LA h5 n1;have h1:=aJ aB.len m;obtain⟨r1,h3⟩:=cm aB.len hx;have h7:=fY (i:=i) (by omega);simp -implicitDefEqProofs only [ZS,seval,ZX,p1,q2,h4,hz,LA,h5,h7,hlt,h1,h3,aw,aB.cells];exact⟨hlt,rfl,p1,⟨_,rfl⟩,rfl⟩
   ·obtain rfl:i=(la.getD []).length:=by omega
    have h5:(decide (((la.getD []).length:Int) < ((la.getD []).length:Int)))=false:=by simp
    simp -implicitDefEqProofs only [ZS,seval,ZX,p1,q2,h4,LA,h5];exact⟨rfl,p1,⟨z,hz⟩,h4⟩
  rintro f _ ⟨rfl,p1,hz,_⟩;have h38:=hd.words_ok (ext:=ext) hN s1;have hwds:=hd.words;have hwn:(eT (la.getD []) (lw.getD []) (lr.getD []) (li.getD []) pt).length≤16777216:=by simp only [eT,List.length_append,List.length_map]; omega
  generalize eT (la.getD []) (lw.getD []) (lr.getD []) (li.getD []) pt=wl at h38 hwds hwn;have hwl:(eo wl).getD []=wl:=cE wl;have LW:=bT (e:=102) (c:=ay.cells) (eo wl);rw [hwl] at LW;simp only [am.cells] at h38;have q3:=p2;simp only [am.cells] at q3;refine gg (fun f s'=>s1=s'∧f 1=.ptr s.n 0 9∧(∃z:Int,f 3=.sc (.int .i64 z))∧f 5=aU 102 ay.cells (eo wl)) ?_ ?_
  ·simp -implicitDefEqProofs only [ZS,seval,ZX,List.map_cons,List.map_nil,List.append_nil,p1,q3,h38];exact⟨_,_,rfl,rfl,p1,hz,rfl⟩
  rintro f _ ⟨rfl,p1,hz,hw⟩;refine ll ?_;refine gg (fun f s'=>ze x s.n s1 6 0 f s'∧f 5=aU 102 ay.cells (eo wl)) ?_ ?_
  ·simp -implicitDefEqProofs only [dA,bY,bD,bE,cg,ci,cI];exact⟨_,_,rfl,⟨rfl,p1,hz,rfl⟩,hw⟩
  intro f s' hI;refine nR wl.length (fun i f s'=>ze x s.n s1 6 i f s'∧f 5=aU 102 ay.cells (eo wl)) (ze x s.n s1 6 wl.length) hI ?_ ?_
  ·rintro i f _ hi ⟨⟨rfl,p1,⟨z,hz⟩,h4⟩,hw⟩;by_cases hlt:i < wl.length
   ·have h5:(decide ((i:Int) < (wl.length:Int)))=true:=by simp; exact hlt
    have hx:wl[i]?=some (wl[i]):=List.getElem?_eq_getElem hlt;generalize wl[i]=y at hx;obtain⟨cz,cy,hc⟩:=Ld (ext:=ext) D y.parts (hwds y (List.mem_of_getElem? hx)) s1;have hw':=hw;obtain hop:eo wl=some wl:=by cases wl with | nil=>simp at hx | cons a l=>rfl
    rw [hop] at hw' LW;simp only [aU] at hw' LW;have h1:=aJ ay.len wl;obtain⟨r1,h3⟩:=cm ay.len hx;have h7:=fY (i:=i) (by omega);simp -implicitDefEqProofs only [ZS,seval,ZX,List.map_cons,List.map_nil,List.append_nil,List.getElem?_cons_zero,List.getElem?_cons_succ,hw',h4,hz,LW,h5,h7,hlt,h1,h3,aw,ay.cells,hc];exact⟨⟨rfl,p1,⟨_,rfl⟩,rfl⟩,hw'.symm.trans hw⟩
   ·obtain rfl:i=wl.length:=by omega
    have h5:(decide ((wl.length:Int) < (wl.length:Int)))=false:=by simp
    simp -implicitDefEqProofs only [ZS,seval,ZX,hw,h4,LW,h5];exact⟨rfl,p1,⟨z,hz⟩,h4⟩
  rintro f _ ⟨rfl,p1,hz,_⟩;have h40:=hd.kids_ok (ext:=ext) hN s1;have hks:=hd.kids;have hkn:(j9 (lk.getD []) (li.getD []) bd).length≤16777216:=by simp only [j9,List.length_append]; omega
  generalize j9 (lk.getD []) (li.getD []) bd=kl at h40 hks n4 hkn;have LK:=bT (e:=71) (c:=am.cells) (eo kl);rw [cE] at LK;simp only [am.cells] at h40;refine gg (fun f s'=>s1=s'∧f 1=.ptr s.n 0 9∧(∃z:Int,f 3=.sc (.int .i64 z))∧f 9=aU 71 am.cells (eo kl)) ?_ ?_
  ·simp -implicitDefEqProofs only [ZS,seval,ZX,List.map_cons,List.map_nil,List.append_nil,p1,q3,h40];exact⟨_,_,rfl,rfl,p1,hz,rfl⟩
  rintro f _ ⟨rfl,p1,hz,hw⟩;refine ll ?_;refine gg (fun f s'=>ze x s.n s1 10 0 f s'∧f 9=aU 71 am.cells (eo kl)) ?_ ?_
  ·simp -implicitDefEqProofs only [dA,bY,bD,bE,cg,ci,cI];exact⟨_,_,rfl,⟨rfl,p1,hz,rfl⟩,hw⟩
  intro f s' hI;refine nR kl.length (fun i f s'=>ze x s.n s1 10 i f s'∧f 9=aU 71 am.cells (eo kl)) (ze x s.n s1 10 kl.length) hI ?_ ?_
  ·rintro i f _ hi ⟨⟨rfl,p1,⟨z,hz⟩,h4⟩,hw⟩;by_cases hlt:i < kl.length
   ·have h5:(decide ((i:Int) < (kl.length:Int)))=true:=by simp; exact hlt
    have hx:kl[i]?=some (kl[i]):=List.getElem?_eq_getElem hlt;generalize kl[i]=y at hx;obtain⟨cz,hc⟩:=ih y (hks y (List.mem_of_getElem? hx)) (n4 y (List.mem_of_getElem? hx)) s1;have hw':=hw;obtain hop:eo kl=some kl:=by cases kl with | nil=>simp at hx | cons a l=>rfl
    rw [hop] at hw' LK;simp only [aU] at hw' LK;have h1:=aJ am.len kl;have h3:=kX am.len hx;have h7:=fY (i:=i) (by omega);simp -implicitDefEqProofs only [ZS,seval,ZX,List.map_cons,List.map_nil,List.append_nil,hw',h4,hz,LK,h5,h7,hlt,h1,h3,hc];exact⟨⟨rfl,p1,⟨_,rfl⟩,rfl⟩,hw'.symm.trans hw⟩
   ·obtain rfl:i=kl.length:=by omega
    have h5:(decide ((kl.length:Int) < (kl.length:Int)))=false:=by simp
    simp -implicitDefEqProofs only [ZS,seval,ZX,hw,h4,LK,h5];exact⟨rfl,p1,⟨z,hz⟩,h4⟩
  ·rintro f _ ⟨rfl,p1,⟨z,hz⟩,_⟩;refine zI ?_;simp -implicitDefEqProofs only [dA,bY,bD,bE,cg,du,aZ,↓reduceIte,hz];refine⟨_,_,rfl,?_⟩;subst hQ;refine zh ?_ ⟨z,rfl⟩;exact gx (vs:=[.sc (.int .i64 z)]) rfl rfl (by omega) rfl
end Go.Proofs.YtokdflgpbfjpcaaGreatDoor
namespace Go.PE
open Go Go.EvL
noncomputable def oI {α:Type} (f:Nat→Option α):Nat→Tr α
 | 0=>.nil
 | n + 1=>match f n with
  | some a=>Tr.set a 40 (oI f n) n
  | none=>oI f n
theorem jk {α:Type} (f:Nat→Option α) (n b:Nat):(oI f n).get b=if b < n then f b else none:=by
 induction n with
 | zero=>simp [oI,Tr.get_nil]
 | succ n ih=>
  unfold oI;cases h:f n with
  | none=>
   simp only;rw [ih];by_cases hb:b=n
   ·subst hb; simp [h]
   ·by_cases hlt:b < n
    ·rw [if_pos hlt,if_pos (by omega)]
    ·rw [if_neg hlt,if_neg (by omega)]
  | some a=>
   simp only;rw [Tr.get_set _ _ _ _ trivial,ih];by_cases hb:b=n
   ·subst hb; rw [if_pos rfl,if_pos (by omega),h]
   ·rw [if_neg hb];by_cases hlt:b < n
    ·rw [if_pos hlt,if_pos (by omega)]
    ·rw [if_neg hlt,if_neg (by omega)]
structure jS where
 cells:List Value
 e:Nat
 blk:Nat
 sh:Nat
section
variable (P:Program) (w:World) (H:Nat)
def nu (b:Nat):Nat:=if b < P.globals.size then b else P.globals.size
theorem pJ (b:Nat):nu P b≤P.globals.size:=by unfold nu; split<;>omega
def Ew (V:List jS) (b:Nat):Option gG:=
 if b≤P.globals.size then some (.row [] 0 b 0 false) else (V[b - P.globals.size - 1]?).map fun v=>.row v.cells v.e (nu P v.blk) v.sh true
def Iz (V:List jS) (c j:Nat):Bool:=match V[j]? with
 | some v=>nu P v.blk == c
 | none=>false
def zm (V:List jS) (c:Nat):List Nat:=((List.range V.length).filter (Iz P V c)).map (· + (P.globals.size + 1))
noncomputable def Lc (V:List jS):AS:=
 ⟨oI (Ew P V) (P.globals.size + 1 + V.length),P.globals.size + 1 + V.length,oI (fun c=>some (zm P V c)) (P.globals.size + 1),oI (fun _=>some H) (P.globals.size + 1),0,0⟩
def qB (V:List jS):dW:=fun b=>
 if b < P.globals.size then some ⟨b,0,rE w b,Gk P w b,b,0⟩ else if b=P.globals.size then none
 else (V[b - P.globals.size - 1]?).map fun v=>⟨v.blk,v.sh,rE w v.blk - v.sh,P.cellsOf v.e,nu P v.blk,v.sh⟩
structure LM (V:List jS) (v:jS):Prop where
 row:∃C e fz,w.heap[v.blk]?=some (.cells C e fz)∧fz.2≤H∧v.sh + v.cells.length≤C.size∧bF (qB P w V) v.cells ((C.toList.drop v.sh).take v.cells.length)
variable {P w H}
theorem rM {V:List jS}{b:Nat}{o:gG} (h:(Lc P H V).heap.get b=some o) :
  (b≤P.globals.size∧o=.row [] 0 b 0 false)∨(P.globals.size < b∧∃v,V[b - P.globals.size - 1]?=some v∧o=.row v.cells v.e (nu P v.blk) v.sh true):=by
 have h':(oI (Ew P V) (P.globals.size + 1 + V.length)).get b=some o:=h;rw [jk] at h';split at h'
 ·unfold Ew at h';split at h'
  ·rename_i hb; injection h' with h'; exact .inl ⟨hb,h'.symm⟩
  ·rename_i hb;rw [Option.map_eq_some_iff] at h';obtain⟨v,h1,h2⟩:=h';exact .inr ⟨by omega,v,h1,h2.symm⟩
 ·cases h'
theorem si {V:List jS}{j:Nat}{v:jS} (h:V[j]?=some v):(Lc P H V).heap.get (P.globals.size + 1 + j)=some (.row v.cells v.e (nu P v.blk) v.sh true):=by
 have hj:=(List.getElem?_eq_some_iff.1 h).1;show (oI (Ew P V) (P.globals.size + 1 + V.length)).get _=_;rw [jk,if_pos (by omega)];unfold Ew;rw [if_neg (by omega),show P.globals.size + 1 + j - P.globals.size - 1=j by omega,h];rfl
theorem pY {V:List jS}{j:Nat}{v:jS} (h:V[j]?=some v):qB P w V (P.globals.size + 1 + j)=some ⟨v.blk,v.sh,rE w v.blk - v.sh,P.cellsOf v.e,nu P v.blk,v.sh⟩:=by
 unfold qB;rw [if_neg (by omega),if_neg (by omega),show P.globals.size + 1 + j - P.globals.size - 1=j by omega,h];rfl
theorem oH {V:List jS}{b:Nat}{i:uF} (h:qB P w V b=some i) :
  (b < P.globals.size∧i=⟨b,0,rE w b,Gk P w b,b,0⟩)∨(P.globals.size < b∧∃v,V[b - P.globals.size - 1]?=some v∧i=⟨v.blk,v.sh,rE w v.blk - v.sh,P.cellsOf v.e,nu P v.blk,v.sh⟩):=by
 unfold qB at h;split at h
 ·rename_i hb; injection h with h; exact .inl ⟨hb,h.symm⟩
 ·split at h
  ·cases h
  ·rename_i h1 h2;rw [Option.map_eq_some_iff] at h;obtain⟨v,h3,h4⟩:=h;exact .inr ⟨by omega,v,h3,h4.symm⟩
theorem zk (V:List jS):dn (Lc P H V):=by
 refine⟨fun b o hb=>?_,fun b cells e c st hb=>?_,fun c l x cells e c' st ok hm hx hg=>?_,fun b cells e c st ok hb=>?_,fun c l x hm hx=>?_,fun c l hm=>?_,fun c k hk=>?_⟩
 ·show b < P.globals.size + 1 + V.length∧dU b o < P.globals.size + 1 + V.length;rcases rM hb with ⟨h1,rfl⟩ | ⟨h1,v,h2,rfl⟩
  ·exact⟨by omega,by show b < _; omega⟩
  ·have:=(List.getElem?_eq_some_iff.1 h2).1;have:=pJ P v.blk;exact⟨by omega,by show nu P v.blk < _; omega⟩
 ·rcases rM hb with ⟨_,h2⟩ | ⟨h1,v,h2,h3⟩
  ·cases h2
  ·injection h3 with _ _ h3;subst h3;have hc:=pJ P v.blk;have hj:=(List.getElem?_eq_some_iff.1 h2).1;show b∈((oI (fun c=>some (zm P V c)) (P.globals.size + 1)).get (nu P v.blk)).getD [nu P v.blk];rw [jk,if_pos (by omega)];show b∈zm P V (nu P v.blk);unfold zm;rw [List.mem_map];refine⟨b - P.globals.size - 1,List.mem_filter.2 ⟨List.mem_range.2 hj,?_⟩,by omega⟩;unfold Iz;rw [h2];simp
 ·have hm':(oI (fun c=>some (zm P V c)) (P.globals.size + 1)).get c=some l:=hm;rw [jk] at hm';split at hm'
  ·injection hm' with hm';subst hm';unfold zm at hx;rw [List.mem_map] at hx;obtain⟨j,hj,rfl⟩:=hx;have hj2:=(List.mem_filter.1 hj).2;unfold Iz at hj2;split at hj2
   ·rename_i v hv;rw [show j + (P.globals.size + 1)=P.globals.size + 1 + j by omega,si hv] at hg;injection hg with hg;injection hg with _ _ hg;rw [← hg];simpa using hj2
   ·cases hj2
  ·cases hm'
 ·have hc:c≤P.globals.size:=by
   rcases rM hb with ⟨h1,h2⟩ | ⟨h1,v,h2,h3⟩
   ·injection h2 with _ _ h2; omega
   ·injection h3 with _ _ h3; rw [h3]; exact pJ P v.blk
  refine⟨[],0,0,false,?_⟩;show (oI (Ew P V) (P.globals.size + 1 + V.length)).get c=_;rw [jk,if_pos (by omega)];unfold Ew;rw [if_pos hc]
 ·have hm':(oI (fun c=>some (zm P V c)) (P.globals.size + 1)).get c=some l:=hm;rw [jk] at hm';split at hm'
  ·injection hm' with hm';subst hm';unfold zm at hx;rw [List.mem_map] at hx;obtain⟨j,hj,rfl⟩:=hx;have:=List.mem_range.1 (List.mem_filter.1 hj).1;show _ < P.globals.size + 1 + V.length;omega
  ·cases hm'
 ·have hm':(oI (fun c=>some (zm P V c)) (P.globals.size + 1)).get c=some l:=hm;rw [jk] at hm';show c < P.globals.size + 1 + V.length;split at hm'
  ·omega
  ·cases hm'
 ·have hm':(oI (fun _=>some H) (P.globals.size + 1)).get c=some k:=hk;rw [jk] at hm';show c < P.globals.size + 1 + V.length;split at hm'
  ·omega
  ·cases hm'
theorem FR {b:Nat}{C:Array Value}{e:Nat}{fz:Nat × Nat} (h:w.heap[b]?=some (.cells C e fz)):rE w b=C.size:=by unfold rE; rw [h]
theorem we {b:Nat}{o:Obj} (h:w.heap[b]?=some o):b < w.heap.size:=(Array.getElem?_eq_some_iff.1 h).1
theorem NI {V:List jS} (hG:P.globals.size≤w.heap.size) (hH : 1180591620717411303424≤H) (hV:∀v∈V,LM P w H V v) (T:Nat→Prop):jq P (qB P w V) T (Lc P H V) w:=by
 have hfz:∀c,c≤P.globals.size→(Lc P H V).fz.get c=some H:=fun c hc=>by
  show (oI (fun _=>some H) (P.globals.size + 1)).get c=_;rw [jk,if_pos (by omega)]
 refine⟨fun b i hb=>?_,fun b₁ b₂ i₁ i₂ h₁ h₂ he=>?_,fun b o hb hl hT=>?_,fun _ _ _=>trivial,fun g hg=>?_,fun b i hb hc=>?_⟩
 ·rcases oH hb with ⟨h1,rfl⟩ | ⟨h1,v,h2,rfl⟩
  ·show b < _; omega
  ·obtain⟨C,e,fz,h3,_⟩:=(hV v (List.mem_of_getElem? h2)).row;exact we h3
 ·have key:∀b i,qB P w V b=some i→i.cls=nu P i.blk∧i.sh=i.st:=fun b i hb=>by
   rcases oH hb with ⟨h1,rfl⟩ | ⟨h1,v,h2,rfl⟩
   ·exact⟨by show b=nu P b; unfold nu; rw [if_pos h1],rfl⟩
   ·exact⟨rfl,rfl⟩
  obtain⟨k1,k2⟩:=key _ _ h₁;obtain⟨k3,k4⟩:=key _ _ h₂;exact⟨by rw [k1,k3,he],by omega⟩
 ·rcases rM hb with ⟨_,rfl⟩ | ⟨h1,v,h2,rfl⟩
  ·cases hl
  ·obtain⟨C,e',fz,h3,h4,h5,h6⟩:=(hV v (List.mem_of_getElem? h2)).row;have hb':b=P.globals.size + 1 + (b - P.globals.size - 1):=by omega
   refine⟨⟨v.blk,v.sh,rE w v.blk - v.sh,P.cellsOf v.e,nu P v.blk,v.sh⟩,_,?_,h3,?_⟩
   ·rw [hb'];exact pY h2
   ·have hf:=hfz _ (pJ P v.blk);refine .row _ _ _ _ _ _ rfl rfl rfl ?_ h5 h6 (.inr ⟨H,hf,by show fz.2 + v.sh≤H + v.sh; omega⟩) e' (.inr ⟨H,hf,hH⟩);show v.sh + (rE w v.blk - v.sh)=C.size;rw [FR h3];omega
 ·exact⟨_,by unfold qB; rw [if_pos hg],rfl,rfl⟩
 ·rcases oH hb with ⟨h1,rfl⟩ | ⟨h1,v,h2,rfl⟩
  ·rfl
  ·have hc':nu P v.blk=b:=hc;have:=pJ P v.blk;omega
theorem mz (V M:List jS):EI (qB P w V) (qB P w (V ++ M)):=by
 intro b i hb;rcases oH hb with ⟨h1,rfl⟩ | ⟨h1,v,h2,rfl⟩
 ·unfold qB; rw [if_pos h1]
 ·have hj:=(List.getElem?_eq_some_iff.1 h2).1;have h3:(V ++ M)[b - P.globals.size - 1]?=some v:=by rw [List.getElem?_append_left hj]; exact h2
  have hb':b=P.globals.size + 1 + (b - P.globals.size - 1):=by omega
  rw [hb'];exact pY h3
theorem wL (V M:List jS) (β:Nat→Nat):Fw (Lc P H V) (Lc P H (V ++ M)) β β 0 0 0 where
 le:=Nat.le_refl _
 next:=by show P.globals.size + 1 + V.length≤P.globals.size + 1 + (V ++ M).length; rw [List.length_append]; omega
 eq:=fun k hk=>by omega
 new:=fun k h1 h2=>by omega
 prot:=fun b cells e c st hb _=>by
  rcases rM hb with ⟨_,h2⟩ | ⟨h1,v,h2,h3⟩
  ·cases h2
  ·have hj:=(List.getElem?_eq_some_iff.1 h2).1;have h4:(V ++ M)[b - P.globals.size - 1]?=some v:=by rw [List.getElem?_append_left hj]; exact h2
   have hb':b=P.globals.size + 1 + (b - P.globals.size - 1):=by omega
   rw [hb',si h4,h3]
 keep:=fun b cells e st ok k hk=>by omega
 w:=fun c hc hw=>by
  have:(0:Nat).testBit c=true:=hw;rw [Nat.zero_testBit] at this;cases this
theorem LM.mono {V:List jS} (M:List jS) {v:jS} (h:LM P w H V v):LM P w H (V ++ M) v:=by
 obtain⟨C,e,fz,h1,h2,h3,h4⟩:=h.row;exact⟨C,e,fz,h1,h2,h3,h4.mono (mz V M)⟩
structure Ti (P:Program) (w:World) (H:Nat) (V:List jS) (vs cs:List Value) (ps:List PV):Prop where
 ok:∀v∈V,LM P w H V v
 vr:bF (qB P w V) vs cs
 rc:Cs (Lc P H V) (fun _=>0) 0 vs ps
theorem Cs.append {A:AS}{β:Nat→Nat}{n:Nat} : ∀{l l':List Value}{r r':List PV},Cs A β n l r→Cs A β n l' r'→Cs A β n (l ++ l') (r ++ r'):=by
 intro l
 induction l with
 | nil=>intro l' r r' h h'; cases h; exact h'
 | cons v l ih=>intro l' r r' h h'; cases h with | cons _ p _ r h hs=>exact .cons _ _ _ _ h (ih hs h')
theorem Ti.nil {V:List jS} (h:∀v∈V,LM P w H V v):Ti P w H V [] [] []:=⟨h,.nil,.nil⟩
end
def zz (P:Program):List Field→Nat→Nat→Bool
 | [],k,m=>Nat.beq k m
 | f :: l,k,m=>Nat.beq f.offset k && (Nat.ble (k + P.cellsOf f.type) m && zz P l (k + P.cellsOf f.type) m)
def Vt (P:Program) (S:List TypeId) (t:TypeId):Bool:=match P.underlying t with
 | some .bool=>true
 | some (.int _)=>true
 | some .string=>true
 | some (.slice e)=>S.contains e && Nat.ble 1 (P.cellsOf e)
 | some (.struct fs)=>fs.toList.all (fun f=>S.contains f.type) && zz P fs.toList 0 (P.cellsOf t)
 | _=>false
def iM (P:Program):Nat→TypeId→List PV→Prop
 | 0,_,_=>False
 | n + 1,t,ps=>match P.underlying t with
  | some .bool=>∃b,ps=[.sc (.bool b)]
  | some (.int k)=>∃z,ps=[.sc (.int k z)]∧(Lit.int k z).wf=true
  | some .string=>∃s:ByteArray,ps=[.sc (.string s)]∧s.size≤maxLen
  | some (.slice e)=>ps=[.sc (.slice none 0 0)]∨∃ls:List (List PV),ps=[.lit e ls.length ls.flatten]∧ls.length≤maxLen∧∀x∈ls,iM P n e x
  | some (.struct fs)=>∃ls:List (List PV),ps=ls.flatten∧ls.length=fs.toList.length∧∀(j:Nat) f x,fs.toList[j]?=some f→ls[j]?=some x→iM P n f.type x
  | _=>False
structure Di (H:Type) where
 b:DataW H→Nat
 bs:List (DataW H)→Nat
 nil:bs []=0
 cons:∀d l,bs (d :: l)=b d + bs l
 slice:∀l r,b (.slice l r)=bs l + bs r + 1
 agg:∀l,b (.agg l)=bs l + 1
 pos:∀d,1≤b d
 str:∀l,b (.lit (.string l))=l.length + 1
section
variable {P:Program}{w:World}{H:Nat}{D:Type}{enc:TypeId × Value→D}
theorem pG {α β:Type} (f:α→Option β):∀(l:List α) (r:List β),l.mapM f=some r→r.length=l.length∧∀(j:Nat) (a:α) (b:β),l[j]?=some a→r[j]?=some b→f a=some b:=by
 intro l
 induction l with
 | nil=>intro r h; simp at h; subst h; exact⟨rfl,fun j a b h=>by simp at h⟩
 | cons a l ih=>
  intro r h;rw [List.mapM_cons] at h;cases h1:f a with
  | none=>rw [h1] at h; cases h
  | some b=>
   rw [h1] at h;cases h2:l.mapM f with
   | none=>rw [h2] at h; cases h
   | some r'=>
    rw [h2] at h;have h':some (b :: r')=some r:=h;injection h' with h'; subst h';obtain⟨e1,e2⟩:=ih r' h2;refine⟨by simp [e1],fun j x y hx hy=>?_⟩;cases j with
    | zero=>simp at hx hy; subst hx; subst hy; exact h1
    | succ j=>exact e2 j x y (by simpa using hx) (by simpa using hy)
theorem xL {a:Addr}{n:Nat}{r:List Value} (h:w.cells? 0 a n=some r) (hn : 0 < n) :
  ∃C e fz,a.spot=none∧w.heap[a.block]?=some (.cells C e fz)∧a.off + n≤C.size∧r=(C.toList.drop a.off).take n:=by
 unfold World.cells? at h;rw [if_pos (Nat.zero_le _)] at h;obtain⟨h1,h2⟩:=pG _ _ _ h;rw [List.length_range] at h1;have hc:∀i,i < n→∃v,r[i]?=some v∧w.cell? (a.add i)=some v:=fun i hi=>
  ⟨r[i]'(by omega),List.getElem?_eq_getElem (by omega),h2 i i _ (by simp [hi]) (List.getElem?_eq_getElem (by omega))⟩
 obtain⟨v0,_,hv0⟩:=hc 0 hn;have e0:a.add 0=a:=by simp [Addr.add]
 rw [e0] at hv0;unfold World.cell? at hv0;split at hv0
 ·rename_i C e fz hh;split at hv0
  ·cases hv0
  ·rename_i hs;obtain⟨g,o,sp⟩:=a;have hsp:sp=none:=by simpa using hs
   subst hsp;have hcell:∀i,i < n→r[i]?=C[o + i]?∧o + i < C.size:=fun i hi=>by
    obtain⟨v,k1,k2⟩:=hc i hi;rw [ga] at k2;unfold World.cell? at k2;rw [show w.heap[(⟨g,o + i,none⟩ : Addr).block]?=some (.cells C e fz) from hh] at k2;have k3:C[o + i]?=some v:=k2;exact⟨by rw [k1,k3],(Array.getElem?_eq_some_iff.1 k3).1⟩
   refine⟨C,e,fz,rfl,hh,by have:=(hcell (n - 1) (by omega)).2; show o + n≤_; omega,?_⟩;apply List.ext_getElem?;intro i;rw [List.getElem?_take,List.getElem?_drop];split
   ·rename_i hi;rw [(hcell i hi).1,Array.getElem?_toList]
   ·rw [List.getElem?_eq_none (by omega)]
 ·cases hv0
theorem ye (S:List TypeId) (B:Di D) (fuel:Nat) (IH:∀t cs d ps,S.contains t=true→DataW.trod enc P w 0 (fun _=>true) true fuel t cs=some (d,ps)→∀V,(∀v∈V,LM P w H V v)→∃M vs pvs,Ti P w H (V ++ M) vs cs pvs∧iM P fuel t pvs∧aR pvs≤B.b d) :
  ∀(L:List (TypeId × List Value × DataW D × List MemPlace)),(∀y∈L,S.contains y.1=true∧DataW.trod enc P w 0 (fun _=>true) true fuel y.1 y.2.1=some y.2.2)→∀V,(∀v∈V,LM P w H V v)→
   ∃(M:List jS) (vs:List Value) (ls:List (List PV)),Ti P w H (V ++ M) vs (L.flatMap (·.2.1)) ls.flatten∧ls.length=L.length∧(∀(j:Nat) y x,L[j]?=some y→ls[j]?=some x→iM P fuel y.1 x)∧aR ls.flatten≤B.bs (L.map (·.2.2.1)):=by
 intro L
 induction L with
 | nil=>intro _ V hV; exact⟨[],[],[],by rw [List.append_nil]; exact .nil hV,rfl,fun j y x h=>by simp at h,by simp [cH]⟩
 | cons y L ih=>
  intro hL V hV;obtain⟨h1,h2⟩:=hL y List.mem_cons_self;obtain⟨M,vs,pvs,o1,t1,b1⟩:=IH y.1 y.2.1 y.2.2.1 y.2.2.2 h1 h2 V hV;obtain⟨M',vs',ls,o2,l2,t2,b2⟩:=ih (fun z hz=>hL z (List.mem_cons_of_mem _ hz)) (V ++ M) o1.ok;refine⟨M ++ M',vs ++ vs',pvs :: ls,?_,by simp [l2],fun j z x hz hx=>?_,?_⟩
  ·rw [← List.append_assoc,List.flatMap_cons,List.flatten_cons];exact⟨o2.ok,bF.append (VR.mono (mz _ _) o1.vr) o2.vr,Cs.append (o1.rc.mono (wL _ _ _)) o2.rc⟩
  ·cases j with
   | zero=>simp at hz hx; subst hz; subst hx; exact t1
   | succ j=>exact t2 j z x (by simpa using hz) (by simpa using hx)
  ·rw [List.flatten_cons,j7,List.map_cons,B.cons]; omega
theorem Cz {cs:List Value} : ∀(fs:List Field) (k m:Nat),zz P fs k m=true→cs.length=m→(fs.flatMap fun f=>(cs.drop f.offset).take (P.cellsOf f.type))=cs.drop k:=by
 intro fs
 induction fs with
 | nil=>
  intro k m h hm;have:k=m:=Nat.eq_of_beq_eq_true h;rw [List.flatMap_nil,List.drop_of_length_le (by omega)]
 | cons f l ih=>
  intro k m h hm;simp only [zz,Bool.and_eq_true] at h;obtain⟨h1,h2,h3⟩:=h;have h1:=Nat.eq_of_beq_eq_true h1;have h2:=Nat.le_of_ble_eq_true h2;rw [List.flatMap_cons,ih _ _ h3 hm,h1,← List.drop_drop,List.take_append_drop]
theorem Dw {C:List Value}{es:Nat} : ∀(n o:Nat),((List.range n).flatMap fun i=>(C.drop (o + i * es)).take es)=(C.drop o).take (n * es):=by
 intro n
 induction n with
 | zero=>intro o; simp
 | succ n ih=>
  intro o;rw [List.range_succ,List.flatMap_append,ih,List.flatMap_cons,List.flatMap_nil,List.append_nil,Nat.succ_mul,List.take_add,List.drop_drop]
theorem KU {fuel:Nat}{t:TypeId}{cs:List Value}{x:DataW D × List MemPlace} (hu:P.underlying t=some .bool) (h:DataW.trod enc P w 0 (fun _=>true) true (fuel + 1) t cs=some x):∃b,cs=[.bool b]:=by
 unfold DataW.trod at h;rw [hu] at h;split at h<;>simp_all
theorem Oj {fuel:Nat}{t:TypeId}{cs:List Value}{k:IntKind}{x:DataW D × List MemPlace} (hu:P.underlying t=some (.int k)) (h:DataW.trod enc P w 0 (fun _=>true) true (fuel + 1) t cs=some x):∃z,cs=[.int k z]∧(Lit.int k z).wf=true:=by
 unfold DataW.trod at h;rw [hu] at h;split at h<;>simp_all
theorem EB {fuel:Nat}{t:TypeId}{cs:List Value}{x:DataW D × List MemPlace} (hu:P.underlying t=some .string) (h:DataW.trod enc P w 0 (fun _=>true) true (fuel + 1) t cs=some x):∃s:ByteArray,cs=[.string s]∧s.size≤maxLen∧x.1=.lit (.string s.data.toList):=by
 unfold DataW.trod at h;rw [hu] at h;split at h<;>simp_all;rw [← h.2]
theorem Dm {fuel:Nat}{t:TypeId}{cs:List Value}{fs:Array Field}{x:DataW D × List MemPlace} (hu:P.underlying t=some (.struct fs)) (h:DataW.trod enc P w 0 (fun _=>true) true (fuel + 1) t cs=some x) :
  cs.length=P.cellsOf t∧∃xs,(fs.toList.mapM fun f=>DataW.trod enc P w 0 (fun _=>true) true fuel f.type ((cs.drop f.offset).take (P.cellsOf f.type)))=some xs∧x.1=.agg (xs.map (·.1)):=by
 unfold DataW.trod at h;rw [hu] at h;split at h<;>simp_all;obtain⟨_,xs,h1,h2⟩:=h;exact⟨xs,h1,by rw [← h2]⟩
theorem GB {fuel:Nat}{t e:TypeId}{cs:List Value}{x:DataW D × List MemPlace} (hu:P.underlying t=some (.slice e)) (h:DataW.trod enc P w 0 (fun _=>true) true (fuel + 1) t cs=some x) :
  cs=[.slice none 0 0]∨∃a len cap elems rest,cs=[.slice (some a) len cap]∧len≤cap∧cap≤maxLen∧x.1=.slice (elems.map (·.1)) (rest.map (·.1))∧
   ((List.range len).mapM fun i=>(w.cells? 0 (a.add (i * P.cellsOf e)) (P.cellsOf e)).bind (DataW.trod enc P w 0 (fun _=>true) true fuel e))=some elems∧
   ((List.range (cap - len)).mapM fun j=>(w.cells? 0 (a.add ((len + j) * P.cellsOf e)) (P.cellsOf e)).bind (DataW.trod enc P w 0 (fun _=>true) true fuel e))=some rest:=by
 unfold DataW.trod at h;rw [hu] at h;split at h<;>simp_all;obtain⟨⟨h1,h2⟩,h3⟩:=h;rw [Option.bind_eq_some_iff] at h3;obtain⟨elems,e1,e2⟩:=h3;rw [Option.map_eq_some_iff] at e2;obtain⟨rest,e3,e4⟩:=e2;exact⟨_,_,_,⟨rfl,rfl,rfl⟩,h1,h2,elems,rest,by rw [← e4],e1,e3⟩
theorem pW (V:List jS) (v:jS):(V ++ [v])[V.length]?=some v:=by simp
theorem vX (S:List TypeId) (hS:∀t,S.contains t=true→Vt P S t=true) (B:Di D) (hH:∀(b:Nat) (C:Array Value) (e:Nat) (fz:Nat × Nat),w.heap[b]?=some (.cells C e fz)→fz.2≤H) (h0:∃C e fz,w.heap[0]?=some (.cells C e fz)) :
  ∀(fuel:Nat) (t:TypeId) (cs:List Value) (d:DataW D) (ps:List MemPlace),S.contains t=true→DataW.trod enc P w 0 (fun _=>true) true fuel t cs=some (d,ps)→∀V,(∀v∈V,LM P w H V v)→∃M vs pvs,Ti P w H (V ++ M) vs cs pvs∧iM P fuel t pvs∧aR pvs≤B.b d:=by
 intro fuel
 induction fuel with
 | zero=>intro t cs d ps _ h; cases h
 | succ fuel IH=>
  intro t cs d ps ht h V hV;have hty:=hS t ht;unfold Vt at hty;unfold iM;have one:∀(v:Value),ft (qB P w V) v v→NR v=true→Ti P w H (V ++ []) [v] [v] [.sc v]:=fun v h1 h2=>by
   rw [List.append_nil];exact⟨hV,.cons _ _ _ _ h1 .nil,.cons _ _ _ _ (.sc v h2) .nil⟩
  have b1:∀v:Value,Cv v=1→aR [.sc v]≤B.b d:=fun v hv=>by
   have:=B.pos d;rw [cx,cH];show Cv v + 0≤_;omega
  split at hty
  ·rename_i hu;obtain⟨b,rfl⟩:=KU hu h;exact⟨[],_,_,one (.bool b) (.bool b) rfl,⟨b,rfl⟩,b1 _ rfl⟩
  ·rename_i k hu;obtain⟨z,rfl,hz⟩:=Oj hu h;exact⟨[],_,_,one (.int k z) (.int k z) rfl,⟨z,rfl,hz⟩,b1 _ rfl⟩
  ·rename_i hu;obtain⟨s,rfl,hs,hd⟩:=EB hu h;refine⟨[],_,_,one (.string s) (.string s) rfl,⟨s,rfl,hs⟩,?_⟩;have hd:d=.lit (.string s.data.toList):=hd;rw [cx,cH,hd,B.str];exact Nat.le_refl _
  ·rename_i e hu;rw [Bool.and_eq_true] at hty;have hes : 1≤P.cellsOf e:=Nat.le_of_ble_eq_true hty.2;rcases GB hu h with rfl | ⟨a,len,cap,elems,rest,rfl,hlc,hcm,hd,he,hr⟩
   ·exact⟨[],_,_,one _ .nilSlice rfl,.inl rfl,b1 _ rfl⟩
   obtain⟨l1,l2⟩:=pG _ _ _ he;obtain⟨r1,r2⟩:=pG _ _ _ hr;rw [List.length_range] at l1 r1;have hd':d=.slice (elems.map (·.1)) (rest.map (·.1)):=hd;by_cases hcap:cap=0
   ·subst hcap;obtain rfl:len=0:=by omega
    obtain⟨C,e',fz,hC⟩:=h0;have hg:=si (P:=P) (H:=H) (pW V ⟨[],e,0,0⟩);have hφ:=pY (P:=P) (w:=w) (pW V ⟨[],e,0,0⟩);refine⟨[⟨[],e,0,0⟩],[.slice (some ⟨P.globals.size + 1 + V.length,0,none⟩) 0 0],[.lit e 0 []],⟨fun v hv=>?_,?_,?_⟩,.inr ⟨[],rfl,Nat.zero_le _,fun x hx=>by cases hx⟩,?_⟩
    ·rw [List.mem_append,List.mem_singleton] at hv;rcases hv with hv | rfl
     ·exact (hV v hv).mono _
     ·exact⟨C,e',fz,hC,hH _ _ _ _ hC,Nat.zero_le _,.nil⟩
    ·exact .cons _ _ _ _ (.slice _ 0 0 0 0 a _ hφ (Nat.le_refl _) (Nat.le_refl _) (.inl rfl) (by rw [Nat.zero_mul]; exact Nat.zero_le _)) .nil
    ·exact .cons _ _ _ _ (.lit _ 0 0 0 e [] [] _ _ hg ⟨(zk _).lt _ _ hg |>.2,fun k hk=>by omega⟩ (Nat.zero_le _) (Nat.le_refl _) .nil) .nil
    ·have:=B.pos d;rw [cx,cH];show aR [] + 1 + 0≤_;rw [cH];omega
   ·have hk:∀k,k < cap→∃row x,w.cells? 0 (a.add (k * P.cellsOf e)) (P.cellsOf e)=some row∧DataW.trod enc P w 0 (fun _=>true) true fuel e row=some x∧(k < len→elems[k]?=some x):=by
     intro k hk;by_cases hkl:k < len
     ·have hx:elems[k]?=some (elems[k]'(by omega)):=List.getElem?_eq_getElem (by omega);have:=l2 k k _ (by simp [hkl]) hx;rw [Option.bind_eq_some_iff] at this;obtain⟨row,g1,g2⟩:=this;exact⟨row,_,g1,g2,fun _=>hx⟩
     ·have hx:rest[k - len]?=some (rest[k - len]'(by omega)):=List.getElem?_eq_getElem (by omega);have:=r2 (k - len) (k - len) _ (List.getElem?_range (by omega)) hx;rw [Option.bind_eq_some_iff] at this;obtain⟨row,g1,g2⟩:=this;rw [show len + (k - len)=k by omega] at g1;exact⟨row,_,g1,g2,fun hh=>absurd hh hkl⟩
    obtain⟨row0,_,g1,_,_⟩:=hk 0 (by omega);rw [Nat.zero_mul,show a.add 0=a by simp [Addr.add]] at g1;obtain⟨C,e',fz,hsp,hC,_,_⟩:=xL g1 hes;obtain⟨g,o,sp⟩:=a;have hsp':sp=none:=hsp;subst hsp';have hrow:∀k,k < cap→o + k * P.cellsOf e + P.cellsOf e≤C.size∧∃x,DataW.trod enc P w 0 (fun _=>true) true fuel e ((C.toList.drop (o + k * P.cellsOf e)).take (P.cellsOf e))=some x∧(k < len→elems[k]?=some x):=by
     intro k hkc;obtain⟨row,x,g1,g2,g3⟩:=hk k hkc;rw [ga] at g1;obtain⟨C',_,_,_,hC',h4,h5⟩:=xL g1 hes;have:w.heap[g]?=_:=hC';rw [show w.heap[g]?=some (.cells C e' fz) from hC] at this;injection this with this;injection this with this;subst this;exact⟨h4,x,by rw [← h5]; exact g2,g3⟩
    have hsz:o + cap * P.cellsOf e≤C.size:=by
     have:=(hrow (cap - 1) (by omega)).1;have h2:(cap - 1) * P.cellsOf e + P.cellsOf e=cap * P.cellsOf e:=by
      rw [← Nat.succ_mul]; congr 1; omega
     omega
    have hle:len * P.cellsOf e≤cap * P.cellsOf e:=Nat.mul_le_mul_right _ hlc;obtain⟨M,vs,ls,o1,o2,o3,o4⟩:=ye S B fuel IH ((List.range len).map fun k=>(e,(C.toList.drop (o + k * P.cellsOf e)).take (P.cellsOf e),elems.getD k (.nil,[]))) (fun y hy=>by
     rw [List.mem_map] at hy;obtain⟨k,hk',rfl⟩:=hy;have hkl:=List.mem_range.1 hk';obtain⟨_,x,q1,q2⟩:=hrow k (by omega);refine⟨hty.1,?_⟩;rw [q1];simp only [List.getD_eq_getElem?_getD,q2 hkl,Option.getD_some]) V hV
    rw [List.flatMap_map,Dw] at o1;have hlen:vs.length=len * P.cellsOf e:=by
     have:=bF.length o1.vr;rw [this,List.length_take,List.length_drop,Array.length_toList];omega
    have hll:ls.flatten.length=vs.length:=(Cs.len o1.rc).symm;have hl3:ls.length=len:=by rw [o2]; simp
    have hg:=si (P:=P) (H:=H) (pW (V ++ M) ⟨vs,e,g,o⟩);have hφ:=pY (P:=P) (w:=w) (pW (V ++ M) ⟨vs,e,g,o⟩);refine⟨M ++ [⟨vs,e,g,o⟩],[.slice (some ⟨P.globals.size + 1 + (V ++ M).length,0,none⟩) len len],[.lit e len ls.flatten],?_,.inr ⟨ls,by rw [hl3],by omega,fun x hx=>?_⟩,?_⟩
    ·rw [← List.append_assoc];refine⟨fun v hv=>?_,.cons _ _ _ _ (.slice _ 0 len len cap ⟨g,o,none⟩ _ hφ (Nat.le_refl _) hlc (.inr rfl) ?_) .nil,.cons _ _ _ _ (.lit _ 0 len len e ls.flatten vs _ _ hg ⟨(zk _).lt _ _ hg |>.2,fun k hk=>by omega⟩ (by omega) (Nat.le_refl _) ?_) .nil⟩
     ·rw [List.mem_append,List.mem_singleton] at hv;rcases hv with hv | rfl
      ·exact (o1.ok v hv).mono _
      ·refine⟨C,e',fz,hC,hH _ _ _ _ hC,?_,?_⟩
       ·show o + vs.length≤C.size;omega
       ·show bF _ vs ((C.toList.drop o).take vs.length);rw [hlen];exact o1.vr.mono (mz _ _)
     ·show 0 + cap * P.cellsOf e≤rE w g - o;rw [FR hC];omega
     ·rw [List.drop_zero,hll,List.take_length];exact o1.rc.mono (wL _ _ _)
    ·obtain⟨j,hj,rfl⟩:=List.getElem_of_mem hx;have:=o3 j (e,(C.toList.drop (o + j * P.cellsOf e)).take (P.cellsOf e),elems.getD j (.nil,[])) ls[j] (by
      rw [List.getElem?_map,List.getElem?_range (by omega)]; rfl) (List.getElem?_eq_getElem hj)
     exact this
    ·rw [cx,cH,hd',B.slice];show aR ls.flatten + 1 + 0≤_;have:(((List.range len).map fun k=>(e,(C.toList.drop (o + k * P.cellsOf e)).take (P.cellsOf e),elems.getD k (.nil,[]))).map fun y=>y.2.2.1)=elems.map (·.1):=by
      apply List.ext_getElem?;intro j;simp only [List.map_map,List.getElem?_map];by_cases hj:j < len
      ·rw [List.getElem?_range hj];have hx:elems[j]?=some (elems[j]'(by omega)):=List.getElem?_eq_getElem (by omega);simp [hx,List.getD_eq_getElem?_getD]
      ·rw [List.getElem?_eq_none (by simp; omega),List.getElem?_eq_none (by omega)];rfl
     rw [this] at o4;omega
  ·rename_i fs hu;rw [Bool.and_eq_true] at hty;obtain⟨hlen,xs,hm,hd⟩:=Dm hu h;have hd':d=.agg (xs.map (·.1)):=hd;obtain⟨m1,m2⟩:=pG _ _ _ hm;have hfl:=Cz (P:=P) (cs:=cs) fs.toList 0 _ hty.2 hlen;obtain⟨M,vs,ls,o1,o2,o3,o4⟩:=ye S B fuel IH ((List.range fs.toList.length).map fun k=>((fs.toList.getD k default).type,(cs.drop (fs.toList.getD k default).offset).take (P.cellsOf (fs.toList.getD k default).type),xs.getD k (.nil,[]))) (fun y hy=>by
    rw [List.mem_map] at hy;obtain⟨k,hk',rfl⟩:=hy;have hkl:=List.mem_range.1 hk';have hf:fs.toList[k]?=some (fs.toList[k]'hkl):=List.getElem?_eq_getElem hkl;have hx:xs[k]?=some (xs[k]'(by omega)):=List.getElem?_eq_getElem (by omega);have hfd:fs.toList.getD k default=fs.toList[k]'hkl:=by rw [List.getD_eq_getElem?_getD,hf]; rfl
    have hxd:xs.getD k (.nil,[])=xs[k]'(by omega):=by rw [List.getD_eq_getElem?_getD,hx]; rfl
    simp only [hfd,hxd];exact⟨List.all_eq_true.1 hty.1 _ (List.getElem_mem hkl),m2 k _ _ hf hx⟩) V hV
   have hrows:(((List.range fs.toList.length).map fun k=>((fs.toList.getD k default).type,(cs.drop (fs.toList.getD k default).offset).take (P.cellsOf (fs.toList.getD k default).type),xs.getD k (.nil,[]))).flatMap fun y=>y.2.1)=cs:=by
    rw [List.flatMap_map];have e1:((List.range fs.toList.length).flatMap fun k=>(cs.drop (fs.toList.getD k default).offset).take (P.cellsOf (fs.toList.getD k default).type))=fs.toList.flatMap fun f=>(cs.drop f.offset).take (P.cellsOf f.type):=by
     have e2:(List.range fs.toList.length).map (fun k=>fs.toList.getD k default)=fs.toList:=by
      apply List.ext_getElem?;intro j;rw [List.getElem?_map];by_cases hj:j < fs.toList.length
      ·rw [List.getElem?_range hj,List.getElem?_eq_getElem hj];show some (fs.toList.getD j default)=some fs.toList[j];rw [List.getD_eq_getElem?_getD,List.getElem?_eq_getElem hj];rfl
      ·rw [List.getElem?_eq_none (by simp; simpa using hj),List.getElem?_eq_none (by omega)];rfl
     conv=>rhs; rw [← e2,List.flatMap_map]
    rw [e1,hfl,List.drop_zero]
   rw [hrows] at o1;refine⟨M,vs,ls.flatten,o1,⟨ls,rfl,by rw [o2]; simp,fun j f x hf hx=>?_⟩,?_⟩
   ·have hj:=(List.getElem?_eq_some_iff.1 hf).1;have:=o3 j ((fs.toList.getD j default).type,(cs.drop (fs.toList.getD j default).offset).take (P.cellsOf (fs.toList.getD j default).type),xs.getD j (.nil,[])) x (by
     rw [List.getElem?_map,List.getElem?_range hj]; rfl) hx
    rw [List.getD_eq_getElem?_getD,hf] at this;exact this
   ·have e3:(((List.range fs.toList.length).map fun k=>((fs.toList.getD k default).type,(cs.drop (fs.toList.getD k default).offset).take (P.cellsOf (fs.toList.getD k default).type),xs.getD k (.nil,[]))).map fun y=>y.2.2.1)=xs.map (·.1):=by
     apply List.ext_getElem?;intro j;simp only [List.map_map,List.getElem?_map];by_cases hj:j < fs.toList.length
     ·rw [List.getElem?_range hj];have hx:xs[j]?=some (xs[j]'(by omega)):=List.getElem?_eq_getElem (by omega);simp [hx,List.getD_eq_getElem?_getD]
     ·rw [List.getElem?_eq_none (by simp; simpa using hj),List.getElem?_eq_none (by omega)];rfl
    rw [e3] at o4;rw [hd',B.agg];omega
  ·cases hty
end
end Go.PE
