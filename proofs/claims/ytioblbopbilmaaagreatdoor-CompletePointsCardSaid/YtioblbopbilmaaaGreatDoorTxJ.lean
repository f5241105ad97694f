/- What functions of the program and of the reference compute, on values. No statement is proved here. -/
import Derived.Test.YtioblbopbilmaaaGreatDoorTxG
import Derived.Test.YtioblbopbilmaaaGreatDoorTxI
set_option linter.all false
open Nat renaming reduceEqDiff → qA, reduceAdd → qB, reduceLeDiff → qC, reduceLT → qD, reduceBEq → qE, reduceMul → qF, reduceSub → qG
namespace Go.Proofs.YtioblbopbilmaaaGreatDoor
open Go Go.EvL Go.PE Go.Mir
variable {ext:aw}
set_option maxRecDepth 3000
set_option maxHeartbeats 3000000
def Q4:List PV→Option (List UInt8)
 | [.sc (.string b)]=>some b.data.toList
 | _=>none
theorem J2 {args:List PV}{l:List UInt8} (h:Q4 args=some l):args=[sv l]:=by
 unfold Q4 at h;split at h
 ·injection h with h;subst h;rfl
 ·cases h
def Ho (B:aw):aw:=fun g args s=>if g=33 then (match Q4 args with
 | some l=>if l.length < 1000000000 then some (.sc (.bool (dG l)),s) else B g args s
 | none=>B g args s) else B g args s
theorem M5 {A:AS}{β:Nat→Nat}{n:Nat} : ∀(vs0 vs:List Value),Rs A β n vs (vs0.map .sc)→vs=vs0
 | [],vs,h=>by cases h; rfl
 | v :: l,vs,h=>by
  cases h with
  | cons a b _ _ h1 h2=>rw [(R1.sc h1).1,M5 l _ h2]
theorem Oy {g:Nat}{args:List PV}{vs0:List Value}{u:Value}{s:PS} (hb:∃fn c,Tryz.prog.funcs[g]?=some fn∧fn.body=some c) (ha:args=vs0.map .sc) (hp:vs0.all (plain 50)=true) (hu:∀φ,dE φ u u) (hk:wQ u=true)
  (hc:∀w:World,Calls Tryz.prog g vs0.toArray w fun e w'=>e=.returned u∧Go.RowKit.Below w.heap.size w w') {q:PV}{s':PS}{pu:Nat→Bool} (hq:q=.sc u) (hs':s'=s):(∃fn c,Tryz.prog.funcs[g]?=some fn∧fn.body=some c)∧Kp s s'∧
  ∀(A:AS) (β:Nat→Nat) (vs:List Value),bE A→RS A β s→Rs A β s.n vs args→∃u A' β',cQ Tryz.prog g vs.toArray A (.ret u) A'∧Fw A A' β β' s.n s'.n s'.w∧RS A' β' s'∧R1 A' β' s'.n u q∧
  (pu g=true→∀c,c < A.next→A'.w.testBit c=true→A.w.testBit c=true):=by
 subst hq; subst hs'; subst ha;refine⟨hb,.refl _,fun A β vs hi hs hr=>?_⟩;obtain rfl:=M5 _ _ hr;refine⟨u,A,β,⟨.refl hi,fun φ T w args' hv hrel _ _=>?_⟩,.refl _ _ _ _,hs,.cl _ _ (.sc _ hk),fun _ c _ h=>h⟩;have ha2:args'=vs.toArray:=by
  have:=pd (cN φ 50) _ _ hp hv;rw [← this]
 subst ha2;refine (hc w).mono ?_;rintro e w' ⟨rfl,bel⟩;exact⟨φ,bG.below hrel rfl rfl rfl bel,.ret _ _ (hu φ)⟩
theorem IV {B:aw}{pu:Nat→Bool} (hX:bM Tryz.prog pu B):bM Tryz.prog pu (Ho B):=by
 intro g args s q s' h;unfold Ho at h;split at h
 ·rename_i hg;subst hg;split at h
  ·rename_i l ha;obtain rfl:=J2 ha;split at h
   ·rename_i hl;injection h with h;injection h with e1 e2;exact Oy (vs0:=[.string ⟨l.toArray⟩]) ⟨_,_,rfl,rfl⟩ rfl rfl (fun φ=>.bool _) rfl (fun w=>FO l w hl) e1.symm e2.symm
   ·exact hX 33 _ s q s' h
  ·exact hX 33 args s q s' h
 ·exact hX g args s q s' h
theorem vj (B:aw):EK (Ho B):=by
 intro l s hl;unfold Ho;rw [if_pos rfl];exact if_pos hl
theorem QP {B:aw} (h:EK B):EK (Bs B):=fun l s hl=>by
 unfold Bs; exact h l s hl
def EP:aw:=Bs (Ho (OP 4))
theorem U5:WC EP:=fun s=>rfl
theorem Sj:JW EP:=zC _
theorem RD:EK EP:=QP (vj _)
theorem Bl (l:List UInt8) (z:Int) (s:PS):gp Tryz.prog Γ EP 3 [sv l,.sc (.int .i64 z)] s=some (.sc (.bool true),s):=Iz (Ah Sj RD U5 l z s)
end Go.Proofs.YtioblbopbilmaaaGreatDoor
