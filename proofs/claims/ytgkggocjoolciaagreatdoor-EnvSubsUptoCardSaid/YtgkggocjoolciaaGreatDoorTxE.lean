/- What functions of the program and of the reference compute, on values. No statement is proved here. -/
import Derived.Test.YtgkggocjoolciaaGreatDoorTxD
import Derived.Laws.Strings
set_option linter.all false
namespace Go.Proofs.YtgkggocjoolciaaGreatDoor
open Go Go.EvL Go.PE Go.Mir
variable {ext:aq}{b:ByteArray}
theorem aj {a c:Nat} (h:(a == c)=false):a≠c:=beq_eq_false_iff_ne.1 h
theorem bF {p:Nat} (hp:p≤6) (s:PS):Pc ext 263 [iN p] (.sc (.bool (cN p))) s:=by
 have hc:p=0∨p=1∨p=2∨p=3∨p=4∨p=5∨p=6:=om;refine q1 Pj 2 ?_;unfold Pj;rcases hc with rfl | rfl | rfl | rfl | rfl | rfl | rfl
 ·exact aQ
 ·exact aQ
 ·exact aQ
 ·exact aQ
 ·exact aQ
 ·exact aQ
 ·exact aQ
theorem rj {p:Nat} (hp:p≤6) (s:PS):Pc ext 325 [iN p] (.sc (.int .i64 (rQ p))) s:=by
 have hc:p=0∨p=1∨p=2∨p=3∨p=4∨p=5∨p=6:=om;refine q1 Ru 2 ?_;unfold Ru;rcases hc with rfl | rfl | rfl | rfl | rfl | rfl | rfl
 ·exact aQ
 ·exact aQ
 ·exact aQ
 ·exact aQ
 ·exact aQ
 ·exact aQ
 ·exact aQ
theorem rf {p:Nat} (hp:p≤6) (s:PS):Pc ext 282 [iN p] (.sc (.int .i64 (dV p))) s:=by
 have hc:p=0∨p=1∨p=2∨p=3∨p=4∨p=5∨p=6:=om;refine q1 Pv 2 ?_;unfold Pv;rcases hc with rfl | rfl | rfl | rfl | rfl | rfl | rfl
 ·exact aQ
 ·exact aQ
 ·exact aQ
 ·exact aQ
 ·exact aQ
 ·exact aQ
 ·exact aQ
theorem jk {c p:Nat} (hp:p≤6) (s:PS):Pc ext 280 [.sc (.int .u8 (c:Int)),iN p] (.sc (.bool (bX c p))) s:=by
 have hc:p=0∨p=1∨p=2∨p=3∨p=4∨p=5∨p=6:=om;refine q1 PK 4 ?_;unfold PK;rcases hc with rfl | rfl | rfl | rfl | rfl | rfl | rfl
 ·cases c1:(c == 36) with
  | false=>
   have c1p:=aj c1;cases c2:(c == 96) with
   | false=>
    have c2p:=aj c2;cases c3:(c == 92) with
    | false=>
     have c3p:=aj c3;cases c4:(c == 34) with
     | false=>
      have c4p:=aj c4;cases c5:(c == 125) with
      | false=>
       have c5p:=aj c5;exact jK @bX.eq_1 c1 c2 c3 c4 c5
      | true=>
       have c5p:=eq_of_beq c5;exact jK @bX.eq_1 c1 c2 c3 c4 c5
     | true=>
      have c4p:=eq_of_beq c4;cases c6:(c == 125) with
      | false=>
       have c6p:=aj c6;exact jK @bX.eq_1 c1 c2 c3 c4 c6
      | true=>
       have c6p:=eq_of_beq c6;exact jK @bX.eq_1 c1 c2 c3 c4 c6
    | true=>
     have c3p:=eq_of_beq c3;exact nI @bX.eq_1 c1 c2 c3
   | true=>
    have c2p:=eq_of_beq c2;exact lR @bX.eq_1 c1 c2
  | true=>
   have c1p:=eq_of_beq c1;exact l9 @bX.eq_1 c1
 ·cases c1:(c == 36) with
  | false=>
   have c1p:=aj c1;cases c2:(c == 96) with
   | false=>
    have c2p:=aj c2;cases c3:(c == 92) with
    | false=>
     have c3p:=aj c3;cases c4:(c == 34) with
     | false=>
      have c4p:=aj c4;cases c5:(c == 125) with
      | false=>
       have c5p:=aj c5;exact jK @bX.eq_1 c1 c2 c3 c4 c5
      | true=>
       have c5p:=eq_of_beq c5;exact jK @bX.eq_1 c1 c2 c3 c4 c5
     | true=>
      have c4p:=eq_of_beq c4;cases c6:(c == 125) with
      | false=>
       have c6p:=aj c6;exact jK @bX.eq_1 c1 c2 c3 c4 c6
      | true=>
       have c6p:=eq_of_beq c6;exact jK @bX.eq_1 c1 c2 c3 c4 c6
    | true=>
     have c3p:=eq_of_beq c3;exact nI @bX.eq_1 c1 c2 c3
   | true=>
    have c2p:=eq_of_beq c2;exact lR @bX.eq_1 c1 c2
  | true=>
   have c1p:=eq_of_beq c1;exact l9 @bX.eq_1 c1
 ·cases c1:(c == 36) with
  | false=>
   have c1p:=aj c1;cases c2:(c == 96) with
   | false=>
    have c2p:=aj c2;cases c3:(c == 92) with
    | false=>
     have c3p:=aj c3;cases c4:(c == 34) with
     | false=>
      have c4p:=aj c4;cases c5:(c == 125) with
      | false=>
       have c5p:=aj c5;exact jK @bX.eq_1 c1 c2 c3 c4 c5
      | true=>
       have c5p:=eq_of_beq c5;exact jK @bX.eq_1 c1 c2 c3 c4 c5
     | true=>
      have c4p:=eq_of_beq c4;exact tg @bX.eq_1 c1 c2 c3 c4
    | true=>
     have c3p:=eq_of_beq c3;exact nI @bX.eq_1 c1 c2 c3
   | true=>
    have c2p:=eq_of_beq c2;exact lR @bX.eq_1 c1 c2
  | true=>
   have c1p:=eq_of_beq c1;exact l9 @bX.eq_1 c1
 ·cases c1:(c == 36) with
  | false=>
   have c1p:=aj c1;cases c2:(c == 96) with
   | false=>
    have c2p:=aj c2;cases c3:(c == 92) with
    | false=>
     have c3p:=aj c3;cases c4:(c == 34) with
     | false=>
      have c4p:=aj c4;cases c5:(c == 125) with
      | false=>
       have c5p:=aj c5;exact jK @bX.eq_1 c1 c2 c3 c4 c5
      | true=>
       have c5p:=eq_of_beq c5;exact jK @bX.eq_1 c1 c2 c3 c4 c5
     | true=>
      have c4p:=eq_of_beq c4;exact tg @bX.eq_1 c1 c2 c3 c4
    | true=>
     have c3p:=eq_of_beq c3;exact nI @bX.eq_1 c1 c2 c3
   | true=>
    have c2p:=eq_of_beq c2;exact lR @bX.eq_1 c1 c2
  | true=>
   have c1p:=eq_of_beq c1;exact l9 @bX.eq_1 c1
 ·cases c1:(c == 36) with
  | false=>
   have c1p:=aj c1;cases c2:(c == 96) with
   | false=>
    have c2p:=aj c2;cases c3:(c == 92) with
    | false=>
     have c3p:=aj c3;cases c4:(c == 34) with
     | false=>
      have c4p:=aj c4;cases c5:(c == 125) with
      | false=>
       have c5p:=aj c5;exact jK @bX.eq_1 c1 c2 c3 c4 c5
      | true=>
       have c5p:=eq_of_beq c5;exact jK @bX.eq_1 c1 c2 c3 c4 c5
     | true=>
      have c4p:=eq_of_beq c4;cases c6:(c == 125) with
      | false=>
       have c6p:=aj c6;exact jK @bX.eq_1 c1 c2 c3 c4 c6
      | true=>
       have c6p:=eq_of_beq c6;exact jK @bX.eq_1 c1 c2 c3 c4 c6
    | true=>
     have c3p:=eq_of_beq c3;exact nI @bX.eq_1 c1 c2 c3
   | true=>
    have c2p:=eq_of_beq c2;exact lR @bX.eq_1 c1 c2
  | true=>
   have c1p:=eq_of_beq c1;exact l9 @bX.eq_1 c1
 ·cases c1:(c == 36) with
  | false=>
   have c1p:=aj c1;cases c2:(c == 96) with
   | false=>
    have c2p:=aj c2;cases c3:(c == 92) with
    | false=>
     have c3p:=aj c3;cases c4:(c == 34) with
     | false=>
      have c4p:=aj c4;cases c5:(c == 125) with
      | false=>
       have c5p:=aj c5;exact jK @bX.eq_1 c1 c2 c3 c4 c5
      | true=>
       have c5p:=eq_of_beq c5;exact jK @bX.eq_1 c1 c2 c3 c4 c5
     | true=>
      have c4p:=eq_of_beq c4;cases c6:(c == 125) with
      | false=>
       have c6p:=aj c6;exact jK @bX.eq_1 c1 c2 c3 c4 c6
      | true=>
       have c6p:=eq_of_beq c6;exact jK @bX.eq_1 c1 c2 c3 c4 c6
    | true=>
     have c3p:=eq_of_beq c3;exact nI @bX.eq_1 c1 c2 c3
   | true=>
    have c2p:=eq_of_beq c2;exact lR @bX.eq_1 c1 c2
  | true=>
   have c1p:=eq_of_beq c1;exact l9 @bX.eq_1 c1
 ·cases c1:(c == 36) with
  | false=>
   have c1p:=aj c1;cases c2:(c == 96) with
   | false=>
    have c2p:=aj c2;cases c3:(c == 92) with
    | false=>
     have c3p:=aj c3;cases c4:(c == 34) with
     | false=>
      have c4p:=aj c4;cases c5:(c == 125) with
      | false=>
       have c5p:=aj c5;exact jK @bX.eq_1 c1 c2 c3 c4 c5
      | true=>
       have c5p:=eq_of_beq c5;exact jK @bX.eq_1 c1 c2 c3 c4 c5
     | true=>
      have c4p:=eq_of_beq c4;cases c6:(c == 125) with
      | false=>
       have c6p:=aj c6;exact jK @bX.eq_1 c1 c2 c3 c4 c6
      | true=>
       have c6p:=eq_of_beq c6;exact jK @bX.eq_1 c1 c2 c3 c4 c6
    | true=>
     have c3p:=eq_of_beq c3;exact nI @bX.eq_1 c1 c2 c3
   | true=>
    have c2p:=eq_of_beq c2;exact lR @bX.eq_1 c1 c2
  | true=>
   have c1p:=eq_of_beq c1;exact l9 @bX.eq_1 c1
theorem qA {i o p:Nat} (hp:p≤6) (hl:i < b.data.toList.length) (s:PS):Pc ext 275 [.sc (.string b),iN i,iN p,iN o] (.sc (.bool (fg (bt b.data.toList i) p o))) s:=by
 have hc:p=0∨p=1∨p=2∨p=3∨p=4∨p=5∨p=6:=om;refine q1 PY 8 ?_;unfold PY;rcases hc with rfl | rfl | rfl | rfl | rfl | rfl | rfl
 ·exact aX @fg.eq_1
 ·have n0:i < b.data.toList.length:=om;exact l9 @fg.eq_1 n0
 ·have n0:i < b.data.toList.length:=om;exact l9 @fg.eq_1 n0
 ·have n0:i < b.data.toList.length:=om;exact l9 @fg.eq_1 n0
 ·cases c1:(bt b.data.toList i == 41) with
  | false=>
   have c1p:=aj c1;have n0:i < b.data.toList.length:=om;exact lR @fg.eq_1 c1 n0
  | true=>
   have c1p:=eq_of_beq c1;have n0:i < b.data.toList.length:=om;exact lR @fg.eq_1 c1 n0
 ·exact aX @fg.eq_1
 ·have n0:i < b.data.toList.length:=om;exact l9 @fg.eq_1 n0
end Go.Proofs.YtgkggocjoolciaaGreatDoor
namespace Go.PE
open Go Go.EvL
section
variable {P:Program}{Γ:Nat→Option fJ}{ext:aq}
theorem Ko {g r r2 r3:Nat}{fn:fJ}{args:List PV}{s:PS}{u v w:Value} (hg:Γ g=some fn) (hl:args.length≤fn.nt) (hr:fn.res=[.tmp r,.tmp r2,.tmp r3]) (hk:fn.keep=false) (h:Er (fun f' s'=>s'=⟨s.h,s.n,s.n⟩∧f' r=.sc u∧f' r2=.sc v∧f' r3=.sc w) (aN P Γ ext fn.body (br args 0) ⟨s.h,s.n,s.n⟩)):aD P Γ ext g args s=some (.tup [.sc u,.sc v,.sc w],s):=by
 refine ir hg hl h ?_;rintro f s' ⟨rfl,h,h2,h3⟩;exact fM (vs:=[.sc u,.sc v,.sc w]) hk (by rw [hr]; simp only [ii,Option.map_some,h,h2,h3]) (Nat.le_refl _) rfl
end
end Go.PE
namespace Go.Proofs.YtgkggocjoolciaaGreatDoor
open Go Go.EvL Go.PE Go.Mir
variable {ext:aq}{b:ByteArray}
theorem gG (hb:b.data.toList.length < 4611686018427387904) {a:Nat} (hl:a < b.data.toList.length) (s:PS):Pc ext 332 [.sc (.string b),iN a] (.tup [.sc (.int .i64 (lj b.data.toList a).1),.sc (.bool (lj b.data.toList a).2.1),.sc (.int .i64 ((lj b.data.toList a).2.2:Int))]) s:=by
 refine Ko (fn:=O8) (r:=4) (r2:=5) (r3:=6) (by rfl) (by simp [O8]) (by rfl) (by rfl) ?_;unfold O8;have e0:decide (b.data.toList.length≤a)=false:=df;cases c1:(bt b.data.toList a == 58) with
 | false=>
  have c1p:=aj c1;cases c2:(bt b.data.toList a == 45) with
  | false=>
   have c2p:=aj c2;cases c3:(bt b.data.toList a == 61) with
   | false=>
    have c3p:=aj c3;cases c4:(bt b.data.toList a == 63) with
    | false=>
     have c4p:=aj c4;cases c5:(bt b.data.toList a == 43) with
     | false=>
      have c5p:=aj c5;cases c6:(bt b.data.toList a == 37) with
      | false=>
       have c6p:=aj c6;cases c7:(bt b.data.toList a == 35) with
       | false=>
        have c7p:=aj c7;have n0:a < b.data.toList.length:=om;have n1:a≤a:=om;simp -implicitDefEqProofs (disch:=omega) only [ZS,seval,ZX,lj,sk,e0,c1,c2,c3,c4,c5,c6,c7,n0]
        all_goals first | rfl | exact⟨rfl,rfl,rfl⟩
       | true=>
        have c7p:=eq_of_beq c7;cases c8:decide (a + 1 < b.data.toList.length) with
        | false=>
         have c8p:=of_decide_eq_false c8;have n0:a < b.data.toList.length:=om;have n1:a≤a:=om;simp -implicitDefEqProofs (disch:=omega) only [ZS,seval,ZX,lj,sk,e0,c1,c2,c3,c4,c5,c6,c7,c8,n0]
         all_goals first | rfl | exact⟨rfl,rfl,rfl⟩
        | true=>
         have c8p:=of_decide_eq_true c8;cases c9:(bt b.data.toList (a + 1) == 35) with
         | false=>
          have c9p:=aj c9;have n0:a < b.data.toList.length:=om;have n1:a≤a:=om;have n2:a + 1 < b.data.toList.length:=om;simp -implicitDefEqProofs (disch:=omega) only [ZS,seval,ZX,lj,sk,e0,c1,c2,c3,c4,c5,c6,c7,c9,n0,n2]
          all_goals first | rfl | exact⟨rfl,rfl,rfl⟩
         | true=>
          have c9p:=eq_of_beq c9;have n0:a < b.data.toList.length:=om;have n1:a≤a:=om;have n2:a + 1 < b.data.toList.length:=om;simp -implicitDefEqProofs (disch:=omega) only [ZS,seval,ZX,lj,sk,e0,c1,c2,c3,c4,c5,c6,c7,c9,n0,n2]
          all_goals first | rfl | exact⟨rfl,rfl,rfl⟩
      | true=>
       have c6p:=eq_of_beq c6;cases c10:decide (a + 1 < b.data.toList.length) with
       | false=>
        have c10p:=of_decide_eq_false c10;have n0:a < b.data.toList.length:=om;have n1:a≤a:=om;simp -implicitDefEqProofs (disch:=omega) only [ZS,seval,ZX,lj,sk,e0,c1,c2,c3,c4,c5,c6,c10,n0]
        all_goals first | rfl | exact⟨rfl,rfl,rfl⟩
       | true=>
        have c10p:=of_decide_eq_true c10;cases c11:(bt b.data.toList (a + 1) == 37) with
        | false=>
         have c11p:=aj c11;have n0:a < b.data.toList.length:=om;have n1:a≤a:=om;have n2:a + 1 < b.data.toList.length:=om;simp -implicitDefEqProofs (disch:=omega) only [ZS,seval,ZX,lj,sk,e0,c1,c2,c3,c4,c5,c6,c11,n0,n2]
         all_goals first | rfl | exact⟨rfl,rfl,rfl⟩
        | true=>
         have c11p:=eq_of_beq c11;have n0:a < b.data.toList.length:=om;have n1:a≤a:=om;have n2:a + 1 < b.data.toList.length:=om;simp -implicitDefEqProofs (disch:=omega) only [ZS,seval,ZX,lj,sk,e0,c1,c2,c3,c4,c5,c6,c11,n0,n2]
         all_goals first | rfl | exact⟨rfl,rfl,rfl⟩
     | true=>
      have c5p:=eq_of_beq c5;have n0:a < b.data.toList.length:=om;have n1:a≤a:=om;simp -implicitDefEqProofs (disch:=omega) only [ZS,seval,lj,sk,e0,c1,c2,c3,c4,c5,n0]
      all_goals first | rfl | exact⟨rfl,rfl,rfl⟩
    | true=>
     have c4p:=eq_of_beq c4;have n0:a < b.data.toList.length:=om;have n1:a≤a:=om;simp -implicitDefEqProofs (disch:=omega) only [ZS,seval,lj,sk,e0,c1,c2,c3,c4,n0]
     all_goals first | rfl | exact⟨rfl,rfl,rfl⟩
   | true=>
    have c3p:=eq_of_beq c3;have n0:a < b.data.toList.length:=om;have n1:a≤a:=om;simp -implicitDefEqProofs (disch:=omega) only [ZS,seval,lj,sk,e0,c1,c2,c3,n0]
    all_goals first | rfl | exact⟨rfl,rfl,rfl⟩
  | true=>
   have c2p:=eq_of_beq c2;have n0:a < b.data.toList.length:=om;have n1:a≤a:=om;simp -implicitDefEqProofs (disch:=omega) only [ZS,seval,lj,sk,e0,c1,c2,n0]
   all_goals first | rfl | exact⟨rfl,rfl,rfl⟩
 | true=>
  have c1p:=eq_of_beq c1;cases c12:decide (b.data.toList.length≤a + 1) with
  | false=>
   have c12p:=of_decide_eq_false c12;cases c13:(bt b.data.toList (a + 1) == 45) with
   | false=>
    have c13p:=aj c13;cases c14:(bt b.data.toList (a + 1) == 61) with
    | false=>
     have c14p:=aj c14;cases c15:(bt b.data.toList (a + 1) == 63) with
     | false=>
      have c15p:=aj c15;cases c16:(bt b.data.toList (a + 1) == 43) with
      | false=>
       have c16p:=aj c16;have n0:a < b.data.toList.length:=om;have n1:a≤a + 1:=om;have n2:a + 1 < b.data.toList.length:=om;simp -implicitDefEqProofs (disch:=omega) only [ZS,seval,lj,Bc,c1,c12,c13,c14,c15,c16,n0,n2]
       all_goals first | rfl | exact⟨rfl,rfl,rfl⟩
      | true=>
       have c16p:=eq_of_beq c16;have n0:a < b.data.toList.length:=om;have n1:a≤a + 1:=om;have n2:a + 1 < b.data.toList.length:=om;simp -implicitDefEqProofs (disch:=omega) only [ZS,seval,lj,Bc,c1,c12,c13,c14,c15,c16,n0,n2]
       all_goals first | rfl | exact⟨rfl,rfl,rfl⟩
     | true=>
      have c15p:=eq_of_beq c15;have n0:a < b.data.toList.length:=om;have n1:a≤a + 1:=om;have n2:a + 1 < b.data.toList.length:=om;simp -implicitDefEqProofs (disch:=omega) only [ZS,seval,lj,Bc,c1,c12,c13,c14,c15,n0,n2]
      all_goals first | rfl | exact⟨rfl,rfl,rfl⟩
    | true=>
     have c14p:=eq_of_beq c14;have n0:a < b.data.toList.length:=om;have n1:a≤a + 1:=om;have n2:a + 1 < b.data.toList.length:=om;simp -implicitDefEqProofs (disch:=omega) only [ZS,seval,lj,Bc,c1,c12,c13,c14,n0,n2]
     all_goals first | rfl | exact⟨rfl,rfl,rfl⟩
   | true=>
    have c13p:=eq_of_beq c13;have n0:a < b.data.toList.length:=om;have n1:a≤a + 1:=om;have n2:a + 1 < b.data.toList.length:=om;simp -implicitDefEqProofs (disch:=omega) only [ZS,seval,lj,Bc,c1,c12,c13,n0,n2]
    all_goals first | rfl | exact⟨rfl,rfl,rfl⟩
  | true=>
   have c12p:=of_decide_eq_true c12;have n0:a < b.data.toList.length:=om;simp -implicitDefEqProofs (disch:=omega) only [ZS,seval,lj,Bc,c1,c12,n0]
   all_goals first | rfl | exact⟨rfl,rfl,rfl⟩
theorem Ih (o:Int) (s:PS):Pc ext 281 [.sc (.int .i64 o)] (.sc (.string ⟨⟨j9 o⟩⟩)) s:=by
 refine q1 S0 2 ?_;unfold S0;cases c1:(o == 1) with
 | false=>
  cases c2:(o == 2) with
  | false=>
   cases c3:(o == 3) with
   | false=>
    cases c4:(o == 4) with
    | false=>
     cases c5:(o == 6) with
     | false=>
      cases c6:(o == 7) with
      | false=>
       cases c7:(o == 8) with
       | false=>
        cases c8:(o == 9) with
        | false=>
         exact wF @j9.eq_1 c1 c2 c3 c4 c5 c6 c7 c8
        | true=>
         exact wF @j9.eq_1 c1 c2 c3 c4 c5 c6 c7 c8
       | true=>
        exact vY @j9.eq_1 c1 c2 c3 c4 c5 c6 c7
      | true=>
       exact tD @j9.eq_1 c1 c2 c3 c4 c5 c6
     | true=>
      exact jK @j9.eq_1 c1 c2 c3 c4 c5
    | true=>
     exact tg @j9.eq_1 c1 c2 c3 c4
   | true=>
    exact nI @j9.eq_1 c1 c2 c3
  | true=>
   exact lR @j9.eq_1 c1 c2
 | true=>
  exact l9 @j9.eq_1 c1
theorem mM.le {l:List UInt8}{i j:Nat} (h:mM l i j):i≤l.length→j≤l.length:=by
 induction h with
 | stop h=>exact id
 | step h k ih=>intro _; have:=gm h; exact ih om
theorem Mj (hb:b.data.toList.length < 4611686018427387904) {p:Nat} (s:PS) {i j:Nat} (h:mM b.data.toList i j):i≤b.data.toList.length→∀f,f 0=.sc (.string b)→f 2=iN p→f 7=iN i→Er (fun f' s'=>s'=s∧f' 6=.sc (.bool (decide (b.data.toList.length≤j) || bt b.data.toList j == 47 || (p == 1 && bt b.data.toList j == 125)))) (LP Tryz.prog Γ ext 0 nN sL f s):=by
 induction h with
 | @stop i h=>
  intro hi f h0 h2 h7;have hj:=fun s=>gh (ext:=ext) hb (i:=i) om s;refine ad fun L hL=>?_;cases c1:decide (b.data.toList.length≤i) with
  | true=>exact tD @nN.eq_1 @sL.eq_1 h0 h7 hj h c1
  | false=>
   have hl:i < b.data.toList.length:=by have:=of_decide_eq_false c1; omega
   cases c2:bt b.data.toList i == 47 with
   | true=>exact wF @nN.eq_1 @sL.eq_1 h0 h7 hj h c1 hl c2
   | false=>
    cases c3:p == 1 with
    | true=>exact nq @nN.eq_1 @sL.eq_1 h0 h2 h7 hj h c1 hl c2 c3 tv
    | false=>exact nq @nN.eq_1 @sL.eq_1 h0 h2 h7 hj h c1 hl c2 c3 tv
 | @step i j h k ih=>
  intro hi f h0 h2 h7;have hl:=gm h;have hj:=fun s=>gh (ext:=ext) hb (i:=i) om s;refine ad fun L hL=>?_;refine wP @nN.eq_1 h0 h7 hj h ?_;subst hL;exact ih om _ (aX h0) (aX h2) aQ
theorem zO (hb:b.data.toList.length < 4611686018427387904) {a p:Nat} (hp:p≤6) (hl:a < b.data.toList.length) {r:Bool} (h:lB b.data.toList a p r) (s:PS):Pc ext 277 [.sc (.string b),iN a,iN p] (.sc (.bool r)) s:=by
 refine q1 PW 6 ?_;have ho:=fun s=>bF (ext:=ext) hp s;have e0:decide (b.data.toList.length≤a)=false:=df;unfold PW;cases h with
 | no h=>
  cases c1:cN p with
  | false=>exact l9 ho c1
  | true=>
   have c2:(bt b.data.toList a == 126)=false:=by rw [c1,Bool.true_and] at h; exact h
   exact tg ho c1 e0 hl c2
 | @yes j h h2 k=>
  have c2:(bt b.data.toList a == 126)=true:=by rw [h2]; rfl
  refine wP ho h e0 hl c2 ?_;exact Mj hb _ k om _ aQ aQ aQ
theorem tC (l:List UInt8) (c:UInt8):er (l ++ [c])=10 * er l + (c.toNat - 48):=by
 unfold er; rw [List.foldl_append]; rfl
theorem take_succ {l:List UInt8}{i:Nat} (h:i < l.length):l.take (i + 1)=l.take i ++ [l[i]]:=by
 rw [List.take_succ,List.getElem?_eq_getElem h]; rfl
theorem kT {l:List UInt8}{i:Nat} (h:i < l.length):er (l.take (i + 1))=10 * er (l.take i) + (bt l i - 48):=by
 rw [take_succ h,tC,nU h]
theorem zg {c:Nat} (h:bD c=true) : 48≤c∧c≤57:=by
 unfold bD at h; simp at h; exact h
theorem Gd {l:List UInt8} (hd:∀i,i < l.length→bD (bt l i)=true):∀n,n≤l.length→er (l.take n) < 10 ^ n:=by
 intro n
 induction n with
 | zero=>intro _; simp [er]
 | succ n ih=>
  intro h;have h1:=ih om;have h2:=zg (hd n om);rw [kT om,Nat.pow_succ];omega
theorem xB {l:List UInt8} (hd:∀i,i < l.length→bD (bt l i)=true) (h0:bt l 0≠48):∀n,n < l.length→10 ^ n≤er (l.take (n + 1)):=by
 intro n
 induction n with
 | zero=>
  intro h;have h2:=zg (hd 0 h);rw [kT h];simp [er];omega
 | succ n ih=>
  intro h;have h1:=ih om;rw [kT h,Nat.pow_succ];omega
theorem bin_mul {P:Program} (t:Nat) (x y:Operand) (a b:Int):fw P .mul t x y (.sc (.int .i64 a)) (.sc (.int .i64 b))=some (.sc (.int .i64 (IntKind.i64.wrap (a * b)))):=(rfl)
theorem Jr {P:Program} (t:Nat) (x y:Operand) (a b:Int):fw P .sub t x y (.sc (.int .u8 a)) (.sc (.int .u8 b))=some (.sc (.int .u8 (IntKind.u8.wrap (a - b)))):=(rfl)
theorem Qm (z:Int) (k:IntKind):IE .i64 (.sc (.int k z))=some (.sc (.int .i64 (IntKind.i64.wrap z))):=(rfl)
theorem Sb {n:Nat} (h:n < 256):IntKind.u8.wrap (n:Int)=(n:Int):=by
 unfold IntKind.wrap;simp [IntKind.bits,IntKind.signed];omega
theorem ET {t:ByteArray} (hlen:t.data.toList.length≤10) (hd:∀i,i < t.data.toList.length→bD (bt t.data.toList i)=true) (s:PS):∀(k i:Nat) (f:aR),i + k=t.data.toList.length→f 0=.sc (.string t)→f 4=iN (er (t.data.toList.take i))→f 5=iN i→
  Er (fun f' s'=>s'=s∧f' 2=iN (if decide (er t.data.toList≤2147483647) then er t.data.toList else 0:Nat)∧f' 3=.sc (.bool (decide (er t.data.toList≤2147483647)))) (LP Tryz.prog Γ ext 0 sn yT f s):=by
 intro k
 induction k with
 | zero=>
  intro i f hk h0 h4 h5;have e1:decide (i < t.data.toList.length)=false:=df;have e2:t.data.toList.take i=t.data.toList:=List.take_of_length_le om;rw [e2] at h4;refine ad fun L hL=>?_;cases c1:decide (2147483647 < er t.data.toList) with
  | true=>
   have c2:decide (er t.data.toList≤2147483647)=false:=decide_eq_false (by have:=of_decide_eq_true c1; omega);simp -implicitDefEqProofs (disch:=omega) only [ZS,seval,sn,yT,h0,h4,h5,e1,c1,c2]
   all_goals first | done | rfl | exact⟨rfl,rfl⟩
  | false=>
   have c2:decide (er t.data.toList≤2147483647)=true:=decide_eq_true (by have:=of_decide_eq_false c1; omega);exact vY @sn.eq_1 @yT.eq_1 h0 h4 h5 e1 c1 c2
 | succ k ih=>
  intro i f hk h0 h4 h5;have hl:i < t.data.toList.length:=om;have e1:decide (i < t.data.toList.length)=true:=dt;have hdi:=hd i hl;have hr:=zg hdi;have hv:=Gd hd i om;have hp : 10 ^ i≤10 ^ 10:=Nat.pow_le_pow_right om om;have hp2:(10:Nat) ^ 10=10000000000:=rfl;have ev:=kT hl;generalize hw:er (t.data.toList.take i)=v at h4 hv ev;have w1:IntKind.i64.wrap (10 * (v:Int))=((10 * v:Nat):Int):=by rw [xe om om]; omega
  have w2:IntKind.u8.wrap ((bt t.data.toList i:Int) - 48)=((bt t.data.toList i - 48:Nat):Int):=by
   rw [show ((bt t.data.toList i:Int) - 48)=((bt t.data.toList i - 48:Nat):Int) by omega];exact Sb om
  have w3:IntKind.i64.wrap ((bt t.data.toList i - 48:Nat):Int)=((bt t.data.toList i - 48:Nat):Int):=w9 om;refine ad fun L hL=>?_;refine pK @sn.eq_1 h0 h4 h5 hl @cV hdi @bin_mul @Jr @Qm w1 w2 w3 tv ?_;subst hL;exact ih (i + 1) _ om (aX h0) (by rw [ev]; simp -implicitDefEqProofs (disch:=omega) only [ZS,seval]) aQ
theorem Ar {t:ByteArray} (hne : 0 < t.data.toList.length) (hs:t.data.toList.length < 4611686018427387904) (hd:∀i,i < t.data.toList.length→bD (bt t.data.toList i)=true) (s:PS):∃z,Pc ext 343 [.sc (.string t)] (.tup [.sc (.int .i64 z),.sc (.bool (vH t.data.toList))]) s:=by
 refine⟨if vH t.data.toList then ((if decide (er t.data.toList≤2147483647) then er t.data.toList else 0:Nat):Int) else 0,?_⟩;refine dj (fn:=ND) (r:=2) (r2:=3) (by rfl) (by simp [ND]) (by rfl) (by rfl) ?_;unfold ND;have e0:(t.toList == (⟨#[]⟩ : ByteArray).toList)=false:=by
  rw [ByteArray.toList_eq,ByteArray.toList_eq];refine beq_eq_false_iff_ne.2 fun hh=>?_;rw [hh] at hne;exact absurd hne (by decide)
 unfold vH;cases c1:decide (10 < t.data.toList.length) with
 | true=>
  have c2:decide (t.data.toList.length≤10)=false:=decide_eq_false (by have:=of_decide_eq_true c1; omega);simp -implicitDefEqProofs (disch:=omega) only [ZS,seval,ZX,e0,c1,c2]
  all_goals first | done | rfl | exact⟨rfl,rfl⟩
 | false=>
  have hle:=of_decide_eq_false c1;have c2:decide (t.data.toList.length≤10)=true:=dt;cases c3:bt t.data.toList 0 == 48 with
  | true=>
   cases c4:decide (1 < t.data.toList.length) with
   | true=>
    simp -implicitDefEqProofs (disch:=omega) only [ZS,seval,ZX,e0,c1,c2,c3,c4,hne]
    all_goals first | done | rfl | exact⟨rfl,rfl⟩
   | false=>
    refine u0 e0 c1 c2 c3 c4 hne ?_;refine Er.mono (ET om hd _ t.data.toList.length 0 _ om ?_ ?_ ?_) ?_
    ·exact aQ
    ·simp -implicitDefEqProofs (disch:=omega) only [ZS,seval]; rfl
    ·simp -implicitDefEqProofs (disch:=omega) only [ZA,↓reduceIte]; rfl
    ·rintro f s' ⟨h1,h2,h3⟩;refine⟨h1,?_,h3⟩;rw [h2];congr 2;cases decide (er t.data.toList≤2147483647)<;>rfl
  | false=>
   refine wP e0 c1 c2 c3 hne ?_;refine Er.mono (ET om hd _ t.data.toList.length 0 _ om ?_ ?_ ?_) ?_
   ·exact aQ
   ·simp -implicitDefEqProofs (disch:=omega) only [ZS,seval]; rfl
   ·simp -implicitDefEqProofs (disch:=omega) only [ZA,↓reduceIte]; rfl
   ·rintro f s' ⟨h1,h2,h3⟩;refine⟨h1,?_,h3⟩;rw [h2];congr 2;cases decide (er t.data.toList≤2147483647)<;>rfl
theorem IV {V:aR→PS→Prop}{r:kD}{k:aR→PS→kD} (h:Er V r):Er V (gR r k):=by
 obtain⟨f,s,rfl,hv⟩:=h;exact⟨f,s,rfl,hv⟩
theorem rO {l:List UInt8}{a e:Nat} (h:e≤l.length):(sub l a e).length=e - a:=by
 unfold sub; rw [List.length_take,List.length_drop]; omega
theorem zM {l:List UInt8}{a e k:Nat} (h:e≤l.length) (hk:k < e - a):bt (sub l a e) k=bt l (a + k):=by
 unfold bt sub;rw [List.getD_eq_getElem?_getD,List.getD_eq_getElem?_getD,List.getElem?_take,if_pos hk,List.getElem?_drop]
theorem IB {l:List UInt8}{a e:Nat} (h:a≤e) (hl:e < l.length):sub l a (e + 1)=sub l a e ++ [l[e]]:=by
 unfold sub;have h1:e + 1 - a=(e - a) + 1:=om;rw [h1,take_succ (l:=l.drop a) (i:=e - a) (by rw [List.length_drop]; omega),List.getElem_drop];congr 2;congr 1;omega
theorem yr {l:List UInt8}{a e:Nat} (h:a≤e) (hl:e < l.length):er (sub l a (e + 1))=10 * er (sub l a e) + (bt l e - 48):=by
 rw [IB h hl,tC,nU hl]
theorem RP {t:List UInt8} (hne : 0 < t.length) (hd:∀i,i < t.length→bD (bt t i)=true) (h0:bt t 0≠48):vH t=decide (er t≤2147483647):=by
 unfold vH;have e0:(bt t 0 == 48)=false:=beq_eq_false_iff_ne.2 h0;rw [e0,Bool.false_and,Bool.not_false,Bool.and_true];cases c:decide (t.length≤10) with
 | true=>rw [Bool.true_and]
 | false=>
  have hl:=of_decide_eq_false c;have h1:=xB hd h0 10 om;have h2:=xB hd h0 (t.length - 1) om;have h3 : 10 ^ 10≤10 ^ (t.length - 1):=Nat.pow_le_pow_right om om;rw [show t.length - 1 + 1=t.length by omega,List.take_length] at h2;have hp2:(10:Nat) ^ 10=10000000000:=rfl;rw [Bool.false_and];exact (df).symm
theorem KN (hb:b.data.toList.length < 4611686018427387904) (s:PS) {a v e j:Nat} (h:wM b.data.toList v e j):e≤b.data.toList.length→a < e→(∀k,a≤k→k < e→bD (bt b.data.toList k)=true)→bt b.data.toList a≠48→v=er (sub b.data.toList a e)→∀f,f 0=.sc (.string b)→f 1=iN a→f 5=iN e→Er (fun f' s'=>s'=s∧f' 4=iN j) (LP Tryz.prog Γ ext 0 lm nA f s):=by
 have key:∀(v e:Nat),e < b.data.toList.length→bD (bt b.data.toList e)=true→a < e→(∀k,a≤k→k < e→bD (bt b.data.toList k)=true)→bt b.data.toList a≠48→v=er (sub b.data.toList a e)→∀s:PS,∃z,Pc ext 343 [.sc (.string ⟨⟨(b.data.toList.drop a).take (e + 1 - a)⟩⟩)] (.tup [.sc (.int .i64 z),.sc (.bool (decide (10 * v + (bt b.data.toList e - 48)≤2147483647)))]) s:=by
  intro v e hl hde hae hd h0 hv s;have hlen:(sub b.data.toList a (e + 1)).length=e + 1 - a:=rO om;have hdd:∀i,i < (sub b.data.toList a (e + 1)).length→bD (bt (sub b.data.toList a (e + 1)) i)=true:=by
   intro i hi;rw [hlen] at hi;rw [zM om hi];by_cases he:a + i=e
   ·rw [he]; exact hde
   ·exact hd _ om om
  obtain⟨z,hz⟩:=Ar (ext:=ext) (t:=⟨⟨sub b.data.toList a (e + 1)⟩⟩) (by show 0 < (sub b.data.toList a (e + 1)).length; omega) (by show (sub b.data.toList a (e + 1)).length < _; omega) hdd s;refine⟨z,?_⟩;have ho:=RP (t:=sub b.data.toList a (e + 1)) om hdd (by rw [zM om om]; exact h0);rw [yr om hl,← hv] at ho;rw [← ho];exact hz
 induction h with
 | @stop v e h=>
  intro hle hae hd h0 hv f f0 f1 f5;by_cases hl:e < b.data.toList.length
  ·have e1:decide (e < b.data.toList.length)=true:=decide_eq_true hl;cases c1:bD (bt b.data.toList e) with
   | false=>
    refine ad fun L hL=>?_;exact tD @lm.eq_1 @nA.eq_1 f0 f5 hl @cV c1
   | true=>
    have hbig : 2147483647 < 10 * v + (bt b.data.toList e - 48):=by
     rcases h with h | h | h
     ·omega
     ·rw [c1] at h; cases h
     ·exact h
    have e2:decide (10 * v + (bt b.data.toList e - 48)≤2147483647)=false:=df;obtain⟨z,hz⟩:=Classical.axiomOfChoice (key v e hl c1 hae hd h0 hv);have n1:a≤e + 1:=om;have n2:e + 1≤b.data.toList.length:=om;refine ad fun L hL=>?_;exact nq @lm.eq_1 @nA.eq_1 f0 f1 f5 hl @cV c1 n1 n2 hz e2
  ·have e1:decide (e < b.data.toList.length)=false:=decide_eq_false hl;refine ad fun L hL=>?_;exact tg @lm.eq_1 @nA.eq_1 f0 f5 e1
 | @step v e j hl h2 h3 k ih=>
  intro hle hae hd h0 hv f f0 f1 f5;have e1:decide (e < b.data.toList.length)=true:=decide_eq_true hl;have e2:decide (10 * v + (bt b.data.toList e - 48)≤2147483647)=true:=decide_eq_true h3;obtain⟨z,hz⟩:=Classical.axiomOfChoice (key v e hl h2 hae hd h0 hv);have n1:a≤e + 1:=om;have n2:e + 1≤b.data.toList.length:=om;refine ad fun L hL=>?_;refine mT @lm.eq_1 f0 f1 f5 hl @cV h2 n1 n2 hz e2 tv ?_;subst hL;refine ih om om (fun k h1 h4=>?_) h0 (by rw [yr om hl,hv]) _ (aX f0) (aX f1) aQ;by_cases he:k=e
  ·rw [he]; exact h2
  ·exact hd _ h1 om
theorem gW.le {l:List UInt8}{i j:Nat} (h:gW l i j) (hi:i≤l.length):i≤j∧j≤l.length:=by
 have hn:∀{v i j:Nat},wM l v i j→i≤l.length→i≤j∧j≤l.length:=by
  intro v i j h
  induction h with
  | stop h=>intro h; exact⟨Nat.le_refl _,h⟩
  | step hl h2 h3 k ih=>intro h; have:=ih om; exact⟨om,this.2⟩
 cases h with
 | none0 h=>exact⟨Nat.le_refl _,hi⟩
 | zero hl h=>exact⟨om,om⟩
 | num hl h h2 k=>exact hn k hi
 | name hl h h2=>exact⟨md _ _ _,jH hi⟩
 | spec hl h h2=>exact⟨om,om⟩
 | none hl h h2=>exact⟨Nat.le_refl _,hi⟩
theorem Il {c:Nat} (h:bD c=true):eo c=true:=by
 unfold eo; rw [h]; simp
theorem AG (hb:b.data.toList.length < 4611686018427387904) {a j:Nat} (ha:a≤b.data.toList.length) (h:gW b.data.toList a j) (s:PS):Pc ext 331 [.sc (.string b),iN a] (iN j) s:=by
 refine q1 Pd 4 ?_;have hn:=fun s=>uD (ext:=ext) hb (i:=a) ha s;unfold Pd;cases h with
 | none0 h=>
  have e1:decide (b.data.toList.length≤a)=true:=decide_eq_true h;exact aX e1
 | zero hl h=>
  have e1:decide (b.data.toList.length≤a)=false:=df;have c1:bD (bt b.data.toList a)=true:=by rw [h]; rfl
  refine xz e1 hl @cV c1 ?_;refine IV (ad fun L hL=>?_);by_cases hl2:a + 1 < b.data.toList.length
  ·have e2:decide (a + 1 < b.data.toList.length)=true:=decide_eq_true hl2;cases c2:bD (bt b.data.toList (a + 1)) with
   | false=>exact tg @lm.eq_1 @nA.eq_1 hl2 @cV c2
   | true=>
    have hlen:(sub b.data.toList a (a + 2)).length=2:=by rw [rO om]; omega
    have hz:∀s:PS,∃z,Pc ext 343 [.sc (.string ⟨⟨(b.data.toList.drop a).take (a + 1 + 1 - a)⟩⟩)] (.tup [.sc (.int .i64 z),.sc (.bool false)]) s:=by
     intro s;have hdd:∀i,i < (sub b.data.toList a (a + 2)).length→bD (bt (sub b.data.toList a (a + 2)) i)=true:=by
      intro i hi;rw [hlen] at hi;rw [zM om om];have:i=0∨i=1:=om;rcases this with rfl | rfl
      ·exact c1
      ·exact c2
     obtain⟨z,hz⟩:=Ar (ext:=ext) (t:=⟨⟨sub b.data.toList a (a + 2)⟩⟩) (by show 0 < (sub b.data.toList a (a + 2)).length; omega) (by show (sub b.data.toList a (a + 2)).length < _; omega) hdd s;have hok:vH (sub b.data.toList a (a + 2))=false:=by
      unfold vH;rw [hlen,zM om om,Nat.add_zero,h];simp
     exact⟨z,by rw [← hok]; exact hz⟩
    obtain⟨z,hz⟩:=Classical.axiomOfChoice hz;have n1:a≤a + 1 + 1:=om;have n2:a + 1 + 1≤b.data.toList.length:=om;exact vY @lm.eq_1 @nA.eq_1 hl2 @cV c2 n1 n2 hz
  ·have e2:decide (a + 1 < b.data.toList.length)=false:=decide_eq_false hl2;exact lR @lm.eq_1 @nA.eq_1 e2
 | num hl h h2 k=>
  have e1:decide (b.data.toList.length≤a)=false:=df;have hdl:=zg h;cases k with
  | stop hs=>
   exfalso;rcases hs with hs | hs | hs
   ·omega
   ·rw [h] at hs; cases hs
   ·omega
  | step _ _ _ k=>
   refine xz e1 hl @cV h ?_;refine IV (KN hb _ k om om (fun k h1 h4=>?_) h2 ?_ _ aQ aQ aQ)
   ·rw [show k=a by omega]; exact h
   ·rw [yr (Nat.le_refl _) hl];have:sub b.data.toList a a=[]:=List.eq_nil_of_length_eq_zero (by rw [rO om]; omega);rw [this];rfl
 | name hl h h2=>
  have e1:decide (b.data.toList.length≤a)=false:=df;exact tD e1 hl @cV h @eK h2 hn
 | spec hl h h2=>
  have e1:decide (b.data.toList.length≤a)=false:=df;have h3:eo (bt b.data.toList a)=false:=by
   unfold cm at h2;rw [h,Bool.false_or] at h2;simp only [Bool.or_eq_true,beq_iff_eq] at h2;rcases h2 with ((((((h2 | h2) | h2) | h2) | h2) | h2) | h2)<;>(rw [h2]; rfl)
  exact vY e1 hl @cV h @eK h3 @gk h2
 | none hl h h2=>
  have e1:decide (b.data.toList.length≤a)=false:=df;have h3:bD (bt b.data.toList a)=false:=by
   cases c:bD (bt b.data.toList a) with
   | false=>rfl
   | true=>rw [Il c] at h; cases h
  exact vY e1 hl @cV h3 @eK h @gk h2
end Go.Proofs.YtgkggocjoolciaaGreatDoor
namespace Go.Mir
open Go Go.PE
mutual
def dJ:aJ→List PV
 | .mk k t o c ps=>[.sc (.int .i64 k),.sc (.string ⟨⟨t⟩⟩),.sc (.int .i64 o),.sc (.bool c),cS ps]
def cS:List aJ→PV
 | []=>.sc (.slice none 0 0)
 | p :: ps=>.lit 150 (ps.length + 1) (dJ p ++ nH ps)
def nH:List aJ→List PV
 | []=>[]
 | p :: ps=>dJ p ++ nH ps
end
theorem NC:∀l:List aJ,nH l=l.flatMap dJ:=by
 intro l
 induction l with
 | nil=>rw [nH]; rfl
 | cons p l ih=>rw [nH,ih,List.flatMap_cons]
theorem Ed (l:List aJ):cS l=aK 150 dJ (dx l):=by
 cases l with
 | nil=>rw [cS]; rfl
 | cons p l=>rw [cS,NC]; rfl
def bL:R→PV
 | .ok (l,j)=>.agg [cS l,iN j,.sc (.int .i64 0)]
 | .error (a,e)=>.agg [.sc (.slice none 0 0),iN a,iN e]
theorem gI (p:aJ):(dJ p).length=5:=by cases p; rw [dJ]; rfl
theorem AT (p:aJ):(dJ p).all cL=true:=by
 cases p with
 | mk k t o c ps=>
  rw [dJ];have:cL (cS ps)=true:=by cases ps<;>(rw [cS]; rfl)
  simp only [List.all_cons,List.all_nil,this,Bool.and_true];rfl
theorem vp (p:aJ):(dJ p).all cP=true:=by
 cases p with
 | mk k t o c ps=>
  rw [dJ];have:cP (cS ps)=true:=by cases ps<;>(rw [cS]; rfl)
  simp only [List.all_cons,List.all_nil,this,Bool.and_true];rfl
end Go.Mir
namespace Go.PE
open Go Go.EvL
section
variable {P:Program}{Γ:Nat→Option fJ}{ext:aq}
theorem aS (s:PS) (k off fin:Nat) (ys:List PV):FA s (.ptr k off fin) ys=if off + ys.length≤fin∧fin=(s.h k).cells.length∧ys.all cL=true then some (s.put k ⟨(s.h k).cells.take off ++ (ys ++ (s.h k).cells.drop (off + ys.length)),fin,(s.h k).e⟩) else none:=(rfl)
theorem fU {g r m:Nat} (k:Nat) {fn:fJ}{args q:List PV}{s:PS} (hg:Γ g=some fn) (hl:args.length≤fn.nt) (hr:fn.res=[.cell r true m]) (hk:fn.keep=false)
  (h:Er (fun f' s'=>s.n≤s'.w∧f' r=.ptr k 0 m∧∃cs low e,s'.h k=⟨cs,low,e⟩∧cs.length=m∧low≤m∧iT s.n s' cs=some q) (aN P Γ ext fn.body (br args 0) ⟨s.h,s.n,s.n⟩)):aD P Γ ext g args s=some (.agg q,s):=by
 refine ir hg hl h ?_;rintro f s' ⟨hw,h1,cs,low,e,h2,h3,h4,h5⟩;refine fM (vs:=[.agg cs]) hk ?_ hw ?_
 ·rw [hr];simp only [ii,h1,BU,h2];rw [if_pos ⟨om,h4,om⟩,List.drop_zero,List.take_of_length_le om];rfl
 ·show (iT s.n s' cs).map PV.agg=_;rw [h5]; rfl
theorem qC (k:Nat) (fn:fJ) (r m:Nat) {P:Program}{Γ:Nat→Option fJ}{ext:aq}{g:Nat}{args q:List PV}{s:PS} (h:Er (fun f' s'=>s.n≤s'.w∧f' r=.ptr k 0 m∧∃cs low e,s'.h k=⟨cs,low,e⟩∧cs.length=m∧low≤m∧iT s.n s' cs=some q) (aN P Γ ext fn.body (br args 0) ⟨s.h,s.n,s.n⟩)) (hg:Γ g=some fn:=by rfl) (hl:args.length≤fn.nt:=by exact Nat.le_of_ble_eq_true rfl) (hr:fn.res=[.cell r true m]:=by rfl) (hk:fn.keep=false:=by rfl):aD P Γ ext g args s=some (.agg q,s):=fU k hg hl hr hk h
end
end Go.PE
namespace Go.Proofs.YtgkggocjoolciaaGreatDoor
open Go Go.EvL Go.PE Go.Mir
variable {ext:aq}{b:ByteArray}
theorem bm {n:Nat}{s:PS}{v:PV}{l:List aJ}{x y:Value} (h:fx n s v=some (cS l)):iT n s [v,.sc x,.sc y]=some [cS l,.sc x,.sc y]:=by
 simp only [iT,h,Option.bind_some,Option.map_some];rfl
theorem Ja (a e:Nat) (s:PS):Pc ext 276 [iN a,iN e] (bL (.error (a,e))) s:=by
 refine fU s.n (fn:=NQ) (r:=4) (m:=3) (by rfl) (by simp [NQ]) (by rfl) (by rfl) ?_;unfold NQ;simp -implicitDefEqProofs (disch:=omega) only [ZS,seval,ZX,aS,cL,nE];exact⟨_,_,_,rfl,rfl,Nat.le_refl _,rfl⟩
theorem Sk (p:aJ) (j:Nat) (s:PS):Pc ext 301 [.agg (dJ p),iN j] (bL (.ok ([p],j))) s:=by
 refine qC (s.n + 1) Ph 4 3 ?_;unfold Ph;have h5:=gI p;have h6:(dJ p).take 5=dJ p:=List.take_of_length_le om;simp -implicitDefEqProofs (disch:=omega) only [ZS,seval,ZX,aS,cL,nE,h5,h6];refine⟨_,_,_,rfl,rfl,Nat.le_refl _,bm (l:=[p]) ?_⟩;rw [Ed];have h7:[p].flatMap dJ=dJ p:=by rw [List.flatMap_cons,List.flatMap_nil,List.append_nil]
 exact gL.frz gI (b:=s.n) (.inr ⟨by simp,s.n + 1 + 1,om,by simp -implicitDefEqProofs (disch:=omega) only [ZS,seval]; omega,rfl,aX h7⟩) (Nat.le_refl _) (fun x _=>vp x)
theorem WU {p0 p1 p2 p3 p4 P:Prop} (h0:p0)(h1:p1)(h2:p2)(h3:p3)(h4:p4) (h:p0→p1→p2→p3→p4→P:=by intro h0 h1 h2 h3 h4; simp -implicitDefEqProofs (disch:=omega) only [ZS,seval,ZX,h0,h1,h2,h3,h4]<;>first | exact⟨_,_,_,rfl,rfl,Nat.le_refl _,rfl⟩ | exact⟨_,_,_,rfl,rfl,Nat.le_refl _,bm (aO _ _ _)⟩):P:=h h0 h1 h2 h3 h4
theorem We {p0 p1 p2 p3 p4 p5 P:Prop} (h0:p0)(h1:p1)(h2:p2)(h3:p3)(h4:p4)(h5:p5) (h:p0→p1→p2→p3→p4→p5→P:=by intro h0 h1 h2 h3 h4 h5; simp -implicitDefEqProofs (disch:=omega) only [ZS,seval,ZX,h0,h1,h2,h3,h4,h5]<;>first | exact⟨_,_,_,rfl,rfl,Nat.le_refl _,rfl⟩ | exact⟨_,_,_,rfl,rfl,Nat.le_refl _,bm (aO _ _ _)⟩):P:=h h0 h1 h2 h3 h4 h5
theorem Wy {p0 p1 p2 p3 p4 p5 p6 P:Prop} (h0:p0)(h1:p1)(h2:p2)(h3:p3)(h4:p4)(h5:p5)(h6:p6) (h:p0→p1→p2→p3→p4→p5→p6→P:=by intro h0 h1 h2 h3 h4 h5 h6; simp -implicitDefEqProofs (disch:=omega) only [ZS,seval,ZX,h0,h1,h2,h3,h4,h5,h6]<;>first | exact⟨_,_,_,rfl,rfl,Nat.le_refl _,rfl⟩ | exact⟨_,_,_,rfl,rfl,Nat.le_refl _,bm (aO _ _ _)⟩):P:=h h0 h1 h2 h3 h4 h5 h6
theorem KI {p0 p1 p2 p3 p4 p5 p6 p7 P:Prop} (h0:p0)(h1:p1)(h2:p2)(h3:p3)(h4:p4)(h5:p5)(h6:p6)(h7:p7) (h:p0→p1→p2→p3→p4→p5→p6→p7→P:=by intro h0 h1 h2 h3 h4 h5 h6 h7; simp -implicitDefEqProofs (disch:=omega) only [ZS,seval,ZX,h0,h1,h2,h3,h4,h5,h6,h7]<;>first | exact⟨_,_,_,rfl,rfl,Nat.le_refl _,rfl⟩ | exact⟨_,_,_,rfl,rfl,Nat.le_refl _,bm (aO _ _ _)⟩):P:=h h0 h1 h2 h3 h4 h5 h6 h7
theorem Ux {p0 p1 p2 p3 p4 p5 p6 p7 p8 P:Prop} (h0:p0)(h1:p1)(h2:p2)(h3:p3)(h4:p4)(h5:p5)(h6:p6)(h7:p7)(h8:p8) (h:p0→p1→p2→p3→p4→p5→p6→p7→p8→P:=by intro h0 h1 h2 h3 h4 h5 h6 h7 h8; simp -implicitDefEqProofs (disch:=omega) only [ZS,seval,ZX,h0,h1,h2,h3,h4,h5,h6,h7,h8]<;>first | exact⟨_,_,_,rfl,rfl,Nat.le_refl _,rfl⟩ | exact⟨_,_,_,rfl,rfl,Nat.le_refl _,bm (aO _ _ _)⟩):P:=h h0 h1 h2 h3 h4 h5 h6 h7 h8
theorem SD {p0 p1 p2 p3 p4 p5 p6 p7 p8 p9 P:Prop} (h0:p0)(h1:p1)(h2:p2)(h3:p3)(h4:p4)(h5:p5)(h6:p6)(h7:p7)(h8:p8)(h9:p9) (h:p0→p1→p2→p3→p4→p5→p6→p7→p8→p9→P:=by intro h0 h1 h2 h3 h4 h5 h6 h7 h8 h9; simp -implicitDefEqProofs (disch:=omega) only [ZS,seval,ZX,h0,h1,h2,h3,h4,h5,h6,h7,h8,h9]<;>first | exact⟨_,_,_,rfl,rfl,Nat.le_refl _,rfl⟩ | exact⟨_,_,_,rfl,rfl,Nat.le_refl _,bm (aO _ _ _)⟩):P:=h h0 h1 h2 h3 h4 h5 h6 h7 h8 h9
theorem rN {p0 p1 p2 p3 p4 p5 p6 p7 p8 p9 i3 i4 P:Prop} (h0:p0)(h1:p1)(h2:p2)(h3:p3)(h4:p4)(h5:p5)(h6:p6)(h7:p7)(h8:p8)(h9:p9)(h10:i3)(h11:i4) (h:p0→p1→p2→p3→p4→p5→p6→p7→p8→p9→i3→i4→P:=by intro h0 h1 h2 h3 h4 h5 h6 h7 h8 h9 h10 h11; simp -implicitDefEqProofs (disch:=omega) only [ZS,seval,ZX,h0,h1,h2,h3,h4,h5,h6,h7,h8,h9,h10,h11]<;>first | exact⟨_,_,_,rfl,rfl,Nat.le_refl _,rfl⟩ | exact⟨_,_,_,rfl,rfl,Nat.le_refl _,bm (aO _ _ _)⟩):P:=h h0 h1 h2 h3 h4 h5 h6 h7 h8 h9 h10 h11
theorem NH {p0 p1 p2 p3 p4 p5 p6 p7 p8 p9 i3 i4 jb iQ P:Prop} (h0:p0)(h1:p1)(h2:p2)(h3:p3)(h4:p4)(h5:p5)(h6:p6)(h7:p7)(h8:p8)(h9:p9)(h10:i3)(h11:i4)(h12:jb)(h13:iQ) (h:p0→p1→p2→p3→p4→p5→p6→p7→p8→p9→i3→i4→jb→iQ→P:=by intro h0 h1 h2 h3 h4 h5 h6 h7 h8 h9 h10 h11 h12 h13; simp -implicitDefEqProofs (disch:=omega) only [ZS,seval,ZX,h0,h1,h2,h3,h4,h5,h6,h7,h8,h9,h10,h11,h12,h13]<;>first | exact⟨_,_,_,rfl,rfl,Nat.le_refl _,rfl⟩ | exact⟨_,_,_,rfl,rfl,Nat.le_refl _,bm (aO _ _ _)⟩):P:=h h0 h1 h2 h3 h4 h5 h6 h7 h8 h9 h10 h11 h12 h13
theorem FB {p0 p1 p2 p3 p4 p5 p6 p7 p8 p9 i3 i4 jb iQ p14 p15 P:Prop} (h0:p0)(h1:p1)(h2:p2)(h3:p3)(h4:p4)(h5:p5)(h6:p6)(h7:p7)(h8:p8)(h9:p9)(h10:i3)(h11:i4)(h12:jb)(h13:iQ)(h14:p14)(h15:p15) (h:p0→p1→p2→p3→p4→p5→p6→p7→p8→p9→i3→i4→jb→iQ→p14→p15→P:=by intro h0 h1 h2 h3 h4 h5 h6 h7 h8 h9 h10 h11 h12 h13 h14 h15; simp -implicitDefEqProofs (disch:=omega) only [ZS,seval,ZX,h0,h1,h2,h3,h4,h5,h6,h7,h8,h9,h10,h11,h12,h13,h14,h15]<;>first | exact⟨_,_,_,rfl,rfl,Nat.le_refl _,rfl⟩ | exact⟨_,_,_,rfl,rfl,Nat.le_refl _,bm (aO _ _ _)⟩):P:=h h0 h1 h2 h3 h4 h5 h6 h7 h8 h9 h10 h11 h12 h13 h14 h15
theorem TY {p0 p1 p2 p3 p4 p5 p6 p7 p8 p9 i3 i4 jb iQ p14 p15 p16 p17 lu P:Prop} (h0:p0)(h1:p1)(h2:p2)(h3:p3)(h4:p4)(h5:p5)(h6:p6)(h7:p7)(h8:p8)(h9:p9)(h10:i3)(h11:i4)(h12:jb)(h13:iQ)(h14:p14)(h15:p15)(h16:p16)(h17:p17)(h18:lu) (h:p0→p1→p2→p3→p4→p5→p6→p7→p8→p9→i3→i4→jb→iQ→p14→p15→p16→p17→lu→P:=by intro h0 h1 h2 h3 h4 h5 h6 h7 h8 h9 h10 h11 h12 h13 h14 h15 h16 h17 h18; simp -implicitDefEqProofs (disch:=omega) only [ZS,seval,ZX,h0,h1,h2,h3,h4,h5,h6,h7,h8,h9,h10,h11,h12,h13,h14,h15,h16,h17,h18]<;>first | exact⟨_,_,_,rfl,rfl,Nat.le_refl _,rfl⟩ | exact⟨_,_,_,rfl,rfl,Nat.le_refl _,bm (aO _ _ _)⟩):P:=h h0 h1 h2 h3 h4 h5 h6 h7 h8 h9 h10 h11 h12 h13 h14 h15 h16 h17 h18
theorem Vr {p0 p1 p2 p3 p4 p5 p6 p7 p8 p9 i3 i4 jb iQ p14 p15 p16 p17 lu pM pG qh P:Prop} (h0:p0)(h1:p1)(h2:p2)(h3:p3)(h4:p4)(h5:p5)(h6:p6)(h7:p7)(h8:p8)(h9:p9)(h10:i3)(h11:i4)(h12:jb)(h13:iQ)(h14:p14)(h15:p15)(h16:p16)(h17:p17)(h18:lu)(h19:pM)(h20:pG)(h21:qh) (h:p0→p1→p2→p3→p4→p5→p6→p7→p8→p9→i3→i4→jb→iQ→p14→p15→p16→p17→lu→pM→pG→qh→P:=by intro h0 h1 h2 h3 h4 h5 h6 h7 h8 h9 h10 h11 h12 h13 h14 h15 h16 h17 h18 h19 h20 h21; simp -implicitDefEqProofs (disch:=omega) only [ZS,seval,ZX,h0,h1,h2,h3,h4,h5,h6,h7,h8,h9,h10,h11,h12,h13,h14,h15,h16,h17,h18,h19,h20,h21]<;>first | exact⟨_,_,_,rfl,rfl,Nat.le_refl _,rfl⟩ | exact⟨_,_,_,rfl,rfl,Nat.le_refl _,bm (aO _ _ _)⟩):P:=h h0 h1 h2 h3 h4 h5 h6 h7 h8 h9 h10 h11 h12 h13 h14 h15 h16 h17 h18 h19 h20 h21
theorem Nq {p0 p1 p2 p3 p4 p5 p6 p7 p8 p9 i3 i4 jb iQ p14 p15 p16 p17 lu pM pG qh tU s6 s5 s7 P:Prop} (h0:p0)(h1:p1)(h2:p2)(h3:p3)(h4:p4)(h5:p5)(h6:p6)(h7:p7)(h8:p8)(h9:p9)(h10:i3)(h11:i4)(h12:jb)(h13:iQ)(h14:p14)(h15:p15)(h16:p16)(h17:p17)(h18:lu)(h19:pM)(h20:pG)(h21:qh)(h22:tU)(h23:s6)(h24:s5)(h25:s7) (h:p0→p1→p2→p3→p4→p5→p6→p7→p8→p9→i3→i4→jb→iQ→p14→p15→p16→p17→lu→pM→pG→qh→tU→s6→s5→s7→P:=by intro h0 h1 h2 h3 h4 h5 h6 h7 h8 h9 h10 h11 h12 h13 h14 h15 h16 h17 h18 h19 h20 h21 h22 h23 h24 h25; simp -implicitDefEqProofs (disch:=omega) only [ZS,seval,ZX,h0,h1,h2,h3,h4,h5,h6,h7,h8,h9,h10,h11,h12,h13,h14,h15,h16,h17,h18,h19,h20,h21,h22,h23,h24,h25]<;>first | exact⟨_,_,_,rfl,rfl,Nat.le_refl _,rfl⟩ | exact⟨_,_,_,rfl,rfl,Nat.le_refl _,bm (aO _ _ _)⟩):P:=h h0 h1 h2 h3 h4 h5 h6 h7 h8 h9 h10 h11 h12 h13 h14 h15 h16 h17 h18 h19 h20 h21 h22 h23 h24 h25
theorem TN {p0 p1 p2 p3 p4 p5 p6 p7 p8 p9 i3 i4 jb iQ p14 p15 p16 p17 lu pM pG qh tU s6 s5 s7 zb Ae DN BO BN DU P:Prop} (h0:p0)(h1:p1)(h2:p2)(h3:p3)(h4:p4)(h5:p5)(h6:p6)(h7:p7)(h8:p8)(h9:p9)(h10:i3)(h11:i4)(h12:jb)(h13:iQ)(h14:p14)(h15:p15)(h16:p16)(h17:p17)(h18:lu)(h19:pM)(h20:pG)(h21:qh)(h22:tU)(h23:s6)(h24:s5)(h25:s7)(h26:zb)(h27:Ae)(h28:DN)(h29:BO)(h30:BN)(h31:DU) (h:p0→p1→p2→p3→p4→p5→p6→p7→p8→p9→i3→i4→jb→iQ→p14→p15→p16→p17→lu→pM→pG→qh→tU→s6→s5→s7→zb→Ae→DN→BO→BN→DU→P:=by intro h0 h1 h2 h3 h4 h5 h6 h7 h8 h9 h10 h11 h12 h13 h14 h15 h16 h17 h18 h19 h20 h21 h22 h23 h24 h25 h26 h27 h28 h29 h30 h31; simp -implicitDefEqProofs (disch:=omega) only [ZS,seval,ZX,h0,h1,h2,h3,h4,h5,h6,h7,h8,h9,h10,h11,h12,h13,h14,h15,h16,h17,h18,h19,h20,h21,h22,h23,h24,h25,h26,h27,h28,h29,h30,h31]<;>first | exact⟨_,_,_,rfl,rfl,Nat.le_refl _,rfl⟩ | exact⟨_,_,_,rfl,rfl,Nat.le_refl _,bm (aO _ _ _)⟩):P:=h h0 h1 h2 h3 h4 h5 h6 h7 h8 h9 h10 h11 h12 h13 h14 h15 h16 h17 h18 h19 h20 h21 h22 h23 h24 h25 h26 h27 h28 h29 h30 h31
theorem UT {p0 p1 p2 p3 p4 p5 p6 p7 p8 p9 i3 i4 jb iQ p14 p15 p16 p17 lu pM pG qh tU s6 s5 s7 zb Ae DN BO BN DU OQ p33 p34 p35 p36 p37 p38 p39 P:Prop} (h0:p0)(h1:p1)(h2:p2)(h3:p3)(h4:p4)(h5:p5)(h6:p6)(h7:p7)(h8:p8)(h9:p9)(h10:i3)(h11:i4)(h12:jb)(h13:iQ)(h14:p14)(h15:p15)(h16:p16)(h17:p17)(h18:lu)(h19:pM)(h20:pG)(h21:qh)(h22:tU)(h23:s6)(h24:s5)(h25:s7)(h26:zb)(h27:Ae)(h28:DN)(h29:BO)(h30:BN)(h31:DU)(U2:OQ)(h33:p33)(h34:p34)(h35:p35)(h36:p36)(h37:p37)(h38:p38)(h39:p39) (h:p0→p1→p2→p3→p4→p5→p6→p7→p8→p9→i3→i4→jb→iQ→p14→p15→p16→p17→lu→pM→pG→qh→tU→s6→s5→s7→zb→Ae→DN→BO→BN→DU→OQ→p33→p34→p35→p36→p37→p38→p39→P:=by intro h0 h1 h2 h3 h4 h5 h6 h7 h8 h9 h10 h11 h12 h13 h14 h15 h16 h17 h18 h19 h20 h21 h22 h23 h24 h25 h26 h27 h28 h29 h30 h31 U2 h33 h34 h35 h36 h37 h38 h39; simp -implicitDefEqProofs (disch:=omega) only [ZS,seval,ZX,h0,h1,h2,h3,h4,h5,h6,h7,h8,h9,h10,h11,h12,h13,h14,h15,h16,h17,h18,h19,h20,h21,h22,h23,h24,h25,h26,h27,h28,h29,h30,h31,U2,h33,h34,h35,h36,h37,h38,h39]<;>first | exact⟨_,_,_,rfl,rfl,Nat.le_refl _,rfl⟩ | exact⟨_,_,_,rfl,rfl,Nat.le_refl _,bm (aO _ _ _)⟩):P:=h h0 h1 h2 h3 h4 h5 h6 h7 h8 h9 h10 h11 h12 h13 h14 h15 h16 h17 h18 h19 h20 h21 h22 h23 h24 h25 h26 h27 h28 h29 h30 h31 U2 h33 h34 h35 h36 h37 h38 h39
end Go.Proofs.YtgkggocjoolciaaGreatDoor
namespace Go.PE
open Go Go.EvL
section
variable {P:Program}{Γ:Nat→Option fJ}{ext:aq}
theorem Kw {g r:Nat}{fn:fJ}{args:List PV}{s:PS}{R:PV→PS→Prop} (hg:Γ g=some fn) (hl:args.length≤fn.nt) (hr:fn.res=[.tmp r]) (hk:fn.keep=true) (h:Er (fun f' s'=>R (f' r) ⟨s'.h,s'.n,min s.w s'.w⟩) (aN P Γ ext fn.body (br args 0) ⟨s.h,s.n,s.n⟩)):∃v s',aD P Γ ext g args s=some (v,s')∧R v s':=by
 obtain⟨f,s',e,hv⟩:=h;refine⟨f r,⟨s'.h,s'.n,min s.w s'.w⟩,?_,hv⟩;rw [dT hg _ _ hl,e];show ek fn s f s'=_;unfold ek;rw [hr];simp only [ii,Option.map_some,Option.bind_some,hk,if_true];rfl
theorem gL.weaken {α:Type}{e es b b':Nat}{c:α→List PV}{l:List α}{v:PV}{s:PS} (h:gL e es c b l v s) (hb:b'≤b):gL e es c b' l v s:=by
 rcases h with h | ⟨hl,k,k1,k2,k3,k4⟩
 ·exact .inl h
 ·exact .inr ⟨hl,k,om,k2,k3,k4⟩
end
end Go.PE
namespace Go.Proofs.YtgkggocjoolciaaGreatDoor
open Go Go.EvL Go.PE Go.Mir
variable {ext:aq}
theorem uG (t:List UInt8):dJ (fK t)=[.sc (.int .i64 1),.sc (.string ⟨⟨t⟩⟩),.sc (.int .i64 0),.sc (.bool false),.sc (.slice none 0 0)]:=by
 rw [fK,dJ,cS]
theorem OC (p:aJ):[p].flatMap dJ=dJ p:=by rw [List.flatMap_cons,List.flatMap_nil,List.append_nil]
theorem xq (x y:List UInt8):(⟨⟨x⟩⟩ : ByteArray) ++ (⟨⟨y⟩⟩ : ByteArray)=⟨⟨x ++ y⟩⟩:=by
 apply ByteArray.ext;simp
theorem Af {s:PS}{e es bytes n:Nat}{v v':PV}{xs:List PV}{s':PS} (h:tO s e es bytes v xs n=some (v',s')) (j:Nat) (hj:j < s.n) (hne:∀a m c,v≠.own j a m c):s'.h j=s.h j:=by
 unfold tO at h;split at h
 ·split at h
  ·injection h with h; injection h with _ h; rw [← h]
  ·cases h
 ·split at h
  ·split at h
   ·injection h with h; injection h with _ h; rw [← h,dG,if_neg om]
   ·cases h
  ·rename_i k off m fin;split at h
   ·injection h with h; injection h with _ h; rw [← h,dz,if_neg fun hh=>hne off m fin (by rw [hh])]
   ·cases h
  ·split at h
   ·injection h with h; injection h with _ h; rw [← h,dG,if_neg om]
   ·cases h
  ·cases h
theorem jP {α:Type}{e es b:Nat}{c:α→List PV}{l:List α}{v:PV}{s:PS} (h:gL e es c b l v s) (j:Nat) (hj:j < b∨s.n≤j):∀a m c,v≠.own j a m c:=by
 intro a m cc hv;rcases h with ⟨_,h⟩ | ⟨_,k,k1,k2,h,_⟩
 ·rw [h] at hv; cases hv
 ·rw [h] at hv; injection hv with hk; omega
structure EY (bd:Nat) (s:PS) (v0:PV) (l:List aJ) (v:PV) (s':PS):Prop where
 acc:gL 150 5 dJ bd l v s'
 keep:∀j,j < s.n→(∀a m c,v0≠.own j a m c)→s'.h j=s.h j
 same:∀j,j < bd→s'.h j=s.h j
 n:s.n≤s'.n
 w:∀n0,n0≤bd→n0≤s.w→n0≤s'.w
theorem oW {bd:Nat}{l:List aJ}{v:PV}{s:PS} (h:gL 150 5 dJ bd l v s) (hbd:bd≤s.n) (hn:l.length < 1000000000) (p:aJ) :
  ∃v' s',tO (s.new ⟨dJ p,0,150⟩) 150 5 64 v (dJ p) 1=some (v',s')∧EY bd s v (l ++ [p]) v' s':=by
 obtain⟨v',s',a1,a2,a3,a4,a5⟩:=(h.new ⟨dJ p,0,150⟩).app (bytes:=64) gI [p] om (by simp only [List.length_cons,List.length_nil]; omega) (by simp only [List.length_cons,List.length_nil]; omega) (fun x _=>AT x) (by rw [cD]; omega);rw [OC] at a1;refine⟨v',s',a1,a2,fun j hj hne=>?_,fun j hj=>?_,by rw [cD] at a4; omega,fun n0 h1 h2=>a5 n0 h1 (by rw [ip]; exact h2)⟩
 ·rw [Af a1 j (by rw [cD]; omega) hne,dG,if_neg om]
 ·rw [a3 j hj,dG,if_neg om]
theorem RZ {bd:Nat}{l:List aJ}{v:PV}{t:List UInt8}{s:PS} (h:gL 150 5 dJ bd l v s) (hbd:bd≤s.n) (hn:l.length < 1000000000) (ht:∀p,l.getLast?=some p→p.kind=1→p.text.length + t.length < 4611686018427387904) :
  ∃v' s',aD Tryz.prog Γ ext 279 [v,.sc (.string ⟨⟨t⟩⟩)] s=some (v',s')∧EY bd s v (lK l t) v' s':=by
 refine Kw (fn:=Nb) (r:=4) (by rfl) (by simp [Nb]) (by rfl) (by rfl) ?_;have hel:=sU (e:=150) (⟨s.h,s.n,s.n⟩ : PS) (dJ (fK t));rw [gI] at hel;obtain⟨v1,s1,a1,a2⟩:=oW (s:=⟨s.h,s.n,s.n⟩) (h.frame (s':=⟨s.h,s.n,s.n⟩) (Nat.le_refl _) fun _ _=>rfl) hbd hn (fK t);rw [uG] at hel a1;have fin:∀{v0:PV}{l':List aJ}{v':PV}{s':PS},EY bd ⟨s.h,s.n,s.n⟩ v0 l' v' s'→EY bd s v0 l' v' ⟨s'.h,s'.n,min s.w s'.w⟩:=fun g=>⟨g.acc.frame (Nat.le_refl _) fun _ _=>rfl,g.keep,g.same,g.n,fun n0 h1 h2=>by
  have:=g.w n0 h1 (by show n0≤s.n; omega);show n0≤min _ _;omega⟩
 unfold Nb;rcases h with ⟨rfl,rfl⟩ | ⟨hl,k,k1,k2,rfl,k3⟩
 ·have hz:decide ((0:Int) > 0)=false:=rfl;have hw:lK [] t=[] ++ [fK t]:=rfl;refine P7 hz hel a1 ?_;rw [hw];exact fin a2
 ·obtain⟨l',p,rfl⟩ : ∃l' p,l=l' ++ [p]:=⟨l.dropLast,l.getLast hl,(List.dropLast_concat_getLast hl).symm⟩
  have hlen:(l' ++ [p]).length=l'.length + 1:=by simp
  rw [hlen] at a1 a2;rw [hlen];have hfm:(l' ++ [p]).flatMap dJ=l'.flatMap dJ ++ dJ p:=by rw [List.flatMap_append,OC]
  have hfl:(l'.flatMap dJ).length=l'.length * 5:=aB gI l';rw [hfm] at k3;have c0:decide (0 < l'.length + 1)=true:=dt;have c1:l'.length + 1 - 1 < l'.length + 1:=om;have c2:l'.length + 1 - 1=l'.length:=om;have hld:∀(s':PS) (off:Nat),s'.h k=⟨l'.flatMap dJ ++ dJ p,0,150⟩→off < 5→BU s' (.ptr k (l'.length * 5 + off) ((l'.length + 1) * 5)) 1=some (((dJ p).drop off).take 1):=by
   intro s' off h1 h2;rw [yb,h1];have:=gI p;rw [if_pos ⟨om,Nat.zero_le _,by rw [List.length_append,hfl]; omega⟩,List.drop_append,List.drop_of_length_le (by rw [hfl]; omega),List.nil_append,hfl];rw [show l'.length * 5 + off - l'.length * 5=off by omega]
  have hgl:(l' ++ [p]).getLast?=some p:=by simp
  have hwt:lK (l' ++ [p]) t=if p.kind=1 then l' ++ [fK (p.text ++ t)] else (l' ++ [p]) ++ [fK t]:=by
   unfold lK;rw [hgl];simp only [List.dropLast_concat]
  obtain⟨kd,tx,o,c,ps⟩:=p;have hl0:=fun (s':PS) h1=>hld s' 0 h1 om;have hl1:=fun (s':PS) h1=>hld s' 1 h1 om;rw [dJ] at hl0 hl1;simp only [List.drop_zero,List.drop_succ_cons,List.take_succ_cons,List.take_zero,Nat.add_zero] at hl0 hl1;have hl0':=hl0 ⟨s.h,s.n,s.n⟩ k3;have hlt:l'.length < l'.length + 1:=om;have hz5 : 0 + (l'.length + 1) * 5=(l'.length + 1) * 5:=om;have hwk:IntKind.i64.wrap (((l'.length + 1:Nat):Int) - 1)=(l'.length:Int):=by rw [Se om]; rfl
  by_cases hk:kd=1
  ·subst hk;have hw1:lK (l' ++ [aJ.mk 1 tx o c ps]) t=l' ++ [fK (tx ++ t)]:=hwt.trans (if_pos rfl);rw [hw1];have hs:Jd ⟨s.h,s.n,s.n⟩ 150 5 (.own k 0 (l'.length + 1) ((l'.length + 1) * 5)) 0 l'.length=some (.own k 0 l'.length (l'.length * 5)):=by
    unfold Jd;simp only [k3];rw [if_pos ⟨Nat.zero_le _,om,om,Nat.zero_le _,trivial⟩];simp
   have he:i5 ⟨s.h,s.n,s.n⟩ 5 (.own k 0 l'.length (l'.length * 5))=some (l'.flatMap dJ,l'.length):=by
    unfold i5;simp only [k3];rw [if_pos ⟨om,Nat.zero_le _,by rw [List.length_append,hfl]; omega⟩,List.drop_zero,List.take_left' hfl]
   obtain⟨v2,s2,b1,b2,b3,b4,b5⟩:=(gL.nil 150 5 dJ s.n ⟨s.h,s.n,s.n⟩).app (bytes:=64) gI l' om (by simp only [List.length_nil]; omega) (by simp only [List.length_nil]; omega) (fun x _=>AT x) (Nat.le_refl _);have hl1':=hl1 s2 (by rw [b3 k k2]; exact k3);have htx:=ht _ hgl rfl;have hcat:=xq tx t;have hsz:(⟨⟨tx⟩⟩ : ByteArray).size + (⟨⟨t⟩⟩ : ByteArray).size < 9223372036854775808:=by
    show tx.length + t.length < _;have:tx.length + t.length < 4611686018427387904:=htx;omega
   have hel2:=sU (e:=150) s2 (dJ (fK (tx ++ t)));rw [gI] at hel2;have hadd:=fun (P:Program) ty x y=>nR (P:=P) ty x y hsz;rw [hcat] at hadd;obtain⟨v3,s3,d1,d2⟩:=oW (bd:=bd) (s:=s2) (b2.weaken hbd) (Nat.le_trans hbd b4) (by rw [List.nil_append]; rw [hlen] at hn; omega) (fK (tx ++ t));rw [List.nil_append] at d2;rw [uG] at hel2 d1;refine mT c0 hwk hlt hz5 hl0' hs he b1 hl1' hadd hel2 d1 ?_;exact fin ⟨d2.acc,fun j hj hne=>(d2.keep j (by have h9:s.n≤s2.n:=b4; have h8:j < s.n:=hj; omega) (jP b2 j (.inl hj))).trans (Af b1 j hj fun _ _ _ h=>by cases h),fun j hj=>(d2.same j hj).trans (b3 j om),by have:=d2.n; omega,fun n0 h1 h2=>d2.w n0 h1 (b5 n0 om (by show n0≤s.n; omega))⟩
  ·have hw1:lK (l' ++ [aJ.mk kd tx o c ps]) t=(l' ++ [aJ.mk kd tx o c ps]) ++ [fK t]:=hwt.trans (if_neg hk);rw [hw1];have hk1:(kd == 1)=false:=beq_eq_false_iff_ne.2 hk;refine Fe c0 hwk hlt hz5 hl0' hk1 hel a1 ?_;exact fin a2
end Go.Proofs.YtgkggocjoolciaaGreatDoor
namespace Go.Mir
theorem mM.bd {l:List UInt8}{i j:Nat} (h:mM l i j):i≤l.length→i≤j∧j≤l.length:=by
 induction h with
 | stop h=>exact fun h=>⟨Nat.le_refl _,h⟩
 | step h k ih=>intro _; have:=gm h; have:=ih (by omega); exact⟨by omega,this.2⟩
theorem gW.bd {l:List UInt8}{i j:Nat} (h:gW l i j) (hi:i≤l.length):i≤j∧j≤l.length:=by
 have hn:∀{v i j:Nat},wM l v i j→i≤l.length→i≤j∧j≤l.length:=by
  intro v i j h
  induction h with
  | stop h=>intro h; exact⟨Nat.le_refl _,h⟩
  | step hl h2 h3 k ih=>intro h; have:=ih (by omega); exact⟨by omega,this.2⟩
 cases h with
 | none0 h=>exact⟨Nat.le_refl _,hi⟩
 | zero hl h=>exact⟨by omega,by omega⟩
 | num hl h h2 k=>exact hn k hi
 | name hl h h2=>exact⟨md _ _ _,jH hi⟩
 | spec hl h h2=>exact⟨by omega,by omega⟩
 | none hl h h2=>exact⟨Nat.le_refl _,hi⟩
theorem DR (l:List UInt8) (a c:Nat):(sub l a c).length≤c - a:=by
 unfold sub; rw [List.length_take]; exact Nat.min_le_left _ _
theorem mB (l:List UInt8) (a:Nat) (h:a < l.length):(lj l a).1≠0→a + (lj l a).2.2≤l.length∧1≤(lj l a).2.2:=by
 unfold lj;split
 ·unfold Bc;split
  ·intro hh; exact absurd rfl hh
  rename_i h1;have h2:¬ l.length≤a + 1:=by simpa using h1
  (repeat' split)<;>intro hh<;>first | (exact absurd rfl hh) | (constructor<;>(simp only; omega))
 ·unfold sk;have h2:∀{c d:Bool},(c && (decide (a + 1 < l.length) && d))=true→a + 1 < l.length:=fun h=>by
   simp only [Bool.and_eq_true,decide_eq_true_eq] at h; exact h.2.1
  (repeat' split)<;>intro hh<;>first | (exact absurd rfl hh) | (constructor<;>(simp only; omega)) | (rename_i g; have:=h2 g; constructor<;>(simp only; omega))
def dS.ok (l:List UInt8):dS→Prop
 | .loop a _ _ _ _ _=>a≤l.length
 | .part a _ _=>a < l.length
 | .brc a _ _ | .brc2 a _ _=>a + 2≤l.length
def WB (l:List UInt8):dS→R→Prop
 | .loop a p _ _ _ _,.ok x=>a≤x.2∧x.2≤l.length∧(p≠0→p≠5→x.2 < l.length)∧(p=4→x.2 + 1 < l.length)
 | .part a _ _,.ok x=>a < x.2∧x.2≤l.length∧x.1.length≤1∧∀q∈x.1,q.kind=1→q.text.length≤x.2 - a
 | .brc a _ _,.ok x=>a < x.2∧x.2≤l.length∧x.1.length≤1∧∀q∈x.1,q.kind=4
 | .brc2 a _ _,.ok x=>a < x.2∧x.2≤l.length∧x.1.length≤1∧∀q∈x.1,q.kind=4
 | _,.error _=>True
theorem uX (p:Nat):dV p≠0∧dV p≠5∧dV p≠4∧dV p≤6:=by
 unfold dV;split
 ·omega
 ·split<;>omega
theorem Wx.bound {l:List UInt8}{t:dS}{r:R} (h:Wx l t r):t.ok l→WB l t r:=by
 induction h with
 | l_end h=>intro ok; exact⟨ok,Nat.le_refl _,fun h1 h2=>by omega,fun h1=>by omega⟩
 | l_open=>intro ok; trivial
 | l_q hl h h2=>intro ok; exact⟨Nat.le_refl _,by omega,fun _ _=>hl,fun h1=>absurd h1 h2⟩
 | l_a0=>intro ok; trivial
 | l_a h h2 h3=>intro ok; exact⟨Nat.le_refl _,by omega,fun _ _=>by omega,fun _=>h2⟩
 | l_a1=>intro ok; trivial
 | @l_tilde a p lv fr o r hl h h2 k ih=>
  intro ok;have:=ih (by simp only [dS.ok]; omega);cases r with
  | error x=>trivial
  | ok x=>exact⟨by have:=this.1; omega,this.2⟩
 | l_err=>intro ok; trivial
 | @l_on a p lv fr o acc ps j r hl h h2 k k2 ih ih2=>
  intro ok;have h1:=ih hl;have:=ih2 h1.2.1;cases r with
  | error x=>trivial
  | ok x=>exact⟨by have:=this.1; have:=h1.1; simp only at *; omega,this.2⟩
 | s_end5 h h2=>intro ok; exact⟨by simp only; omega,by simp only; omega,Nat.le_refl _,fun q hq _=>by cases hq with | head=>simp only; show 1≤_; omega | tail _ h=>cases h⟩
 | s_end=>intro ok; trivial
 | s_nl h h2 h3=>intro ok; exact⟨by simp only; omega,by simp only; omega,Nat.zero_le _,fun q hq=>by cases hq⟩
 | s_out h h2 h3 h4=>intro ok; exact⟨by simp only; omega,by simp only; omega,Nat.le_refl _,fun q hq hk=>by cases hq with | head=>cases hk | tail _ h=>cases h⟩
 | s_esc h h2 h3 h4 h5=>intro ok; exact⟨by simp only; omega,by simp only; omega,Nat.le_refl _,fun q hq _=>by cases hq with | head=>exact Nat.le_trans (DR _ _ _) (by simp only; omega) | tail _ h=>cases h⟩
 | s_par=>intro ok; trivial
 | s_two h h2 h3 h4 h5 h6=>intro ok; exact⟨by simp only; omega,by simp only; omega,Nat.le_refl _,fun q hq _=>by cases hq with | head=>exact Nat.le_trans (DR _ _ _) (by simp only; omega) | tail _ h=>cases h⟩
 | q_err=>intro ok; trivial
 | q_ok hl h k c=>intro ok; have hb:=k.bound ⟨by omega,hl⟩; have:=hb.2 rfl; simp only [fX.at] at this; exact⟨by simp only; omega,hb.1,Nat.le_refl _,fun q hq hk=>by cases hq with | head=>cases hk | tail _ h=>cases h⟩
 | q_nl hl h k c c2=>intro ok; have hb:=k.bound ⟨by omega,hl⟩; have:=hb.2 rfl; simp only [fX.at] at this; exact⟨by simp only; omega,hb.1,Nat.le_refl _,fun q hq hk=>by cases hq with | head=>cases hk | tail _ h=>cases h⟩
 | q_no=>intro ok; trivial
 | @x_brc a p lv r h h2 k ih=>
  intro ok;have hl:=bS h;have:=ih (by simp only [dS.ok]; omega);cases r with
  | error x=>trivial
  | ok x=>exact⟨this.1,this.2.1,this.2.2.1,fun q hq hk=>by rw [this.2.2.2 q hq] at hk; cases hk⟩
 | x_deep=>intro ok; trivial
 | x_ari h h2 hl h3 h4 k ih=>intro ok; have:=ih (by simp only [dS.ok]; omega); exact⟨by have:=this.1; simp only at *; omega,by have:=this.2.2.2 rfl; simp only at *; omega,Nat.le_refl _,fun q hq hk=>by cases hq with | head=>cases hk | tail _ h=>cases h⟩
 | x_ari0=>intro ok; trivial
 | x_cmd h h2 h3 k=>intro ok; have hl:=bS h; have hb:=k.bound ⟨by omega,by omega⟩; have:=hb.2 rfl; simp only [fX.at] at this; exact⟨by simp only; omega,hb.1,Nat.le_refl _,fun q hq hk=>by cases hq with | head=>cases hk | tail _ h=>cases h⟩
 | x_cmd0=>intro ok; trivial
 | x_sp h h2=>intro ok; have hl:=bS h; exact⟨by simp only; omega,by simp only; omega,Nat.le_refl _,fun q hq hk=>by cases hq with | head=>cases hk | tail _ h=>cases h⟩
 | x_long=>intro ok; trivial
 | x_nm h h2 h3 h4 h5=>intro ok; have hl:=bS h; have:=re h h3 h4 h2; exact⟨by simp only; omega,jH (by omega),Nat.le_refl _,fun q hq hk=>by cases hq with | head=>cases hk | tail _ h=>cases h⟩
 | x_bad=>intro ok; trivial
 | x_lit hl h h2 h3=>intro ok; exact⟨by simp only; omega,by simp only; omega,Nat.le_refl _,fun q hq _=>by cases hq with | head=>simp only; show 1≤_; omega | tail _ h=>cases h⟩
 | t_sq0=>intro ok; trivial
 | @t_sq a p lv hl h h2 h3=>intro ok; have:=md (fun x=>x != 39) l (a + 1); exact⟨by simp only; unfold cB at *; omega,by simp only; omega,Nat.le_refl _,fun q hq hk=>by cases hq with | head=>cases hk | tail _ h=>cases h⟩
 | t_deep=>intro ok; trivial
 | t_dq hl h h2 h3 k ih=>intro ok; have:=ih (by simp only [dS.ok]; omega); have g:=this.2.2.1 (by omega) (by omega); exact⟨by have:=this.1; simp only at *; omega,by simp only at *; omega,Nat.le_refl _,fun q hq hk=>by cases hq with | head=>cases hk | tail _ h=>cases h⟩
 | t_dq0=>intro ok; trivial
 | o_op=>intro ok; trivial
 | o_dq=>intro ok; trivial
 | o_lit hl h1 h2 h3 h4 h5 h6=>intro ok; exact⟨by simp only; omega,by simp only; omega,Nat.le_refl _,fun q hq _=>by cases hq with | head=>exact Nat.le_trans (DR _ _ _) (by simp only; omega) | tail _ h=>cases h⟩
 | r_long=>intro ok; trivial
 | r_len hl h k h2 h3 h4 h5=>intro ok; exact⟨by simp only; omega,by simp only; omega,Nat.le_refl _,fun q hq=>by cases hq with | head=>rfl | tail _ h=>cases h⟩
 | r_end=>intro ok; trivial
 | @r_sharp a p lv j r hl h k h2 h3 k2 ih=>intro ok; have:=ih (by simp only [dS.ok] at *; omega); cases r with | error x=>trivial | ok x=>exact this
 | @r_two a p lv r h k2 ih=>intro ok; have:=ih (by simp only [dS.ok] at *; omega); cases r with | error x=>trivial | ok x=>exact this
 | w_long=>intro ok; trivial
 | w_end=>intro ok; trivial
 | w_none=>intro ok; trivial
 | w_plain k h h2 h3 h4=>intro ok; exact⟨by simp only; omega,by simp only; omega,Nat.le_refl _,fun q hq=>by cases hq with | head=>rfl | tail _ h=>cases h⟩
 | w_colon0=>intro ok; trivial
 | w_colon=>intro ok; trivial
 | w_sharp=>intro ok; trivial
 | w_bad=>intro ok; trivial
 | w_deep=>intro ok; trivial
 | w_join=>intro ok; trivial
 | w_err=>intro ok; trivial
 | @w_ok a p lv j ps i k h h2 h3 h4 h5 h6 h7 k2 ih=>intro ok; have ho:=mB l j h2 h5; have:=ih ho.1; have g:=uX p; have g2:=this.2.2.1 g.1 g.2.1; exact⟨by have:=this.1; simp only at *; omega,by simp only at *; omega,Nat.le_refl _,fun q hq=>by cases hq with | head=>rfl | tail _ h=>cases h⟩
end Go.Mir
namespace Go.Proofs.YtgkggocjoolciaaGreatDoor
open Go Go.EvL Go.PE Go.Mir
variable {ext:aq}{b:ByteArray}
theorem aE (k:IntKind) (z:Int):cL (.sc (.int k z))=true:=(rfl)
theorem iW (b:ByteArray):cL (.sc (.string b))=true:=(rfl)
theorem iY (b:Bool):cL (.sc (.bool b))=true:=(rfl)
theorem aP:cL (.sc (.slice none 0 0))=true:=(rfl)
theorem Iw:cS []=.sc (.slice none 0 0):=by rw [cS]
theorem aC (l:List aJ):cL (cS l)=true:=by cases l<;>(rw [cS]; rfl)
theorem yI (l:List aJ):az (cS l)=[cS l]:=by cases l<;>(rw [cS]; rfl)
theorem aO (n:Nat) (s:PS) (l:List aJ):fx n s (cS l)=some (cS l):=by cases l<;>(rw [cS]; rfl)
theorem ul (a e:Nat) (s:PS):Pc ext 276 [iN a,iN e] (.agg [.sc (.slice none 0 0),iN a,iN e]) s:=Ja a e s
theorem ay (a e:Nat) (s:PS):Pc ext 276 [iN a,.sc (.int .i64 (no_index (@OfNat.ofNat Int e instOfNat)))] (.agg [.sc (.slice none 0 0),iN a,.sc (.int .i64 (@OfNat.ofNat Int e instOfNat))]) s:=Ja a e s
theorem zU (k:Int) (t:List UInt8) (o:Int) (c:Bool) (ps:List aJ) (j:Nat) (s:PS):Pc ext 301 [.agg [.sc (.int .i64 k),.sc (.string ⟨⟨t⟩⟩),.sc (.int .i64 o),.sc (.bool c),cS ps],iN j] (.agg [cS [.mk k t o c ps],iN j,.sc (.int .i64 0)]) s:=by
 have:=Sk (ext:=ext) (.mk k t o c ps) j s;rw [dJ] at this;exact this
theorem cG (k:Int) (t:List UInt8) (o:Int) (c:Bool) (j:Nat) (s:PS):Pc ext 301 [.agg [.sc (.int .i64 k),.sc (.string ⟨⟨t⟩⟩),.sc (.int .i64 o),.sc (.bool c),.sc (.slice none 0 0)],iN j] (.agg [cS [.mk k t o c []],iN j,.sc (.int .i64 0)]) s:=by
 have:=zU (ext:=ext) k t o c [] j s;rw [cS] at this;exact this
theorem Mf (hb:b.data.toList.length < 1000000000) {a:Nat} (h2:a + 1=b.data.toList.length) (s:PS):Pc ext 295 [.sc (.string b),iN a,iN (5:Nat)] (bL (.ok ([fK [92]],a + 1))) s:=by
 have g0:(a + 1 == b.data.toList.length)=true:=by rw [h2]; exact beq_self_eq_true _
 refine qC (s.n) mg 6 3 ?_;unfold mg;exact WU @aS @aE @aC @cG g0
theorem QJ (hb:b.data.toList.length < 1000000000) {a p:Nat} (h2:a + 1=b.data.toList.length) (h3:p≠5) (s:PS):Pc ext 295 [.sc (.string b),iN a,iN p] (bL (.error (a,7))) s:=by
 have g0:(a + 1 == b.data.toList.length)=true:=by rw [h2]; exact beq_self_eq_true _
 have g1:(p == 5)=false:=beq_eq_false_iff_ne.2 h3;refine qC (s.n) mg 6 3 ?_;unfold mg;exact KI @aS @aE @aP @aC @ay @cG g0 g1
theorem U7 (hb:b.data.toList.length < 1000000000) {a p:Nat} (h2:a + 1 < b.data.toList.length) (h3:bt b.data.toList (a + 1)=10) (s:PS):Pc ext 295 [.sc (.string b),iN a,iN p] (bL (.ok ([],a + 2))) s:=by
 have g0:(a + 1 == b.data.toList.length)=false:=bf;have g1:(bt b.data.toList (a + 1) == 10)=true:=by rw [h3]; rfl
 refine qC (s.n) mg 6 3 ?_;unfold mg;have n0:a + 1 < b.data.toList.length:=om;exact Ux @aS @aE @aP @aC @cG @Iw g0 g1 n0
theorem QP (hb:b.data.toList.length < 1000000000) {a p:Nat} (hp:p≤6) (h2:a + 1 < b.data.toList.length) (h3:bt b.data.toList (a + 1)≠10) (h4:cN p=true) (s:PS):Pc ext 295 [.sc (.string b),iN a,iN p] (bL (.ok ([uf (sub b.data.toList (a + 1) (a + 2))],a + 2))) s:=by
 have g0:(a + 1 == b.data.toList.length)=false:=bf;have g1:(bt b.data.toList (a + 1) == 10)=false:=beq_eq_false_iff_ne.2 (h3);have g2:(cN p)=true:=h4;refine qC (s.n) mg 6 3 ?_;unfold mg;have n0:a + 1 < b.data.toList.length:=om;have n1:a + 1≤a + 2:=om;have n2:a + 2≤b.data.toList.length:=om;have f0:=fun s=>bF (ext:=ext) hp s;simp -implicitDefEqProofs (disch:=omega) only [ZA,Nat.reduceAdd,Nat.reduceEqDiff,↓reduceIte,Nat.reduceLeDiff,reduceCtorEq,aY,bM,bY,dH,iJ,aS,List.all_cons,List.all_nil,Bool.and_self,aE,aP,List.drop_nil,aC,lF,km,cG,g0,g1,g2,n0,n1,n2,f0]
 all_goals first | exact⟨_,_,_,rfl,rfl,Nat.le_refl _,rfl⟩ | exact⟨_,_,_,rfl,rfl,Nat.le_refl _,bm (aO _ _ _)⟩
theorem R7 (hb:b.data.toList.length < 1000000000) {a p:Nat} (hp:p≤6) (h2:a + 1 < b.data.toList.length) (h3:bt b.data.toList (a + 1)≠10) (h4:cN p=false) (h5:bX (bt b.data.toList (a + 1)) p=true) (s:PS):Pc ext 295 [.sc (.string b),iN a,iN p] (bL (.ok ([fK (sub b.data.toList (a + 1) (a + 2))],a + 2))) s:=by
 have g0:(a + 1 == b.data.toList.length)=false:=bf;have g1:(bt b.data.toList (a + 1) == 10)=false:=beq_eq_false_iff_ne.2 (h3);have g2:(cN p)=false:=h4;have g3:(bX (bt b.data.toList (a + 1)) p)=true:=h5;refine qC (s.n) mg 6 3 ?_;unfold mg;have n0:a + 1 < b.data.toList.length:=om;have n1:a + 1≤a + 2:=om;have n2:a + 2≤b.data.toList.length:=om;have f0:=fun s=>bF (ext:=ext) hp s;have f1:=fun c s=>jk (ext:=ext) (c:=c) hp s;simp -implicitDefEqProofs (disch:=omega) only [ZA,Nat.reduceAdd,Nat.reduceEqDiff,↓reduceIte,Nat.reduceLeDiff,reduceCtorEq,aY,bM,bY,dH,iJ,aS,List.all_cons,List.all_nil,Bool.and_self,aE,aP,List.drop_nil,aC,lF,km,cG,g0,g1,g2,g3,n0,n1,n2,f0,f1]
 all_goals first | exact⟨_,_,_,rfl,rfl,Nat.le_refl _,rfl⟩ | exact⟨_,_,_,rfl,rfl,Nat.le_refl _,bm (aO _ _ _)⟩
theorem JY (hb:b.data.toList.length < 1000000000) {a:Nat} (h2:a + 1 < b.data.toList.length) (h3:bt b.data.toList (a + 1)=40) (s:PS):Pc ext 295 [.sc (.string b),iN a,iN (4:Nat)] (bL (.error (a,6))) s:=by
 have hp : 4≤6:=om;have g0:(a + 1 == b.data.toList.length)=false:=bf;have g1:(bt b.data.toList (a + 1) == 10)=false:=by rw [h3]; rfl
 have g2:(cN 4)=false:=rfl;have g3:(bX (bt b.data.toList (a + 1)) 4)=false:=by rw [h3]; rfl
 have g4:(bt b.data.toList (a + 1) == 40)=true:=by rw [h3]; rfl
 have g5:(bt b.data.toList (a + 1) == 41)=false:=by rw [h3]; rfl
 refine qC (s.n) mg 6 3 ?_;unfold mg;have n0:a + 1 < b.data.toList.length:=om;have f0:=fun s=>bF (ext:=ext) hp s;have f1:=fun c s=>jk (ext:=ext) (c:=c) hp s;simp -implicitDefEqProofs (disch:=omega) only [ZA,Nat.reduceAdd,Nat.reduceEqDiff,↓reduceIte,Nat.reduceLeDiff,reduceCtorEq,Nat.reduceBEq,aY,bM,bY,dH,iJ,aS,List.all_cons,List.all_nil,Bool.and_self,aE,aP,List.drop_nil,aC,lF,km,ay,cG,g0,g1,g2,g3,g4,n0,f0,f1]
 all_goals first | exact⟨_,_,_,rfl,rfl,Nat.le_refl _,rfl⟩ | exact⟨_,_,_,rfl,rfl,Nat.le_refl _,bm (aO _ _ _)⟩
theorem I9 (hb:b.data.toList.length < 1000000000) {a:Nat} (h2:a + 1 < b.data.toList.length) (h3:bt b.data.toList (a + 1)=41) (s:PS):Pc ext 295 [.sc (.string b),iN a,iN (4:Nat)] (bL (.error (a,6))) s:=by
 have hp : 4≤6:=om;have g0:(a + 1 == b.data.toList.length)=false:=bf;have g1:(bt b.data.toList (a + 1) == 10)=false:=by rw [h3]; rfl
 have g2:(cN 4)=false:=rfl;have g3:(bX (bt b.data.toList (a + 1)) 4)=false:=by rw [h3]; rfl
 have g4:(bt b.data.toList (a + 1) == 40)=false:=by rw [h3]; rfl
 have g5:(bt b.data.toList (a + 1) == 41)=true:=by rw [h3]; rfl
 refine qC (s.n) mg 6 3 ?_;unfold mg;have n0:a + 1 < b.data.toList.length:=om;have f0:=fun s=>bF (ext:=ext) hp s;have f1:=fun c s=>jk (ext:=ext) (c:=c) hp s;simp -implicitDefEqProofs (disch:=omega) only [ZA,Nat.reduceAdd,Nat.reduceEqDiff,↓reduceIte,Nat.reduceLeDiff,reduceCtorEq,Nat.reduceBEq,aY,bM,bY,dH,iJ,aS,List.all_cons,List.all_nil,Bool.and_self,aE,aP,List.drop_nil,aC,lF,km,ay,cG,g0,g1,g2,g3,g4,g5,n0,f0,f1]
 all_goals first | exact⟨_,_,_,rfl,rfl,Nat.le_refl _,rfl⟩ | exact⟨_,_,_,rfl,rfl,Nat.le_refl _,bm (aO _ _ _)⟩
theorem Qh (hb:b.data.toList.length < 1000000000) {a p:Nat} (hp:p≤6) (h2:a + 1 < b.data.toList.length) (h3:bt b.data.toList (a + 1)≠10) (h4:cN p=false) (h5:bX (bt b.data.toList (a + 1)) p=false) (h6:p≠4) (s:PS):Pc ext 295 [.sc (.string b),iN a,iN p] (bL (.ok ([fK (sub b.data.toList a (a + 2))],a + 2))) s:=by
 have g0:(a + 1 == b.data.toList.length)=false:=bf;have g1:(bt b.data.toList (a + 1) == 10)=false:=beq_eq_false_iff_ne.2 (h3);have g2:(cN p)=false:=h4;have g3:(bX (bt b.data.toList (a + 1)) p)=false:=h5;have g4:(p == 4)=false:=beq_eq_false_iff_ne.2 h6;refine qC (s.n) mg 6 3 ?_;unfold mg;have n0:a + 1 < b.data.toList.length:=om;have n1:a≤a + 2:=om;have n2:a + 2≤b.data.toList.length:=om;have f0:=fun s=>bF (ext:=ext) hp s;have f1:=fun c s=>jk (ext:=ext) (c:=c) hp s;exact FB @aS @aE @aP @aC @ay @cG g0 g1 g2 g3 g4 n0 n1 n2 f0 f1
theorem KQ (hb:b.data.toList.length < 1000000000) {a:Nat} (h2:a + 1 < b.data.toList.length) (h3:bt b.data.toList (a + 1)≠10) (h5:bX (bt b.data.toList (a + 1)) 4=false) (h6:bt b.data.toList (a + 1)≠40) (h7:bt b.data.toList (a + 1)≠41) (s:PS):Pc ext 295 [.sc (.string b),iN a,iN (4:Nat)] (bL (.ok ([fK (sub b.data.toList a (a + 2))],a + 2))) s:=by
 have hp : 4≤6:=om;have g0:(a + 1 == b.data.toList.length)=false:=bf;have g1:(bt b.data.toList (a + 1) == 10)=false:=beq_eq_false_iff_ne.2 (h3);have g2:(cN 4)=false:=rfl;have g3:(bX (bt b.data.toList (a + 1)) 4)=false:=h5;have g4:(bt b.data.toList (a + 1) == 40)=false:=beq_eq_false_iff_ne.2 (h6);have g5:(bt b.data.toList (a + 1) == 41)=false:=beq_eq_false_iff_ne.2 (h7);refine qC (s.n) mg 6 3 ?_;unfold mg;have n0:a + 1 < b.data.toList.length:=om;have n1:a≤a + 2:=om;have n2:a + 2≤b.data.toList.length:=om;have f0:=fun s=>bF (ext:=ext) hp s;have f1:=fun c s=>jk (ext:=ext) (c:=c) hp s;simp -implicitDefEqProofs (disch:=omega) only [ZA,Nat.reduceAdd,Nat.reduceEqDiff,↓reduceIte,Nat.reduceLeDiff,reduceCtorEq,Nat.reduceBEq,aY,bM,bY,dH,iJ,aS,List.all_cons,List.all_nil,Bool.and_self,aE,aP,List.drop_nil,aC,lF,km,ay,cG,g0,g1,g2,g3,g4,g5,n0,n1,n2,f0,f1]
 all_goals first | exact⟨_,_,_,rfl,rfl,Nat.le_refl _,rfl⟩ | exact⟨_,_,_,rfl,rfl,Nat.le_refl _,bm (aO _ _ _)⟩
end Go.Proofs.YtgkggocjoolciaaGreatDoor
