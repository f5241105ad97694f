/- What functions of the program and of the reference compute, on values. No statement is proved here. -/
import Derived.Test.YtokdflgpbfjpcaaGreatDoorTxL
import Derived.Test.YtokdflgpbfjpcaaGreatDoorTxJ
import Derived.Test.YtokdflgpbfjpcaaGreatDoorTxK
import Derived.Test.YtokdflgpbfjpcaaGreatDoorTxE
import Derived.KernelRfl
set_option linter.all false
namespace Go.PE
open Go Go.EvL
section
variable {P:Program}{Γ:Nat→Option gk}{ext:ar}
def Vr (a b:ByteArray):Bool:=!(Op.bytesLess a.toList b.toList)
theorem jT (t:Nat) (x y:Operand) (a b:ByteArray):fJ P .geq t x y (.sc (.string a)) (.sc (.string b))=some (.sc (.bool (Vr a b))):=(rfl)
end
end Go.PE
namespace Go.Proofs.YtokdflgpbfjpcaaGreatDoor
open Go Go.EvL Go.PE Go.Mir
variable {ext:ar}
theorem MN {xs:List eD} (hx:xs.length < 1000000000000) (hs:∀x∈xs,x.name.data.toList.length < 1000000000000):∀(k i:Nat),i + k=xs.length→∃z:Int,∀(n0:Nat) (f:aX) (s:PS),n0≤s.w→f 0=.lit 44 xs.length (xs.flatMap eD.cells)→f 3=iN i→
  Er (fun f' s'=>n0≤s'.w∧f' 2=.sc (.int .i64 z)) (LP Tryz.prog Γ ext 0 kS qE f s):=by
 intro k
 induction k with
 | zero=>
  intro i hk;refine⟨0,fun n0 f s hn h0 h3=>?_⟩;have e1:decide (i < xs.length)=false:=df;refine ad fun L hL=>?_;refine He @kS.eq_1 @qE.eq_1 h0 h3 e1 ?_;exact hn
 | succ k ih=>
  intro i hk;obtain⟨z,hgo⟩:=ih (i + 1) om;have hl:i < xs.length:=om;have e1:decide (i < xs.length)=true:=decide_eq_true hl;have hj:xs[i]?=some xs[i]:=List.getElem?_eq_getElem hl;have hfl:=aJ (c:=eD.cells) (es:=5) (fun _=>rfl) xs;obtain⟨rr,hk3⟩:=cm (c:=eD.cells) (es:=5) (fun _=>rfl) hj;have hnm:=hs xs[i] (List.getElem_mem ..);generalize xs[i]=x at hk3 hnm;obtain⟨n,v,a1,a2,a3⟩:=x;simp only at hnm;simp only [eD.cells,List.cons_append,List.nil_append] at hk3;have hr:=fun s=>rL (ext:=ext) (b:=n) om s;cases c2:gK n.data.toList with
  | false=>
   refine⟨10,fun n0 f s hn h0 h3=>?_⟩;refine ad fun L hL=>?_;refine jU @kS.eq_1 @qE.eq_1 h0 h3 e1 c2 hl hfl hk3 @aw hr tv ?_;exact hn
  | true=>
  cases c3:decide (4096 < v.data.toList.length) with
  | true=>
   refine⟨3,fun n0 f s hn h0 h3=>?_⟩;refine ad fun L hL=>?_;refine jU @kS.eq_1 @qE.eq_1 h0 h3 e1 c2 c3 hl hfl hk3 @aw hr ?_;exact hn
  | false=>
  cases c4:(!a1 && !v.data.toList.isEmpty) with
  | true=>
   refine⟨1,fun n0 f s hn h0 h3=>?_⟩;have c5:a1=false:=by cases a1<;>simp_all
   have c6:v.data.toList.isEmpty=false:=by cases h:v.data.toList.isEmpty<;>simp_all
   subst c5;refine ad fun L hL=>?_;simp -implicitDefEqProofs (disch:=first | omega | (unfold cZ cd; simp<;>omega)) only [ZS,seval,ZT,ZX,kS,qE,h0,h3,e1,c2,c3,c6,hl,hfl,hk3,aw,hr,aV];exact hn
  | false=>
  have c5:a1=true∨a1=false∧v.data.toList.isEmpty=true:=by cases a1<;>cases h:v.data.toList.isEmpty<;>simp_all
  cases i with
  | zero=>
   refine⟨z,fun n0 f s hn h0 h3=>?_⟩;refine ad fun L hL=>?_;rcases c5 with rfl | ⟨rfl,c5⟩
   ·simp -implicitDefEqProofs (disch:=first | omega | (unfold cZ cd; simp<;>omega)) only [ZA,Nat.reduceAdd,Nat.reduceEqDiff,↓reduceIte,Nat.reduceLeDiff,reduceCtorEq,Nat.reduceBEq,Nat.reduceLT,bE,cg,cI,aW,cP,b9,cV,bz,frz,cT,cM,er,ZD,da,eS,gE,kS,h0,h3,e1,c2,c3,hl,gB,hfl,hk3,aw,hr,Bool.not_true,Bool.not_false,aV];subst hL;exact hgo _ _ _ hn (fP h0) fp
   ·simp -implicitDefEqProofs (disch:=first | omega | (unfold cZ cd; simp<;>omega)) only [ZA,Nat.reduceAdd,Nat.reduceEqDiff,↓reduceIte,Nat.reduceLeDiff,reduceCtorEq,Nat.reduceBEq,Nat.reduceLT,bE,cg,cI,aW,cP,b9,cV,bz,frz,cT,cM,er,ZD,da,eS,gE,kS,h0,h3,e1,c2,c3,c5,hl,gB,hfl,hk3,aw,hr,Bool.not_true,Bool.not_false,aV];subst hL;exact hgo _ _ _ hn (fP h0) fp
  | succ j=>
  have hl2:j < xs.length:=om;have hj2:xs[j]?=some xs[j]:=List.getElem?_eq_getElem hl2;obtain⟨rr2,hk4⟩:=cm (c:=eD.cells) (es:=5) (fun _=>rfl) hj2;generalize xs[j]=x2 at hk4;obtain⟨n2,v2,b1,b2,b3⟩:=x2;simp only [eD.cells,List.cons_append,List.nil_append] at hk4;have e3:decide (0 < j + 1)=true:=decide_eq_true (Nat.succ_pos _);cases c6:Vr n2 n with
  | true=>
   refine⟨1,fun n0 f s hn h0 h3=>?_⟩;refine ad fun L hL=>?_;rcases c5 with rfl | ⟨rfl,c5⟩
   ·simp -implicitDefEqProofs (disch:=first | omega | (unfold cZ cd; simp<;>omega)) only [ZS,seval,ZT,ZX,kS,qE,h0,h3,e1,e3,c2,c3,c6,hl,hl2,hfl,hk3,hk4,aw,hr,aV,jT,Nat.add_sub_cancel];exact hn
   ·simp -implicitDefEqProofs (disch:=first | omega | (unfold cZ cd; simp<;>omega)) only [ZS,seval,ZT,ZX,kS,qE,h0,h3,e1,e3,c2,c3,c5,c6,hl,hl2,hfl,hk3,hk4,aw,hr,aV,jT,Nat.add_sub_cancel];exact hn
  | false=>
   refine⟨z,fun n0 f s hn h0 h3=>?_⟩;refine ad fun L hL=>?_;rcases c5 with rfl | ⟨rfl,c5⟩
   ·simp -implicitDefEqProofs (disch:=first | omega | (unfold cZ cd; simp<;>omega)) only [ZS,seval,ZT,ZX,kS,h0,h3,e1,e3,c2,c3,c6,hl,hl2,hfl,hk3,hk4,aw,hr,aV,jT,Nat.add_sub_cancel];subst hL;exact hgo _ _ _ hn (bm h0) bw
   ·simp -implicitDefEqProofs (disch:=first | omega | (unfold cZ cd; simp<;>omega)) only [ZS,seval,ZT,ZX,kS,h0,h3,e1,e3,c2,c3,c5,c6,hl,hl2,hfl,hk3,hk4,aw,hr,aV,jT,Nat.add_sub_cancel];subst hL;exact hgo _ _ _ hn (bm h0) bw
theorem Sj (l:List eD) (hx:l.length < 1000000000000) (hs:∀x∈l,x.name.data.toList.length < 1000000000000):∃z:Int,∀y,y.getD []=l→∀s,Pc ext 26 [aU 44 eD.cells y] (.sc (.int .i64 z)) s:=by
 have z1:decide ((0:Int) > 128)=false:=rfl;cases c1:decide (128 < l.length) with
 | true=>
  refine⟨4,fun y hy s=>?_⟩;subst hy;refine lH xh 2 ?_;unfold xh;cases y with
  | none=>simp at c1
  | some l=>
   simp only [Option.getD_some] at c1;exact qO @bU c1
 | false=>
  obtain⟨z,hz⟩:=MN (ext:=ext) hx hs l.length 0 (Nat.zero_add _);by_cases hl:l=[]
  ·subst hl;refine⟨0,fun y hy s=>?_⟩;refine lH xh 2 ?_;unfold xh;have z0:decide ((0:Int) < 0)=false:=rfl;have z2:decide (0 < 0)=false:=rfl;cases y with
   | none=>
    refine vp @bU z1 ?_;refine ad fun L hL=>?_;exact jB @kS.eq_1 @qE.eq_1 z0
   | some m=>
    simp only [Option.getD_some] at hy;subst hy;simp only [List.length_nil] at *;refine vp @bU c1 ?_;refine ad fun L hL=>?_;exact jB @kS.eq_1 @qE.eq_1 z2
  ·refine⟨z,fun y hy s=>?_⟩;refine lH xh 2 ?_;unfold xh;cases y with
   | none=>exact absurd hy.symm hl
   | some m=>
    simp only [Option.getD_some] at hy;subst hy;refine vp @bU c1 ?_;exact hz s.n _ _ bw (bm @bU) bw
theorem N9 {xs:List ByteArray} (hx:xs.length < 1000000000000):∀(k i:Nat),i + k=xs.length→∃z:Int,∀(n0:Nat) (f:aX) (s:PS),n0≤s.w→f 0=.lit 9 xs.length (xs.flatMap gq)→f 3=iN i→
  Er (fun f' s'=>n0≤s'.w∧f' 2=.sc (.int .i64 z)) (LP Tryz.prog Γ ext 0 u0 yf f s):=by
 intro k
 induction k with
 | zero=>
  intro i hk;refine⟨0,fun n0 f s hn h0 h3=>?_⟩;have e1:decide (i < xs.length)=false:=df;refine ad fun L hL=>?_;refine He @u0.eq_1 @yf.eq_1 h0 h3 e1 ?_;exact hn
 | succ k ih=>
  intro i hk;obtain⟨z,hgo⟩:=ih (i + 1) om;have hl:i < xs.length:=om;have e1:decide (i < xs.length)=true:=decide_eq_true hl;have hj:xs[i]?=some xs[i]:=List.getElem?_eq_getElem hl;have hfl:=aJ (c:=gq) (es:=1) (fun _=>rfl) xs;obtain⟨rr,hk3⟩:=cm (c:=gq) (es:=1) (fun _=>rfl) hj;generalize xs[i]=x at *;simp only [gq,List.cons_append,List.nil_append] at hk3;cases c1:decide (4096 < x.data.toList.length) with
  | true=>
   refine⟨3,fun n0 f s hn h0 h3=>?_⟩;refine ad fun L hL=>?_;refine AZ @u0.eq_1 @yf.eq_1 h0 h3 e1 hl hfl hk3 @aw c1 ?_;exact hn
  | false=>
   refine⟨z,fun n0 f s hn h0 h3=>?_⟩;refine ad fun L hL=>?_;refine DV @u0.eq_1 h0 h3 e1 hl hfl hk3 @aw c1 ?_;subst hL;exact hgo _ _ _ hn (bm h0) bw
theorem JL (l:List ByteArray) (hx:l.length < 1000000000000):∃z:Int,∀y,y.getD []=l→∀s,Pc ext 27 [aU 9 gq y] (.sc (.int .i64 z)) s:=by
 have z1:decide ((0:Int) > 512)=false:=rfl;cases c1:decide (512 < l.length) with
 | true=>
  refine⟨4,fun y hy s=>?_⟩;subst hy;refine lH xi 2 ?_;unfold xi;cases y with
  | none=>simp at c1
  | some l=>
   simp only [Option.getD_some] at c1;exact qO @bU c1
 | false=>
  obtain⟨z,hz⟩:=N9 (ext:=ext) hx l.length 0 (Nat.zero_add _);by_cases hl:l=[]
  ·subst hl;refine⟨0,fun y hy s=>?_⟩;refine lH xi 2 ?_;unfold xi;have z0:decide ((0:Int) < 0)=false:=rfl;have z2:decide (0 < 0)=false:=rfl;cases y with
   | none=>
    refine vp @bU z1 ?_;refine ad fun L hL=>?_;exact jB @u0.eq_1 @yf.eq_1 z0
   | some m=>
    simp only [Option.getD_some] at hy;subst hy;simp only [List.length_nil] at *;refine vp @bU c1 ?_;refine ad fun L hL=>?_;exact jB @u0.eq_1 @yf.eq_1 z2
  ·refine⟨z,fun y hy s=>?_⟩;refine lH xi 2 ?_;unfold xi;cases y with
   | none=>exact absurd hy.symm hl
   | some m=>
    simp only [Option.getD_some] at hy;subst hy;refine vp @bU c1 ?_;exact hz s.n _ _ bw (bm @bU) bw
theorem OM {xs:List dk} (hx:xs.length < 1000000000000):∀(k i:Nat),i + k=xs.length→∃z:Int,∀(n0:Nat) (f:aX) (s:PS),n0≤s.w→f 0=.lit 46 xs.length (xs.flatMap dk.cells)→f 3=iN i→
  Er (fun f' s'=>n0≤s'.w∧f' 2=.sc (.int .i64 z)) (LP Tryz.prog Γ ext 0 ny se f s):=by
 intro k
 induction k with
 | zero=>
  intro i hk;refine⟨0,fun n0 f s hn h0 h3=>?_⟩;have e1:decide (i < xs.length)=false:=df;refine ad fun L hL=>?_;refine He @ny.eq_1 @se.eq_1 h0 h3 e1 ?_;exact hn
 | succ k ih=>
  intro i hk;obtain⟨z,hgo⟩:=ih (i + 1) om;have hl:i < xs.length:=om;have e1:decide (i < xs.length)=true:=decide_eq_true hl;have hj:xs[i]?=some xs[i]:=List.getElem?_eq_getElem hl;have hfl:=aJ (c:=dk.cells) (es:=2) (fun _=>rfl) xs;obtain⟨rr,hk3⟩:=cm (c:=dk.cells) (es:=2) (fun _=>rfl) hj;generalize xs[i]=x at *;obtain⟨g,a⟩:=x;simp only [dk.cells,List.cons_append,List.nil_append] at hk3;cases c1:decide (g < 0) with
  | true=>
   refine⟨2,fun n0 f s hn h0 h3=>?_⟩;refine ad fun L hL=>?_;simp -implicitDefEqProofs (disch:=first | omega | (unfold cZ cd; simp<;>omega)) only [ZS,seval,ZT,ny,se,h0,h3,e1,hl,hfl,hk3,aw,c1];exact hn
  | false=>
  cases c2:decide (g > 20) with
  | true=>
   refine⟨2,fun n0 f s hn h0 h3=>?_⟩;refine ad fun L hL=>?_;simp -implicitDefEqProofs (disch:=first | omega | (unfold cZ cd; simp<;>omega)) only [ZS,seval,ZT,ny,se,h0,h3,e1,hl,hfl,hk3,aw,c1,c2];exact hn
  | false=>
  cases c3:decide (16384 < a.data.toList.length) with
  | true=>
   refine⟨3,fun n0 f s hn h0 h3=>?_⟩;refine ad fun L hL=>?_;simp -implicitDefEqProofs (disch:=first | omega | (unfold cZ cd; simp<;>omega)) only [ZS,seval,ZT,ny,se,h0,h3,e1,hl,hfl,hk3,aw,c1,c2,c3];exact hn
  | false=>
  cases i with
  | zero=>
   refine⟨z,fun n0 f s hn h0 h3=>?_⟩;refine ad fun L hL=>?_;simp -implicitDefEqProofs (disch:=first | omega | (unfold cZ cd; simp<;>omega)) only [ZA,Nat.reduceAdd,Nat.reduceEqDiff,↓reduceIte,Nat.reduceLeDiff,reduceCtorEq,Nat.reduceBEq,Nat.reduceLT,bE,cg,cI,aW,cP,b9,cV,bz,frz,cT,cM,er,ZD,da,eS,gE,ny,h0,h3,e1,hl,gB,hfl,hk3,aw,c1,c2,c3];subst hL;exact hgo _ _ _ hn (fP h0) fp
  | succ j=>
  have hl2:j < xs.length:=om;have hj2:xs[j]?=some xs[j]:=List.getElem?_eq_getElem hl2;obtain⟨rr2,hk4⟩:=cm (c:=dk.cells) (es:=2) (fun _=>rfl) hj2;generalize xs[j]=x2 at *;obtain⟨g2,a2⟩:=x2;simp only [dk.cells,List.cons_append,List.nil_append] at hk4;have e3:decide (0 < j + 1)=true:=decide_eq_true (Nat.succ_pos _);cases co:decide (g2 ≥ g) with
  | true=>
   refine⟨1,fun n0 f s hn h0 h3=>?_⟩;refine ad fun L hL=>?_;simp -implicitDefEqProofs (disch:=first | omega | (unfold cZ cd; simp<;>omega)) only [ZS,seval,ZT,ny,se,h0,h3,e1,hl,hfl,hk3,aw,c1,c2,c3,e3,hl2,hk4,co,Nat.add_sub_cancel];exact hn
  | false=>
   refine⟨z,fun n0 f s hn h0 h3=>?_⟩;refine ad fun L hL=>?_;simp -implicitDefEqProofs (disch:=first | omega | (unfold cZ cd; simp<;>omega)) only [ZS,seval,ZT,ny,h0,h3,e1,hl,hfl,hk3,aw,c1,c2,c3,e3,hl2,hk4,co,Nat.add_sub_cancel];subst hL;exact hgo _ _ _ hn (bm h0) bw
theorem Pl (l:List dk) (hx:l.length < 1000000000000):∃z:Int,∀y,y.getD []=l→∀s,Pc ext 30 [aU 46 dk.cells y] (.sc (.int .i64 z)) s:=by
 obtain⟨z,hz⟩:=OM (ext:=ext) hx l.length 0 (Nat.zero_add _);by_cases hl:l=[]
 ·subst hl;refine⟨0,fun y hy s=>?_⟩;refine lH xR 2 ?_;unfold xR;have z0:decide ((0:Int) < 0)=false:=rfl;have z2:decide (0 < 0)=false:=rfl;cases y with
  | none=>
   refine uA @bU ?_;refine ad fun L hL=>?_;exact jB @ny.eq_1 @se.eq_1 z0
  | some m=>
   simp only [Option.getD_some] at hy;subst hy;simp only [List.length_nil] at *;refine uA @bU ?_;refine ad fun L hL=>?_;exact jB @ny.eq_1 @se.eq_1 z2
 ·refine⟨z,fun y hy s=>?_⟩;refine lH xR 2 ?_;unfold xR;cases y with
  | none=>exact absurd hy.symm hl
  | some m=>
   simp only [Option.getD_some] at hy;subst hy;refine uA @bU ?_;exact hz s.n _ _ bw (bm @bU) bw
theorem Pk {b:ByteArray} (hb:b.data.toList.length < 1000000000000):∀(k i:Nat),i + k=b.data.toList.length→∃z:Bool,∀(n0:Nat) (f:aX) (s:PS),n0≤s.w→f 0=.sc (.string b)→f 3=iN i→
  Er (fun f' s'=>n0≤s'.w∧f' 2=.sc (.bool z)) (LP Tryz.prog Γ ext 0 rl zo f s):=by
 intro k
 induction k with
 | zero=>
  intro i hk;refine⟨!b.data.toList.isEmpty,fun n0 f s hn h0 h3=>?_⟩;have e1:decide (i < b.data.toList.length)=false:=df;refine ad fun L hL=>?_;refine Ej @rl.eq_1 @zo.eq_1 h0 h3 e1 @aV ?_;exact hn
 | succ k ih=>
  intro i hk;obtain⟨z,hgo⟩:=ih (i + 1) om;have hl:i < b.data.toList.length:=om;have e1:decide (i < b.data.toList.length)=true:=decide_eq_true hl;have hh:=fun s=>PC (ext:=ext) (b:=⟨#[45,46,47,44,58,43,37,64,94]⟩) (by decide) (bt b.data.toList i) s;cases e2:eI (bt b.data.toList i) with
  | true=>
   refine⟨z,fun n0 f s hn h0 h3=>?_⟩;refine ad fun L hL=>?_;refine Fy @rl.eq_1 h0 h3 e1 hl @fh e2 ?_;subst hL;exact hgo _ _ _ hn (bm h0) bw
  | false=>
  generalize ((ByteArray.mk #[45,46,47,44,58,43,37,64,94]).data.toList.any fun x=>x.toNat == bt b.data.toList i)=q at hh;cases q with
  | true=>
   refine⟨z,fun n0 f s hn h0 h3=>?_⟩;refine ad fun L hL=>?_;refine Cc @rl.eq_1 h0 h3 e1 hl @fh e2 hh ?_;subst hL;exact hgo _ _ _ hn (bm h0) bw
  | false=>
   refine⟨false,fun n0 f s hn h0 h3=>?_⟩;refine ad fun L hL=>?_;refine DV @rl.eq_1 @zo.eq_1 h0 h3 e1 hl @fh e2 hh ?_;exact hn
theorem NN {b:ByteArray} (hb:b.data.toList.length < 1000000000000):∃z:Bool,∀s,Pc ext 111 [.sc (.string b)] (.sc (.bool z)) s:=by
 obtain⟨z,hz⟩:=Pk (ext:=ext) hb b.data.toList.length 0 (Nat.zero_add _);refine⟨z,fun s=>?_⟩;refine lH Rn 2 ?_;unfold Rn;refine Gq ?_;exact hz s.n _ _ bw bw bw
theorem Mj {b:ByteArray} (hb:b.data.toList.length < 1000000000000):∃z:Bool,∀s,Pc ext 64 [.sc (.string b)] (.sc (.bool z)) s:=by
 obtain⟨z,hz⟩:=NN (ext:=ext) hb;have hr:=fun s=>vZ (ext:=ext) (b:=b) s;cases z with
 | false=>
  refine⟨false,fun s=>?_⟩;refine lH RH 2 ?_;unfold RH;exact bm hz
 | true=>
  cases c1:decide (b.data.toList.length≤32) with
  | false=>
   refine⟨false,fun s=>?_⟩;refine lH RH 2 ?_;unfold RH;exact qO hz c1
  | true=>
   refine⟨!lY b.data.toList,fun s=>?_⟩;refine lH RH 2 ?_;unfold RH;exact jB hz c1 hr
theorem Jv {xs:List bN} (hx:xs.length < 1000000000000) (hs:∀x∈xs,x.name.data.toList.length < 1000000000000):∀(k i:Nat),i + k=xs.length→∃z:Int,∀(n0:Nat) (f:aX) (s:PS),n0≤s.w→f 0=.lit 75 xs.length (xs.flatMap bN.cells)→f 3=iN i→
  Er (fun f' s'=>n0≤s'.w∧f' 2=.sc (.int .i64 z)) (LP Tryz.prog Γ ext 0 nM tH f s):=by
 intro k
 induction k with
 | zero=>
  intro i hk;refine⟨0,fun n0 f s hn h0 h3=>?_⟩;have e1:decide (i < xs.length)=false:=df;refine ad fun L hL=>?_;refine He @nM.eq_1 @tH.eq_1 h0 h3 e1 ?_;exact hn
 | succ k ih=>
  intro i hk;obtain⟨z,hgo⟩:=ih (i + 1) om;have hl:i < xs.length:=om;have e1:decide (i < xs.length)=true:=decide_eq_true hl;have hj:xs[i]?=some xs[i]:=List.getElem?_eq_getElem hl;have hfl:=aJ (c:=bN.cells) (es:=2) (fun _=>rfl) xs;obtain⟨rr,hk3⟩:=cm (c:=bN.cells) (es:=2) (fun _=>rfl) hj;have hnm:=hs xs[i] (List.getElem_mem ..);generalize xs[i]=x at *;obtain⟨n,v⟩:=x;obtain⟨q,hq⟩:=Mj (ext:=ext) (b:=n) hnm;simp only [bN.cells,List.cons_append,List.nil_append] at hk3;cases c1:q with
  | false=>
   refine⟨10,fun n0 f s hn h0 h3=>?_⟩;refine ad fun L hL=>?_;simp -implicitDefEqProofs (disch:=first | omega | (unfold cZ cd; simp<;>omega)) only [ZS,seval,ZT,ZX,nM,tH,h0,h3,e1,hl,hfl,hk3,aw,c1,hq];exact hn
  | true=>
  cases c2:decide (4096 < v.data.toList.length) with
  | true=>
   refine⟨3,fun n0 f s hn h0 h3=>?_⟩;refine ad fun L hL=>?_;simp -implicitDefEqProofs (disch:=first | omega | (unfold cZ cd; simp<;>omega)) only [ZS,seval,ZT,ZX,nM,tH,h0,h3,e1,hl,hfl,hk3,aw,c1,hq,c2];exact hn
  | false=>
  cases i with
  | zero=>
   refine⟨z,fun n0 f s hn h0 h3=>?_⟩;refine ad fun L hL=>?_;simp -implicitDefEqProofs (disch:=first | omega | (unfold cZ cd; simp<;>omega)) only [ZA,Nat.reduceAdd,Nat.reduceEqDiff,↓reduceIte,Nat.reduceLeDiff,reduceCtorEq,Nat.reduceBEq,Nat.reduceLT,bE,cg,cI,aW,cP,b9,cV,bz,frz,cT,cM,er,ZD,da,eS,gE,nM,h0,h3,e1,hl,gB,hfl,hk3,aw,c1,hq,Bool.not_false,Bool.not_true,c2];subst hL;exact hgo _ _ _ hn (fP h0) fp
  | succ j=>
  have hl2:j < xs.length:=om;have hj2:xs[j]?=some xs[j]:=List.getElem?_eq_getElem hl2;obtain⟨rr2,hk4⟩:=cm (c:=bN.cells) (es:=2) (fun _=>rfl) hj2;generalize xs[j]=x2 at *;obtain⟨n2,v2⟩:=x2;simp only [bN.cells,List.cons_append,List.nil_append] at hk4;have e3:decide (0 < j + 1)=true:=decide_eq_true (Nat.succ_pos _);cases co:Vr n2 n with
  | true=>
   refine⟨1,fun n0 f s hn h0 h3=>?_⟩;refine ad fun L hL=>?_;simp -implicitDefEqProofs (disch:=first | omega | (unfold cZ cd; simp<;>omega)) only [ZS,seval,ZT,ZX,nM,tH,h0,h3,e1,hl,hfl,hk3,aw,c1,hq,c2,e3,hl2,hk4,co,Nat.add_sub_cancel,jT];exact hn
  | false=>
   refine⟨z,fun n0 f s hn h0 h3=>?_⟩;refine ad fun L hL=>?_;simp -implicitDefEqProofs (disch:=first | omega | (unfold cZ cd; simp<;>omega)) only [ZS,seval,ZT,ZX,nM,h0,h3,e1,hl,hfl,hk3,aw,c1,hq,c2,e3,hl2,hk4,co,Nat.add_sub_cancel,jT];subst hL;exact hgo _ _ _ hn (bm h0) bw
theorem HM (l:List bN) (hx:l.length < 1000000000000) (hs:∀x∈l,x.name.data.toList.length < 1000000000000):∃z:Int,∀y,y.getD []=l→∀s,Pc ext 29 [aU 75 bN.cells y] (.sc (.int .i64 z)) s:=by
 have z1:decide ((0:Int) > 64)=false:=rfl;cases c1:decide (64 < l.length) with
 | true=>
  refine⟨4,fun y hy s=>?_⟩;subst hy;refine lH xj 2 ?_;unfold xj;cases y with
  | none=>simp at c1
  | some l=>
   simp only [Option.getD_some] at c1;exact qO @bU c1
 | false=>
  obtain⟨z,hz⟩:=Jv (ext:=ext) hx hs l.length 0 (Nat.zero_add _);by_cases hl:l=[]
  ·subst hl;refine⟨0,fun y hy s=>?_⟩;refine lH xj 2 ?_;unfold xj;have z0:decide ((0:Int) < 0)=false:=rfl;have z2:decide (0 < 0)=false:=rfl;cases y with
   | none=>
    refine vp @bU z1 ?_;refine ad fun L hL=>?_;exact jB @nM.eq_1 @tH.eq_1 z0
   | some m=>
    simp only [Option.getD_some] at hy;subst hy;simp only [List.length_nil] at *;refine vp @bU c1 ?_;refine ad fun L hL=>?_;exact jB @nM.eq_1 @tH.eq_1 z2
  ·refine⟨z,fun y hy s=>?_⟩;refine lH xj 2 ?_;unfold xj;cases y with
   | none=>exact absurd hy.symm hl
   | some m=>
    simp only [Option.getD_some] at hy;subst hy;refine vp @bU c1 ?_;exact hz s.n _ _ bw (bm @bU) bw
noncomputable def fE (ext:ar) (x:aL):Int:=if gK x.name.data.toList then (if od x.body.kind then rf ext x.body else 1) else 10
def nD (ext:ar) (x:aL):Prop:=∀s,Pc ext 63 [.sc (.string x.name),.agg x.body.cells] (.sc (.int .i64 (fE ext x))) s
theorem PD {x:aL} (hnm:x.name.data.toList.length < 1000000000000) (hv:∀s,Pc ext 110 [.agg x.body.cells] (.sc (.int .i64 (rf ext x.body))) s):nD ext x:=by
 obtain⟨n,b⟩:=x;intro s;have hr:=fun s=>rL (ext:=ext) (b:=n) (by simp only at hnm; omega) s;have hc:=fun s=>cA (ext:=ext) b.kind s;unfold fE;refine lH Wk 4 ?_;unfold Wk;simp only [am.cells] at hv ⊢;cases c1:gK n.data.toList with
 | false=>
  exact qO hr c1
 | true=>
  cases c2:od b.kind with
  | false=>
   exact qN hr hc c1 c2
  | true=>
   exact ub hr hc hv c1 c2
theorem Fj:ek Γ 63=true:=(rfl)
theorem My (q:List (ByteArray × Int)) (hx:q.length < 1000000000000):∀(k i:Nat),i + k=q.length→∃z:Int,∀(xs:List aL),xs.map (fun x=>(x.name,fE ext x))=q→(∀x∈xs,nD ext x)→∀(n0:Nat) (f:aX) (s:PS),n0≤s.w→f 0=.lit 73 xs.length (xs.flatMap aL.cells)→f 3=iN i→
  Er (fun f' s'=>n0≤s'.w∧f' 2=.sc (.int .i64 z)) (LP Tryz.prog Γ ext 0 qJ xe f s):=by
 intro k
 induction k with
 | zero=>
  intro i hk;refine⟨0,fun xs hq hok n0 f s hn h0 h3=>?_⟩;have hlen:xs.length=q.length:=by rw [← hq,List.length_map]
  have e1:decide (i < xs.length)=false:=df;refine ad fun L hL=>?_;refine He @qJ.eq_1 @xe.eq_1 h0 h3 e1 ?_;exact hn
 | succ k ih=>
  intro i hk;obtain⟨z,hgo⟩:=ih (i + 1) om;have hlq:i < q.length:=om;have hqi:q[i]?=some q[i]:=List.getElem?_eq_getElem hlq;obtain⟨⟨qn,qz⟩,hqe⟩ : ∃p,p=q[i]:=⟨_,rfl⟩
  rw [← hqe] at hqi;clear hqe;have key:∀xs:List aL,xs.map (fun x=>(x.name,fE ext x))=q→(∀x∈xs,nD ext x)→xs.length=q.length∧∃(b:am) (rr:List PV),(xs.flatMap aL.cells).drop (i * 10)=aL.cells ⟨qn,b⟩ ++ rr∧fE ext ⟨qn,b⟩=qz∧nD ext ⟨qn,b⟩:=by
   intro xs hq hok;have hlen:xs.length=q.length:=by rw [← hq,List.length_map]
   have hl:i < xs.length:=om;have hj:xs[i]?=some xs[i]:=List.getElem?_eq_getElem hl;obtain⟨rr,hk3⟩:=cm (c:=aL.cells) (es:=10) (fun _=>rfl) hj;have h2:(xs.map fun x=>(x.name,fE ext x))[i]?=some (xs[i].name,fE ext xs[i]):=by rw [List.getElem?_map,hj]; rfl
   rw [hq,hqi] at h2;injection h2 with h2;have ho:=hok xs[i] (List.getElem_mem ..);generalize xs[i]=x at *;obtain⟨n,b⟩:=x;simp only [Prod.mk.injEq] at h2;obtain⟨rfl,rfl⟩:=h2;exact⟨hlen,b,rr,hk3,rfl,ho⟩
  cases c1:(qz == 0) with
  | false=>
   refine⟨qz,fun xs hq hok n0 f s hn h0 h3=>?_⟩;obtain⟨hlen,b,rr,hk3,hz,ho⟩:=key xs hq hok;have e1:decide (i < xs.length)=true:=dt;have hl:i < xs.length:=om;have hfl:=aJ (c:=aL.cells) (es:=10) (fun _=>rfl) xs;have c1':(qz != 0)=true:=by rw [bne,c1]; rfl
   unfold nD at ho;rw [hz] at ho;simp only [aL.cells,am.cells,List.cons_append,List.nil_append] at hk3 ho;refine ad fun L hL=>?_;simp -implicitDefEqProofs (disch:=first | omega | (unfold cZ cd; simp<;>omega)) only [ZS,seval,ZT,qJ,xe,h0,h3,e1,hl,hfl,hk3,aw,ho,c1',Fj,j8];exact hn
  | true=>
  have c1':(qz != 0)=false:=by rw [bne,c1]; rfl
  cases i with
  | zero=>
   refine⟨z,fun xs hq hok n0 f s hn h0 h3=>?_⟩;obtain⟨hlen,b,rr,hk3,hz,ho⟩:=key xs hq hok;have e1:decide (0 < xs.length)=true:=dt;have hl : 0 < xs.length:=om;have hfl:=aJ (c:=aL.cells) (es:=10) (fun _=>rfl) xs;unfold nD at ho;rw [hz] at ho;simp only [aL.cells,am.cells,List.cons_append,List.nil_append] at hk3 ho;refine ad fun L hL=>?_;simp -implicitDefEqProofs (disch:=first | omega | (unfold cZ cd; simp<;>omega)) only [ZA,Nat.reduceAdd,Nat.reduceEqDiff,↓reduceIte,Nat.reduceLeDiff,reduceCtorEq,Nat.reduceBEq,Nat.reduceLT,bE,cg,cI,aW,cP,b9,cV,bz,frz,cT,cM,er,ZD,da,eS,gE,qJ,h0,h3,e1,hl,gB,hfl,hk3,aw,ho,c1',Fj,j8];subst hL;exact hgo xs hq hok _ _ _ hn (fP h0) fp
  | succ j=>
  have hqj:q[j]?=some q[j]:=List.getElem?_eq_getElem om;obtain⟨⟨pn,pz⟩,hpe⟩ : ∃p,p=q[j]:=⟨_,rfl⟩
  rw [← hpe] at hqj;clear hpe;have key2:∀xs:List aL,xs.map (fun x=>(x.name,fE ext x))=q→∃(b:am) (rr:List PV),(xs.flatMap aL.cells).drop (j * 10)=aL.cells ⟨pn,b⟩ ++ rr:=by
   intro xs hq;have hlen:xs.length=q.length:=by rw [← hq,List.length_map]
   have hj:xs[j]?=some xs[j]:=List.getElem?_eq_getElem om;obtain⟨rr,hk3⟩:=cm (c:=aL.cells) (es:=10) (fun _=>rfl) hj;have h2:(xs.map fun x=>(x.name,fE ext x))[j]?=some (xs[j].name,fE ext xs[j]):=by rw [List.getElem?_map,hj]; rfl
   rw [hq,hqj] at h2;injection h2 with h2;generalize xs[j]=x at *;obtain⟨n,b⟩:=x;simp only [Prod.mk.injEq] at h2;obtain⟨rfl,_⟩:=h2;exact⟨b,rr,hk3⟩
  have e3:decide (0 < j + 1)=true:=decide_eq_true (Nat.succ_pos _);cases co:Vr pn qn with
  | true=>
   refine⟨1,fun xs hq hok n0 f s hn h0 h3=>?_⟩;obtain⟨hlen,b,rr,hk3,hz,ho⟩:=key xs hq hok;obtain⟨b2,rr2,hk4⟩:=key2 xs hq;have e1:decide (j + 1 < xs.length)=true:=dt;have hl:j + 1 < xs.length:=om;have hl2:j < xs.length:=om;have hfl:=aJ (c:=aL.cells) (es:=10) (fun _=>rfl) xs;unfold nD at ho;rw [hz] at ho;simp only [aL.cells,am.cells,List.cons_append,List.nil_append] at hk3 hk4 ho;refine ad fun L hL=>?_;simp -implicitDefEqProofs (disch:=first | omega | (unfold cZ cd; simp<;>omega)) only [ZS,seval,ZT,qJ,xe,h0,h3,e1,e3,hl,hl2,hfl,hk3,hk4,aw,ho,c1',co,jT,Fj,j8,Nat.add_sub_cancel];exact hn
  | false=>
   refine⟨z,fun xs hq hok n0 f s hn h0 h3=>?_⟩;obtain⟨hlen,b,rr,hk3,hz,ho⟩:=key xs hq hok;obtain⟨b2,rr2,hk4⟩:=key2 xs hq;have e1:decide (j + 1 < xs.length)=true:=dt;have hl:j + 1 < xs.length:=om;have hl2:j < xs.length:=om;have hfl:=aJ (c:=aL.cells) (es:=10) (fun _=>rfl) xs;unfold nD at ho;rw [hz] at ho;simp only [aL.cells,am.cells,List.cons_append,List.nil_append] at hk3 hk4 ho;refine ad fun L hL=>?_;simp -implicitDefEqProofs (disch:=first | omega | (unfold cZ cd; simp<;>omega)) only [ZS,seval,ZT,qJ,h0,h3,e1,e3,hl,hl2,hfl,hk3,hk4,aw,ho,c1',co,jT,Fj,j8,Nat.add_sub_cancel];subst hL;exact hgo xs hq hok _ _ _ hn (bm h0) bw
theorem Ci (q:List (ByteArray × Int)) (hx:q.length < 1000000000000):∃z:Int,∀y:Option (List aL),(y.getD []).map (fun x=>(x.name,fE ext x))=q→(∀x∈y.getD [],nD ext x)→∀s,Pc ext 28 [aU 73 aL.cells y] (.sc (.int .i64 z)) s:=by
 have z1:decide ((0:Int) > 64)=false:=rfl;cases c1:decide (64 < q.length) with
 | true=>
  refine⟨4,fun y hy _ s=>?_⟩;refine lH xg 2 ?_;unfold xg;cases y with
  | none=>rw [← hy] at c1; cases c1
  | some l=>
   simp only [Option.getD_some] at hy;have c2:decide (64 < l.length)=true:=by rw [← hy,List.length_map] at c1; exact c1
   exact qO @bU c2
 | false=>
  obtain⟨z,hz⟩:=My (ext:=ext) q hx q.length 0 (Nat.zero_add _);by_cases hl:q=[]
  ·subst hl;refine⟨0,fun y hy _ s=>?_⟩;refine lH xg 2 ?_;unfold xg;have z0:decide ((0:Int) < 0)=false:=rfl;have z2:decide (0 < 0)=false:=rfl;cases y with
   | none=>
    refine vp @bU z1 ?_;refine ad fun L hL=>?_;exact jB @qJ.eq_1 @xe.eq_1 z0
   | some m=>
    simp only [Option.getD_some,List.map_eq_nil_iff] at hy;subst hy;simp only [List.length_nil] at c1;refine vp @bU c1 ?_;refine ad fun L hL=>?_;exact jB @qJ.eq_1 @xe.eq_1 z2
  ·refine⟨z,fun y hy hok s=>?_⟩;refine lH xg 2 ?_;unfold xg;cases y with
   | none=>exact absurd hy.symm hl
   | some m=>
    simp only [Option.getD_some] at hy hok;have c2:decide (64 < m.length)=false:=by rw [← hy,List.length_map] at c1; exact c1
    refine vp @bU c2 ?_;exact hz m hy hok s.n _ _ bw (bm @bU) bw
end Go.Proofs.YtokdflgpbfjpcaaGreatDoor
namespace Go.PE
open Go Go.EvL
theorem Cl {α:Type}{e es bytes b:Nat}{c:α→List PV}{l:List α}{v:PV}{s:PS} (hc:∀x,(c x).length=es) (hes:es≠0) (h:jX e es c b l v s) (hb:b≤s.n) (hn:l.length≤1000000) (hby:bytes≤1024) (x:α) (ho:(c x).all db=true) :
  ∃v' s',uk (s.new ⟨c x,0,e⟩) e es bytes v (c x) 1=some (v',s')∧jX e es c b (l ++ [x]) v' s'∧s.n≤s'.n∧∀n0,n0≤b→n0≤s.w→n0≤s'.w:=by
 obtain⟨v',s',a1,a2,a3,a4,a5⟩:=(h.new ⟨c x,0,e⟩).app (bytes:=bytes) hc [x] hes (by simp only [List.length_cons,List.length_nil]; exact Nat.le_trans (Nat.mul_le_mul (show l.length + (0 + 1)≤1000001 by omega) hby) (by decide)) (by simp only [List.length_cons,List.length_nil]; omega) (fun y hy=>by rw [List.mem_singleton] at hy; subst hy; exact ho) (by rw [dN]; omega);rw [List.flatMap_cons,List.flatMap_nil,List.append_nil] at a1;exact⟨v',s',a1,a2,by rw [dN] at a4; omega,fun n0 h1 h2=>a5 n0 h1 (by rw [kq]; exact h2)⟩
end Go.PE
namespace Go.Proofs.YtokdflgpbfjpcaaGreatDoor
open Go Go.EvL Go.PE Go.Mir
variable {ext:ar}
theorem Mv {b:ByteArray} (hb:b.data.toList.length≤1000):∀(k i a:Nat),i + k=b.data.toList.length→a≤i→∃rest:List ByteArray,rest≠[]∧rest.length≤k + 1∧(∀x∈rest,x.data.toList.length≤1000)∧
  ∀(acc:List ByteArray) (n0:Nat) (f:aX) (s:PS),acc.length≤i→n0≤s.w→n0≤s.n→f 0=.sc (.string b)→f 4=iN a→f 5=iN i→jX 9 1 gq n0 acc (f 3) s→
  Er (fun f' s'=>n0≤s'.w∧jX 9 1 gq n0 (acc ++ rest) (f' 2) s') (LP Tryz.prog Γ ext 0 ti DF f s):=by
 intro k
 induction k with
 | zero=>
  intro i a hk ha;refine⟨[⟨⟨(b.data.toList.drop a).take (b.data.toList.length - a)⟩⟩],by simp,by simp,fun x hx=>?_,fun acc n0 f s hacc hw hn h0 h4 h5 hA=>?_⟩
  ·rw [List.mem_singleton] at hx;subst hx;show ((b.data.toList.drop a).take (b.data.toList.length - a)).length≤1000;rw [List.length_take]; omega
  have e1:decide (i < b.data.toList.length)=false:=df;have n1:a≤b.data.toList.length:=om;have hel:=t6 (e:=9) s (gq ⟨⟨(b.data.toList.drop a).take (b.data.toList.length - a)⟩⟩);obtain⟨v1,s1,a1,a2,a3,a4⟩:=Cl (bytes:=16) (c:=gq) (fun _=>rfl) (by decide) hA hn om (by decide) ⟨⟨(b.data.toList.drop a).take (b.data.toList.length - a)⟩⟩ (by rfl);simp only [gq,List.length_cons,List.length_nil] at hel a1;refine ad fun L hL=>?_;refine DV @ti.eq_1 @DF.eq_1 h0 h4 h5 e1 n1 hel a1 ?_;exact⟨a4 _ (Nat.le_refl _) hw,a2⟩
 | succ k ih=>
  intro i a hk ha;have hl:i < b.data.toList.length:=om;have e1:decide (i < b.data.toList.length)=true:=decide_eq_true hl;cases e2:(bt b.data.toList i == 47) with
  | false=>
   obtain⟨rest,r1,r2,r3,hgo⟩:=ih (i + 1) a om om;refine⟨rest,r1,om,r3,fun acc n0 f s hacc hw hn h0 h4 h5 hA=>?_⟩;refine ad fun L hL=>?_;refine Fy @ti.eq_1 h0 h4 h5 e1 hl e2 ?_;subst hL;exact hgo acc n0 _ _ om hw hn (bm h0) (bm h4) bw (by simp -implicitDefEqProofs (disch:=omega) only [ZS,seval]; exact hA)
  | true=>
   obtain⟨rest,r1,r2,r3,hgo⟩:=ih (i + 1) (i + 1) om om;refine⟨⟨⟨(b.data.toList.drop a).take (i - a)⟩⟩ :: rest,by simp,by simp; omega,fun x hx=>?_,fun acc n0 f s hacc hw hn h0 h4 h5 hA=>?_⟩
   ·rcases List.mem_cons.1 hx with rfl | hx
    ·show ((b.data.toList.drop a).take (i - a)).length≤1000;rw [List.length_take]; omega
    ·exact r3 x hx
   have n1:a≤i:=ha;have n2:i≤b.data.toList.length:=om;have hel:=t6 (e:=9) s (gq ⟨⟨(b.data.toList.drop a).take (i - a)⟩⟩);obtain⟨v1,s1,a1,a2,a3,a4⟩:=Cl (bytes:=16) (c:=gq) (fun _=>rfl) (by decide) hA hn om (by decide) ⟨⟨(b.data.toList.drop a).take (i - a)⟩⟩ (by rfl);simp only [gq,List.length_cons,List.length_nil] at hel a1;refine ad fun L hL=>?_;refine jU @ti.eq_1 h0 h4 h5 e1 hl e2 n1 n2 hel a1 tv ?_;subst hL;rw [show acc ++ ⟨⟨(b.data.toList.drop a).take (i - a)⟩⟩ :: rest=(acc ++ [⟨⟨(b.data.toList.drop a).take (i - a)⟩⟩]) ++ rest by simp];exact hgo _ n0 _ _ (by simp; omega) (a4 _ (Nat.le_refl _) hw) om (bm h0) bw bw (by simp -implicitDefEqProofs (disch:=omega) only [ZS,seval]; exact a2)
theorem O6 {b:ByteArray} (hb:b.data.toList.length≤1000):∃l:List ByteArray,l.length≤2000∧(∀x∈l,x.data.toList.length≤1000)∧∀s,Pc ext 113 [.sc (.string b)] (aU 9 gq (some l)) s:=by
 obtain⟨l,r1,r2,r3,h⟩:=Mv (ext:=ext) hb b.data.toList.length 0 0 (Nat.zero_add _) (Nat.le_refl _);refine⟨l,om,r3,fun s=>?_⟩;have ho:eo l=some l:=by cases l with | nil=>exact absurd rfl r1 | cons x l=>rfl
 refine iQ (fn:=P0) (by rfl) (by simp [P0]) (V:=fun f' s'=>s.n≤s'.w∧jX 9 1 gq s.n l (f' 2) s') ?_ ?_
 ·unfold P0;refine Gq ?_;exact h [] s.n _ _ (Nat.zero_le _) bw bw bw bw bw (by simp -implicitDefEqProofs (disch:=omega) only [ZS,seval]; exact jX.nil ..)
 ·rintro f' s' ⟨hw,hA⟩;refine gx (vs:=[f' 2]) (by rfl) (by rfl) hw ?_;rw [← ho];exact Ek (hA.frz (fun _=>rfl) (Nat.le_refl _) fun _ _=>rfl)
theorem MM {b:ByteArray} (hb:b.data.toList.length < 1000000000000):∀(k i:Nat),i + k=b.data.toList.length→∃z:Bool,∀(n0:Nat) (f:aX) (s:PS),n0≤s.w→f 0=.sc (.string b)→f 3=iN i→
  Er (fun f' s'=>n0≤s'.w∧f' 2=.sc (.bool z)) (LP Tryz.prog Γ ext 0 rz vH f s):=by
 intro k
 induction k with
 | zero=>
  intro i hk;refine⟨true,fun n0 f s hn h0 h3=>?_⟩;have e1:decide (i < b.data.toList.length)=false:=df;refine ad fun L hL=>?_;refine He @rz.eq_1 @vH.eq_1 h0 h3 e1 ?_;exact hn
 | succ k ih=>
  intro i hk;obtain⟨z,hgo⟩:=ih (i + 1) om;have hl:i < b.data.toList.length:=om;have e1:decide (i < b.data.toList.length)=true:=decide_eq_true hl;cases e2:(bt b.data.toList i == 47) with
  | true=>
   refine⟨false,fun n0 f s hn h0 h3=>?_⟩;refine ad fun L hL=>?_;refine Fy @rz.eq_1 @vH.eq_1 h0 h3 e1 hl e2 ?_;exact hn
  | false=>
  cases e3:(bt b.data.toList i == 0) with
  | true=>
   refine⟨false,fun n0 f s hn h0 h3=>?_⟩;refine ad fun L hL=>?_;refine Cc @rz.eq_1 @vH.eq_1 h0 h3 e1 hl e2 e3 ?_;exact hn
  | false=>
   refine⟨z,fun n0 f s hn h0 h3=>?_⟩;refine ad fun L hL=>?_;refine Fy @rz.eq_1 h0 h3 e1 hl e2 e3 ?_;subst hL;exact hgo _ _ _ hn (bm h0) bw
theorem Np {b:ByteArray} (hb:b.data.toList.length < 1000000000000):∃z:Bool,∀s,Pc ext 114 [.sc (.string b)] (.sc (.bool z)) s:=by
 obtain⟨z,hz⟩:=MM (ext:=ext) hb b.data.toList.length 0 (Nat.zero_add _);cases c1:decide (b.data.toList.length < 1) with
 | true=>
  refine⟨false,fun s=>fe (fn:=qu) (r:=2) (by rfl) (by simp [qu]) (by rfl) (by rfl) ?_⟩;unfold qu;exact qO c1 @fO
 | false=>
 cases c2:decide (32 < b.data.toList.length) with
 | true=>
  refine⟨false,fun s=>fe (fn:=qu) (r:=2) (by rfl) (by simp [qu]) (by rfl) (by rfl) ?_⟩;unfold qu;exact jB c1 c2 @fO
 | false=>
 cases c3:(b.data.toList == [46]) with
 | true=>
  refine⟨false,fun s=>fe (fn:=qu) (r:=2) (by rfl) (by simp [qu]) (by rfl) (by rfl) ?_⟩;unfold qu;exact qN c1 c2 c3 @fO
 | false=>
 cases c4:(b.data.toList == [46,46]) with
 | true=>
  refine⟨false,fun s=>fe (fn:=qu) (r:=2) (by rfl) (by simp [qu]) (by rfl) (by rfl) ?_⟩;unfold qu;exact ub c1 c2 c3 c4 @fO
 | false=>
  refine⟨z,fun s=>fe (fn:=qu) (r:=2) (by rfl) (by simp [qu]) (by rfl) (by rfl) ?_⟩;unfold qu;refine He c1 c2 c3 c4 @fO ?_;exact hz s.n _ _ bw bw bw
theorem NP {xs:List ByteArray} (hx:xs.length < 1000000000000) (hs:∀x∈xs,x.data.toList.length≤1000):∀(k i:Nat),i + k=xs.length→∃z:Bool,∀(n0:Nat) (f:aX) (s:PS),n0≤s.w→f 3=.lit 9 xs.length (xs.flatMap gq)→f 4=iN i→
  Er (fun f' s'=>n0≤s'.w∧f' 2=.sc (.bool z)) (LP Tryz.prog Γ ext 0 xQ G4 f s):=by
 intro k
 induction k with
 | zero=>
  intro i hk;refine⟨true,fun n0 f s hn h3 h4=>?_⟩;have e1:decide (i < xs.length)=false:=df;refine ad fun L hL=>?_;refine He @xQ.eq_1 @G4.eq_1 h3 h4 e1 ?_;exact hn
 | succ k ih=>
  intro i hk;obtain⟨z,hgo⟩:=ih (i + 1) om;have hl:i < xs.length:=om;have e1:decide (i < xs.length)=true:=decide_eq_true hl;have hj:xs[i]?=some xs[i]:=List.getElem?_eq_getElem hl;have hfl:=aJ (c:=gq) (es:=1) (fun _=>rfl) xs;obtain⟨rr,hk3⟩:=cm (c:=gq) (es:=1) (fun _=>rfl) hj;have hnm:=hs xs[i] (List.getElem_mem ..);generalize xs[i]=x at *;simp only [gq,List.cons_append,List.nil_append] at hk3;obtain⟨q,hq⟩:=Np (ext:=ext) (b:=x) om;cases q with
  | false=>
   refine⟨false,fun n0 f s hn h3 h4=>?_⟩;refine ad fun L hL=>?_;refine AZ @xQ.eq_1 @G4.eq_1 h3 h4 e1 hl hfl hk3 @aw hq ?_;exact hn
  | true=>
   refine⟨z,fun n0 f s hn h3 h4=>?_⟩;refine ad fun L hL=>?_;refine DV @xQ.eq_1 h3 h4 e1 hl hfl hk3 @aw hq ?_;subst hL;exact hgo _ _ _ hn (bm h3) bw
theorem Kz {b:ByteArray} (hb:b.data.toList.length < 1000000000000):∃z:Bool,∀s,Pc ext 65 [.sc (.string b)] (.sc (.bool z)) s:=by
 cases c1:(b.data.toList == [47]) with
 | true=>
  refine⟨true,fun s=>fe (fn:=Cw) (r:=2) (by rfl) (by simp [Cw]) (by rfl) (by rfl) ?_⟩;unfold Cw;exact qO c1 @fO
 | false=>
 cases c2:decide (b.data.toList.length < 2) with
 | true=>
  refine⟨false,fun s=>fe (fn:=Cw) (r:=2) (by rfl) (by simp [Cw]) (by rfl) (by rfl) ?_⟩;unfold Cw;exact jB c1 c2 @fO
 | false=>
 cases c3:decide (128 < b.data.toList.length) with
 | true=>
  refine⟨false,fun s=>fe (fn:=Cw) (r:=2) (by rfl) (by simp [Cw]) (by rfl) (by rfl) ?_⟩;unfold Cw;exact qN c1 c2 c3 @fO
 | false=>
 have hl1 : 1≤b.data.toList.length:=by have:=of_decide_eq_false c2; omega
 have hl0 : 0 < b.data.toList.length:=hl1;have hl3:b.data.toList.length≤128:=by have:=of_decide_eq_false c3; omega
 cases c4:(bt b.data.toList 0 == 47) with
 | false=>
  refine⟨false,fun s=>fe (fn:=Cw) (r:=2) (by rfl) (by simp [Cw]) (by rfl) (by rfl) ?_⟩;unfold Cw;exact lW c1 c2 c3 c4 @fO hl0
 | true=>
  obtain⟨l,l1,l2,l3⟩:=O6 (ext:=ext) (b:=⟨⟨(b.data.toList.drop 1).take (b.data.toList.length - 1)⟩⟩) (by show ((b.data.toList.drop 1).take (b.data.toList.length - 1)).length≤1000; rw [List.length_take]; omega);obtain⟨z,hz⟩:=NP (ext:=ext) (xs:=l) om l2 l.length 0 (Nat.zero_add _);refine⟨z,fun s=>fe (fn:=Cw) (r:=2) (by rfl) (by simp [Cw]) (by rfl) (by rfl) ?_⟩;unfold Cw;have hk1:l8 (.sc (.int .i64 1))=some 1:=rfl;refine DV c1 c2 c3 c4 @fO hl0 hl1 hk1 l3 ?_;exact hz s.n _ _ bw (bm @bU) bw
def AW (o st pi la:Int) (path:Bool) (gi go le:Int):Int:=
 if decide (o < 0) || decide (o > 255) then 1 else if ((decide (st < 0) || decide (st > 255)) || decide (pi < 0)) || decide (la < 0) then 2 else if !path then 10 else if (decide (gi < 1) || decide (go < 0)) || decide (le < 0) then 2 else 0
theorem HE {x:dG}{path:Bool} (hp:∀s,Pc ext 65 [.sc (.string x.cwd)] (.sc (.bool path)) s) (s:PS):Pc ext 31 [.agg x.cells] (.sc (.int .i64 (AW x.opts x.stat x.pid x.last path x.gi x.go x.lev))) s:=by
 obtain⟨nm,vs,ps,fs,als,ts,o,st,pi,la',cw,gi,go,le,tk⟩:=x;simp only [dG.cells] at hp ⊢;refine lH AA 2 ?_;unfold AA AW;cases c1:decide (o < 0) with
 | true=>
  exact bm c1
 | false=>
 cases c2:decide (o > 255) with
 | true=>
  exact qO c1 c2
 | false=>
 cases c3:decide (st < 0) with
 | true=>
  exact jB c1 c2 c3
 | false=>
 cases c4:decide (st > 255) with
 | true=>
  exact qN c1 c2 c3 c4
 | false=>
 cases c5:decide (pi < 0) with
 | true=>
  exact ub c1 c2 c3 c4 c5
 | false=>
 cases c6:decide (la' < 0) with
 | true=>
  exact lW c1 c2 c3 c4 c5 c6
 | false=>
 cases c7:path with
 | false=>
  rw [c7] at hp;exact uP c1 c2 c3 c4 c5 c6 hp
 | true=>
 rw [c7] at hp;cases c8:decide (gi < 1) with
 | true=>
  exact Az c1 c2 c3 c4 c5 c6 c8 hp
 | false=>
 cases c9:decide (go < 0) with
 | true=>
  exact sL c1 c2 c3 c4 c5 c6 c8 c9 hp
 | false=>
 cases c10:decide (le < 0) with
 | true=>
  exact ue c1 c2 c3 c4 c5 c6 c8 c9 c10 hp
 | false=>
  exact ue c1 c2 c3 c4 c5 c6 c8 c9 c10 hp
def D8 (nm:ByteArray) (zv zp zf za zt zn:Int):Int:=
 if decide (4096 < nm.data.toList.length) then 3 else if zv != 0 then zv else if zp != 0 then zp else if zf != 0 then zf else if za != 0 then za else if zt != 0 then zt else zn
theorem Vj {x:dG}{zv zp zf za zt zn:Int} (hv:∀s,Pc ext 26 [x.vars] (.sc (.int .i64 zv)) s) (hp:∀s,Pc ext 27 [x.params] (.sc (.int .i64 zp)) s) (hf:∀s,Pc ext 28 [x.funcs] (.sc (.int .i64 zf)) s) (ha:∀s,Pc ext 29 [x.aliases] (.sc (.int .i64 za)) s) (ht:∀s,Pc ext 30 [x.traps] (.sc (.int .i64 zt)) s) (hn:∀s,Pc ext 31 [.agg x.cells] (.sc (.int .i64 zn)) s)
  (cv:aC x.vars=[x.vars]) (cp:aC x.params=[x.params]) (cf:aC x.funcs=[x.funcs]) (ca:aC x.aliases=[x.aliases]) (ct:aC x.traps=[x.traps]) (s:PS):Pc ext 11 [.agg x.cells] (.sc (.int .i64 (D8 x.name zv zp zf za zt zn))) s:=by
 obtain⟨nm,vs,ps,fs,als,ts,o,st,pi,la',cw,gi,go,le,tk⟩:=x;simp only [dG.cells] at hn ⊢;simp only at hv hp hf ha ht cv cp cf ca ct;refine lH fS 2 ?_;unfold fS D8;cases c1:decide (4096 < nm.data.toList.length) with
 | true=>
  exact uP c1 @dp cv cp cf ca ct
 | false=>
 cases c2:(zv != 0) with
 | true=>
  exact sL c1 c2 hv @dp cv cp cf ca ct
 | false=>
 cases c3:(zp != 0) with
 | true=>
  exact qj c1 c2 c3 hv hp @dp cv cp cf ca ct tv
 | false=>
 cases c4:(zf != 0) with
 | true=>
  exact BR c1 c2 c3 c4 hv hp hf @dp cv cp cf ca ct tv
 | false=>
 cases c5:(za != 0) with
 | true=>
  exact sB c1 c2 c3 c4 c5 hv hp hf ha @dp cv cp cf ca ct tv
 | false=>
 cases c6:(zt != 0) with
 | true=>
  exact my c1 c2 c3 c4 c5 c6 hv hp hf ha ht @dp cv cp cf ca ct tv tv
 | false=>
  exact my c1 c2 c3 c4 c5 c6 hv hp hf ha ht hn @dp cv cp cf ca ct tv
theorem QO {x:dG}{b:PS→Bool}{z:Int} (hs:∀s,Pc ext 12 [.agg x.cells] (.sc (.bool (b s))) s) (hv:∀s,Pc ext 11 [.agg x.cells] (.sc (.int .i64 z)) s) (s:PS):∃c:Bool,Pc ext 4 [.agg x.cells] (.sc (.bool (c && (z == 0)))) s:=by
 refine⟨b ((⟨s.h,s.n,s.n⟩ : PS).new ⟨x.cells,0,30⟩),?_⟩;simp only [dG.cells] at hs hv ⊢;refine lH p4 2 ?_;unfold p4;generalize hs1:((⟨s.h,s.n,s.n⟩ : PS).new ⟨[.sc (.string x.name),x.vars,x.params,x.funcs,x.aliases,x.traps,.sc (.int .i64 x.opts),.sc (.int .i64 x.stat),.sc (.int .i64 x.pid),.sc (.int .i64 x.last),.sc (.string x.cwd),.sc (.int .i64 x.gi),.sc (.int .i64 x.go),.sc (.int .i64 x.lev),.sc (.bool x.talks)],0,30⟩)=s1;have q1:s1.h s.n=⟨[.sc (.string x.name),x.vars,x.params,x.funcs,x.aliases,x.traps,.sc (.int .i64 x.opts),.sc (.int .i64 x.stat),.sc (.int .i64 x.pid),.sc (.int .i64 x.last),.sc (.string x.cwd),.sc (.int .i64 x.gi),.sc (.int .i64 x.go),.sc (.int .i64 x.lev),.sc (.bool x.talks)],0,30⟩:=by
  rw [← hs1];exact if_pos rfl
 have q2:s.n≤s1.w:=by rw [← hs1]; exact Nat.le_refl _
 have h1:=hs s1;cases c1:b s1 with
 | false=>
  rw [c1] at h1;refine QY hs1 q1 h1 ?_;exact q2
 | true=>
  rw [c1] at h1;refine CJ hs1 q1 h1 hv ?_;exact q2
theorem kQ {n:Nat}{s:PS}{p:PV} (h:dj p=true):cM n s p=some p:=by
 cases p with
 | fn g a b=>
  simp only [dj,Bool.and_eq_true,List.isEmpty_iff] at h;obtain⟨rfl,rfl⟩:=h;rfl
 | sc v=>rfl
 | lit _ _ _=>rfl
 | litp _=>rfl
 | litx _ _ _=>rfl
 | _=>cases h
def AV (D d:Nat) (y x:aL):Prop:=y.name=x.name∧nG D d y.body x.body
theorem Tv (x:aL) (y:am) (h:∀s,Pc ext 60 [.agg x.body.cells] (.agg y.cells) s) (ho:y.cells.all db=true) (hc:y.cells.all dj=true) (s:PS) :
  Pc ext 59 [.agg x.cells] (.agg (aL.cells ⟨x.name,y⟩)) s:=by
 obtain⟨n,b⟩:=x;refine qC (s.n + 1) VQ 2 10 ?_;unfold VQ;simp only [aL.cells,am.cells,List.all_cons,List.all_nil,Bool.and_eq_true,Bool.and_true] at h ho hc ⊢;obtain⟨_,_,_,_,o5,o6,o7,o8,o9⟩:=ho;obtain⟨_,_,_,_,k5,k6,k7,k8,k9⟩:=hc;refine sa h o5 o6 o7 o8 o9 @aY @eN @eL @dP @dC @dD @cY tv ?_;refine⟨_,_,_,rfl,rfl,Nat.le_refl _,?_⟩;simp only [iI,fX,kQ k5,kQ k6,kQ k7,kQ k8,kQ k9,Option.bind_some,Option.map_some]
theorem Gt {D d:Nat} (x y:aL) (h:AV D d y x):y.cells.all db=true∧y.cells.all dj=true:=by
 obtain⟨h1,h2⟩:=t8 _ _ h.2;simp only [aL.cells,List.all_cons,h1,h2,Bool.and_true];exact⟨rfl,rfl⟩
theorem BM {D d:Nat}{a:PV}{l:Option (List aL)} (ha:a=aU 73 aL.cells l) (hl:∀x∈l.getD [],bB D d x.body∧aR x.body.cells≤16777216) (hn:(l.getD []).length≤16777216) :
  ∃b,(∀s,Pc ext 58 [a,.fn 59 [] []] b s)∧io 73 aL.cells (AV D d) b a:=by
 refine iV aL.len (by decide) (by decide) (by decide) UV Uu ha hn (fun x hx=>?_) Gt (fun x hx=>?_)
 ·simp only [aL.cells,List.all_cons,(hl x hx).1.ones,Bool.and_true]; rfl
 ·obtain⟨y,h1,h2⟩:=CC (ext:=ext) d x.body (hl x hx).1 (hl x hx).2;obtain⟨o1,o2⟩:=t8 _ _ h2;exact⟨⟨x.name,y⟩,Tv x y h1 o1 o2,rfl,h2⟩
theorem Tq:Γ 54=some (km 44 5 40 [(.string ⟨#[]⟩),(.string ⟨#[]⟩),(.bool false),(.bool false),(.bool false)] false):=(rfl)
theorem Tx:Γ 55=some (km 9 1 16 [(.string ⟨#[]⟩)] false):=(rfl)
theorem U9:Γ 56=some (km 75 2 32 [(.string ⟨#[]⟩),(.string ⟨#[]⟩)] false):=(rfl)
theorem TG:Γ 57=some (km 46 2 24 [(.int .i64 0),(.string ⟨#[]⟩)] false):=(rfl)
theorem UF:ek Γ 54=true:=(rfl)
theorem Ua:ek Γ 55=true:=(rfl)
theorem TN:ek Γ 56=true:=(rfl)
theorem Vd:ek Γ 57=true:=(rfl)
def dG.copy (x:dG) (lv:Option (List eD)) (lp:Option (List ByteArray)) (b:PV) (la:Option (List bN)) (lt:Option (List dk)):dG:=
 ⟨x.name,aU 44 eD.cells (eo (lv.getD [])),aU 9 gq (eo (lp.getD [])),b,aU 75 bN.cells (eo (la.getD [])),aU 46 dk.cells (eo (lt.getD [])),x.opts,x.stat,x.pid,x.last,x.cwd,x.gi,x.go,x.lev,x.talks⟩
theorem IA {D d:Nat}{x:dG}{lv:Option (List eD)}{lp:Option (List ByteArray)}{lf:Option (List aL)}{la:Option (List bN)}{lt:Option (List dk)} (h:ju D d x lv lp lf la lt) :
  ∃lf':Option (List aL),io 73 aL.cells (AV D d) (aU 73 aL.cells lf') x.funcs∧∀s,Pc ext 18 [.agg x.cells] (.agg (x.copy lv lp (aU 73 aL.cells lf') la lt).cells) s:=by
 obtain⟨b,hb,hq⟩:=BM (ext:=ext) h.f h.node h.nf;obtain⟨lf',rfl⟩:=hq.sl;refine⟨lf',hq,fun s=>?_⟩;have v:=fun s=>yV (P:=Tryz.prog) (ext:=ext) (c:=eD.cells) Tq (fun _=>rfl) (by decide) (y:=lv) h.nv (fun _ _=>⟨rfl,rfl⟩) s;have p:=fun s=>yV (P:=Tryz.prog) (ext:=ext) (c:=gq) Tx (fun _=>rfl) (by decide) (y:=lp) h.np (fun _ _=>⟨rfl,rfl⟩) s;have a:=fun s=>yV (P:=Tryz.prog) (ext:=ext) (c:=bN.cells) U9 (fun _=>rfl) (by decide) (y:=la) h.na (fun _ _=>⟨rfl,rfl⟩) s;have t:=fun s=>yV (P:=Tryz.prog) (ext:=ext) (c:=dk.cells) TG (fun _=>rfl) (by decide) (y:=lt) h.nt (fun _ _=>⟨rfl,rfl⟩) s;have cv:=cK (e:=44) (c:=eD.cells) lv;have cp:=cK (e:=9) (c:=gq) lp;have cf:=cK (e:=73) (c:=aL.cells) lf;have ca:=cK (e:=75) (c:=bN.cells) la;have ct:=cK (e:=46) (c:=dk.cells) lt;have ov:=dC 44 eD.cells lv;have op:=dC 9 gq lp;have of:=dC 73 aL.cells lf;have oa:=dC 75 bN.cells la;have ot:=dC 46 dk.cells lt;rw [← h.v] at v cv ov;rw [← h.p] at p cp op;rw [← h.f] at cf of;rw [← h.a] at a ca oa;rw [← h.t] at t ct ot;obtain⟨nm,vs,ps,fs,als,ts,o,st,pi,la',cw,gi,go,le,tk⟩:=x;simp only at v p a t cv cp cf ca ct hb ov op of oa ot;clear h hq;refine qC (s.n + 1) kj 2 15 ?_;unfold kj;simp only [dG.cells,dG.copy];simp -implicitDefEqProofs (disch:=first | omega | (unfold cZ cd; simp<;>omega)) only [ZS,seval,ZT,ZX,v,p,a,t,hb,cv,cp,cf,ca,ct,ov,op,of,oa,ot,UF,Ua,TN,Vd,j8,aY,eN,eL,dP,dC,dD,cY];exact⟨_,_,_,rfl,rfl,Nat.le_refl _,by simp only [iI,gv,fX,Option.bind_some,Option.map_some]⟩
end Go.Proofs.YtokdflgpbfjpcaaGreatDoor
namespace Go.PE
open Go Go.EvL
def MH (a b:Int):Int:=IntKind.i64.wrap ((BitVec.ofInt 64 a &&& BitVec.ofInt 64 b).toNat:Int)
def WV (a b:Int):Int:=IntKind.i64.wrap ((BitVec.ofInt 64 a ||| BitVec.ofInt 64 b).toNat:Int)
def Tf (a b:Int):Int:=IntKind.i64.wrap ((BitVec.ofInt 64 a &&& ~~~ BitVec.ofInt 64 b).toNat:Int)
section
variable {P:Program}{Γ:Nat→Option gk}{ext:ar}
theorem lc (t:Nat) (x y:Operand) (a b:Int):fJ P .and t x y (.sc (.int .i64 a)) (.sc (.int .i64 b))=some (.sc (.int .i64 (MH a b))):=(rfl)
theorem Kc (t:Nat) (x y:Operand) (a b:Int):fJ P .or t x y (.sc (.int .i64 a)) (.sc (.int .i64 b))=some (.sc (.int .i64 (WV a b))):=(rfl)
theorem ID (t:Nat) (x y:Operand) (a b:Int):fJ P .andNot t x y (.sc (.int .i64 a)) (.sc (.int .i64 b))=some (.sc (.int .i64 (Tf a b))):=(rfl)
theorem bin_mul (t:Nat) (x y:Operand) (a b:Int):fJ P .mul t x y (.sc (.int .i64 a)) (.sc (.int .i64 b))=some (.sc (.int .i64 (IntKind.i64.wrap (a * b)))):=(rfl)
theorem Fh (t:Nat) (x y:Operand) (a b:List UInt8) (h:a.length + b.length < 1000000):fJ P .add t x y (.sc (.string ⟨⟨a⟩⟩)) (.sc (.string ⟨⟨b⟩⟩))=some (.sc (.string ⟨⟨a ++ b⟩⟩)):=by
 rw [m8 (P:=P) t x y (a:=⟨⟨a⟩⟩) (b:=⟨⟨b⟩⟩) (by show a.length + b.length < _; omega)];exact congrArg (fun z=>some (PV.sc (.string z))) (ByteArray.ext (by simp))
end
def rj (o b:Int):Bool:=MH o b != 0
def nH (o b:Int) (on:Bool):Int:=if on then WV (Tf o b) b else Tf o b
def Mb (o b:Int) (on:Bool):Int:=if on && !rj o b then IntKind.i64.wrap (o + b) else if !on && rj o b then IntKind.i64.wrap (o - b) else o
def iq:List (UInt8 × Int):=[(97,32),(67,128),(101,1),(102,8),(109,64),(110,16),(117,2),(120,4)]
def lZ (t:List UInt8):Int:=if t == [97] then 32 else if t == [67] then 128 else if t == [101] then 1 else if t == [102] then 8 else if t == [109] then 64 else if t == [110] then 16 else if t == [117] then 2 else if t == [120] then 4 else 0
def nJ (o:Int):List (UInt8 × Int)→List UInt8
 | []=>[]
 | (c,b) :: r=>if rj o b then c :: nJ o r else nJ o r
def UR:Bool:=(List.range 256).all fun n=>(iq.all fun q=>[true,false].all fun on=>(Mb (n:Int) q.2 on == nH (n:Int) q.2 on) && decide (0≤nH (n:Int) q.2 on) && decide (nH (n:Int) q.2 on≤255) && (nH (nH (n:Int) q.2 on) q.2 on == nH (n:Int) q.2 on) &&
 iq.all fun r=>rj (nH (n:Int) q.2 on) r.2 == (if r.2 == q.2 then on else rj (n:Int) r.2)) && ((if rj (n:Int) 64 then IntKind.i64.wrap ((n:Int) - 64) else (n:Int)) == Tf (n:Int) 64 && decide (0≤Tf (n:Int) 64) && decide (Tf (n:Int) 64≤255))
set_option maxRecDepth 100000 in
theorem Pe:UR=true:=by kernel_rfl
theorem SQ {o:Int} (h0 : 0≤o) (h1:o≤255) {q:UInt8 × Int} (hq:q∈iq) (on:Bool) :
  Mb o q.2 on=nH o q.2 on∧0≤nH o q.2 on∧nH o q.2 on≤255∧nH (nH o q.2 on) q.2 on=nH o q.2 on∧∀r∈iq,rj (nH o q.2 on) r.2=(if r.2=q.2 then on else rj o r.2):=by
 obtain⟨n,rfl⟩ : ∃n:Nat,o=n:=⟨o.toNat,om⟩
 have h:=Pe;unfold UR at h;have h2:=(Bool.and_eq_true _ _ ▸ List.all_eq_true.1 h n (List.mem_range.2 om)).1;have h3:=List.all_eq_true.1 (List.all_eq_true.1 h2 q hq) on (by cases on<;>simp);simp only [Bool.and_eq_true,beq_iff_eq,decide_eq_true_eq,List.all_eq_true] at h3;obtain⟨⟨⟨⟨a1,a2⟩,a3⟩,a4⟩,a5⟩:=h3;exact⟨a1,a2,a3,a4,a5⟩
theorem NX (t:List UInt8):lZ t=0∧(∀q∈iq,t≠[q.1])∨∃q∈iq,t=[q.1]∧lZ t=q.2∧lZ t≠0:=by
 unfold lZ;by_cases h1:t=[97]; · subst h1; exact .inr ⟨(97,32),by decide,rfl,by decide,by decide⟩
 by_cases h2:t=[67]; · subst h2; exact .inr ⟨(67,128),by decide,rfl,by decide,by decide⟩
 by_cases h3:t=[101]; · subst h3; exact .inr ⟨(101,1),by decide,rfl,by decide,by decide⟩
 by_cases h4:t=[102]; · subst h4; exact .inr ⟨(102,8),by decide,rfl,by decide,by decide⟩
 by_cases h5:t=[109]; · subst h5; exact .inr ⟨(109,64),by decide,rfl,by decide,by decide⟩
 by_cases h6:t=[110]; · subst h6; exact .inr ⟨(110,16),by decide,rfl,by decide,by decide⟩
 by_cases h7:t=[117]; · subst h7; exact .inr ⟨(117,2),by decide,rfl,by decide,by decide⟩
 by_cases h8:t=[120]; · subst h8; exact .inr ⟨(120,4),by decide,rfl,by decide,by decide⟩
 refine .inl ⟨by simp [h1,h2,h3,h4,h5,h6,h7,h8],fun q hq=>?_⟩;simp only [iq,List.mem_cons,List.not_mem_nil,or_false] at hq;rcases hq with rfl | rfl | rfl | rfl | rfl | rfl | rfl | rfl<;>assumption
def La:List UInt8:=[97,67,101,102,109,110,117,120]
theorem Jk:∀i,i < 8→(La.drop i).take (i + 1 - i)=[(iq.getD i (0,0)).1]∧lZ [(iq.getD i (0,0)).1]=(iq.getD i (0,0)).2∧iq.drop i=iq.getD i (0,0) :: iq.drop (i + 1)∧iq.getD i (0,0)∈iq∧La.getD i 0=(iq.getD i (0,0)).1:=by decide
end Go.PE
namespace Go.Proofs.YtokdflgpbfjpcaaGreatDoor
open Go Go.EvL Go.PE Go.Mir
variable {ext:ar}
theorem PQ {b:ByteArray} (s:PS):Pc ext 17 [.sc (.string b)] (.sc (.int .i64 (lZ b.data.toList))) s:=by
 refine lH kh 2 ?_;unfold kh lZ;cases c1:(b.data.toList == [97]) with
 | true=>exact qO @fO c1
 | false=>
 cases c2:(b.data.toList == [67]) with
 | true=>exact jB @fO c1 c2
 | false=>
 cases c3:(b.data.toList == [101]) with
 | true=>exact qN @fO c1 c2 c3
 | false=>
 cases c4:(b.data.toList == [102]) with
 | true=>exact ub @fO c1 c2 c3 c4
 | false=>
 cases c5:(b.data.toList == [109]) with
 | true=>exact lW @fO c1 c2 c3 c4 c5
 | false=>
 cases c6:(b.data.toList == [110]) with
 | true=>exact uP @fO c1 c2 c3 c4 c5 c6
 | false=>
 cases c7:(b.data.toList == [117]) with
 | true=>exact Az @fO c1 c2 c3 c4 c5 c6 c7
 | false=>
 cases c8:(b.data.toList == [120]) with
 | true=>exact sL @fO c1 c2 c3 c4 c5 c6 c7 c8
 | false=>exact sL @fO c1 c2 c3 c4 c5 c6 c7 c8
theorem V8:ek Γ 17=true:=(rfl)
theorem Mq {x:dG}{b0 n0:Nat}{s:PS} (hn:n0≤s.w) (hb:s.h b0=⟨x.cells,0,30⟩):∀(k i:Nat) (f:aX) (acc:List UInt8),i + k=8→acc.length≤i→f 1=.ptr b0 0 15→f 3=.sc (.string ⟨⟨acc⟩⟩)→f 6=iN i→
  Er (fun f' s'=>n0≤s'.w∧f' 2=.sc (.string ⟨⟨acc ++ nJ x.opts (iq.drop i)⟩⟩)) (LP Tryz.prog Γ ext 0 Hi QH f s):=by
 obtain⟨nm,vs,ps,fs,als,ts,o,st,pi,la',cw,gi,go,le,tk⟩:=x;simp only [dG.cells] at hb;intro k
 induction k with
 | zero=>
  intro i f acc hk ha h1 h3 h6;obtain rfl:i=8:=om;have e1:decide ((8:Int) < 8)=false:=rfl;refine ad fun L hL=>?_;have h6':f 6=.sc (.int .i64 8):=h6;refine Ej @Hi.eq_1 @QH.eq_1 h1 h3 h6' e1 ?_;rw [show iq.drop 8=[] from rfl,nJ,List.append_nil];exact⟨hn,rfl⟩
 | succ k ih=>
  intro i f acc hk ha h1 h3 h6;have hi:i < 8:=om;obtain⟨t1,t2,t3,_,_⟩:=Jk i hi;have e1:decide (i < 8)=true:=decide_eq_true hi;generalize iq.getD i (0,0)=q at t1 t2 t3;obtain⟨c,b⟩:=q;simp only at t1 t2 t3;have hbit:=fun s=>PQ (ext:=ext) (b:=⟨⟨[c]⟩⟩) s;simp only [t2] at hbit;have n1:i≤i + 1:=om;have n2:i + 1≤8:=om;unfold La at t1;have hcat:=fun P ty x y=>Fh (P:=P) ty x y acc [c] (by simp only [List.length_cons,List.length_nil]; omega);rw [t3,nJ];refine ad fun L hL=>?_;cases c1:rj o b with
  | false=>
   unfold rj at c1;simp -implicitDefEqProofs (disch:=first | omega | (unfold cZ cd; simp<;>omega)) only [ZS,seval,ZT,ZX,Hi,h1,h3,h6,e1,hb,n1,n2,t1,hbit,lc,c1,V8,j8];subst hL;exact ih (i + 1) _ acc om om (bm h1) (bm h3) bw
  | true=>
   unfold rj at c1;simp -implicitDefEqProofs (disch:=first | omega | (unfold cZ cd; simp<;>omega)) only [ZS,seval,ZT,ZX,Hi,h1,h3,h6,e1,hb,n1,n2,t1,hbit,lc,c1,V8,j8,hcat];subst hL;rw [show acc ++ c :: nJ o (iq.drop (i + 1))=(acc ++ [c]) ++ nJ o (iq.drop (i + 1)) by simp];exact ih (i + 1) _ (acc ++ [c]) om (by simp; omega) (bm h1) bw bw
theorem EW {x:dG} (s:PS):Pc ext 9 [.agg x.cells] (.sc (.string ⟨⟨nJ x.opts iq⟩⟩)) s:=by
 refine lH p9 2 ?_;unfold p9;refine Gq ?_;exact Mq (ext:=ext) (x:=x) (b0:=s.n) (n0:=s.n) bw bw 8 0 _ [] om (Nat.zero_le _) bw bw bw
end Go.Proofs.YtokdflgpbfjpcaaGreatDoor
namespace Go.PE
open Go Go.EvL
section
variable {P:Program}{Γ:Nat→Option gk}{ext:ar}
theorem jb {g r r2 m:Nat}{fn:gk}{args q:List PV}{s:PS}{u:Value} (hg:Γ g=some fn) (hl:args.length≤fn.nt) (hr:fn.res=[.cell r true m,.tmp r2]) (hk:fn.keep=false)
  (h:Er (fun f' s'=>s.n≤s'.w∧f' r2=.sc u∧∃k,f' r=.ptr k 0 m∧∃cs low e,s'.h k=⟨cs,low,e⟩∧cs.length=m∧low≤m∧iI s.n s' cs=some q) (aT P Γ ext fn.body (bC args 0) ⟨s.h,s.n,s.n⟩)):aH P Γ ext g args s=some (.tup [.agg q,.sc u],s):=by
 refine iQ hg hl h ?_;rintro f s' ⟨hw,h2,k,h1,cs,low,e,h3,h4,h5,h6⟩;refine gx (vs:=[.agg cs,.sc u]) hk ?_ hw ?_
 ·rw [hr];simp only [cV,h1,h2,xr,h3];rw [if_pos ⟨om,h5,om⟩,List.drop_zero,List.take_of_length_le om];rfl
 ·show (er s.n s' [.agg cs,.sc u]).map PV.tup=_;simp only [er,cT,h6,Option.map_some,Option.bind_some];rfl
end
end Go.PE
namespace Go.Proofs.YtokdflgpbfjpcaaGreatDoor
open Go Go.EvL Go.PE Go.Mir
variable {ext:ar}
def dG.withO (x:dG) (o:Int):dG:=⟨x.name,x.vars,x.params,x.funcs,x.aliases,x.traps,o,x.stat,x.pid,x.last,x.cwd,x.gi,x.go,x.lev,x.talks⟩
structure HJ (x:dG) (lv:Option (List eD)) (lp:Option (List ByteArray)) (lf:Option (List aL)) (la:Option (List bN)) (lt:Option (List dk)):Prop where
 v:x.vars=aU 44 eD.cells lv
 p:x.params=aU 9 gq lp
 f:x.funcs=aU 73 aL.cells lf
 a:x.aliases=aU 75 bN.cells la
 t:x.traps=aU 46 dk.cells lt
theorem BE {x y:dG}{lv lv':Option (List eD)}{lp lp':Option (List ByteArray)}{lf lf':Option (List aL)}{la la':Option (List bN)}{lt lt':Option (List dk)} (h:HJ x lv lp lf la lt) (k:HJ y lv' lp' lf' la' lt') {b:ByteArray}{on:Bool}
  (hc:∀s,Pc ext 18 [.agg x.cells] (.agg y.cells) s) (s:PS) :
  Pc ext 6 [.agg x.cells,.sc (.string b),.sc (.bool on)] (.tup [.agg (if lZ b.data.toList == 0 then x else y.withO (nH y.opts (lZ b.data.toList) on)).cells,.sc (.int .i64 (if lZ b.data.toList == 0 then 1 else 0))]) s:=by
 have hbit:=fun s=>PQ (ext:=ext) (b:=b) s;obtain⟨hv,hp,hf,ha,ht⟩:=h;obtain⟨kv,kp,kf,ka,kt⟩:=k;obtain⟨nm,vs,ps,fs,als,ts,o,st,pi,l2,cw,gi,go,le,tk⟩:=x;obtain⟨nm',vs',ps',fs',als',ts',o',st',pi',l2',cw',gi',go',le',tk'⟩:=y;simp only at hv hp hf ha ht kv kp kf ka kt;subst hv hp hf ha ht kv kp kf ka kt;simp only [dG.cells] at hc;cases c1:(lZ b.data.toList == 0) with
 | true=>
  rw [if_pos rfl,if_pos rfl];refine jb (fn:=p6) (r:=6) (r2:=7) (m:=15) (by rfl) (by simp [p6]) (by rfl) (by rfl) ?_;unfold p6;simp only [dG.cells];refine DV hbit c1 @aY @eN @eL @dP @dC @dD @cY ?_;exact⟨_,rfl,_,_,_,if_pos rfl,rfl,Nat.le_refl _,by simp only [iI,gv,fX,Option.bind_some,Option.map_some]⟩
 | false=>
  rw [if_neg (by simp),if_neg (by simp)];unfold nH dG.withO;cases on with
  | true=>
   refine jb (fn:=p6) (r:=6) (r2:=7) (m:=15) (by rfl) (by simp [p6]) (by rfl) (by rfl) ?_;unfold p6;simp only [dG.cells];simp -implicitDefEqProofs (maxSteps:=3000000) (disch:=omega) only [ZS,seval,ZX,hbit,c1,hc,ID,Kc,aY,eN,eL,dP,dC,dD,cY];exact⟨_,rfl,_,_,_,if_pos rfl,rfl,Nat.le_refl _,by simp only [iI,gv,fX,Option.bind_some,Option.map_some]⟩
  | false=>
   refine jb (fn:=p6) (r:=6) (r2:=7) (m:=15) (by rfl) (by simp [p6]) (by rfl) (by rfl) ?_;unfold p6;simp only [dG.cells];simp -implicitDefEqProofs (maxSteps:=3000000) (disch:=omega) only [ZS,seval,ZX,hbit,c1,hc,ID,Kc,aY,eN,eL,dP,dC,dD,cY];exact⟨_,rfl,_,_,_,if_pos rfl,rfl,Nat.le_refl _,by simp only [iI,gv,fX,Option.bind_some,Option.map_some]⟩
theorem zM {α:Type}{e:Nat}{c:α→List PV}{a:PV}{l:Option (List α)} (ha:a=aU e c l) {x:α} (hx:x∈l.getD []) {b:ByteArray} (hp : .sc (.string b)∈c x) {N:Nat} (hb:a.bulk≤N):b.data.toList.length≤N:=by
 have h1:=(dL ha hx hp hb).1;exact EK (by rw [cx,cH]; exact h1)
theorem ju.s {D d:Nat}{x:dG}{lv:Option (List eD)}{lp:Option (List ByteArray)}{lf:Option (List aL)}{la:Option (List bN)}{lt:Option (List dk)} (h:ju D d x lv lp lf la lt):HJ x lv lp lf la lt:=⟨h.v,h.p,h.f,h.a,h.t⟩
theorem Ox {D d:Nat}{x:dG}{lv:Option (List eD)}{lp:Option (List ByteArray)}{lf:Option (List aL)}{la:Option (List bN)}{lt:Option (List dk)} (h:ju D d x lv lp lf la lt) (hb:aR x.cells≤16777216):∀f∈lf.getD [],nD ext f:=fun f hf=>
 PD (by
  have h1:x.funcs.bulk≤16777216:=Nat.le_trans (gQ (by simp [dG.cells])) hb;have:=zM h.f hf (b:=f.name) (by simp [aL.cells]) h1;omega) fun s=>Fo (h.node f hf).1 (h.node f hf).2 s
theorem H7 {D d:Nat}{x:dG}{lv:Option (List eD)}{lp:Option (List ByteArray)}{lf:Option (List aL)}{la:Option (List bN)}{lt:Option (List dk)} (h:ju D d x lv lp lf la lt) (hb:aR x.cells≤16777216) :
  ∃(zv zp zf za zt:Int) (path:Bool),∀(y:dG) lv' lp' lf' la' lt',HJ y lv' lp' lf' la' lt'→lv'.getD []=lv.getD []→lp'.getD []=lp.getD []→(lf'.getD []).map (fun f=>(f.name,fE ext f))=(lf.getD []).map (fun f=>(f.name,fE ext f))→(∀f∈lf'.getD [],nD ext f)→la'.getD []=la.getD []→lt'.getD []=lt.getD []→y.cwd=x.cwd→
   ∀s,Pc ext 11 [.agg y.cells] (.sc (.int .i64 (D8 y.name zv zp zf za zt (AW y.opts y.stat y.pid y.last path y.gi y.go y.lev)))) s:=by
 have hm:∀p∈x.cells,p.bulk≤16777216:=fun p hp=>Nat.le_trans (gQ hp) hb;obtain⟨zv,hv⟩:=Sj (ext:=ext) (lv.getD []) (by have:=h.nv; omega) fun y hy=>by
  have:=zM h.v hy (b:=y.name) (by simp [eD.cells]) (hm _ (by simp [dG.cells]));omega
 obtain⟨zp,hp⟩:=JL (ext:=ext) (lp.getD []) (by have:=h.np; omega);obtain⟨zf,hf⟩:=Ci (ext:=ext) ((lf.getD []).map fun f=>(f.name,fE ext f)) (by rw [List.length_map]; have:=h.nf; omega);obtain⟨za,ha⟩:=HM (ext:=ext) (la.getD []) (by have:=h.na; omega) fun y hy=>by
  have:=zM h.a hy (b:=y.name) (by simp [bN.cells]) (hm _ (by simp [dG.cells]));omega
 obtain⟨zt,ht⟩:=Pl (ext:=ext) (lt.getD []) (by have:=h.nt; omega);obtain⟨path,hpa⟩:=Kz (ext:=ext) (b:=x.cwd) (by have:=h.cwd; omega);refine⟨zv,zp,zf,za,zt,path,fun y lv' lp' lf' la' lt' k e1 e2 e3 e4 e5 e6 e7 s=>?_⟩;rw [← e7] at hpa;refine Vj (fun s=>?_) (fun s=>?_) (fun s=>?_) (fun s=>?_) (fun s=>?_) (fun s=>HE hpa s) ?_ ?_ ?_ ?_ ?_ s
 ·rw [k.v]; exact hv _ e1 s
 ·rw [k.p]; exact hp _ e2 s
 ·rw [k.f]; exact hf _ e3 e4 s
 ·rw [k.a]; exact ha _ e5 s
 ·rw [k.t]; exact ht _ e6 s
 ·rw [k.v]; exact cK _
 ·rw [k.p]; exact cK _
 ·rw [k.f]; exact cK _
 ·rw [k.a]; exact cK _
 ·rw [k.t]; exact cK _
theorem KV {o st pi la gi go le:Int}{path:Bool} (h:AW o st pi la path gi go le=0) : 0≤o∧o≤255:=by
 unfold AW at h;by_cases h1:o < 0
 ·rw [if_pos (by simp [h1])] at h; cases h
 ·by_cases h2:o > 255
  ·rw [if_pos (by simp [h2])] at h; cases h
  ·omega
theorem Kd {nm:ByteArray}{zv zp zf za zt zn:Int} (h:D8 nm zv zp zf za zt zn=0):zv=0∧zp=0∧zf=0∧za=0∧zt=0∧zn=0∧decide (4096 < nm.data.toList.length)=false:=by
 unfold D8 at h;cases c0:decide (4096 < nm.data.toList.length) with
 | true=>rw [c0] at h; cases h
 | false=>
  rw [c0] at h;simp only [Bool.false_eq_true,if_false] at h;by_cases h1:zv=0
  ·by_cases h2:zp=0
   ·by_cases h3:zf=0
    ·by_cases h4:za=0
     ·by_cases h5:zt=0
      ·simp [h1,h2,h3,h4,h5] at h;exact⟨h1,h2,h3,h4,h5,h,rfl⟩
      ·simp [h1,h2,h3,h4,h5] at h
     ·simp [h1,h2,h3,h4] at h
    ·simp [h1,h2,h3] at h
   ·simp [h1,h2] at h
  ·simp [h1] at h
theorem W2:ek Γ 9=true:=(rfl)
theorem Nn {o:Int}{kb n0:Nat}{s:PS} (hn:n0≤s.w) (hb:s.h kb=⟨iq.map fun q=>.sc (.int .i64 q.2),0,3⟩):∀(k i:Nat) (f:aX) (acc:List UInt8),i + k=8→acc.length≤i→f 0=.sc (.int .i64 o)→f 3=.sc (.string ⟨⟨La⟩⟩)→f 4=.own kb 0 8 8→f 5=.sc (.string ⟨⟨acc⟩⟩)→f 6=iN i→
  Er (fun f' s'=>n0≤s'.w∧f' 2=.sc (.string ⟨⟨acc ++ nJ o (iq.drop i)⟩⟩)) (LP Tryz.prog Γ ext 0 yI Lu f s):=by
 have hll:La.length=8:=rfl;intro k
 induction k with
 | zero=>
  intro i f acc hk ha h0 h3 h4 h5 h6;obtain rfl:i=8:=om;have e1:decide (8 < 8)=false:=rfl;refine ad fun L hL=>?_;refine Cc @yI.eq_1 @Lu.eq_1 h0 h3 h4 h5 h6 e1 ?_;rw [show iq.drop 8=[] from rfl,nJ,List.append_nil];exact⟨hn,rfl⟩
 | succ k ih=>
  intro i f acc hk ha h0 h3 h4 h5 h6;have hi:i < 8:=om;obtain⟨t1,t2,t3,_,_⟩:=Jk i hi;have e1:decide (i < 8)=true:=decide_eq_true hi;have hld:xr s (.ptr kb i 8) 1=some [.sc (.int .i64 (iq.getD i (0,0)).2)]:=by
   unfold xr;simp only [hb];rw [if_pos ⟨om,Nat.zero_le _,Nat.le_refl _⟩,← List.map_drop,t3];rfl
  generalize iq.getD i (0,0)=q at t1 t2 t3 hld;obtain⟨c,b⟩:=q;simp only at t1 t2 t3 hld;have n1:i≤i + 1:=om;have n2:i + 1≤8:=om;have hcat:=fun P ty x y=>Fh (P:=P) ty x y acc [c] (by simp only [List.length_cons,List.length_nil]; omega);rw [t3,nJ];refine ad fun L hL=>?_;cases c1:rj o b with
  | false=>
   unfold rj at c1;refine Dg @yI.eq_1 h0 h3 h4 h5 h6 e1 hi hld hll n1 n2 t1 @lc c1 @Nat.mul_one ?_;subst hL;exact ih (i + 1) _ acc om om (bm h0) (bm h3) (bm h4) (bm h5) bw
  | true=>
   unfold rj at c1;refine rO @yI.eq_1 h0 h3 h4 h5 h6 e1 hi hld hll n1 n2 t1 @lc c1 @Nat.mul_one hcat tv tv ?_;subst hL;rw [show acc ++ c :: nJ o (iq.drop (i + 1))=(acc ++ [c]) ++ nJ o (iq.drop (i + 1)) by simp];exact ih (i + 1) _ (acc ++ [c]) om (by simp; omega) (bm h0) (bm h3) (bm h4) bw bw
theorem yw {o:Int} (s:PS):Pc ext 25 [.sc (.int .i64 o)] (.sc (.string ⟨⟨nJ o iq⟩⟩)) s:=by
 refine lH tr 2 ?_;unfold tr;simp -implicitDefEqProofs (maxSteps:=3000000) (disch:=omega) only [ZS,seval,ZX];exact Nn (ext:=ext) (o:=o) (kb:=s.n) (n0:=s.n) bw bw 8 0 _ [] om (Nat.zero_le _) bw bw bw bw bw
theorem EX {x:dG} (s:PS):Pc ext 10 [.agg x.cells] (.sc (.string ⟨⟨nJ x.opts iq⟩⟩)) s:=by
 have h:=fun s=>yw (ext:=ext) (o:=x.opts) s;obtain⟨nm,vs,ps,fs,als,ts,o,st,pi,la',cw,gi,go,le,tk⟩:=x;simp only [dG.cells] at h ⊢;refine lH fN 2 ?_;unfold fN;exact bm h
theorem Fl (b:ByteArray) (l:List UInt8):((ByteArray.mk ⟨l⟩).toList == b.toList)=(l == b.data.toList):=by
 rw [ByteArray.toList_eq,ByteArray.toList_eq]
theorem lI {b:ByteArray}{v v2 z:Int}{c:UInt8} (hv:decide (v < 256)=true) (hf:nJ v iq=[c]) (h2:IntKind.i64.wrap (2 * v)=v2) {n0:Nat}{s:PS} (hn:n0≤s.w)
  (hnext:∀f,f 0=.sc (.string b)→f 3=.sc (.int .i64 v2)→Er (fun f' s'=>n0≤s'.w∧f' 2=.sc (.int .i64 z)) (LP Tryz.prog Γ ext 0 wn AY f s)) (f:aX) (h0:f 0=.sc (.string b)) (h3:f 3=.sc (.int .i64 v)) :
  Er (fun f' s'=>n0≤s'.w∧f' 2=.sc (.int .i64 (if [c] == b.data.toList then v else z))) (LP Tryz.prog Γ ext 0 wn AY f s):=by
 have hfl:=fun s=>yw (ext:=ext) (o:=v) s;rw [hf] at hfl;refine ad fun L hL=>?_;cases c1:([c] == b.data.toList) with
 | true=>
  simp -implicitDefEqProofs (disch:=omega) only [ZS,seval,wn,AY,h0,h3,hv,hfl,Fl,c1,if_true];exact hn
 | false=>
  refine DV @wn.eq_1 h0 h3 hv hfl @Fl c1 @bin_mul h2 ?_;subst hL;exact hnext _ (bm h0) bw
theorem UT {b:ByteArray} (s:PS):Pc ext 19 [.sc (.string b)] (.sc (.int .i64 (lZ b.data.toList))) s:=by
 have hk:lZ b.data.toList=(if [101] == b.data.toList then 1 else if [117] == b.data.toList then 2 else if [120] == b.data.toList then 4 else if [102] == b.data.toList then 8 else if [110] == b.data.toList then 16 else if [97] == b.data.toList then 32 else if [109] == b.data.toList then 64 else if [67] == b.data.toList then 128 else 0):=by
  unfold lZ;generalize b.data.toList=t;by_cases h1:t=[97]; · subst h1; decide
  by_cases h2:t=[67]; · subst h2; decide
  by_cases h3:t=[101]; · subst h3; decide
  by_cases h4:t=[102]; · subst h4; decide
  by_cases h5:t=[109]; · subst h5; decide
  by_cases h6:t=[110]; · subst h6; decide
  by_cases h7:t=[117]; · subst h7; decide
  by_cases h8:t=[120]; · subst h8; decide
  simp [h1,h2,h3,h4,h5,h6,h7,h8,Ne.symm h1,Ne.symm h2,Ne.symm h3,Ne.symm h4,Ne.symm h5,Ne.symm h6,Ne.symm h7,Ne.symm h8]
 rw [hk];refine lH nq 2 ?_;unfold nq;refine Gq ?_;have hn:s.n≤(⟨s.h,s.n,s.n⟩ : PS).w:=Nat.le_refl _;refine lI (v2:=2) (by decide) (by decide) (by decide) hn (lI (v2:=4) (by decide) (by decide) (by decide) hn (lI (v2:=8) (by decide) (by decide) (by decide) hn (lI (v2:=16) (by decide) (by decide) (by decide) hn (lI (v2:=32) (by decide) (by decide) (by decide) hn (lI (v2:=64) (by decide) (by decide) (by decide) hn (lI (v2:=128) (by decide) (by decide) (by decide) hn (lI (v2:=256) (by decide) (by decide) (by decide) hn fun f h0 h3=>?_))))))) _ bw bw;have e1:decide ((256:Int) < 256)=false:=rfl;refine ad fun L hL=>?_;exact ub @wn.eq_1 @AY.eq_1 h0 h3 e1
theorem JS {x:dG}{lv:Option (List eD)}{lp:Option (List ByteArray)}{lf:Option (List aL)}{la:Option (List bN)}{lt:Option (List dk)} (h:HJ x lv lp lf la lt) {b:ByteArray}{on:Bool} (s:PS) :
  Pc ext 7 [.agg x.cells,.sc (.string b),.sc (.bool on)] (.tup [.agg (if lZ b.data.toList == 0 then x else x.withO (Mb x.opts (lZ b.data.toList) on)).cells,.sc (.int .i64 (if lZ b.data.toList == 0 then 1 else 0))]) s:=by
 have hbit:=fun s=>UT (ext:=ext) (b:=b) s;obtain⟨hv,hp,hf,ha,ht⟩:=h;obtain⟨nm,vs,ps,fs,als,ts,o,st,pi,l2,cw,gi,go,le,tk⟩:=x;simp only at hv hp hf ha ht;subst hv hp hf ha ht;cases c1:(lZ b.data.toList == 0) with
 | true=>
  rw [if_pos rfl,if_pos rfl];refine jb (fn:=p7) (r:=6) (r2:=7) (m:=15) (by rfl) (by simp [p7]) (by rfl) (by rfl) ?_;unfold p7;simp only [dG.cells];refine DV hbit c1 @aY @eN @eL @dP @dC @dD @cY ?_;exact⟨_,rfl,_,_,_,if_pos rfl,rfl,Nat.le_refl _,by simp only [iI,gv,fX,Option.bind_some,Option.map_some]<;>rfl⟩
 | false=>
  rw [if_neg (by simp),if_neg (by simp)];unfold dG.withO Mb rj;cases on with
  | true=>
   cases c2:(MH o (lZ b.data.toList) != 0) with
   | true=>
    refine jb (fn:=p7) (r:=6) (r2:=7) (m:=15) (by rfl) (by simp [p7]) (by rfl) (by rfl) ?_;unfold p7;simp only [dG.cells];simp -implicitDefEqProofs (maxSteps:=3000000) (disch:=omega) only [ZS,seval,ZX,hbit,c1,c2,lc,aY,eN,eL,dP,dC,dD,cY];exact⟨_,rfl,_,_,_,if_pos rfl,rfl,Nat.le_refl _,by simp only [iI,gv,fX,Option.bind_some,Option.map_some]<;>rfl⟩
   | false=>
    refine jb (fn:=p7) (r:=6) (r2:=7) (m:=15) (by rfl) (by simp [p7]) (by rfl) (by rfl) ?_;unfold p7;simp only [dG.cells];simp -implicitDefEqProofs (maxSteps:=3000000) (disch:=omega) only [ZS,seval,ZX,hbit,c1,c2,lc,aY,eN,eL,dP,dC,dD,cY];exact⟨_,rfl,_,_,_,if_pos rfl,rfl,Nat.le_refl _,by simp only [iI,gv,fX,Option.bind_some,Option.map_some]<;>rfl⟩
  | false=>
   cases c2:(MH o (lZ b.data.toList) != 0) with
   | true=>
    refine jb (fn:=p7) (r:=6) (r2:=7) (m:=15) (by rfl) (by simp [p7]) (by rfl) (by rfl) ?_;unfold p7;simp only [dG.cells];simp -implicitDefEqProofs (maxSteps:=3000000) (disch:=omega) only [ZS,seval,ZX,hbit,c1,c2,lc,aY,eN,eL,dP,dC,dD,cY];exact⟨_,rfl,_,_,_,if_pos rfl,rfl,Nat.le_refl _,by simp only [iI,gv,fX,Option.bind_some,Option.map_some]<;>rfl⟩
   | false=>
    refine jb (fn:=p7) (r:=6) (r2:=7) (m:=15) (by rfl) (by simp [p7]) (by rfl) (by rfl) ?_;unfold p7;simp only [dG.cells];simp -implicitDefEqProofs (maxSteps:=3000000) (disch:=omega) only [ZS,seval,ZX,hbit,c1,c2,lc,aY,eN,eL,dP,dC,dD,cY];exact⟨_,rfl,_,_,_,if_pos rfl,rfl,Nat.le_refl _,by simp only [iI,gv,fX,Option.bind_some,Option.map_some]<;>rfl⟩
theorem aL.inj (x y:aL) (h:x.cells=y.cells):x=y:=by
 obtain⟨n,b⟩:=x;obtain⟨n',b'⟩:=y;simp only [aL.cells,List.cons.injEq] at h;obtain⟨h1,h2⟩:=h;obtain rfl:=am.inj _ _ h2;injection h1 with h1;injection h1 with h1;rw [h1]
theorem yu {D d:Nat}{a:PV}{lf lf':Option (List aL)} (ha:a=aU 73 aL.cells lf) (hl:io 73 aL.cells (AV D d) (aU 73 aL.cells lf') a):fk (AV D d) (lf'.getD []) (lf.getD []):=by
 obtain⟨l,e,h⟩:=io.lists (c:=aL.cells) aL.inj aL.len hl ha;obtain rfl:=eV aL.inj aL.len e;exact h
theorem Bm {D d:Nat}{l m:List aL} (h:fk (AV D d) l m):iC (mp ext) l m=true:=by
 induction h with
 | nil=>rfl
 | cons x y l m h _ ih=>
  rw [iC,ih,Bool.and_true];unfold mp;rw [h.1,jc,show xK ext x.body y.body=true from gN fun s=>HS d _ _ h.2 s];rfl
theorem FF {D d:Nat}{x:dG}{lv:Option (List eD)}{lp:Option (List ByteArray)}{lf lf':Option (List aL)}{la:Option (List bN)}{lt:Option (List dk)} (h:ju D d x lv lp lf la lt) (hl:fk (AV D d) (lf'.getD []) (lf.getD [])) :
  ju D d (x.copy lv lp (aU 73 aL.cells lf') la lt) (eo (lv.getD [])) (eo (lp.getD [])) lf' (eo (la.getD [])) (eo (lt.getD [])):=
 ⟨rfl,rfl,rfl,rfl,rfl,by rw [cE]; exact h.nv,by rw [cE]; exact h.np,by rw [hl.len]; exact h.nf,by rw [cE]; exact h.na,by rw [cE]; exact h.nt,fun y hy=>by
  obtain⟨z,hz,hq⟩:=hl.mem y hy;obtain⟨n1,n2⟩:=h.node z hz;obtain⟨m1,m2,_⟩:=sU (ext:=Bh 5) d _ _ hq.2 n1 n2;exact⟨m1,om⟩,h.name,h.cwd⟩
theorem Nw {D d:Nat}{x:dG}{lv:Option (List eD)}{lp:Option (List ByteArray)}{lf lf':Option (List aL)}{la:Option (List bN)}{lt:Option (List dk)} (h:ju D d x lv lp lf la lt) (hb:aR x.cells≤16777216) (hl:fk (AV D d) (lf'.getD []) (lf.getD [])) :
  (lf'.getD []).map (fun f=>(f.name,fE ext f))=(lf.getD []).map (fun f=>(f.name,fE ext f))∧∀f∈lf'.getD [],nD ext f:=by
 have hfb:x.funcs.bulk≤16777216:=Nat.le_trans (gQ (by simp [dG.cells])) hb;have hnode:=h.node;have hname:∀f∈lf.getD [],f.name.data.toList.length≤16777216:=fun f hf=>zM h.f hf (b:=f.name) (by simp [aL.cells]) hfb;generalize lf'.getD []=l at *;generalize lf.getD []=m at *;clear h hb hfb
 induction hl with
 | nil=>exact⟨rfl,fun f hf=>by cases hf⟩
 | cons y z l m hq _ ih=>
  obtain⟨i1,i2⟩:=ih (fun f hf=>hnode f (List.mem_cons_of_mem _ hf)) fun f hf=>hname f (List.mem_cons_of_mem _ hf);obtain⟨n1,n2⟩:=hnode z (List.mem_cons_self ..);have n3:=hname z (List.mem_cons_self ..);obtain⟨m1,m2,_⟩:=sU (ext:=ext) d _ _ hq.2 n1 n2;have hk:y.body.kind=z.body.kind:=by
   cases d with
   | zero=>cases hq.2
   | succ d=>exact hq.2.1.1
  have he:fE ext y=fE ext z:=by unfold fE; rw [hq.1,hk,B1 hq.2 n1 n2]
  refine⟨by rw [List.map_cons,List.map_cons,i1,he,hq.1],fun f hf=>?_⟩;rcases List.mem_cons.1 hf with rfl | hf
  ·exact PD (by rw [hq.1]; omega) fun s=>Fo m1 om s
  ·exact i2 f hf
theorem wV {D d:Nat}{x:dG}{lv:Option (List eD)}{lp:Option (List ByteArray)}{lf:Option (List aL)}{la:Option (List bN)}{lt:Option (List dk)} (h:ju D d x lv lp lf la lt) (o:Int):ju D d (x.withO o) lv lp lf la lt:=
 ⟨h.v,h.p,h.f,h.a,h.t,h.nv,h.np,h.nf,h.na,h.nt,h.node,h.name,h.cwd⟩
theorem zQ {D d:Nat}{x y:dG}{lv lv':Option (List eD)}{lp lp':Option (List ByteArray)}{lf lf':Option (List aL)}{la la':Option (List bN)}{lt lt':Option (List dk)} (h:ju D d x lv lp lf la lt) (k:ju D d y lv' lp' lf' la' lt')
  (e1:x.name=y.name) (e2:lv.getD []=lv'.getD []) (e3:lp.getD []=lp'.getD []) (e4:iC (mp ext) (lf.getD []) (lf'.getD [])=true) (e5:la.getD []=la'.getD []) (e6:lt.getD []=lt'.getD []) (e7:x.opts=y.opts) (e8:x.stat=y.stat) (e9:x.pid=y.pid) (e10:x.last=y.last) (e11:x.cwd=y.cwd) (e12:x.gi=y.gi) (e13:x.go=y.go) (e14:x.lev=y.lev) (e15:x.talks=y.talks) :
  ∀s,Pc ext 8 [.agg x.cells,.agg y.cells] (.sc (.bool true)) s:=by
 obtain⟨Q,e,_,h2⟩:=OR (ext:=ext) h k;have q:Q=true:=by
  rw [e,e1,e2,e3,e4,e5,e6,e7,e8,e9,e10,e11,e12,e13,e14,e15,jc,jc,kz (q:=Ks) (fun a _=>by unfold Ks; simp [jc]),kz (q:=l9) (fun a _=>jc a),kz (q:=vO) (fun a _=>by unfold vO; simp [jc]),kz (q:=BW) (fun a _=>by unfold BW; simp [jc])];simp
 subst q;exact h2
def ER (x:dG):Prop:=∃lv lp lf la lt,HJ x lv lp lf la lt
theorem I1 {D d:Nat}{l:List aL} (h:∀y∈l,bB D d y.body):iC (mp ext) l l=true:=kz fun a ha=>Hx (h a ha)
theorem HK {D d:Nat}{x:dG}{lv:Option (List eD)}{lp:Option (List ByteArray)}{lf:Option (List aL)}{la:Option (List bN)}{lt:Option (List dk)} (h:ju D d x lv lp lf la lt) (hb:aR x.cells≤16777216) {L:ByteArray}{on:Bool} :
  ∃z:Int,(∀s,Pc ext 11 [.agg x.cells] (.sc (.int .i64 z)) s)∧(z=0→∃(a b c:dG) (f:Int) (t:List UInt8),ER a∧ER b∧ER c∧(∀s,Pc ext 6 [.agg x.cells,.sc (.string L),.sc (.bool on)] (.tup [.agg a.cells,.sc (.int .i64 f)]) s)∧
   (∀s,Pc ext 7 [.agg x.cells,.sc (.string L),.sc (.bool on)] (.tup [.agg b.cells,.sc (.int .i64 f)]) s)∧(∀s,Pc ext 8 [.agg a.cells,.agg b.cells] (.sc (.bool true)) s)∧(∀s,Pc ext 9 [.agg a.cells] (.sc (.string ⟨⟨t⟩⟩)) s)∧(∀s,Pc ext 10 [.agg b.cells] (.sc (.string ⟨⟨t⟩⟩)) s)∧
   (∀s,Pc ext 11 [.agg a.cells] (.sc (.int .i64 0)) s)∧(∀s,Pc ext 6 [.agg a.cells,.sc (.string L),.sc (.bool on)] (.tup [.agg c.cells,.sc (.int .i64 f)]) s)∧∀s,Pc ext 8 [.agg c.cells,.agg a.cells] (.sc (.bool true)) s):=by
 obtain⟨zv,zp,zf,za,zt,path,hz⟩:=H7 (ext:=ext) h hb;have hz0:=hz x lv lp lf la lt h.s rfl rfl rfl (Ox h hb) rfl rfl rfl;refine⟨_,hz0,fun hzero=>?_⟩;obtain⟨v1,v2,v3,v4,v5,v6,v7⟩:=Kd hzero;obtain⟨o0,o1⟩:=KV v6;obtain⟨lf',hl,hcopy⟩:=IA (ext:=ext) h;have hl2:=yu h.f hl;have hA:=FF h hl2;obtain⟨hfe,hfo⟩:=Nw (ext:=ext) h hb hl2;have hop:=fun s=>BE (ext:=ext) h.s (hA.s) (b:=L) (on:=on) hcopy s;have hro:=fun s=>JS (ext:=ext) h.s (b:=L) (on:=on) s;have hss:∀s,Pc ext 8 [.agg x.cells,.agg x.cells] (.sc (.bool true)) s:=zQ h h rfl rfl rfl (I1 fun y hy=>(h.node y hy).1) rfl rfl rfl rfl rfl rfl rfl rfl rfl rfl rfl;rcases NX L.data.toList with ⟨b0,_⟩ | ⟨q,qm,bq,b0,b1⟩
 ·rw [b0] at hop hro;have hsl:ER x:=⟨_,_,_,_,_,h.s⟩
  rw [hzero] at hz0;exact⟨x,x,x,1,nJ x.opts iq,hsl,hsl,hsl,hop,hro,hss,fun s=>EW s,fun s=>EX s,hz0,hop,hss⟩
 ·obtain⟨c1,c2,c3,c4,_⟩:=SQ o0 o1 qm on;rw [if_neg (by simpa using b1),if_neg (by simpa using b1),b0] at hop;rw [if_neg (by simpa using b1),if_neg (by simpa using b1),b0,c1] at hro;generalize ho:nH x.opts q.2 on=o' at *;have hAo:=wV hA o';obtain⟨lf2,hl',hcopy2⟩:=IA (ext:=ext) hAo;have hl3:=yu hAo.f hl';have hA2:=FF hAo hl3;have hop2:=fun s=>BE (ext:=ext) hAo.s hA2.s (b:=L) (on:=on) hcopy2 s;rw [if_neg (by simpa using b1),if_neg (by simpa using b1),b0] at hop2;have hoo:nH ((x.copy lv lp (aU 73 aL.cells lf') la lt).withO o').opts q.2 on=o':=c4;have hX:=wV h o';have hA3:=wV hA2 o';refine⟨(x.copy lv lp (aU 73 aL.cells lf') la lt).withO o',x.withO o',_,0,nJ o' iq,⟨_,_,_,_,_,hAo.s⟩,⟨_,_,_,_,_,hX.s⟩,⟨_,_,_,_,_,hA3.s⟩,fun s=>?_,hro,?_,fun s=>EW s,fun s=>EX s,fun s=>?_,fun s=>?_,?_⟩
  ·have:=hop s;rw [show (x.copy lv lp (aU 73 aL.cells lf') la lt).opts=x.opts from rfl,ho] at this;exact this
  ·exact zQ hAo hX rfl (cE _) (cE _) (Bm hl2) (cE _) (cE _) rfl rfl rfl rfl rfl rfl rfl rfl rfl
  ·rw [Pc,hz _ _ _ _ _ _ hAo.s (cE _) (cE _) hfe hfo (cE _) (cE _) rfl s];have hn:AW o' x.stat x.pid x.last path x.gi x.go x.lev=0:=by
    have e1:decide (o' < 0)=false:=df;have e2:decide (o' > 255)=false:=df;have e3:decide (x.opts < 0)=false:=df;have e4:decide (x.opts > 255)=false:=df;rw [← v6];unfold AW;rw [e1,e2,e3,e4]
   have hv:D8 x.name zv zp zf za zt (AW o' x.stat x.pid x.last path x.gi x.go x.lev)=0:=by
    rw [hn]; unfold D8; rw [v1,v2,v3,v4,v5,v7]; rfl
   exact congrArg (fun q=>some (PV.sc (.int .i64 q),s)) hv
  ·have:=hop2 s;rw [show (((x.copy lv lp (aU 73 aL.cells lf') la lt).withO o').copy (eo (lv.getD [])) (eo (lp.getD [])) (aU 73 aL.cells lf2) (eo (la.getD [])) (eo (lt.getD []))).opts=o' from rfl,c4] at this;exact this
  ·exact zQ hA3 hAo rfl (by rw [cE]) (by rw [cE]) (Bm hl3) (by rw [cE]) (by rw [cE]) rfl rfl rfl rfl rfl rfl rfl rfl rfl
theorem VM:ek Γ 11=true:=(rfl)
theorem VP:ek Γ 10=true:=(rfl)
theorem Oi {D d:Nat}{x:dG}{lv:Option (List eD)}{lp:Option (List ByteArray)}{lf:Option (List aL)}{la:Option (List bN)}{lt:Option (List dk)} (h:ju D d x lv lp lf la lt) (hb:aR x.cells≤16777216) {L:ByteArray}{on:Bool} (s:PS) :
  aH Tryz.prog Γ (Bh 5) 3 [.agg x.cells,.sc (.string L),.sc (.bool on)] s=some (.sc (.bool true),s):=by
 obtain⟨bs,hbs⟩:=Classical.axiomOfChoice fun s=>NK (ext:=Bh 5) h s;obtain⟨z,hz0,hfacts⟩:=HK (ext:=Bh 5) h hb (L:=L) (on:=on);obtain⟨cf,hcf⟩:=Classical.axiomOfChoice fun s=>QO hbs hz0 s;have hw:=OG;obtain⟨hxv,hxp,hxf,hxa,hxt⟩:=h.s;clear h hb hbs hz0;refine lH p3 6 ?_;unfold p3;obtain⟨nm,vs,ps,fs,als,ts,o,st,pi,la',cw,gi,go,le,tk⟩:=x;simp only at hxv hxp hxf hxa hxt;subst hxv hxp hxf hxa hxt;simp only [dG.cells] at hcf ⊢;generalize hs1:((⟨s.h,s.n,s.n⟩ : PS).new ⟨[.sc (.string nm),aU 44 eD.cells lv,aU 9 gq lp,aU 73 aL.cells lf,aU 75 bN.cells la,aU 46 dk.cells lt,.sc (.int .i64 o),.sc (.int .i64 st),.sc (.int .i64 pi),.sc (.int .i64 la'),.sc (.string cw),.sc (.int .i64 gi),.sc (.int .i64 go),.sc (.int .i64 le),.sc (.bool tk)],0,30⟩)=s1;have q1:s1.h s.n=⟨[.sc (.string nm),aU 44 eD.cells lv,aU 9 gq lp,aU 73 aL.cells lf,aU 75 bN.cells la,aU 46 dk.cells lt,.sc (.int .i64 o),.sc (.int .i64 st),.sc (.int .i64 pi),.sc (.int .i64 la'),.sc (.string cw),.sc (.int .i64 gi),.sc (.int .i64 go),.sc (.int .i64 le),.sc (.bool tk)],0,30⟩:=by
  rw [← hs1];exact if_pos rfl
 have q2:s.n≤s1.w:=by rw [← hs1]; exact Nat.le_refl _
 have q3:s1.n=s.n + 1:=by rw [← hs1]; rfl
 have hf1:=hcf s1;cases c1:(cf s1 && (z == 0)) with
 | false=>
  rw [c1] at hf1;refine Ej hs1 q1 hf1 hw @dD @cY ?_;exact q2
 | true=>
 rw [c1] at hf1;have hz:z=0:=by simp at c1; exact c1.2
 cases c2:decide (20 < L.data.toList.length) with
 | true=>
  refine Fy hs1 q1 hf1 hw c2 @dD @cY ?_;exact q2
 | false=>
 obtain⟨a,b,c,f,t,⟨va,pa,fa,aa,ta,ka⟩,⟨vb,pb,fb,ab,tb,kb⟩,⟨vc,pc,fc,ac,tc,kc⟩,h1,h2,h3,h4,h5,h6,h7,h8⟩:=hfacts hz;clear hfacts hcf;obtain⟨anm,avs,aps,afs,aals,ats,ao,ast,api,ala,acw,agi,ago,ale,atk⟩:=a;obtain⟨bnm,bvs,bps,bfs,bals,bts,bo,bst,bpi,bla,bcw,bgi,bgo,ble,btk⟩:=b;obtain⟨cnm,cvs,cps,cfs,cals,cts,co,cst,cpi,cla,ccw,cgi,cgo,cle,ctk⟩:=c;obtain⟨k1,k2,k3,k4,k5⟩:=ka;obtain⟨l1,l2,l3,l4,l5⟩:=kb;obtain⟨m1,m2,m3,m4,m5⟩:=kc;simp only at k1 k2 k3 k4 k5 l1 l2 l3 l4 l5 m1 m2 m3 m4 m5;subst k1 k2 k3 k4 k5 l1 l2 l3 l4 l5 m1 m2 m3 m4 m5;simp only [dG.cells] at h1 h2 h3 h4 h5 h6 h7 h8;have f1:(f != f)=false:=by simp
 have f2:(f == f)=true:=by simp
 have t1:(t == t)=true:=by simp
 have z0:((0:Int) != 0)=false:=rfl;simp -implicitDefEqProofs (maxSteps:=3000000) (disch:=first | omega | (unfold cZ cd; simp<;>omega)) only [ZS,seval,ZT,ZX,hs1,q1,q3,hf1,hw,c2,h1,h2,h3,h4,h5,h6,h7,h8,f1,f2,t1,z0,fO,VI,W2,VP,VM,W8,j8,aY,eN,eL,dP,dC,dD,cY];omega
end Go.Proofs.YtokdflgpbfjpcaaGreatDoor
