/- What functions of the program and of the reference compute, on values. No statement is proved here. -/
import Derived.Test.YtokdflgpbfjpcaaGreatDoorTxE
import Derived.Test.YtokdflgpbfjpcaaGreatDoorTxG
import Derived.Test.YtokdflgpbfjpcaaGreatDoorTxC
import Derived.Test.YtokdflgpbfjpcaaGreatDoorTxD
import Derived.Test.YtokdflgpbfjpcaaGreatDoorTxA
set_option linter.all false
namespace Go.Mir
theorem qM.total (l:List UInt8):∀(m i:Nat),l.length - i < m→∃j,qM l i j:=by
 intro m
 induction m with
 | zero=>intro i h; omega
 | succ m ih=>
  intro i h;cases hj:cX l i with
  | false=>exact⟨_,.stop hj⟩
  | true=>
   have:=ij hj;obtain⟨j,k⟩:=ih (i + 2) (by omega);exact⟨j,.step hj k⟩
theorem mc.total (l:List UInt8) (a p:Nat):∃g,mc l a p g:=by
 cases h:dh p && bt l a == 126 with
 | false=>exact⟨_,.no h⟩
 | true=>
  rw [Bool.and_eq_true,beq_iff_eq] at h;obtain⟨j,k⟩:=qM.total l _ (a + 1) (Nat.lt_succ_self _);exact⟨_,.yes h.1 h.2 k⟩
theorem Ar.total (l:List UInt8):∀(m i v:Nat),l.length - i < m→∃j,Ar l v i j:=by
 intro m
 induction m with
 | zero=>intro i v h; omega
 | succ m ih=>
  intro i v h;by_cases hl:i < l.length
  ·cases hd:bM (bt l i) with
   | false=>exact⟨_,.stop (.inr (.inl hd))⟩
   | true=>
    by_cases hv : 10 * v + (bt l i - 48)≤2147483647
    ·obtain⟨j,k⟩:=ih (i + 1) (10 * v + (bt l i - 48)) (by omega);exact⟨j,.step hl hd hv k⟩
    ·exact⟨_,.stop (.inr (.inr (by omega)))⟩
  ·exact⟨_,.stop (.inl (by omega))⟩
theorem iK.total (l:List UInt8) (i:Nat):∃j,iK l i j:=by
 by_cases hl:i < l.length
 ·by_cases h0:bt l i=48
  ·exact⟨_,.zero hl h0⟩
  cases hd:bM (bt l i) with
  | true=>
   obtain⟨j,k⟩:=Ar.total l _ i 0 (Nat.lt_succ_self _);exact⟨j,.num hl hd h0 k⟩
  | false=>
   cases hw:eI (bt l i) with
   | true=>exact⟨_,.name hl hd hw⟩
   | false=>
    cases hs:cJ (bt l i) with
    | true=>exact⟨_,.spec hl hd hs⟩
    | false=>exact⟨_,.none hl hw hs⟩
 ·exact⟨_,.none0 (by omega)⟩
theorem Closed.total (t:List UInt8):∃g,Closed t g:=by
 obtain⟨r,e,k⟩:=Lx.total (wrap t) _ (.pass 0 0) (Nat.lt_succ_self _) (by show 0 < (wrap t).length; simp [wrap]);exact⟨_,.mk k⟩
def ew.size (l:List UInt8):ew→Nat
 | .loop a _ _ _ _ _=>5 * (l.length - a) + 4
 | .part a _ _=>5 * (l.length - a) + 3
 | .brc a _ _=>5 * (l.length - a) + 2
 | .brc2 a _ _=>5 * (l.length - a) + 1
theorem Wx.total (l:List UInt8):∀(m:Nat) (t:ew),t.size l < m→t.ok l→∃r,Wx l t r:=by
 intro m
 induction m with
 | zero=>intro t h; omega
 | succ m ih=>
  intro t hm ok;cases t with
  | loop a p lv fr o acc=>
   simp only [ew.size,ew.ok] at hm ok;by_cases ha:a=l.length
   ·subst ha;by_cases h:p=0∨p=5
    ·exact⟨_,.l_end h⟩
    ·exact⟨_,.l_open (fun h1=>h (.inl h1)) (fun h1=>h (.inr h1))⟩
   have hl:a < l.length:=by omega
   cases he:fy (bt l a) p o with
   | true=>
    by_cases hp:p=4
    ·subst hp;by_cases h2:a + 1=l.length
     ·exact⟨_,.l_a0 he h2⟩
     ·by_cases h3:bt l (a + 1)=41
      ·exact⟨_,.l_a he (by omega) h3⟩
      ·exact⟨_,.l_a1 he (by omega) h3⟩
    ·exact⟨_,.l_q hl he hp⟩
   | false=>
    obtain⟨g,hg⟩:=mc.total l a p;have step:(acc=[]→mc l a p false)→∃r,Wx l (.loop a p lv fr o acc) r:=by
     intro hT;obtain⟨r,k⟩:=ih (.part a p lv) (by simp only [ew.size]; omega) hl;cases r with
     | error x=>exact⟨_,.l_err hl he hT k⟩
     | ok x=>
      obtain⟨ps,j⟩:=x;have hB:=k.bound hl;obtain⟨b1,b2,_,_⟩:=hB;simp only at b1 b2;obtain⟨r,k2⟩:=ih (.loop j p lv fr (if p=4 then di (bt l a) o else o) (ps.foldl mV acc)) (by simp only [ew.size]; omega) b2;exact⟨r,.l_on hl he hT k k2⟩
    cases acc with
    | nil=>
     cases g with
     | true=>
      obtain⟨r,k⟩:=ih (.loop (a + 1) p lv fr o [qX]) (by simp only [ew.size]; omega) (by simp only [ew.ok]; omega);exact⟨r,.l_tilde hl he hg k⟩
     | false=>exact step fun _=>hg
    | cons c acc=>exact step fun h=>by cases h
  | part a p lv=>
   simp only [ew.size,ew.ok] at hm ok;by_cases h92:bt l a=92
   ·by_cases h2:a + 1=l.length
    ·by_cases h5:p=5
     ·subst h5; exact⟨_,.s_end5 h92 h2⟩
     ·exact⟨_,.s_end h92 h2 h5⟩
    have h2':a + 1 < l.length:=by omega
    by_cases h3:bt l (a + 1)=10
    ·exact⟨_,.s_nl h92 h2' h3⟩
    cases h4:dh p with
    | true=>exact⟨_,.s_out h92 h2' h3 h4⟩
    | false=>
     cases h5:ck (bt l (a + 1)) p with
     | true=>exact⟨_,.s_esc h92 h2' h3 h4 h5⟩
     | false=>
      by_cases h6:p=4∧(bt l (a + 1)=40∨bt l (a + 1)=41)
      ·obtain⟨rfl,h6⟩:=h6;exact⟨_,.s_par h92 h2' h6⟩
      ·exact⟨_,.s_two h92 h2' h3 h4 h5 fun hp=>⟨fun h=>h6 ⟨hp,.inl h⟩,fun h=>h6 ⟨hp,.inr h⟩⟩⟩
   by_cases h96:bt l a=96
   ·obtain⟨r,e,k⟩:=Lx.total l _ (.bq (a + 1) a) (Nat.lt_succ_self _) ⟨by omega,ok⟩;by_cases he:e=0
    ·subst he;obtain⟨g,c⟩:=Closed.total (fR (qy (sub l (a + 1) (r - 1))));cases g with
     | true=>exact⟨_,.q_ok ok h96 k c⟩
     | false=>
      obtain⟨g,c2⟩:=Closed.total (fR (qy (sub l (a + 1) (r - 1))) ++ [10]);cases g with
      | true=>exact⟨_,.q_nl ok h96 k c c2⟩
      | false=>exact⟨_,.q_no ok h96 k c c2⟩
    ·exact⟨_,.q_err ok h96 k he⟩
   by_cases h36:bt l a=36
   ·cases hx:cG l a with
    | true=>
     have hl1:=ce hx;by_cases h1:bt l (a + 1)=123
     ·obtain⟨r,k⟩:=ih (.brc a p lv) (by simp only [ew.size]; omega) (by simp only [ew.ok]; omega);exact⟨r,.x_brc hx h1 k⟩
     by_cases h2:bt l (a + 1)=40
     ·by_cases h3:a + 2 < l.length∧bt l (a + 2)=40
      ·by_cases h4 : 32≤lv
       ·exact⟨_,.x_deep hx h2 h3.1 h3.2 h4⟩
       ·obtain⟨r,k⟩:=ih (.loop (a + 3) 4 (lv + 1) a 0 []) (by simp only [ew.size]; omega) (by simp only [ew.ok]; omega);cases r with
        | error x=>exact⟨_,.x_ari0 hx h2 h3.1 h3.2 (by omega) k⟩
        | ok x=>exact⟨_,.x_ari hx h2 h3.1 h3.2 (by omega) k⟩
      ·have h3':a + 2 < l.length→bt l (a + 2)≠40:=fun h h'=>h3 ⟨h,h'⟩;obtain⟨r,e,k⟩:=Lx.total l _ (.cmd (a + 2) a 1 true) (Nat.lt_succ_self _) ⟨by omega,ok⟩;by_cases he:e=0
       ·subst he; exact⟨_,.x_cmd hx h2 h3' k⟩
       ·exact⟨_,.x_cmd0 hx h2 h3' k he⟩
     cases hs:cJ (bt l (a + 1)) with
     | true=>exact⟨_,.x_sp hx hs⟩
     | false=>
      by_cases h5 : 32 < eC l (a + 1) - (a + 1)
      ·exact⟨_,.x_long hx hs h1 h2 h5⟩
      ·exact⟨_,.x_nm hx hs h1 h2 (by omega)⟩
    | false=>
     by_cases h4:dh p=true∧((a + 1 < l.length∧bt l (a + 1)=96)∨cX l (a + 1)=true)
     ·exact⟨_,.x_bad ok h36 hx h4.1 h4.2⟩
     ·refine⟨_,.x_lit ok h36 hx fun ho=>⟨fun h=>h4 ⟨ho,.inl h⟩,?_⟩⟩;cases hj:cX l (a + 1) with
      | false=>rfl
      | true=>exact absurd ⟨ho,.inr hj⟩ h4
   by_cases ho:dh p=true∧(bt l a=39∨bt l a=34)
   ·obtain⟨ho,hq⟩:=ho;by_cases h39:bt l a=39
    ·have:=kR (q:=fun x=>x != 39) (l:=l) (i:=a + 1) (by omega);by_cases h3:cQ l 39 (a + 1)=l.length
     ·exact⟨_,.t_sq0 ok h39 ho h3⟩
     ·exact⟨_,.t_sq ok h39 ho (by unfold cQ at *; omega)⟩
    have h34:bt l a=34:=hq.resolve_left h39;by_cases h4 : 32≤lv
    ·exact⟨_,.t_deep ok h34 ho h4⟩
    ·obtain⟨r,k⟩:=ih (.loop (a + 1) 2 (lv + 1) a 0 []) (by simp only [ew.size]; omega) (by simp only [ew.ok]; omega);cases r with
     | error x=>exact⟨_,.t_dq0 ok h34 ho (by omega) k⟩
     | ok x=>exact⟨_,.t_dq ok h34 ho (by omega) k⟩
   by_cases h0:p=0∧cu (bt l a)=true
   ·obtain⟨rfl,h0⟩:=h0;exact⟨_,.o_op ok h0⟩
   by_cases h3:p=3∧bt l a=34
   ·obtain⟨rfl,h3⟩:=h3;exact⟨_,.o_dq ok h3⟩
   refine⟨_,.o_lit ok h92 h96 h36 (fun h=>⟨fun h1=>ho ⟨h,.inl h1⟩,fun h1=>ho ⟨h,.inr h1⟩⟩) (fun hp=>?_) fun hp h=>h3 ⟨hp,h⟩⟩;cases hb:cu (bt l a) with
   | false=>rfl
   | true=>exact absurd ⟨hp,hb⟩ h0
  | brc a p lv=>
   simp only [ew.size,ew.ok] at hm ok;obtain⟨r,k2⟩:=ih (.brc2 a p lv) (by simp only [ew.size]; omega) ok;by_cases h1:a + 2 < l.length∧bt l (a + 2)=35
   ·obtain⟨hl,h⟩:=h1;obtain⟨j,k⟩:=iK.total l (a + 3);have hd:=k.bd hl;by_cases h2 : 32 < j - (a + 3)
    ·exact⟨_,.r_long hl h k h2⟩
    by_cases h3:a + 3 < j
    ·by_cases h4:j=l.length
     ·exact⟨_,.r_end hl h k (by omega) h3 h4⟩
     by_cases h5:bt l j=125
     ·exact⟨_,.r_len hl h k (by omega) h3 (by omega) h5⟩
     ·exact⟨r,.r_sharp hl h k (by omega) (fun _=>⟨by omega,h5⟩) k2⟩
    ·exact⟨r,.r_sharp hl h k (by omega) (fun h=>absurd h h3) k2⟩
   ·exact⟨r,.r_two (fun h h'=>h1 ⟨h,h'⟩) k2⟩
  | brc2 a p lv=>
   simp only [ew.size,ew.ok] at hm ok;obtain⟨j,k⟩:=iK.total l (a + 2);have hd:=k.bd ok;by_cases h : 32 < j - (a + 2)
   ·exact⟨_,.w_long k h⟩
   by_cases h2:j=l.length
   ·exact⟨_,.w_end k (by omega) h2⟩
   have h2':j < l.length:=by omega
   by_cases h3:j=a + 2
   ·subst h3; exact⟨_,.w_none k h2'⟩
   have h3':a + 2 < j:=by omega
   by_cases h4:bt l j=125
   ·exact⟨_,.w_plain k (by omega) h2' h3' h4⟩
   by_cases h5:(lL l j).1=0
   ·by_cases h6:bt l j=58
    ·by_cases h7:j + 1=l.length
     ·exact⟨_,.w_colon0 k (by omega) h2' h3' h4 h5 h6 h7⟩
     ·exact⟨_,.w_colon k (by omega) h2' h3' h4 h5 h6 (by omega)⟩
    ·by_cases h7:bt l (a + 2)=35
     ·obtain⟨i,ki⟩:=iK.total l (a + 3);exact⟨_,.w_sharp k (by omega) h2' h3' h4 h5 h6 h7 ki⟩
     ·exact⟨_,.w_bad k (by omega) h2' h3' h4 h5 h6 h7⟩
   ·by_cases h6 : 32≤lv
    ·exact⟨_,.w_deep k (by omega) h2' h3' h4 h5 h6⟩
    have ho:=mZ l j h2' h5;cases h7:cX l (j + (lL l j).2.2) with
    | true=>exact⟨_,.w_join k (by omega) h2' h3' h4 h5 (by omega) h7⟩
    | false=>
     obtain⟨r,k2⟩:=ih (.loop (j + (lL l j).2.2) (eB p) (lv + 1) a 0 []) (by simp only [ew.size]; omega) ho.1;cases r with
     | error x=>exact⟨_,.w_err k (by omega) h2' h3' h4 h5 (by omega) h7 k2⟩
     | ok x=>exact⟨_,.w_ok k (by omega) h2' h3' h4 h5 (by omega) h7 k2⟩
end Go.Mir
namespace Go.Mir
inductive gy (t:List UInt8) (p:Nat):R→Prop where
 | long (h : 16384 < t.length):gy t p (.error (0,3))
 | wx {r} (h:t.length≤16384) (k:Wx t (.loop 0 p 1 0 0 []) r):gy t p r
theorem gy.total (t:List UInt8) (p:Nat):∃r,gy t p r:=by
 by_cases h:t.length≤16384
 ·obtain⟨r,k⟩:=Wx.total t _ (.loop 0 p 1 0 0 []) (Nat.lt_succ_self _) (Nat.zero_le _);exact⟨r,.wx h k⟩
 ·exact⟨_,.long (by omega)⟩
open Go Go.PE
def Nm:R→List PV
 | .ok (l,_)=>[dl l,.sc (.int .i64 0),.sc (.int .i64 0)]
 | .error (a,e)=>[.sc (.slice none 0 0),iN a,iN e]
def xa:=And.intro (@Nm.eq_1)<|@Nm.eq_2
end Go.Mir
namespace Go.PE
open Go Go.EvL
section
variable {P:Program}{Γ:Nat→Option gk}{ext:ar}
theorem kA {g r r2 r3:Nat}{fn:gk}{args:List PV}{s:PS}{u:PV}{v w:Value} (hu:∀n s,cT n s u=some u) (hg:Γ g=some fn) (hl:args.length≤fn.nt) (hr:fn.res=[.tmp r,.tmp r2,.tmp r3]) (hk:fn.keep=false) (h:Er (fun f' s'=>s.n≤s'.w∧f' r=u∧f' r2=.sc v∧f' r3=.sc w) (aT P Γ ext fn.body (bC args 0) ⟨s.h,s.n,s.n⟩)):aH P Γ ext g args s=some (.tup [u,.sc v,.sc w],s):=by
 refine iQ hg hl h ?_;rintro f s' ⟨hw,h,h2,h3⟩;refine gx (vs:=[u,.sc v,.sc w]) hk (by rw [hr]; simp only [cV,Option.map_some,h,h2,h3]) hw ?_;show (er s.n s' [u,.sc v,.sc w]).map PV.tup=_;simp only [er,hu,Option.bind_some,Option.map_some];rfl
end
end Go.PE
namespace Go.Proofs.YtokdflgpbfjpcaaGreatDoor
open Go Go.EvL Go.PE Go.Mir
variable {ext:ar}
theorem yA (n:Nat) (s:PS) (l:List aS):cT n s (dl l)=some (dl l):=by cases l<;>(rw [dl]; rfl)
theorem AN {x:aS}{a:Nat} (h:x∈([]:List aS)):x.kind=1→x.text.length≤a:=by cases h
theorem Pf {t:List UInt8}{r:R} (h:gy t 0 r) (s:PS):Pc ext 254 [.sc (.string ⟨⟨t⟩⟩)] (.tup (Nm r)) s:=by
 cases h with
 | long h=>
  have c1:decide (16384 < t.length)=true:=decide_eq_true h;refine kA (fun n s=>rfl) (fn:=xC) (r:=2) (r2:=3) (r3:=4) (by rfl) (by simp [xC]) (by rfl) (by rfl) ?_;unfold xC;refine U1 c1 ?_;exact⟨rfl,rfl⟩
 | wx h k=>
  have c1:decide (16384 < t.length)=false:=df;have hw:=JH (ext:=ext) (b:=⟨⟨t⟩⟩) (show t.length < 1000000000 by omega) k (Nat.zero_le _) om (Nat.le_refl _) (Nat.le_refl _) fun x hx=>AN hx;have hC:=fun s=>i7 hw s;cases r with
  | ok x=>
   obtain⟨ps,j⟩:=x;have hC':∀s,Pc ext 264 [.sc (.string ⟨⟨t⟩⟩),.sc (.int .i64 0),.sc (.int .i64 0),.sc (.int .i64 1),.sc (.int .i64 0)] (.agg [dl ps,iN j,.sc (.int .i64 0)]) s:=hC;refine kA (fun n s=>yA n s ps) (fn:=xC) (r:=2) (r2:=3) (r3:=4) (by rfl) (by simp [xC]) (by rfl) (by rfl) ?_;unfold xC;exact sL c1 hC' @aY @aG @aF @aE @aI @aq @ax
  | error x=>
   obtain⟨x,e⟩:=x;have he:(e == 0)=false:=beq_eq_false_iff_ne.2 (k.err _ rfl);have hC':∀s,Pc ext 264 [.sc (.string ⟨⟨t⟩⟩),.sc (.int .i64 0),.sc (.int .i64 0),.sc (.int .i64 1),.sc (.int .i64 0)] (.agg [.sc (.slice none 0 0),iN x,iN e]) s:=hC;refine kA (fun n s=>rfl) (fn:=xC) (r:=2) (r2:=3) (r3:=4) (by rfl) (by simp [xC]) (by rfl) (by rfl) ?_;unfold xC;simp -implicitDefEqProofs (disch:=first | omega | (unfold cZ cd; simp<;>omega)) only [ZS,seval,ZT,ZX,c1,hC',he,aY,aG,aF,aE,aI,aq,ax]
theorem Sw {t:List UInt8}{r:R} (h:gy t 5 r) (s:PS):Pc ext 263 [.sc (.string ⟨⟨t⟩⟩)] (.tup (Nm r)) s:=by
 cases h with
 | long h=>
  have c1:decide (16384 < t.length)=true:=decide_eq_true h;refine kA (fun n s=>rfl) (fn:=xw) (r:=2) (r2:=3) (r3:=4) (by rfl) (by simp [xw]) (by rfl) (by rfl) ?_;unfold xw;refine U1 c1 ?_;exact⟨rfl,rfl⟩
 | wx h k=>
  have c1:decide (16384 < t.length)=false:=df;have hw:=JH (ext:=ext) (b:=⟨⟨t⟩⟩) (show t.length < 1000000000 by omega) k (Nat.zero_le _) om (Nat.le_refl _) (Nat.le_refl _) fun x hx=>AN hx;have hC:=fun s=>i7 hw s;cases r with
  | ok x=>
   obtain⟨ps,j⟩:=x;have hC':∀s,Pc ext 264 [.sc (.string ⟨⟨t⟩⟩),.sc (.int .i64 0),.sc (.int .i64 5),.sc (.int .i64 1),.sc (.int .i64 0)] (.agg [dl ps,iN j,.sc (.int .i64 0)]) s:=hC;refine kA (fun n s=>yA n s ps) (fn:=xw) (r:=2) (r2:=3) (r3:=4) (by rfl) (by simp [xw]) (by rfl) (by rfl) ?_;unfold xw;exact sL c1 hC' @aY @aG @aF @aE @aI @aq @ax
  | error x=>
   obtain⟨x,e⟩:=x;have he:(e == 0)=false:=beq_eq_false_iff_ne.2 (k.err _ rfl);have hC':∀s,Pc ext 264 [.sc (.string ⟨⟨t⟩⟩),.sc (.int .i64 0),.sc (.int .i64 5),.sc (.int .i64 1),.sc (.int .i64 0)] (.agg [.sc (.slice none 0 0),iN x,iN e]) s:=hC;refine kA (fun n s=>rfl) (fn:=xw) (r:=2) (r2:=3) (r3:=4) (by rfl) (by simp [xw]) (by rfl) (by rfl) ?_;unfold xw;simp -implicitDefEqProofs (disch:=first | omega | (unfold cZ cd; simp<;>omega)) only [ZS,seval,ZT,ZX,c1,hC',he,aY,aG,aF,aE,aI,aq,ax]
end Go.Proofs.YtokdflgpbfjpcaaGreatDoor
namespace Go.Mir
def mT (p:Nat):List UInt8→List UInt8
 | []=>[]
 | c :: l=>if ck c.toNat p then 92 :: c :: mT p l else c :: mT p l
theorem mO (p:Nat) (a b:List UInt8):mT p (a ++ b)=mT p a ++ mT p b:=by
 induction a with
 | nil=>rfl
 | cons c a ih=>
  rw [List.cons_append,mT,mT,ih];by_cases h:ck c.toNat p=true
  ·rw [if_pos h,if_pos h];rfl
  ·rw [if_neg h,if_neg h];rfl
theorem G5 (p:Nat) (a:List UInt8):(mT p a).length≤2 * a.length:=by
 induction a with
 | nil=>exact Nat.le_refl _
 | cons c a ih=>
  rw [mT];by_cases h:ck c.toNat p=true
  ·rw [if_pos h];simp only [List.length_cons];omega
  ·rw [if_neg h];simp only [List.length_cons];omega
theorem Qk (p:Nat) (a:List UInt8):a.length≤(mT p a).length:=by
 induction a with
 | nil=>exact Nat.le_refl _
 | cons c a ih=>
  rw [mT];by_cases h:ck c.toNat p=true
  ·rw [if_pos h];simp only [List.length_cons];omega
  ·rw [if_neg h];simp only [List.length_cons];omega
def fj:List aS→Bool
 | []=>false
 | q :: _=>q.kind == 1 && !q.text.isEmpty && eI (bt q.text 0)
mutual
def FW (pl:Nat) (fo:Bool):aS→List UInt8
 | .mk _ t o c ps=>
  if o == 5 then 36 :: 123 :: 35 :: (t ++ [125]) else
  if o != 0 then 36 :: 123 :: (t ++ ((if c then [58] else []) ++ (jg o ++ (dS (eB pl) ps ++ [125])))) else
  if decide (1 < t.length) && bM (bt t 0) then 36 :: 123 :: (t ++ [125]) else
  if fo && !t.isEmpty && eI (bt t 0) && !bM (bt t 0) then 36 :: 123 :: (t ++ [125]) else 36 :: t
def u6 (pl:Nat) (fo:Bool):aS→List UInt8
 | .mk k t o c ps=>
  if k == 7 then [126] else
  if k == 1 then (if dh pl then t else mT pl t) else
  if k == 2 then (if t == [39] then [92,39] else 39 :: (t ++ [39])) else
  if k == 3 then 34 :: (dS 2 ps ++ [34]) else
  if k == 5 then 36 :: 40 :: (t ++ [41]) else
  if k == 6 then 36 :: 40 :: 40 :: (dS 4 ps ++ [41,41]) else
  if k == 4 then (
   if o == 5 then 36 :: 123 :: 35 :: (t ++ [125]) else
   if o != 0 then 36 :: 123 :: (t ++ ((if c then [58] else []) ++ (jg o ++ (dS (eB pl) ps ++ [125])))) else
   if decide (1 < t.length) && bM (bt t 0) then 36 :: 123 :: (t ++ [125]) else
   if fo && !t.isEmpty && eI (bt t 0) && !bM (bt t 0) then 36 :: 123 :: (t ++ [125]) else 36 :: t) else []
def dS (pl:Nat):List aS→List UInt8
 | []=>[]
 | p :: ps=>u6 pl (fj ps) p ++ dS pl ps
end
def Nb:=And.intro (@dS.eq_1)<|@dS.eq_2
theorem Lk (pl:Nat) (fo:Bool) (t:List UInt8) (o:Int) (c:Bool) (ps:List aS):u6 pl fo (.mk 4 t o c ps)=FW pl fo (.mk 4 t o c ps):=by
 rw [u6,FW];rfl
theorem SZ {c:Prop} [Decidable c] {a b:List UInt8}{n:Nat} (h:a.length≤n) (g:b.length≤n):(if c then a else b).length≤n:=by
 by_cases k:c
 ·rw [if_pos k]; exact h
 ·rw [if_neg k]; exact g
theorem vk (o:Int):(jg o).length≤2:=by
 unfold jg
 repeat' split
 all_goals decide
mutual
def qI:aS→Nat
 | .mk _ t _ _ ps=>2 * t.length + 8 + gW ps
def gW:List aS→Nat
 | []=>0
 | p :: ps=>qI p + gW ps
end
mutual
theorem HG (pl:Nat) (fo:Bool):∀p:aS,(u6 pl fo p).length≤qI p
 | .mk k t o c ps=>by
  have h2:=kG 2 ps;have h4:=kG 4 ps;have hw:=kG (eB pl) ps;have he:=G5 pl t;have hs:=vk o;have hc:(if c then [(58:UInt8)] else []).length≤1:=by cases c<;>decide
  rw [u6,qI]
  repeat' apply SZ
  all_goals try simp only [List.length_cons,List.length_append,List.length_nil]
  all_goals omega
theorem kG (pl:Nat):∀l:List aS,(dS pl l).length≤gW l
 | []=>by rw [dS]; exact Nat.le_refl _
 | p :: ps=>by
  have h:=HG pl (fj ps) p;have h2:=kG pl ps;rw [dS,gW,List.length_append];omega
end
end Go.Mir
namespace Go.Proofs.YtokdflgpbfjpcaaGreatDoor
open Go Go.EvL Go.PE Go.Mir
variable {ext:ar}
theorem ba_add (a c:List UInt8):ByteArray.mk ⟨a⟩ ++ ByteArray.mk ⟨c⟩=ByteArray.mk ⟨a ++ c⟩:=by
 apply ByteArray.ext;apply Array.ext';rw [ByteArray.data_append,Array.toList_append]
theorem Kj {t:List UInt8}{p:Nat} (hp:p≤6) (ht:(mT p t).length < 4611686018427387904) (s:PS):∀(k i:Nat) (f:aX),i + k=t.length→f 0=.sc (.string ⟨⟨t⟩⟩)→f 1=iN p→f 5=.sc (.string ⟨⟨mT p (t.take i)⟩⟩)→f 6=iN i→
  Er (fun f' s'=>s'=s∧f' 4=.sc (.string ⟨⟨mT p t⟩⟩)) (LP Tryz.prog Γ ext 0 tu vu f s):=by
 intro k
 induction k with
 | zero=>
  intro i f hk h0 h1 h5 h6;have e1:decide (i < t.length)=false:=df;have e2:t.take i=t:=List.take_of_length_le om;rw [e2] at h5;refine ad fun L hL=>?_;exact uP @tu.eq_1 @vu.eq_1 h0 h1 h5 h6 e1
 | succ k ih=>
  intro i f hk h0 h1 h5 h6;have hl:i < t.length:=om;have e1:decide (i < t.length)=true:=dt;have hm:=Qk p t;have n1:i≤i + 1:=om;have n2:i + 1≤t.length:=om;have hs:t.take (i + 1)=t.take i ++ [t[i]]:=by rw [List.take_succ_eq_append_getElem hl]
  have hc:bt t i=t[i].toNat:=oY hl;have hd:(t.drop i).take (i + 1 - i)=[t[i]]:=by
   rw [Nat.add_sub_cancel_left,List.drop_eq_getElem_cons hl];rfl
  have hb:(mT p (t.take i)).length≤(mT p t).length:=by
   have:=mO p (t.take i) (t.drop i);rw [List.take_append_drop] at this;rw [this,List.length_append];omega
  refine ad fun L hL=>?_;cases e2:ck (bt t i) p with
  | false=>
   have e3:mT p (t.take (i + 1))=mT p (t.take i) ++ [t[i]]:=by
    rw [hs,mO];show _ ++ (if ck t[i].toNat p then _ else _)=_;rw [← hc,e2];rfl
   have hx:ByteArray.mk ⟨mT p (t.take i)⟩ ++ ByteArray.mk ⟨[t[i]]⟩=ByteArray.mk ⟨mT p (t.take i) ++ [t[i]]⟩:=ba_add _ _;have hy:(ByteArray.mk ⟨mT p (t.take i)⟩).size + (ByteArray.mk ⟨[t[i]]⟩).size < 9223372036854775808:=by
    show (mT p (t.take i)).length + 1 < _;omega
   simp -implicitDefEqProofs (disch:=omega) only [ZS,seval,tu,vu,h0,h1,h5,h6,e1,hl,jE hp,e2,n1,n2,hd,m8,hx,hy];subst hL;exact ih (i + 1) _ om (bm h0) (bm h1) (bm e3) bw
  | true=>
   have e3:mT p (t.take (i + 1))=mT p (t.take i) ++ [92,t[i]]:=by
    rw [hs,mO];show _ ++ (if ck t[i].toNat p then _ else _)=_;rw [← hc,e2];rfl
   have hb2:(mT p (t.take (i + 1))).length≤(mT p t).length:=by
    have:=mO p (t.take (i + 1)) (t.drop (i + 1));rw [List.take_append_drop] at this;rw [this,List.length_append];omega
   rw [e3,List.length_append] at hb2;have hx1:ByteArray.mk ⟨mT p (t.take i)⟩ ++ ByteArray.mk #[92]=ByteArray.mk ⟨mT p (t.take i) ++ [92]⟩:=ba_add _ _;have hx:ByteArray.mk ⟨mT p (t.take i) ++ [92]⟩ ++ ByteArray.mk ⟨[t[i]]⟩=ByteArray.mk ⟨mT p (t.take i) ++ [92] ++ [t[i]]⟩:=ba_add _ _;have hy1:(ByteArray.mk ⟨mT p (t.take i)⟩).size + (ByteArray.mk #[92]).size < 9223372036854775808:=by
    show (mT p (t.take i)).length + 1 < _;omega
   have hy:(ByteArray.mk ⟨mT p (t.take i) ++ [92]⟩).size + (ByteArray.mk ⟨[t[i]]⟩).size < 9223372036854775808:=by
    show (mT p (t.take i) ++ [92]).length + 1 < _;rw [List.length_append];show (mT p (t.take i)).length + 1 + 1 < _;omega
   simp -implicitDefEqProofs (disch:=omega) only [ZS,seval,tu,vu,h0,h1,h5,h6,e1,hl,jE hp,e2,n1,n2,hd,m8,hx1,hx,hy1,hy];subst hL;rw [List.append_assoc] at hx;exact ih (i + 1) _ om (bm h0) (bm h1) (qO e3 @List.append_assoc.{0}) bw
theorem ya {t:List UInt8}{p:Nat} (hp:p≤6) (ht:(mT p t).length < 4611686018427387904) (s:PS):Pc ext 266 [.sc (.string ⟨⟨t⟩⟩),iN p] (.sc (.string ⟨⟨mT p t⟩⟩)) s:=by
 refine q1 SR 4 ?_;unfold SR;refine LD ?_;exact Kj hp ht _ t.length 0 _ om fp fp fp fp
end Go.Proofs.YtokdflgpbfjpcaaGreatDoor
namespace Go.Proofs.YtokdflgpbfjpcaaGreatDoor
open Go Go.EvL Go.PE
variable {ext:ar}
theorem Qi (x y:au) (s:PS) (r:Bool) (h:∀s,aH Tryz.prog Γ ext 143 [x.parts,y.parts] s=some (.sc (.bool r),s)) :
  aH Tryz.prog Γ ext 179 [.agg x.cells,.agg y.cells] s=some (.sc (.bool (x.eqB y && r)),s):=by
 rw [ej (fn:=B0) (by rfl) _ _ (by simp [B0])];cases h1:x.kind == y.kind with
 | false=>simp -implicitDefEqProofs only [ZS,seval,ZX,B0,bC,bG,aC,au.cells,au.eqB,h1]
 | true=>
  cases h2:x.text.toList == y.text.toList with
  | false=>simp -implicitDefEqProofs only [ZS,seval,ZX,B0,bC,bG,aC,au.cells,au.eqB,h1,h2]
  | true=>
   cases h3:x.op == y.op with
   | false=>simp -implicitDefEqProofs only [ZS,seval,ZX,B0,bC,bG,aC,au.cells,au.eqB,h1,h2,h3]
   | true=>
    cases h4:x.colon == y.colon with
    | false=>simp -implicitDefEqProofs only [ZS,seval,ZX,B0,bC,bG,aC,au.cells,au.eqB,h1,h2,h3,h4,gV Tryz.underlying4]
    | true=>simp -implicitDefEqProofs only [ZS,seval,ZX,B0,bC,bG,aC,List.map_cons,List.map_nil,List.append_nil,au.cells,au.eqB,h1,h2,h3,h4,h,gV Tryz.underlying4]
def aN:Nat→PV→Prop
 | 0,_=>False
 | d + 1,p=>∃l:Option (List au),p=aU 155 au.cells l∧(l.getD []).length < 4611686018427387904∧∀x∈l.getD [],aN d x.parts
theorem dC {α:Type} (e:Nat) (c:α→List PV) (l:Option (List α)):db (aU e c l)=true:=by cases l<;>rfl
theorem aN.one {d:Nat}{p:PV} (h:aN d p):db p=true:=by
 cases d with
 | zero=>cases h
 | succ d=>obtain⟨l,rfl,_⟩:=h; exact dC _ _ _
theorem au.ones {d:Nat}{x:au} (h:aN d x.parts):x.cells.all db=true:=by
 simp only [au.cells,List.all_cons,List.all_nil,h.one,Bool.and_true]; rfl
theorem Qn:Γ 178=some (DG 155 5 #[(.int .i64 0),(.string ⟨#[]⟩),(.int .i64 0),(.bool false),(.slice none 0 0)] 3):=(rfl)
theorem mQ:∀(d:Nat) (a b:PV),aN d a→aN d b→∃r,(∀s,aH Tryz.prog Γ ext 143 [a,b] s=some (.sc (.bool r),s))∧∀s,aH Tryz.prog Γ ext 151 [a,b] s=some (.sc (.bool r),s):=by
 intro d
 induction d with
 | zero=>intro a b h; cases h
 | succ d ih=>
  rintro a b ⟨l,rfl,hl,hl'⟩ ⟨m,rfl,hm,hm'⟩;have key:∀i:Nat,∃r:Bool,∀x y:au,(l.getD [])[i]?=some x→(m.getD [])[i]?=some y→(∀s,aH Tryz.prog Γ ext 143 [x.parts,y.parts] s=some (.sc (.bool r),s))∧∀s,aH Tryz.prog Γ ext 151 [x.parts,y.parts] s=some (.sc (.bool r),s):=by
   intro i;cases hx:(l.getD [])[i]? with
   | none=>exact⟨true,fun x y h=>by cases h⟩
   | some x=>
    cases hy:(m.getD [])[i]? with
    | none=>exact⟨true,fun x y _ h=>by cases h⟩
    | some y=>
     obtain⟨r,hr⟩:=ih x.parts y.parts (hl' x (List.mem_of_getElem? hx)) (hm' y (List.mem_of_getElem? hy));exact⟨r,fun x' y' h1 h2=>by injection h1 with h1; injection h2 with h2; subst h1; subst h2; exact hr⟩
  obtain⟨r,hr⟩:=Classical.axiomOfChoice key;refine⟨(l.getD []).length == (m.getD []).length && iH (fun i=>(match (l.getD [])[i]?,(m.getD [])[i]? with | some x,some y=>x.eqB y | _,_=>true) && r i) 0 (l.getD []).length,fun s=>?_,fun s=>?_⟩
  ·have h132:=s9 (P:=Tryz.prog) (ext:=ext) (e:=155) (t:=155) au.len (by rfl) Qn (l:=l) (m:=m) (fun x hx=>hx.elim (fun h=>au.ones (hl' x h)) (fun h=>au.ones (hm' x h))) (g:=179) hl (r:=fun i=>(match (l.getD [])[i]?,(m.getD [])[i]? with | some x,some y=>x.eqB y | _,_=>true) && r i) (fun i x y h1 h2 s=>by
    simp only [h1,h2];exact Qi x y s (r i) (hr i x y h1 h2).1)
   rw [ej (fn:=xG) (by rfl) _ _ (by simp [xG])];simp -implicitDefEqProofs only [ZS,seval,ZX,xG,bC,List.map_cons,List.map_nil,List.append_nil,h132]
  ·refine tj hl (G:=151) (nt:=61) (inner:=pH) (by rw [← Rf]; rfl) (by omega) (fun i x y h1 h2 f s hin=>?_) s;have h:=SB (ext:=ext) x y (hl' x (List.mem_of_getElem? h1)).one (hm' y (List.mem_of_getElem? h2)).one (r i) (hr i x y h1 h2).2 h1 h2 f s hin;simp only [h1,h2];exact h
end Go.Proofs.YtokdflgpbfjpcaaGreatDoor
namespace Go.Proofs.YtokdflgpbfjpcaaGreatDoor
open Go Go.EvL Go.PE Go.Mir
mutual
def uh:aS→au→Prop
 | .mk k t o c ps,x=>x.kind=k∧x.text=⟨⟨t⟩⟩∧x.op=o∧x.colon=c∧∃y:Option (List au),x.parts=aU 155 au.cells y∧nL ps (y.getD [])
def nL:List aS→List au→Prop
 | [],xs=>xs=[]
 | p :: ps,xs=>∃x xs',xs=x :: xs'∧uh p x∧nL ps xs'
end
def tJ (l:List aS) (v:PV):Prop:=∃y:Option (List au),v=aU 155 au.cells y∧nL l (y.getD [])
theorem nL.nil {xs:List au} (h:nL [] xs):xs=[]:=by rw [nL] at h; exact h
theorem nL.cons {p:aS}{ps:List aS}{xs:List au} (h:nL (p :: ps) xs):∃x xs',xs=x :: xs'∧uh p x∧nL ps xs':=by rw [nL] at h; exact h
theorem nL.length:∀{l:List aS}{xs:List au},nL l xs→xs.length=l.length
 | [],_,h=>by rw [h.nil]; rfl
 | _ :: ps,_,h=>by
  obtain⟨x,xs',rfl,_,h⟩:=h.cons;rw [List.length_cons,List.length_cons,nL.length h]
theorem aN.read:∀{d:Nat}{v:PV},aN d v→∃l,tJ l v
 | 0,_,h=>by cases h
 | d + 1,v,h=>by
  obtain⟨y,rfl,_,h⟩:=h;suffices hh:∀xs:List au,(∀x∈xs,aN d x.parts)→∃l,nL l xs by
   obtain⟨l,hl⟩:=hh _ h;exact⟨l,y,rfl,hl⟩
  intro xs
  induction xs with
  | nil=>exact fun _=>⟨[],by rw [nL]⟩
  | cons x xs ih=>
   intro hx;obtain⟨l,hl⟩:=ih fun z hz=>hx z (List.mem_cons_of_mem _ hz);obtain⟨ps,z,hz,hp⟩:=aN.read (hx x (List.mem_cons_self ..));refine⟨.mk x.kind x.text.data.toList x.op x.colon ps :: l,?_⟩;rw [nL];refine⟨x,xs,rfl,?_,hl⟩;rw [uh];exact⟨rfl,rfl,rfl,rfl,z,hz,hp⟩
mutual
theorem FK:∀p:aS,∃x,uh p x∧x.cells=dV p
 | .mk k t o c ps=>by
  obtain⟨xs,h,hc⟩:=A9 ps;refine⟨⟨k,⟨⟨t⟩⟩,o,c,dl ps⟩,?_,?_⟩
  ·rw [uh];refine⟨rfl,rfl,rfl,rfl,eo xs,?_,?_⟩
   ·show dl ps=_;have hl:=h.length;cases ps with
    | nil=>
     rw [h.nil,dl];rfl
    | cons p ps=>
     cases xs with
     | nil=>cases hl
     | cons x xs=>
      rw [dl,← oD,← hc];show _=PV.lit 155 (xs.length + 1) ((x :: xs).flatMap au.cells);simp only [List.length_cons] at hl;rw [show ps.length=xs.length by omega]
   ·rw [cE];exact h
  ·rw [dV];rfl
theorem A9:∀l:List aS,∃xs,nL l xs∧xs.flatMap au.cells=oD l
 | []=>⟨[],by rw [nL],by rw [oD]; rfl⟩
 | p :: ps=>by
  obtain⟨x,h,e⟩:=FK p;obtain⟨xs,h2,e2⟩:=A9 ps;refine⟨x :: xs,?_,?_⟩
  ·rw [nL];exact⟨x,xs,rfl,h,h2⟩
  ·rw [oD,List.flatMap_cons,e,e2]
end
theorem NM (l:List aS):tJ l (dl l):=by
 obtain⟨x,h,_⟩:=FK (.mk 0 [] 0 false l);rw [uh] at h;obtain⟨_,_,_,_,y,hy,hl⟩:=h;obtain⟨xs,h,hc⟩:=A9 l;refine⟨eo xs,?_,by rw [cE]; exact h⟩;have hl:=h.length;cases l with
 | nil=>
  rw [h.nil,dl];rfl
 | cons p ps=>
  cases xs with
  | nil=>cases hl
  | cons x xs=>
   rw [dl,← oD,← hc];show _=PV.lit 155 (xs.length + 1) ((x :: xs).flatMap au.cells);simp only [List.length_cons] at hl;rw [show ps.length=xs.length by omega]
end Go.Proofs.YtokdflgpbfjpcaaGreatDoor
namespace Go.PE
open Go Go.EvL
theorem cN {P:Program} (t:Nat) (x y:Operand) {a c:List UInt8} (h:a.length + c.length < 9223372036854775808):fJ P .add t x y (.sc (.string ⟨⟨a⟩⟩)) (.sc (.string ⟨⟨c⟩⟩))=some (.sc (.string ⟨⟨a ++ c⟩⟩)):=by
 rw [m8 t x y (a:=⟨⟨a⟩⟩) (b:=⟨⟨c⟩⟩) h];show some (PV.sc (.string (ByteArray.mk ⟨a⟩ ++ ByteArray.mk ⟨c⟩)))=_;rw [Go.Proofs.YtokdflgpbfjpcaaGreatDoor.ba_add]
theorem fe {P:Program}{Γ:Nat→Option gk}{ext:ar}{g r:Nat}{fn:gk}{args:List PV}{s:PS}{u:Value} (hg:Γ g=some fn) (hl:args.length≤fn.nt) (hr:fn.res=[.tmp r]) (hk:fn.keep=false) (h:Er (fun f' s'=>s.n≤s'.w∧f' r=.sc u) (aT P Γ ext fn.body (bC args 0) ⟨s.h,s.n,s.n⟩)):aH P Γ ext g args s=some (.sc u,s):=by
 refine iQ hg hl h ?_;rintro f s' ⟨hw,h⟩;refine gx (vs:=[.sc u]) hk (by rw [hr]; simp only [cV,Option.map_some,h]) hw ?_;rfl
theorem lH (fn:gk) (r:Nat) {P:Program}{Γ:Nat→Option gk}{ext:ar}{g:Nat}{args:List PV}{s:PS}{u:Value} (h:Er (fun f' s'=>s.n≤s'.w∧f' r=.sc u) (aT P Γ ext fn.body (bC args 0) ⟨s.h,s.n,s.n⟩)) (hg:Γ g=some fn:=by rfl) (hl:args.length≤fn.nt:=by exact Nat.le_of_ble_eq_true rfl) (hr:fn.res=[.tmp r]:=by rfl) (hk:fn.keep=false:=by rfl):aH P Γ ext g args s=some (.sc u,s):=fe hg hl hr hk h
end Go.PE
namespace Go.Proofs.YtokdflgpbfjpcaaGreatDoor
open Go Go.EvL Go.PE Go.Mir
variable {ext:ar}
theorem Nr {k o:Int}{t:List UInt8}{c:Bool}{ps:List aS}{v:PV}{pl:Nat} (hpl:pl≤6) (hsz:qI (.mk k t o c ps) < 1000000000000) {y:Option (List au)}{ns:List aS} (hn:nL ns (y.getD []))
  (hs:∀s,Pc ext 255 [v,.sc (.int .i64 (eB pl))] (.sc (.string ⟨⟨dS (eB pl) ps⟩⟩)) s) (s:PS) :
  Pc ext 267 [.agg (au.mk k ⟨⟨t⟩⟩ o c v).cells,iN pl,aU 155 au.cells y] (.sc (.string ⟨⟨FW pl (fj ns) (.mk k t o c ps)⟩⟩)) s:=by
 have hl:=kG (eB pl) ps;have hg:=vk o;have u1:ek Γ 283=true:=rfl;have u2:ek Γ 284=true:=rfl;have u3:ek Γ 255=true:=rfl;rw [qI] at hsz;refine lH Q3 6 ?_;generalize hY:aU 155 au.cells y=Y;unfold Q3 au.cells;rw [FW];have hend:s.n≤((⟨s.h,s.n,s.n⟩ : PS).new ⟨[.sc (.int .i64 k),.sc (.string ⟨⟨t⟩⟩),.sc (.int .i64 o),.sc (.bool c),v],0,155⟩).w:=Nat.le_refl _;have he:∀t:List UInt8,((ByteArray.mk ⟨t⟩).toList == (ByteArray.mk #[]).toList)=t.isEmpty:=fun t=>by
  rw [ByteArray.toList_eq,ByteArray.toList_eq];cases t<;>rfl
 cases c1:o == 5 with
 | true=>simp -implicitDefEqProofs (disch:=first | omega | (simp only [List.length_append,List.length_cons,List.length_nil]; omega)) only [ZS,seval,cN,c1]
 | false=>
  cases c2:o != 0 with
  | true=>
   cases c with
   | true=>
    simp -implicitDefEqProofs (disch:=first | omega | (unfold cZ cd; simp<;>omega) | (simp only [List.length_append,List.length_cons,List.length_nil]; omega)) only [ZS,seval,ZT,cN,c1,c2,hs,J0,s5 hpl,u1,u2,u3];simp only [List.append_assoc,List.cons_append,List.nil_append]
   | false=>
    simp -implicitDefEqProofs (disch:=first | omega | (unfold cZ cd; simp<;>omega) | (simp only [List.length_append,List.length_cons,List.length_nil]; omega)) only [ZS,seval,ZT,cN,c1,c2,hs,J0,s5 hpl,u1,u2,u3];simp only [List.append_assoc,List.cons_append,List.nil_append]
  | false=>
   by_cases hd:(decide (1 < t.length) && bM (bt t 0))=true
   ·rw [hd];obtain⟨h1,h2⟩:=Bool.and_eq_true_iff.1 hd;have hl0 : 0 < t.length:=by have:=of_decide_eq_true h1; omega
    simp -implicitDefEqProofs (disch:=first | omega | (simp only [List.length_append,List.length_cons,List.length_nil]; omega)) only [ZS,seval,cN,c1,c2,h1,h2,hl0,cL]
   ·have hd':(decide (1 < t.length) && bM (bt t 0))=false:=Bool.eq_false_iff.2 hd;rw [hd'];have key:∃d:Bool,decide (1 < t.length)=d∧(d=true→0 < t.length∧bM (bt t 0)=false):=by
     refine⟨_,rfl,fun h1=>⟨by have:=of_decide_eq_true h1; omega,?_⟩⟩;rw [h1,Bool.true_and] at hd';exact hd'
    obtain⟨d,d1,d2⟩:=key;have z0:decide ((0:Int) > 0)=false:=rfl;cases ns with
    | nil=>
     have hy:=hn.nil;have hy':gB false Y=some (.sc (.int .i64 0)):=by rw [← hY,bT,hy]; rfl
     cases d with
     | true=>
      obtain⟨hl0,h2⟩:=d2 rfl;simp -implicitDefEqProofs (disch:=first | omega | (simp only [List.length_append,List.length_cons,List.length_nil]; omega)) only [ZS,seval,ZX,cN,c1,c2,d1,h2,hl0,cL,hy',z0,fj]
     | false=>simp -implicitDefEqProofs (disch:=first | omega | (simp only [List.length_append,List.length_cons,List.length_nil]; omega)) only [ZS,seval,ZX,cN,c1,c2,d1,cL,hy',z0,fj]
    | cons q ns=>
     obtain⟨x,xs,hxs,hq,_⟩:=hn.cons;obtain⟨qk,qt,qo,qc,qp⟩:=q;obtain⟨xk,xt,xo,xc,xp⟩:=x;rw [uh] at hq;obtain⟨rfl,rfl,rfl,rfl,_⟩:=hq;obtain⟨R,hR⟩ : ∃R,xs.flatMap au.cells=R:=⟨_,rfl⟩
     have hyl:Y=.lit 155 (xs.length + 1) (.sc (.int .i64 xk) :: .sc (.string ⟨⟨qt⟩⟩) :: .sc (.int .i64 xo) :: .sc (.bool xc) :: xp :: R):=by
      rw [← hY,← hR];cases y with
      | none=>cases hxs
      | some l=>
       cases hxs;rfl
     have hfl:R.length + 1 + 1 + 1 + 1 + 1=(xs.length + 1) * 5:=by
      have:=aJ au.len xs;rw [hR] at this;omega
     have w1 : 1≤(xs.length + 1) * 5:=om;have w2 : 1≤R.length + 1 + 1 + 1 + 1:=om;have hpos : 0 < xs.length + 1:=Nat.succ_pos _;have g1:decide (((xs.length + 1:Nat):Int) > 0)=true:=dt;subst hyl;cases k1:xk == 1 with
     | false=>
      have hf:fj (.mk xk qt xo xc qp :: ns)=false:=by simp only [fj,aS.kind,k1,Bool.false_and]
      cases d with
      | true=>
       obtain⟨hl0,h2⟩:=d2 rfl;simp -implicitDefEqProofs (disch:=first | omega | (simp only [List.length_append,List.length_cons,List.length_nil]; omega)) only [ZS,seval,ZX,cN,c1,c2,d1,h2,hl0,cL,hf,w1,w2,z0,k1,g1,hpos,hfl,Nat.mul_one,Nat.zero_mul,aw,he]
      | false=>simp -implicitDefEqProofs (disch:=first | omega | (simp only [List.length_append,List.length_cons,List.length_nil]; omega)) only [ZS,seval,ZX,cN,c1,c2,d1,cL,hf,w1,w2,z0,k1,g1,hpos,hfl,Nat.mul_one,Nat.zero_mul,aw,he]
     | true=>
      cases k2:qt.isEmpty with
      | true=>
       have hf:fj (.mk xk qt xo xc qp :: ns)=false:=by simp only [fj,aS.kind,aS.text,k1,k2,Bool.true_and,Bool.not_true,Bool.false_and]
       cases d with
       | true=>
        obtain⟨hl0,h2⟩:=d2 rfl;simp -implicitDefEqProofs (disch:=first | omega | (simp only [List.length_append,List.length_cons,List.length_nil]; omega)) only [ZS,seval,ZX,cN,c1,c2,d1,h2,hl0,cL,hf,w1,w2,z0,k1,k2,g1,hpos,hfl,Nat.mul_one,Nat.zero_mul,aw,he]
       | false=>simp -implicitDefEqProofs (disch:=first | omega | (simp only [List.length_append,List.length_cons,List.length_nil]; omega)) only [ZS,seval,ZX,cN,c1,c2,d1,cL,hf,w1,w2,z0,k1,k2,g1,hpos,hfl,Nat.mul_one,Nat.zero_mul,aw,he]
      | false=>
       have hq0 : 0 < qt.length:=by cases qt with | nil=>cases k2 | cons a t=>exact Nat.succ_pos _
       cases k3:eI (bt qt 0) with
       | false=>
        have hf:fj (.mk xk qt xo xc qp :: ns)=false:=by simp only [fj,aS.kind,aS.text,k1,k2,k3,Bool.true_and,Bool.not_false,Bool.and_false]
        cases d with
        | true=>
         obtain⟨hl0,h2⟩:=d2 rfl;simp -implicitDefEqProofs (disch:=first | omega | (simp only [List.length_append,List.length_cons,List.length_nil]; omega)) only [ZS,seval,ZX,cN,c1,c2,d1,h2,hl0,cL,hf,w1,w2,z0,k1,k2,k3,hq0,fh,g1,hpos,hfl,Nat.mul_one,Nat.zero_mul,aw,he]
        | false=>simp -implicitDefEqProofs (disch:=first | omega | (simp only [List.length_append,List.length_cons,List.length_nil]; omega)) only [ZS,seval,ZX,cN,c1,c2,d1,cL,hf,w1,w2,z0,k1,k2,k3,hq0,fh,g1,hpos,hfl,Nat.mul_one,Nat.zero_mul,aw,he]
       | true=>
        have hf:fj (.mk xk qt xo xc qp :: ns)=true:=by simp only [fj,aS.kind,aS.text,k1,k2,k3,Bool.true_and,Bool.not_false,Bool.and_false]
        cases t1:t.isEmpty with
        | true=>
         cases d with
         | true=>
          obtain⟨hl0,h2⟩:=d2 rfl;simp -implicitDefEqProofs (disch:=first | omega | (simp only [List.length_append,List.length_cons,List.length_nil]; omega)) only [ZS,seval,ZX,cN,c1,c2,d1,h2,hl0,cL,hf,w1,w2,z0,k1,k2,k3,hq0,fh,g1,hpos,hfl,Nat.mul_one,Nat.zero_mul,aw,he,t1]
         | false=>simp -implicitDefEqProofs (disch:=first | omega | (simp only [List.length_append,List.length_cons,List.length_nil]; omega)) only [ZS,seval,ZX,cN,c1,c2,d1,cL,hf,w1,w2,z0,k1,k2,k3,hq0,fh,g1,hpos,hfl,Nat.mul_one,Nat.zero_mul,aw,he,t1]
        | false=>
         have hl0 : 0 < t.length:=by cases t with | nil=>cases t1 | cons a t=>exact Nat.succ_pos _
         cases t2:eI (bt t 0) with
         | false=>
          cases d with
          | true=>
           obtain⟨hl0,h2⟩:=d2 rfl;simp -implicitDefEqProofs (disch:=first | omega | (simp only [List.length_append,List.length_cons,List.length_nil]; omega)) only [ZS,seval,ZX,cN,c1,c2,d1,h2,hl0,cL,hf,w1,w2,z0,k1,k2,k3,hq0,fh,g1,hpos,hfl,Nat.mul_one,Nat.zero_mul,aw,he,t1,t2]
          | false=>simp -implicitDefEqProofs (disch:=first | omega | (simp only [List.length_append,List.length_cons,List.length_nil]; omega)) only [ZS,seval,ZX,cN,c1,c2,d1,cL,hf,w1,w2,z0,k1,k2,k3,hq0,fh,g1,hpos,hfl,Nat.mul_one,Nat.zero_mul,aw,he,t1,t2,hl0]
         | true=>
          cases t3:bM (bt t 0) with
          | false=>
           cases d with
           | true=>
            obtain⟨hl0,h2⟩:=d2 rfl;simp -implicitDefEqProofs (disch:=first | omega | (simp only [List.length_append,List.length_cons,List.length_nil]; omega)) only [ZS,seval,ZX,cN,c1,c2,d1,h2,hl0,cL,hf,w1,w2,z0,k1,k2,k3,hq0,fh,g1,hpos,hfl,Nat.mul_one,Nat.zero_mul,aw,he,t1,t2,t3]
           | false=>simp -implicitDefEqProofs (disch:=first | omega | (simp only [List.length_append,List.length_cons,List.length_nil]; omega)) only [ZS,seval,ZX,cN,c1,c2,d1,cL,hf,w1,w2,z0,k1,k2,k3,hq0,fh,g1,hpos,hfl,Nat.mul_one,Nat.zero_mul,aw,he,t1,t2,t3,hl0]
          | true=>
           cases d with
           | true=>
            obtain⟨hl0,h2⟩:=d2 rfl;rw [t3] at h2;cases h2
           | false=>simp -implicitDefEqProofs (disch:=first | omega | (simp only [List.length_append,List.length_cons,List.length_nil]; omega)) only [ZS,seval,ZX,cN,c1,c2,d1,cL,hf,w1,w2,z0,k1,k2,k3,hq0,fh,g1,hpos,hfl,Nat.mul_one,Nat.zero_mul,aw,he,t1,t2,t3,hl0]
theorem Gx {n:Nat} (hrec:∀(ps:List aS) (v:PV) (q:Nat),gW ps < n→q≤6→tJ ps v→∀s,Pc ext 255 [v,iN q] (.sc (.string ⟨⟨dS q ps⟩⟩)) s) (hn12:n < 1000000000000) {pl:Nat} (hpl:pl≤6) {xs:List au} (hx:xs.length < 1000000000000) (n0:Nat) {W:List UInt8} (hW:W.length < 1000000000000) :
  ∀(suf:List aS) (i:Nat) (acc:List UInt8) (f:aX) (s:PS),i≤xs.length→nL suf (xs.drop i)→gW suf≤n→acc ++ dS pl suf=W→(n0≤s.w∧n0≤s.n)→f 0=.lit 155 xs.length (xs.flatMap au.cells)→f 1=iN pl→f 5=.sc (.string ⟨⟨acc⟩⟩)→f 6=iN i→
  Er (fun f' s'=>n0≤s'.w∧f' 4=.sc (.string ⟨⟨W⟩⟩)) (LP Tryz.prog Γ ext 0 iY As f s):=by
 intro suf
 induction suf with
 | nil=>
  intro i acc f s hi hd hs ha hw h0 h1 h5 h6;have hl:=hd.length;rw [List.length_drop,List.length_nil] at hl;have e1:decide (i < xs.length)=false:=df;rw [dS,List.append_nil] at ha;subst ha;refine ad fun L hL=>?_;refine Fy @iY.eq_1 @As.eq_1 h0 h1 h5 h6 e1 ?_;exact hw.1
 | cons p suf ih=>
  intro i acc f s hi hd hs ha hw h0 h1 h5 h6;obtain⟨x,xs',hxs,hp,hd'⟩:=hd.cons;have hl:=hd.length;rw [List.length_drop,List.length_cons] at hl;have hil:i < xs.length:=om;have e1:decide (i < xs.length)=true:=decide_eq_true hil;have hj:xs[i]?=some x:=by
   have:=List.getElem?_drop (xs:=xs) (i:=i) (j:=0);rw [hxs] at this;rw [Nat.add_zero] at this;rw [← this];rfl
  have hxs':xs'=xs.drop (i + 1):=by
   rw [← List.drop_drop,hxs];rfl
  subst hxs';have hfl:=aJ au.len xs;have hk3:=kX au.len hj;rw [gW] at hs;obtain⟨k,t,o,c,ps⟩:=p;obtain⟨xk,xt,xo,xc,xp⟩:=x;have hp2:=hp;rw [uh] at hp;obtain⟨rfl,rfl,rfl,rfl,z,rfl,hz⟩:=hp;rw [qI] at hs;have hR:=fun q hq=>hrec ps (aU 155 au.cells z) q om hq ⟨z,rfl,hz⟩;obtain⟨v,hv⟩ : ∃v,aU 155 au.cells z=v:=⟨_,rfl⟩
  have ov:db v=true:=by rw [← hv]; exact dC _ _ _
  have cv:aC v=[v]:=by rw [← hv]; cases z<;>rfl
  rw [hv] at hR hk3;have hR2:∀s,Pc ext 255 [v,.sc (.int .i64 2)] (.sc (.string ⟨⟨dS 2 ps⟩⟩)) s:=hR 2 om;have hR4:∀s,Pc ext 255 [v,.sc (.int .i64 4)] (.sc (.string ⟨⟨dS 4 ps⟩⟩)) s:=hR 4 om;have hlen:acc.length + ((u6 pl (fj suf) (.mk xk t xo xc ps)).length + (dS pl suf).length)=W.length:=by rw [← ha,dS,List.length_append,List.length_append]
  have hgo:=ih (i + 1) (acc ++ u6 pl (fj suf) (.mk xk t xo xc ps));rw [dS,← List.append_assoc] at ha;simp only [au.cells] at hk3;have hlen':=hlen;have hgo':=hgo;have ha':=ha;have hesc:(mT pl t).length < 4611686018427387904:=by have:=G5 pl t; omega
  have he:((ByteArray.mk ⟨t⟩).toList == (ByteArray.mk #[39]).toList)=(t == [39]):=by rw [ByteArray.toList_eq,ByteArray.toList_eq]
  rw [u6] at hlen hgo ha;refine ad fun L hL=>?_;cases c7:xk == 7 with
  | true=>
   rw [c7,if_pos rfl] at hlen hgo ha
   try simp only [List.length_cons,List.length_append,List.length_nil] at hlen
   simp -implicitDefEqProofs (disch:=first | omega | (simp only [List.length_append,List.length_cons,List.length_nil]; omega)) only [ZS,seval,ZX,cN,iY,h0,h1,h5,h6,e1,hil,hfl,hk3,ov,cv,aY,aG,aF,aE,aI,he,hR2,hR4,br hpl,c7];subst hL;exact hgo _ _ hil hd' om ha bw (bm h0) (bm h1) (jB h5 @List.append_nil.{0} @List.append_assoc.{0}) bw
  | false=>
   rw [c7,if_neg Bool.false_ne_true] at hlen hgo ha;cases c1:xk == 1 with
   | true=>
    rw [c1,if_pos rfl] at hlen hgo ha;cases c10:dh pl with
    | true=>
     rw [c10,if_pos rfl] at hlen hgo ha
     try simp only [List.length_cons,List.length_append,List.length_nil] at hlen
     simp -implicitDefEqProofs (disch:=first | omega | (simp only [List.length_append,List.length_cons,List.length_nil]; omega)) only [ZS,seval,ZX,cN,iY,h0,h1,h5,h6,e1,hil,hfl,hk3,ov,cv,aY,aG,aF,aE,aI,he,hR2,hR4,br hpl,c7,c1,ya hpl hesc,c10];subst hL;exact hgo _ _ hil hd' om ha bw (bm h0) (bm h1) (jB h5 @List.append_nil.{0} @List.append_assoc.{0}) bw
    | false=>
     rw [c10,if_neg Bool.false_ne_true] at hlen hgo ha
     try simp only [List.length_cons,List.length_append,List.length_nil] at hlen
     simp -implicitDefEqProofs (disch:=first | omega | (simp only [List.length_append,List.length_cons,List.length_nil]; omega)) only [ZS,seval,ZX,cN,iY,h0,h1,h5,h6,e1,hil,hfl,hk3,ov,cv,aY,aG,aF,aE,aI,he,hR2,hR4,br hpl,c7,c1,ya hpl hesc,c10];subst hL;exact hgo _ _ hil hd' om ha bw (bm h0) (bm h1) (jB h5 @List.append_nil.{0} @List.append_assoc.{0}) bw
   | false=>
    rw [c1,if_neg Bool.false_ne_true] at hlen hgo ha;cases c2:xk == 2 with
    | true=>
     rw [c2,if_pos rfl] at hlen hgo ha;cases c20:t == [39] with
     | true=>
      rw [c20,if_pos rfl] at hlen hgo ha
      try simp only [List.length_cons,List.length_append,List.length_nil] at hlen
      simp -implicitDefEqProofs (disch:=first | omega | (simp only [List.length_append,List.length_cons,List.length_nil]; omega)) only [ZS,seval,ZX,cN,iY,h0,h1,h5,h6,e1,hil,hfl,hk3,ov,cv,aY,aG,aF,aE,aI,he,hR2,hR4,br hpl,c7,c1,c2,c20];subst hL;exact hgo _ _ hil hd' om ha bw (bm h0) (bm h1) (jB h5 @List.append_nil.{0} @List.append_assoc.{0}) bw
     | false=>
      rw [c20,if_neg Bool.false_ne_true] at hlen hgo ha
      try simp only [List.length_cons,List.length_append,List.length_nil] at hlen
      simp -implicitDefEqProofs (disch:=first | omega | (simp only [List.length_append,List.length_cons,List.length_nil]; omega)) only [ZS,seval,ZX,cN,iY,h0,h1,h5,h6,e1,hil,hfl,hk3,ov,cv,aY,aG,aF,aE,aI,he,hR2,hR4,br hpl,c7,c1,c2,c20];subst hL;exact hgo _ _ hil hd' om ha bw (bm h0) (bm h1) (jB h5 @List.append_nil.{0} @List.append_assoc.{0}) bw
    | false=>
     rw [c2,if_neg Bool.false_ne_true] at hlen hgo ha;cases c3:xk == 3 with
     | true=>
      rw [c3,if_pos rfl] at hlen hgo ha
      try simp only [List.length_cons,List.length_append,List.length_nil] at hlen
      simp -implicitDefEqProofs (disch:=first | omega | (simp only [List.length_append,List.length_cons,List.length_nil]; omega)) only [ZS,seval,ZX,cN,iY,h0,h1,h5,h6,e1,hil,hfl,hk3,ov,cv,aY,aG,aF,aE,aI,he,hR2,hR4,br hpl,c7,c1,c2,c3];subst hL;exact hgo _ _ hil hd' om ha bw (bm h0) (bm h1) (jB h5 @List.append_nil.{0} @List.append_assoc.{0}) bw
     | false=>
      rw [c3,if_neg Bool.false_ne_true] at hlen hgo ha;cases c5:xk == 5 with
      | true=>
       rw [c5,if_pos rfl] at hlen hgo ha
       try simp only [List.length_cons,List.length_append,List.length_nil] at hlen
       simp -implicitDefEqProofs (disch:=first | omega | (simp only [List.length_append,List.length_cons,List.length_nil]; omega)) only [ZS,seval,ZX,cN,iY,h0,h1,h5,h6,e1,hil,hfl,hk3,ov,cv,aY,aG,aF,aE,aI,he,hR2,hR4,br hpl,c7,c1,c2,c3,c5];subst hL;exact hgo _ _ hil hd' om ha bw (bm h0) (bm h1) (jB h5 @List.append_nil.{0} @List.append_assoc.{0}) bw
      | false=>
       rw [c5,if_neg Bool.false_ne_true] at hlen hgo ha;cases c6:xk == 6 with
       | true=>
        rw [c6,if_pos rfl] at hlen hgo ha
        try simp only [List.length_cons,List.length_append,List.length_nil] at hlen
        simp -implicitDefEqProofs (disch:=first | omega | (simp only [List.length_append,List.length_cons,List.length_nil]; omega)) only [ZS,seval,ZX,cN,iY,h0,h1,h5,h6,e1,hil,hfl,hk3,ov,cv,aY,aG,aF,aE,aI,he,hR2,hR4,br hpl,c7,c1,c2,c3,c5,c6];subst hL;exact hgo _ _ hil hd' om ha bw (bm h0) (bm h1) (jB h5 @List.append_nil.{0} @List.append_assoc.{0}) bw
       | false=>
        rw [c6,if_neg Bool.false_ne_true] at hlen hgo ha;cases c4:xk == 4 with
        | true=>
         rw [c4,if_pos rfl] at hlen hgo ha;obtain rfl:xk=4:=beq_iff_eq.1 c4;rw [Lk] at hlen' hgo' ha';have hS:aU 155 au.cells (some (xs.drop (i + 1)))=.lit 155 (xs.length - (i + 1)) (((xs.flatMap au.cells).drop ((i + 1) * 5)).take ((xs.length - (i + 1)) * 5)):=by
          rw [yt au.len,List.take_of_length_le (by rw [aJ au.len,List.length_drop]; exact Nat.le_refl _)];show PV.lit 155 (xs.drop (i + 1)).length _=_;rw [List.length_drop]
         have hQ:=fun s=>Nr (ext:=ext) (k:=4) (o:=xo) (t:=t) (c:=xc) (ps:=ps) (v:=v) hpl (by rw [qI]; omega) (y:=some (xs.drop (i + 1))) (ns:=suf) hd' (hR _ (by unfold eB; split<;>(try split)<;>omega)) s;simp only [hS,au.cells] at hQ;have u4:ek Γ 267=true:=rfl;have n1:i + 1≤xs.length:=om;simp -implicitDefEqProofs (disch:=first | omega | (unfold cZ cd; simp<;>omega) | (simp only [List.length_append,List.length_cons,List.length_nil]; omega)) only [ZS,seval,ZT,ZX,cN,iY,h0,h1,h5,h6,e1,hil,hfl,hk3,ov,cv,aY,aG,aF,aE,aI,he,hR2,hR4,br hpl,c7,c1,c2,c3,c5,c6,c4,hQ,u4,n1,J8];subst hL;exact hgo' _ _ hil hd' om ha' bw (bm h0) (bm h1) (bm h5) bw
        | false=>
         rw [c4,if_neg Bool.false_ne_true] at hlen hgo ha
         try simp only [List.length_cons,List.length_append,List.length_nil] at hlen
         simp -implicitDefEqProofs (disch:=first | omega | (simp only [List.length_append,List.length_cons,List.length_nil]; omega)) only [ZS,seval,ZX,cN,iY,h0,h1,h5,h6,e1,hil,hfl,hk3,ov,cv,aY,aG,aF,aE,aI,he,hR2,hR4,br hpl,c7,c1,c2,c3,c5,c6,c4];subst hL;exact hgo _ _ hil hd' om ha bw (bm h0) (bm h1) (jB h5 @List.append_nil.{0} @List.append_assoc.{0}) bw
theorem yg:∀l:List aS,l.length≤gW l
 | []=>Nat.zero_le _
 | .mk k t o c ps :: l=>by
  have:=yg l;rw [gW,qI,List.length_cons];omega
theorem Ef:∀(n:Nat) (l:List aS) (v:PV) (pl:Nat),gW l=n→n < 1000000000000→pl≤6→tJ l v→∀s,Pc ext 255 [v,iN pl] (.sc (.string ⟨⟨dS pl l⟩⟩)) s:=by
 intro n
 induction n using Nat.strongRecOn with
 | _ n ih=>
 intro l v pl hn h12 hpl h s;have hrec:∀(ps:List aS) (v:PV) (q:Nat),gW ps < n→q≤6→tJ ps v→∀s,Pc ext 255 [v,iN q] (.sc (.string ⟨⟨dS q ps⟩⟩)) s:=fun ps v q h1 h2 h3 s=>ih _ h1 ps v q rfl om h2 h3 s;obtain⟨y,rfl,hy⟩:=h;have hlen:=kG pl l;have hll:=yg l;have hyl:=hy.length;refine lH O2 4 ?_;cases y with
 | none=>
  have hl:l=[]:=List.eq_nil_of_length_eq_zero hyl.symm;subst hl;have z0:decide ((0:Int) < 0)=false:=rfl;unfold O2;refine uA @bU ?_;refine ad fun L hL=>?_;exact qN @iY.eq_1 @As.eq_1 @Nb z0
 | some xs=>
  unfold O2;refine uA @bU ?_;exact Gx hrec h12 hpl (xs:=xs) (by rw [show xs.length=l.length from hyl]; omega) s.n (W:=dS pl l) om l 0 [] _ _ (Nat.zero_le _) hy om rfl ⟨Nat.le_refl _,Nat.le_refl _⟩ (bm @bU) bw bw bw
def Fi (same:List aS→Bool):R→Bool
 | .ok (ps,_)=>same ps
 | .error _=>false
def Ba:=And.intro (@Fi.eq_1)<|@Fi.eq_2
theorem yM {l:List aS}{v:PV} (hsz:gW l < 1000000000000) (h:tJ l v) {same:List aS→Bool}{r:R} (hs:∀ps j,r=.ok (ps,j)→∀s,Pc ext 151 [dl ps,v] (.sc (.bool (same ps))) s) (hp:gy (dS 0 l) 0 r) (s:PS) :
  Pc ext 242 [v] (.sc (.int .i64 (if Fi same r then 0 else 1))) s:=by
 have h1:∀s,Pc ext 255 [v,.sc (.int .i64 0)] (.sc (.string ⟨⟨dS 0 l⟩⟩)) s:=Ef _ l v 0 rfl hsz om h;have h2:=fun s=>Pf (ext:=ext) hp s;refine lH Rr 2 ?_;unfold Rr;cases r with
 | ok x=>
  obtain⟨ps,j⟩:=x;have hs':=hs ps j rfl;have z0:((0:Int) != 0)=false:=rfl;cases c:same ps with
  | true=>exact uP h1 h2 @xa z0 hs' c @Ba
  | false=>exact uP h1 h2 @xa z0 hs' c @Ba
 | error x=>
  obtain⟨a,e⟩:=x;have he:(e == 0)=false:=by
   cases hp with
   | long=>rfl
   | wx _ k=>exact beq_eq_false_iff_ne.2 (k.err _ rfl)
  exact ub h1 h2 @xa he @Ba
theorem Iq {l:List aS}{v:PV} (hsz:gW l < 1000000000000) (h:tJ l v) {same:List aS→Bool}{r:R} (hs:∀ps j,r=.ok (ps,j)→∀s,Pc ext 151 [dl ps,v] (.sc (.bool (same ps))) s) (hp:gy (dS 0 l) 0 r) (s:PS) :
  Pc ext 252 [v] (.tup [.sc (.string ⟨⟨if Fi same r then dS 0 l else []⟩⟩),.sc (.int .i64 (if Fi same r then 0 else 1))]) s:=by
 have h1:∀s,Pc ext 255 [v,.sc (.int .i64 0)] (.sc (.string ⟨⟨dS 0 l⟩⟩)) s:=Ef _ l v 0 rfl hsz om h;have h2:=fun s=>yM (ext:=ext) hsz h hs hp s;refine dF (fn:=Or) (r:=2) (r2:=3) (by rfl) (by simp [Or]) (by rfl) (by rfl) ?_;unfold Or;have z0:((0:Int) != 0)=false:=rfl;have z1:((1:Int) != 0)=true:=rfl;cases c:Fi same r with
 | true=>
  rw [c] at h2;simp only [if_true] at h2;exact jB h1 h2 z0
 | false=>
  rw [c] at h2;simp only [Bool.false_eq_true,if_false] at h2;exact jB h1 h2 z1
theorem uQ {l:List aS}{v:PV} (hsz:gW l < 1000000000000) (h:tJ l v) {same:List aS→Bool}{r:R} (hs:∀ps j,r=.ok (ps,j)→∀s,Pc ext 151 [dl ps,v] (.sc (.bool (same ps))) s) (hp:gy (dS 5 l) 5 r) (s:PS) :
  Pc ext 253 [v] (.tup [.sc (.string ⟨⟨dS 5 l⟩⟩),.sc (.bool (Fi same r))]) s:=by
 have h1:∀s,Pc ext 255 [v,.sc (.int .i64 5)] (.sc (.string ⟨⟨dS 5 l⟩⟩)) s:=Ef _ l v 5 rfl hsz om h;have h2:=fun s=>Sw (ext:=ext) hp s;refine dF (fn:=P4) (r:=2) (r2:=3) (by rfl) (by simp [P4]) (by rfl) (by rfl) ?_;unfold P4;have z0:((0:Int) == 0)=true:=rfl;cases r with
 | ok x=>
  obtain⟨ps,j⟩:=x;have hs':=hs ps j rfl;exact lW h1 h2 @xa z0 hs' @Ba
 | error x=>
  obtain⟨a,e⟩:=x;have he:(e == 0)=false:=by
   cases hp with
   | long=>rfl
   | wx _ k=>exact beq_eq_false_iff_ne.2 (k.err _ rfl)
  exact ub h1 h2 @xa he @Ba
end Go.Proofs.YtokdflgpbfjpcaaGreatDoor
namespace Go.Mir
inductive Sm (N:Nat):aS→Prop where
 | mk {k t o c ps} (h:ps.length≤N) (hs:∀q∈ps,Sm N q):Sm N (.mk k t o c ps)
theorem Sm.nil {N:Nat}{k:Int}{t:List UInt8}{o:Int}{c:Bool} : Sm N (.mk k t o c []):=.mk (Nat.zero_le _) fun q hq=>by cases hq
theorem Sm.one {N:Nat}{k:Int}{t:List UInt8}{o:Int}{c:Bool} : ∀q∈[aS.mk k t o c []],Sm N q:=fun q hq=>by
 cases hq with
 | head=>exact Sm.nil
 | tail _ h=>cases h
theorem Sm.sub {N:Nat}{k:Int}{t:List UInt8}{o:Int}{c:Bool}{ps:List aS} (h:ps.length≤N) (hs:∀q∈ps,Sm N q):∀q∈[aS.mk k t o c ps],Sm N q:=fun q hq=>by
 cases hq with
 | head=>exact .mk h hs
 | tail _ h=>cases h
def ew.pre (N:Nat):ew→Prop
 | .loop a _ _ _ _ acc=>acc.length≤a∧∀q∈acc,Sm N q
 | _=>True
def WS (N:Nat):ew→R→Prop
 | .loop _ _ _ _ _ _,.ok x=>x.1.length≤x.2∧∀q∈x.1,Sm N q
 | _,.ok x=>∀q∈x.1,Sm N q
 | _,.error _=>True
theorem Ka {N:Nat}{l:List aS}{t:List UInt8} (h:∀q∈l,Sm N q):(me l t).length≤l.length + 1∧∀q∈me l t,Sm N q:=by
 unfold me;split
 ·split
  ·refine⟨by simp only [List.length_append,List.length_dropLast,List.length_cons,List.length_nil]; omega,fun q hq=>?_⟩;rcases List.mem_append.1 hq with hq | hq
   ·exact h q (List.dropLast_subset _ hq)
   ·exact Sm.one q hq
  ·refine⟨by simp only [List.length_append,List.length_cons,List.length_nil]; omega,fun q hq=>?_⟩;rcases List.mem_append.1 hq with hq | hq
   ·exact h q hq
   ·exact Sm.one q hq
 ·exact⟨by simp only [List.length_cons,List.length_nil]; omega,Sm.one⟩
theorem Ms {N:Nat}{l:List aS}{p:aS} (h:∀q∈l,Sm N q) (hp:Sm N p):(mV l p).length≤l.length + 1∧∀q∈mV l p,Sm N q:=by
 unfold mV;split
 ·exact Ka h
 ·refine⟨by simp only [List.length_append,List.length_cons,List.length_nil]; omega,fun q hq=>?_⟩;rcases List.mem_append.1 hq with hq | hq
  ·exact h q hq
  ·cases hq with
   | head=>exact hp
   | tail _ h=>cases h
theorem N8 {N:Nat}{l ps:List aS} (h1:ps.length≤1) (h:∀q∈l,Sm N q) (hp:∀q∈ps,Sm N q):(ps.foldl mV l).length≤l.length + 1∧∀q∈ps.foldl mV l,Sm N q:=by
 match ps,h1 with
 | [],_=>exact⟨Nat.le_succ _,h⟩
 | [p],_=>exact Ms h (hp p (List.mem_cons_self ..))
theorem Wx.small {l:List UInt8}{t:ew}{r:R} (h:Wx l t r):t.ok l→t.pre l.length→WS l.length t r:=by
 induction h with
 | l_end h=>intro ok pr; exact pr
 | l_q hl h h2=>intro ok pr; exact pr
 | l_a h h2 h3=>intro ok pr; exact pr
 | @l_tilde a p lv fr o r hl h h2 k ih=>
  intro ok pr;have:=ih (by simp only [ew.ok]; omega) ⟨Nat.succ_le_succ (Nat.zero_le _),Sm.one⟩;cases r with
  | error x=>trivial
  | ok x=>exact this
 | @l_on a p lv fr o acc ps j r hl h h2 k k2 ih ih2=>
  intro ok pr;have hb:=k.bound hl;have hf:=N8 hb.2.2.1 pr.2 (ih hl trivial);have:=ih2 hb.2.1 ⟨by have:=hb.1; have:=pr.1; have:=hf.1; simp only at *; omega,hf.2⟩;cases r with
  | error x=>trivial
  | ok x=>exact this
 | @x_brc a p lv r h h2 k ih=>
  intro ok pr;have hl:=ce h;have:=ih (by simp only [ew.ok]; omega) trivial;cases r with
  | error x=>trivial
  | ok x=>exact this
 | x_ari h h2 hl h3 h4 k ih=>
  intro ok pr;have hb:=k.bound (by simp only [ew.ok]; omega);have:=ih (by simp only [ew.ok]; omega) ⟨Nat.zero_le _,fun q hq=>by cases hq⟩;exact Sm.sub (Nat.le_trans this.1 hb.2.1) this.2
 | t_dq hl h h2 h3 k ih=>
  intro ok pr;have hb:=k.bound (by simp only [ew.ok]; omega);have:=ih (by simp only [ew.ok]; omega) ⟨Nat.zero_le _,fun q hq=>by cases hq⟩;exact Sm.sub (Nat.le_trans this.1 hb.2.1) this.2
 | s_nl h h2 h3=>intro ok pr q hq; cases hq
 | @r_sharp a p lv j r hl h k h2 h3 k2 ih=>intro ok pr; have:=ih (by simp only [ew.ok] at *; omega) trivial; cases r with | error x=>trivial | ok x=>exact this
 | @r_two a p lv r h k2 ih=>intro ok pr; have:=ih (by simp only [ew.ok] at *; omega) trivial; cases r with | error x=>trivial | ok x=>exact this
 | @w_ok a p lv j ps i k h h2 h3 h4 h5 h6 h7 k2 ih=>
  intro ok pr;have ho:=mZ l j h2 h5;have hb:=k2.bound ho.1;have:=ih ho.1 ⟨Nat.zero_le _,fun q hq=>by cases hq⟩;exact Sm.sub (Nat.le_trans this.1 hb.2.1) this.2
 | _=>intro ok pr; first | trivial | exact Sm.one
end Go.Mir
namespace Go.Proofs.YtokdflgpbfjpcaaGreatDoor
open Go Go.EvL Go.PE
variable {ext:ar}
structure ay where
 pos:Int
 parts:PV
def ay.cells (x:ay):List PV:=[.sc (.int .i64 x.pos),x.parts]
theorem ay.len (x:ay):x.cells.length=2:=(rfl)
def uO:bj:=(.seq (.draw [(⟨some 17,.mv (.tmp 0),none⟩,[0],[]),
       (⟨some 18,.mv (.tmp 5),none⟩,[5],[0]),
       (⟨some 19,.iaddr 2 (.tmp 17) (.tmp 18),none⟩,[17,18],[]),
       (⟨some 20,.faddr 1 (.tmp 19),none⟩,[19],[]),
       (⟨some 21,.load 100 false 1 (.tmp 20),none⟩,[20],[]),
       (⟨some 22,.mv (.tmp 1),none⟩,[1],[4,3,2,1,0]),
       (⟨some 23,.mv (.tmp 5),none⟩,[5],[5,4,3,2,1,0]),
       (⟨some 24,.iaddr 2 (.tmp 22) (.tmp 23),none⟩,[22,23],[4,3,2,1,0]),
       (⟨some 25,.faddr 1 (.tmp 24),none⟩,[24],[4,3,2,1,0]),
       (⟨some 26,.load 100 false 1 (.tmp 25),none⟩,[25],[4,3,2,1,0]),
       (⟨some 27,.call (.func 151) [(.tmp 21),(.tmp 26)],none⟩,[21,26],[]),
       (⟨some 28,.un .not (.tmp 27),none⟩,[27],[])])
     (.cond (.tmp 28)
      (.seq (.reg [⟨some 4,.mv (.const (.bool false)),none⟩])
      .ret)
      (.skip)))
theorem WG:Γ 103=some (nE 29 uO):=(rfl)
theorem WT:Γ 86=some (DG 102 2 #[(.int .i64 0),(.slice none 0 0)] 3):=(rfl)
theorem f47 (x y:ay) (r:Bool) (h:∀s,aH Tryz.prog Γ ext 143 [x.parts,y.parts] s=some (.sc (.bool r),s)) (s:PS):aH Tryz.prog Γ ext 85 [.agg x.cells,.agg y.cells] s=some (.sc (.bool r),s):=by
 rw [ej (fn:=Vq) (by rfl) _ _ (by simp [Vq])];simp -implicitDefEqProofs only [ZS,seval,ZX,Vq,bC,aC,List.map_cons,List.map_nil,List.append_nil,ay.cells,h]
theorem Uw (x y:ay) (r:Bool) (h:∀s,Pc ext 151 [x.parts,y.parts] (.sc (.bool r)) s):lC Tryz.prog Γ ext 102 ay.cells uO x y r:=by
 intro l m i hl hm f s hin;obtain⟨l,rfl⟩ : ∃k,l=some k:=by cases l with | none=>simp at hl | some k=>exact⟨k,rfl⟩
 obtain⟨m,rfl⟩ : ∃k,m=some k:=by cases m with | none=>simp at hm | some k=>exact⟨k,rfl⟩
 obtain⟨ha,hb,hii⟩:=hin;simp only [aU,Option.getD_some] at ha hb hl hm;have hi:i < l.length:=(List.getElem?_eq_some_iff.1 hl).1;have hj:i < m.length:=(List.getElem?_eq_some_iff.1 hm).1;have h1:=aJ ay.len l;have h2:=aJ ay.len m;obtain⟨r1,h3⟩:=cm ay.len hl;obtain⟨r2,h4⟩:=cm ay.len hm;cases r with
 | false=>
  simp -implicitDefEqProofs only [ZS,seval,ZT,ZX,uO,List.map_cons,List.map_nil,List.append_nil,List.mem_cons,List.not_mem_nil,implies_true,forall_const,ha,hb,hii,hi,hj,h1,h2,h3,h4,aw,ay.cells,h,zY];exact⟨_,_,rfl,by simp -implicitDefEqProofs only [aZ,↓reduceIte],fun n0 w1 w2=>⟨w1,w2⟩⟩
 | true=>
  simp -implicitDefEqProofs only [ZS,seval,ZT,ZX,uO,List.map_cons,List.map_nil,List.append_nil,List.mem_cons,List.not_mem_nil,implies_true,forall_const,ha,hb,hii,hi,hj,h1,h2,h3,h4,aw,ay.cells,h,zY];exact⟨_,_,rfl,⟨by simp -implicitDefEqProofs only [aZ,↓reduceIte,reduceCtorEq,ha],by simp -implicitDefEqProofs only [aZ,Nat.reduceEqDiff,↓reduceIte,hb],by simp -implicitDefEqProofs only [aZ,Nat.reduceEqDiff,↓reduceIte,hii]⟩,fun n0 w1 w2=>⟨w1,w2⟩⟩
def lA (d:Nat) (p:PV):Prop:=∃l:Option (List ay),p=aU 102 ay.cells l∧(l.getD []).length < 4611686018427387904∧∀x∈l.getD [],aN d x.parts
theorem wi {d:Nat}{a b:PV} (ha:lA d a) (hb:lA d b):∃r,(∀s,Pc ext 86 [a,b,.fn 85 [] []] (.sc (.bool r)) s)∧∀s,Pc ext 103 [a,b] (.sc (.bool r)) s:=by
 obtain⟨l,rfl,hl,hl'⟩:=ha;obtain⟨m,rfl,hm,hm'⟩:=hb;refine pj ay.len (by rfl) WT WG om (fun x hx=>?_) hl (fun x hx y hy=>?_)
 ·have:aN d x.parts:=hx.elim (hl' x) (hm' x);simp only [ay.cells,List.all_cons,List.all_nil,this.one,Bool.and_true]; rfl
 ·obtain⟨r,h1,h2⟩:=mQ (ext:=ext) d x.parts y.parts (hl' x hx) (hm' y hy);exact⟨r,fun s=>f47 x y r h1 s,Uw x y r h2⟩
structure aB where
 pos:Int
 name:ByteArray
 vpos:Int
 parts:PV
def aB.cells (x:aB):List PV:=[.sc (.int .i64 x.pos),.sc (.string x.name),.sc (.int .i64 x.vpos),x.parts]
theorem aB.len (x:aB):x.cells.length=4:=(rfl)
def sC:bj:=(.seq (.draw [(⟨some 17,.mv (.tmp 0),none⟩,[0],[]),
       (⟨some 18,.mv (.tmp 5),none⟩,[5],[0]),
       (⟨some 19,.iaddr 4 (.tmp 17) (.tmp 18),none⟩,[17,18],[]),
       (⟨some 20,.faddr 1 (.tmp 19),none⟩,[19],[]),
       (⟨some 21,.load 9 false 1 (.tmp 20),none⟩,[20],[]),
       (⟨some 22,.mv (.tmp 1),none⟩,[1],[4,3,2,1,0]),
       (⟨some 23,.mv (.tmp 5),none⟩,[5],[5,4,3,2,1,0]),
       (⟨some 24,.iaddr 4 (.tmp 22) (.tmp 23),none⟩,[22,23],[4,3,2,1,0]),
       (⟨some 25,.faddr 1 (.tmp 24),none⟩,[24],[4,3,2,1,0]),
       (⟨some 26,.load 9 false 1 (.tmp 25),none⟩,[25],[4,3,2,1,0]),
       (⟨some 27,.bin .neq 9 (.tmp 21) (.tmp 26),none⟩,[21,26],[]),
       (⟨some 28,.mv (.tmp 27),none⟩,[27],[]),
       (⟨some 29,.mv (.tmp 0),(some (28,false))⟩,[0,28],[]),
       (⟨some 30,.mv (.tmp 5),(some (28,false))⟩,[5,28],[12]),
       (⟨some 31,.iaddr 4 (.tmp 29) (.tmp 30),(some (28,false))⟩,[29,30,28],[]),
       (⟨some 32,.faddr 2 (.tmp 31),(some (28,false))⟩,[31,28],[]),
       (⟨some 33,.faddr 1 (.tmp 32),(some (28,false))⟩,[32,28],[]),
       (⟨some 34,.load 100 false 1 (.tmp 33),(some (28,false))⟩,[33,28],[]),
       (⟨some 35,.mv (.tmp 1),(some (28,false))⟩,[1,28],[17,16,15,14,13,12]),
       (⟨some 36,.mv (.tmp 5),(some (28,false))⟩,[5,28],[18,17,16,15,14,13,12]),
       (⟨some 37,.iaddr 4 (.tmp 35) (.tmp 36),(some (28,false))⟩,[35,36,28],[17,16,15,14,13,12]),
       (⟨some 38,.faddr 2 (.tmp 37),(some (28,false))⟩,[37,28],[17,16,15,14,13,12]),
       (⟨some 39,.faddr 1 (.tmp 38),(some (28,false))⟩,[38,28],[17,16,15,14,13,12]),
       (⟨some 40,.load 100 false 1 (.tmp 39),(some (28,false))⟩,[39,28],[17,16,15,14,13,12]),
       (⟨some 41,.call (.func 151) [(.tmp 34),(.tmp 40)],(some (28,false))⟩,[34,40,28],[]),
       (⟨some 42,.un .not (.tmp 41),(some (28,false))⟩,[41,28],[]),
       (⟨some 43,.pick (.tmp 28) (.const (.bool true)) (.tmp 42),none⟩,[28,42],[])])
     (.cond (.tmp 43)
      (.seq (.reg [⟨some 4,.mv (.const (.bool false)),none⟩])
      .ret)
      (.skip)))
theorem WF:Γ 102=some (nE 44 sC):=(rfl)
theorem WM:Γ 83=some (DG 104 4 #[(.int .i64 0),(.string ⟨#[]⟩),(.int .i64 0),(.slice none 0 0)] 3):=(rfl)
theorem WR (x y:aB) (r:Bool) (h:∀s,aH Tryz.prog Γ ext 143 [x.parts,y.parts] s=some (.sc (.bool r),s)) (s:PS):aH Tryz.prog Γ ext 84 [.agg x.cells,.agg y.cells] s=some (.sc (.bool (x.name.toList == y.name.toList && r)),s):=by
 have h47:=f47 (ext:=ext) ⟨x.vpos,x.parts⟩ ⟨y.vpos,y.parts⟩ r h;simp only [ay.cells] at h47;rw [ej (fn:=Um) (by rfl) _ _ (by simp [Um])];cases e1:x.name.toList == y.name.toList with
 | false=>simp -implicitDefEqProofs only [ZS,seval,ZX,Um,bC,bG,aC,aB.cells,e1]
 | true=>simp -implicitDefEqProofs only [ZS,seval,ZX,Um,bC,bG,aC,List.map_cons,List.map_nil,List.append_nil,aB.cells,e1,h47]
theorem UI (x y:aB) (r:Bool) (h:∀s,Pc ext 151 [x.parts,y.parts] (.sc (.bool r)) s):lC Tryz.prog Γ ext 104 aB.cells sC x y (x.name.toList == y.name.toList && r):=by
 intro l m i hl hm f s hin;obtain⟨l,rfl⟩ : ∃k,l=some k:=by cases l with | none=>simp at hl | some k=>exact⟨k,rfl⟩
 obtain⟨m,rfl⟩ : ∃k,m=some k:=by cases m with | none=>simp at hm | some k=>exact⟨k,rfl⟩
 obtain⟨ha,hb,hii⟩:=hin;simp only [aU,Option.getD_some] at ha hb hl hm;have hi:i < l.length:=(List.getElem?_eq_some_iff.1 hl).1;have hj:i < m.length:=(List.getElem?_eq_some_iff.1 hm).1;have h1:=aJ aB.len l;have h2:=aJ aB.len m;obtain⟨r1,h3⟩:=cm aB.len hl;obtain⟨r2,h4⟩:=cm aB.len hm;cases e1:x.name.toList == y.name.toList with
 | false=>
  simp -implicitDefEqProofs only [ZS,seval,ZT,ZX,sC,bG,List.mem_cons,List.not_mem_nil,implies_true,forall_const,ha,hb,hii,hi,hj,h1,h2,h3,h4,aw,aB.cells,e1,zY];exact⟨_,_,rfl,by simp -implicitDefEqProofs only [aZ,↓reduceIte],fun n0 w1 w2=>⟨w1,w2⟩⟩
 | true=>
  cases r with
  | false=>
   simp -implicitDefEqProofs only [ZS,seval,ZT,ZX,sC,bG,List.map_cons,List.map_nil,List.append_nil,List.mem_cons,List.not_mem_nil,implies_true,forall_const,ha,hb,hii,hi,hj,h1,h2,h3,h4,aw,aB.cells,e1,h,zY];exact⟨_,_,rfl,by simp -implicitDefEqProofs only [aZ,↓reduceIte],fun n0 w1 w2=>⟨w1,w2⟩⟩
  | true=>
   simp -implicitDefEqProofs only [ZS,seval,ZT,ZX,sC,bG,List.map_cons,List.map_nil,List.append_nil,List.mem_cons,List.not_mem_nil,implies_true,forall_const,ha,hb,hii,hi,hj,h1,h2,h3,h4,aw,aB.cells,e1,h,zY];exact⟨_,_,rfl,⟨by simp -implicitDefEqProofs only [aZ,↓reduceIte,reduceCtorEq,ha],by simp -implicitDefEqProofs only [aZ,Nat.reduceEqDiff,↓reduceIte,hb],by simp -implicitDefEqProofs only [aZ,Nat.reduceEqDiff,↓reduceIte,hii]⟩,fun n0 w1 w2=>⟨w1,w2⟩⟩
def ky (d:Nat) (p:PV):Prop:=∃l:Option (List aB),p=aU 104 aB.cells l∧(l.getD []).length < 4611686018427387904∧∀x∈l.getD [],aN d x.parts
theorem Ak {d:Nat}{a b:PV} (ha:ky d a) (hb:ky d b):∃r,(∀s,Pc ext 83 [a,b,.fn 84 [] []] (.sc (.bool r)) s)∧∀s,Pc ext 102 [a,b] (.sc (.bool r)) s:=by
 obtain⟨l,rfl,hl,hl'⟩:=ha;obtain⟨m,rfl,hm,hm'⟩:=hb;refine pj aB.len (by rfl) WM WF om (fun x hx=>?_) hl (fun x hx y hy=>?_)
 ·have:aN d x.parts:=hx.elim (hl' x) (hm' x);simp only [aB.cells,List.all_cons,List.all_nil,this.one,Bool.and_true]; rfl
 ·obtain⟨r,h1,h2⟩:=mQ (ext:=ext) d x.parts y.parts (hl' x hx) (hm' y hy);exact⟨_,fun s=>WR x y r h1 s,UI x y r h2⟩
structure aD where
 pos:Int
 fd:Int
 op:Int
 tpos:Int
 parts:PV
def aD.cells (x:aD):List PV:=[.sc (.int .i64 x.pos),.sc (.int .i64 x.fd),.sc (.int .i64 x.op),.sc (.int .i64 x.tpos),x.parts]
theorem aD.len (x:aD):x.cells.length=5:=(rfl)
def aD.eqB (x y:aD) (r:Bool):Bool:=x.fd == y.fd && (x.op == y.op && r)
def pO:bj:=(.seq (.draw [(⟨some 17,.mv (.tmp 0),none⟩,[0],[]),
       (⟨some 18,.mv (.tmp 5),none⟩,[5],[0]),
       (⟨some 19,.iaddr 5 (.tmp 17) (.tmp 18),none⟩,[17,18],[]),
       (⟨some 20,.faddr 1 (.tmp 19),none⟩,[19],[]),
       (⟨some 21,.load 3 false 1 (.tmp 20),none⟩,[20],[]),
       (⟨some 22,.mv (.tmp 1),none⟩,[1],[4,3,2,1,0]),
       (⟨some 23,.mv (.tmp 5),none⟩,[5],[5,4,3,2,1,0]),
       (⟨some 24,.iaddr 5 (.tmp 22) (.tmp 23),none⟩,[22,23],[4,3,2,1,0]),
       (⟨some 25,.faddr 1 (.tmp 24),none⟩,[24],[4,3,2,1,0]),
       (⟨some 26,.load 3 false 1 (.tmp 25),none⟩,[25],[4,3,2,1,0]),
       (⟨some 27,.bin .neq 3 (.tmp 21) (.tmp 26),none⟩,[21,26],[]),
       (⟨some 28,.mv (.tmp 27),none⟩,[27],[]),
       (⟨some 29,.mv (.tmp 0),(some (28,false))⟩,[0,28],[]),
       (⟨some 30,.mv (.tmp 5),(some (28,false))⟩,[5,28],[12]),
       (⟨some 31,.iaddr 5 (.tmp 29) (.tmp 30),(some (28,false))⟩,[29,30,28],[]),
       (⟨some 32,.faddr 2 (.tmp 31),(some (28,false))⟩,[31,28],[]),
       (⟨some 33,.load 3 false 1 (.tmp 32),(some (28,false))⟩,[32,28],[]),
       (⟨some 34,.mv (.tmp 1),(some (28,false))⟩,[1,28],[16,15,14,13,12]),
       (⟨some 35,.mv (.tmp 5),(some (28,false))⟩,[5,28],[17,16,15,14,13,12]),
       (⟨some 36,.iaddr 5 (.tmp 34) (.tmp 35),(some (28,false))⟩,[34,35,28],[16,15,14,13,12]),
       (⟨some 37,.faddr 2 (.tmp 36),(some (28,false))⟩,[36,28],[16,15,14,13,12]),
       (⟨some 38,.load 3 false 1 (.tmp 37),(some (28,false))⟩,[37,28],[16,15,14,13,12]),
       (⟨some 39,.bin .neq 3 (.tmp 33) (.tmp 38),(some (28,false))⟩,[33,38,28],[]),
       (⟨some 40,.pick (.tmp 28) (.const (.bool true)) (.tmp 39),none⟩,[28,39],[]),
       (⟨some 41,.mv (.tmp 40),none⟩,[40],[]),
       (⟨some 42,.mv (.tmp 0),(some (41,false))⟩,[0,41],[]),
       (⟨some 43,.mv (.tmp 5),(some (41,false))⟩,[5,41],[25]),
       (⟨some 44,.iaddr 5 (.tmp 42) (.tmp 43),(some (41,false))⟩,[42,43,41],[]),
       (⟨some 45,.faddr 3 (.tmp 44),(some (41,false))⟩,[44,41],[]),
       (⟨some 46,.faddr 1 (.tmp 45),(some (41,false))⟩,[45,41],[]),
       (⟨some 47,.load 100 false 1 (.tmp 46),(some (41,false))⟩,[46,41],[]),
       (⟨some 48,.mv (.tmp 1),(some (41,false))⟩,[1,41],[30,29,28,27,26,25]),
       (⟨some 49,.mv (.tmp 5),(some (41,false))⟩,[5,41],[31,30,29,28,27,26,25]),
       (⟨some 50,.iaddr 5 (.tmp 48) (.tmp 49),(some (41,false))⟩,[48,49,41],[30,29,28,27,26,25]),
       (⟨some 51,.faddr 3 (.tmp 50),(some (41,false))⟩,[50,41],[30,29,28,27,26,25]),
       (⟨some 52,.faddr 1 (.tmp 51),(some (41,false))⟩,[51,41],[30,29,28,27,26,25]),
       (⟨some 53,.load 100 false 1 (.tmp 52),(some (41,false))⟩,[52,41],[30,29,28,27,26,25]),
       (⟨some 54,.call (.func 151) [(.tmp 47),(.tmp 53)],(some (41,false))⟩,[47,53,41],[]),
       (⟨some 55,.un .not (.tmp 54),(some (41,false))⟩,[54,41],[]),
       (⟨some 56,.pick (.tmp 41) (.const (.bool true)) (.tmp 55),none⟩,[41,55],[])])
     (.cond (.tmp 56)
      (.seq (.reg [⟨some 4,.mv (.const (.bool false)),none⟩])
      .ret)
      (.skip)))
theorem X1:Γ 104=some (nE 57 pO):=(rfl)
theorem X8:Γ 87=some (DG 129 5 #[(.int .i64 0),(.int .i64 0),(.int .i64 0),(.int .i64 0),(.slice none 0 0)] 3):=(rfl)
theorem f50 (x y:aD) (r:Bool) (h:∀s,aH Tryz.prog Γ ext 143 [x.parts,y.parts] s=some (.sc (.bool r),s)) (s:PS):aH Tryz.prog Γ ext 88 [.agg x.cells,.agg y.cells] s=some (.sc (.bool (x.eqB y r)),s):=by
 have h47:=f47 (ext:=ext) ⟨x.tpos,x.parts⟩ ⟨y.tpos,y.parts⟩ r h;simp only [ay.cells] at h47;rw [ej (fn:=Tg) (by rfl) _ _ (by simp [Tg])];cases e1:x.fd == y.fd with
 | false=>simp -implicitDefEqProofs only [ZS,seval,ZX,Tg,bC,bG,aC,aD.cells,aD.eqB,e1]
 | true=>
  cases e2:x.op == y.op with
  | false=>simp -implicitDefEqProofs only [ZS,seval,ZX,Tg,bC,bG,aC,aD.cells,aD.eqB,e1,e2]
  | true=>simp -implicitDefEqProofs only [ZS,seval,ZX,Tg,bC,bG,aC,List.map_cons,List.map_nil,List.append_nil,aD.cells,aD.eqB,e1,e2,h47]
theorem Vg (x y:aD) (r:Bool) (h:∀s,Pc ext 151 [x.parts,y.parts] (.sc (.bool r)) s):lC Tryz.prog Γ ext 129 aD.cells pO x y (x.eqB y r):=by
 intro l m i hl hm f s hin;obtain⟨l,rfl⟩ : ∃k,l=some k:=by cases l with | none=>simp at hl | some k=>exact⟨k,rfl⟩
 obtain⟨m,rfl⟩ : ∃k,m=some k:=by cases m with | none=>simp at hm | some k=>exact⟨k,rfl⟩
 obtain⟨ha,hb,hii⟩:=hin;simp only [aU,Option.getD_some] at ha hb hl hm;have hi:i < l.length:=(List.getElem?_eq_some_iff.1 hl).1;have hj:i < m.length:=(List.getElem?_eq_some_iff.1 hm).1;have h1:=aJ aD.len l;have h2:=aJ aD.len m;obtain⟨r1,h3⟩:=cm aD.len hl;obtain⟨r2,h4⟩:=cm aD.len hm;have c1:(bne x.fd y.fd)=!(x.fd == y.fd):=(rfl)
 have c2:(bne x.op y.op)=!(x.op == y.op):=(rfl)
 unfold aD.eqB;cases e1:x.fd == y.fd with
 | false=>
  simp -implicitDefEqProofs only [ZS,seval,ZT,ZX,pO,bG,List.mem_cons,List.not_mem_nil,implies_true,forall_const,ha,hb,hii,hi,hj,h1,h2,h3,h4,aw,aD.cells,zY,c1,e1];exact⟨_,_,rfl,by simp -implicitDefEqProofs only [aZ,↓reduceIte],fun n0 w1 w2=>⟨w1,w2⟩⟩
 | true=>
  cases e2:x.op == y.op with
  | false=>
   simp -implicitDefEqProofs only [ZS,seval,ZT,ZX,pO,bG,List.mem_cons,List.not_mem_nil,implies_true,forall_const,ha,hb,hii,hi,hj,h1,h2,h3,h4,aw,aD.cells,zY,c1,c2,e1,e2];exact⟨_,_,rfl,by simp -implicitDefEqProofs only [aZ,↓reduceIte],fun n0 w1 w2=>⟨w1,w2⟩⟩
  | true=>
   cases r with
   | false=>
    simp -implicitDefEqProofs only [ZS,seval,ZT,ZX,pO,bG,List.map_cons,List.map_nil,List.append_nil,List.mem_cons,List.not_mem_nil,implies_true,forall_const,ha,hb,hii,hi,hj,h1,h2,h3,h4,aw,aD.cells,zY,c1,c2,e1,e2,h];exact⟨_,_,rfl,by simp -implicitDefEqProofs only [aZ,↓reduceIte],fun n0 w1 w2=>⟨w1,w2⟩⟩
   | true=>
    simp -implicitDefEqProofs only [ZS,seval,ZT,ZX,pO,bG,List.map_cons,List.map_nil,List.append_nil,List.mem_cons,List.not_mem_nil,implies_true,forall_const,ha,hb,hii,hi,hj,h1,h2,h3,h4,aw,aD.cells,zY,c1,c2,e1,e2,h];exact⟨_,_,rfl,⟨by simp -implicitDefEqProofs only [aZ,↓reduceIte,reduceCtorEq,ha],by simp -implicitDefEqProofs only [aZ,Nat.reduceEqDiff,↓reduceIte,hb],by simp -implicitDefEqProofs only [aZ,Nat.reduceEqDiff,↓reduceIte,hii]⟩,fun n0 w1 w2=>⟨w1,w2⟩⟩
def m7 (d:Nat) (p:PV):Prop:=∃l:Option (List aD),p=aU 129 aD.cells l∧(l.getD []).length < 4611686018427387904∧∀x∈l.getD [],aN d x.parts
theorem Ce {d:Nat}{a b:PV} (ha:m7 d a) (hb:m7 d b):∃r,(∀s,Pc ext 87 [a,b,.fn 88 [] []] (.sc (.bool r)) s)∧∀s,Pc ext 104 [a,b] (.sc (.bool r)) s:=by
 obtain⟨l,rfl,hl,hl'⟩:=ha;obtain⟨m,rfl,hm,hm'⟩:=hb;refine pj aD.len (by rfl) X8 X1 om (fun x hx=>?_) hl (fun x hx y hy=>?_)
 ·have:aN d x.parts:=hx.elim (hl' x) (hm' x);simp only [aD.cells,List.all_cons,List.all_nil,this.one,Bool.and_true]; rfl
 ·obtain⟨r,h1,h2⟩:=mQ (ext:=ext) d x.parts y.parts (hl' x hx) (hm' y hy);exact⟨_,fun s=>f50 x y r h1 s,Vg x y r h2⟩
end Go.Proofs.YtokdflgpbfjpcaaGreatDoor
