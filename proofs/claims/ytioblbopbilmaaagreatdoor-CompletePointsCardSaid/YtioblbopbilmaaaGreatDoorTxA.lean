/- What functions of the program and of the reference compute, on values. No statement is proved here. -/
import Derived.Test.YtioblbopbilmaaaGreatDoorPeB
set_option linter.unusedSimpArgs false
set_option linter.unusedVariables false
set_option linter.defProp false
namespace Go.Mir
def bt (l:List UInt8) (i:Nat):Nat:=(l.getD i 0).toNat
def cC (c:Nat):Bool:=decide (97≤c) && decide (c≤122) || decide (65≤c) && decide (c≤90)
def ay (c:Nat):Bool:=decide (48≤c) && decide (c≤57)
def bA (c:Nat):Bool:=c == 9 || c == 32
def cn (c:Nat):Bool:=c == 38 || c == 124 || c == 59 || c == 40 || c == 41 || c == 60 || c == 62
def aF (c:Nat):Bool:=cC c || ay c || c == 95
def b7 (c:Nat):Bool:=ay c || c == 64 || c == 42 || c == 35 || c == 63 || c == 45 || c == 36 || c == 33
def ch (l:List UInt8) (a:Nat):Bool:=decide (a + 1 < l.length) && bt l a == 36 && (aF (bt l (a + 1)) || b7 (bt l (a + 1)) || bt l (a + 1) == 123 || bt l (a + 1) == 40)
def bx (l:List UInt8) (i:Nat):Bool:=decide (i + 1 < l.length) && bt l i == 92 && bt l (i + 1) == 10
def run (q:Nat→Bool) (l:List UInt8) (i:Nat):Nat:=i + ((l.drop i).takeWhile fun c=>q c.toNat).length
def bm (l:List UInt8) (i:Nat):Nat:=run aF l i
def aQ (l:List UInt8) (c i:Nat):Nat:=run (fun x=>x != c) l i
theorem dp {l:List UInt8}{i:Nat} (h:i < l.length):l.drop i=l[i] :: l.drop (i + 1):=List.drop_eq_getElem_cons h
theorem cf {l:List UInt8}{i:Nat} (h:i < l.length):bt l i=(l[i]).toNat:=by
 unfold bt; rw [List.getD_eq_getElem?_getD,List.getElem?_eq_getElem h]; rfl
theorem il (l:List UInt8) (i:Nat):bt l i < 256:=by unfold bt; exact UInt8.toNat_lt _
theorem nZ {q:Nat→Bool}{l:List UInt8}{i:Nat} (h:l.length≤i):run q l i=i:=by
 unfold run; rw [List.drop_eq_nil_of_le h]; rfl
theorem jE {q:Nat→Bool}{l:List UInt8}{i:Nat} (h:i < l.length) (hq:q (bt l i)=true):run q l i=run q l (i + 1):=by
 unfold run;rw [dp h,List.takeWhile_cons,if_pos (by rw [← cf h]; exact hq),List.length_cons];omega
theorem mz {q:Nat→Bool}{l:List UInt8}{i:Nat} (h:i < l.length) (hq:q (bt l i)=false):run q l i=i:=by
 unfold run;rw [dp h,List.takeWhile_cons,if_neg (by rw [← cf h,hq]; simp)];rfl
theorem lJ (q:Nat→Bool) (l:List UInt8) (i:Nat):i≤run q l i:=Nat.le_add_right _ _
theorem Ii {q:Nat→Bool}{l:List UInt8}{i:Nat} (h:i≤l.length):run q l i≤l.length:=by
 unfold run;have h1:=List.Sublist.length_le (List.takeWhile_sublist (fun c:UInt8=>q c.toNat) (l:=l.drop i));rw [List.length_drop] at h1;omega
theorem wV {q:Nat→Bool}{l:List UInt8} : ∀(k i:Nat),i + k=l.length→run q l i < l.length→q (bt l (run q l i))=false:=by
 intro k
 induction k with
 | zero=>intro i h h2; have:=lJ q l i; omega
 | succ k ih=>
  intro i h h2;have hi:i < l.length:=by omega
  cases hq:q (bt l i) with
  | true=>rw [jE hi hq] at h2 ⊢; exact ih (i + 1) (by omega) h2
  | false=>rw [mz hi hq]; exact hq
inductive aV where
 | pass (a p:Nat)
 | exp (a p:Nat)
 | bq (i a:Nat)
 | dbl (i a:Nat)
 | brc (i a p:Nat)
 | cmd (i a o:Nat) (b:Bool)
 | ari (i a o:Nat)
def bD (c o:Nat):Nat:=if c=40 then o + 1 else if c=41 then o - 1 else o
def bu (c:Nat):Bool:=bA c || c == 10 || cn c
def aV.at:aV→Nat
 | .pass a _ | .exp a _=>a
 | .bq i _ | .dbl i _ | .brc i _ _ | .cmd i _ _ _ | .ari i _ _=>i
theorem dD {l:List UInt8}{a:Nat} (h:ch l a=true):a + 1 < l.length:=by
 unfold ch at h; simp at h; exact h.1.1
theorem kJ {l:List UInt8}{a:Nat} (h:ch l a=true):bt l a=36:=by
 unfold ch at h; simp at h; exact h.1.2
theorem dx {l:List UInt8}{a:Nat} (h:bx l a=true):a + 1 < l.length:=by
 unfold bx at h; simp at h; exact h.1.1
theorem sT {l:List UInt8}{a:Nat} (h:bx l a=true):bt l a=92∧bt l (a + 1)=10:=by
 unfold bx at h; simp at h; exact⟨h.1.2,h.2⟩
end Go.Mir
namespace Go.Mir
theorem tY {l:List UInt8}{a:Nat} (h:ch l a=true) (h1:bt l (a + 1)≠123) (h2:bt l (a + 1)≠40) (h3:b7 (bt l (a + 1))=false):a + 2≤bm l (a + 1):=by
 have hl:=dD h;unfold ch at h;simp [h3,h1,h2] at h;unfold bm;rw [jE hl h.2];exact lJ _ _ _
def aV.ok (l:List UInt8):aV→Prop
 | .pass a _=>a < l.length
 | .exp a _=>ch l a=true
 | .bq i a | .dbl i a | .brc i a _ | .cmd i a _ _ | .ari i a _=>i≤l.length∧a < l.length
def aV.size (l:List UInt8):aV→Nat
 | .pass a _=>3 * (l.length - a) + 1
 | .exp a _=>3 * (l.length - a)
 | .bq i _ | .dbl i _ | .brc i _ _ | .cmd i _ _ _ | .ari i _ _=>3 * (l.length - i) + 2
end Go.Mir
namespace Go.Mir
def rd (l:List UInt8):Nat→aV→Nat × Nat
 | 0,t=>(t.at,7)
 | n + 1,.pass a p=>
  if bt l a=92 then (if a + 1=l.length then (a,7) else (a + 2,0)) else
  if bt l a=96 then rd l n (.bq (a + 1) a) else
  if ch l a=true then rd l n (.exp a p) else
  if bt l a=39∧p=0 then (if aQ l 39 (a + 1) < l.length then (aQ l 39 (a + 1) + 1,0) else (a,7)) else
  if bt l a=34∧p=0 then rd l n (.dbl (a + 1) a) else (a + 1,0)
 | n + 1,.exp a p=>
  if bt l (a + 1)=123 then rd l n (.brc (a + 2) a p) else
  if bt l (a + 1)=40 then (if a + 2 < l.length∧bt l (a + 2)=40 then rd l n (.ari (a + 3) a 0) else rd l n (.cmd (a + 2) a 1 true)) else
  if b7 (bt l (a + 1))=true then (a + 2,0) else (bm l (a + 1),0)
 | n + 1,.bq i a=>
  if i < l.length then
   if bt l i=96 then (i + 1,0) else
   if bt l i=92 then (if i + 1=l.length then (i,7) else rd l n (.bq (i + 2) a)) else rd l n (.bq (i + 1) a)
  else (a,7)
 | n + 1,.dbl i a=>
  if i < l.length then
   if bt l i=34 then (i + 1,0) else
   if (rd l n (.pass i 1)).2=0 then rd l n (.dbl (rd l n (.pass i 1)).1 a) else rd l n (.pass i 1)
  else (a,7)
 | n + 1,.brc i a p=>
  if i < l.length then
   if bt l i=125 then (i + 1,0) else
   if bt l i=34∧p=1 then (i,6) else
   if (rd l n (.pass i p)).2=0 then rd l n (.brc (rd l n (.pass i p)).1 a p) else rd l n (.pass i p)
  else (a,7)
 | n + 1,.cmd i a o b=>
  if i < l.length then
   if b=true∧bt l i=35 then rd l n (.cmd (aQ l 10 i) a o b) else
   if bx l i=true then rd l n (.cmd (i + 2) a o b) else
   if bt l i=41∧o=1 then (i + 1,0) else
   if (rd l n (.pass i 0)).2=0 then rd l n (.cmd (rd l n (.pass i 0)).1 a (bD (bt l i) o) (bu (bt l i))) else rd l n (.pass i 0)
  else (a,7)
 | n + 1,.ari i a o=>
  if i < l.length then
   if bt l i=41∧o=0 then (if i + 1=l.length then (a,7) else if bt l (i + 1)=41 then (i + 2,0) else (i,6)) else
   if (rd l n (.pass i 2)).2=0 then rd l n (.ari (rd l n (.pass i 2)).1 a (bD (bt l i) o)) else rd l n (.pass i 2)
  else (a,7)
theorem eK (l:List UInt8) (c i:Nat):i≤aQ l c i:=lJ _ _ _
theorem fc {l:List UInt8}{c i:Nat} (h:i≤l.length):aQ l c i≤l.length:=Ii h
theorem gn {l:List UInt8}{i:Nat} (h:i≤l.length):bm l i≤l.length:=Ii h
theorem qf {l:List UInt8}{c i:Nat} (h:i < l.length) (hc:bt l i≠c):i < aQ l c i:=by
 unfold aQ; rw [jE h (by simpa using hc)]; exact lJ _ _ _
theorem hJ (l:List UInt8):∀(n:Nat) (t:aV),t.ok l→(rd l n t).1≤l.length∧((rd l n t).2=0→t.at < (rd l n t).1):=by
 intro n
 induction n with
 | zero=>
  intro t ok;cases t<;>simp only [aV.ok] at ok<;>simp only [rd,aV.at]<;>first | omega | (have:=dD ok; omega)
 | succ n ih=>
  intro t ok;cases t with
  | pass a p=>
   simp only [aV.ok] at ok;have h1:=ih (.bq (a + 1) a) ⟨ok,ok⟩;have h2:=ih (.dbl (a + 1) a) ⟨ok,ok⟩;have h3:=fun h=>ih (.exp a p) h;have h4:=eK l 39 (a + 1);simp only [aV.at,aV.ok] at *;unfold rd
   (repeat' split)<;>first | omega | (have:=h3 (by assumption); omega)
  | exp a p=>
   have hl:=dD ok;have h1:=ih (.brc (a + 2) a p) ⟨hl,by omega⟩;have h2:=fun h:a + 2 < l.length=>ih (.ari (a + 3) a 0) ⟨h,by omega⟩;have h3:=ih (.cmd (a + 2) a 1 true) ⟨hl,by omega⟩;have h4:=tY ok;have h5:bm l (a + 1)≤l.length:=gn (by omega);simp only [aV.at] at *;unfold rd
   (repeat' split)<;>first | omega | (have:=h2 (by omega); omega) | (have:=h4 (by assumption) (by assumption) (by simp_all); omega)
  | bq i a=>
   simp only [aV.ok] at ok;have h1:=fun h:i + 2≤l.length=>ih (.bq (i + 2) a) ⟨h,ok.2⟩;have h2:=fun h:i + 1≤l.length=>ih (.bq (i + 1) a) ⟨h,ok.2⟩;simp only [aV.at] at *;unfold rd
   (repeat' split)<;>first | omega | (have:=h1 (by omega); omega) | (have:=h2 (by omega); omega)
  | dbl i a=>
   simp only [aV.ok] at ok;have h1:=fun h:i < l.length=>ih (.pass i 1) h;have h2:=fun h:(rd l n (.pass i 1)).1≤l.length=>ih (.dbl (rd l n (.pass i 1)).1 a) ⟨h,ok.2⟩;simp only [aV.at] at *;unfold rd
   (repeat' split)<;>first | omega | (have h1:=h1 (by assumption); first | omega | (have:=h2 h1.1; omega))
  | brc i a p=>
   simp only [aV.ok] at ok;have h1:=fun h:i < l.length=>ih (.pass i p) h;have h2:=fun h:(rd l n (.pass i p)).1≤l.length=>ih (.brc (rd l n (.pass i p)).1 a p) ⟨h,ok.2⟩;simp only [aV.at] at *;unfold rd
   (repeat' split)<;>first | omega | (have h1:=h1 (by assumption); first | omega | (have:=h2 h1.1; omega))
  | cmd i a o b=>
   simp only [aV.ok] at ok;have h1:=fun h:i < l.length=>ih (.pass i 0) h;have h2:=fun h:(rd l n (.pass i 0)).1≤l.length=>ih (.cmd (rd l n (.pass i 0)).1 a (bD (bt l i) o) (bu (bt l i))) ⟨h,ok.2⟩;have h3:=fun h:i + 2≤l.length=>ih (.cmd (i + 2) a o b) ⟨h,ok.2⟩;have h4:=ih (.cmd (aQ l 10 i) a o b) ⟨fc ok.1,ok.2⟩;have h5:=eK l 10 i;simp only [aV.at] at *;unfold rd
   (repeat' split)<;>first | omega | (have hj:=dx (by assumption); have:=h3 (by omega); omega) | (have h1:=h1 (by assumption); first | omega | (have:=h2 h1.1; omega))
  | ari i a o=>
   simp only [aV.ok] at ok;have h1:=fun h:i < l.length=>ih (.pass i 2) h;have h2:=fun h:(rd l n (.pass i 2)).1≤l.length=>ih (.ari (rd l n (.pass i 2)).1 a (bD (bt l i) o)) ⟨h,ok.2⟩;simp only [aV.at] at *;unfold rd
   (repeat' split)<;>first | omega | (have h1:=h1 (by assumption); first | omega | (have:=h2 h1.1; omega))
end Go.Mir
namespace Go.Mir
inductive aJ where
 | mk (kind:Int) (text:List UInt8) (op:Int) (colon:Bool) (parts:List aJ)
def aJ.kind:aJ→Int | .mk k _ _ _ _=>k
def aJ.text:aJ→List UInt8 | .mk _ t _ _ _=>t
def aJ.op:aJ→Int | .mk _ _ o _ _=>o
def aJ.colon:aJ→Bool | .mk _ _ _ c _=>c
def aJ.parts:aJ→List aJ | .mk _ _ _ _ p=>p
def ck (t:List UInt8):aJ:=.mk 1 t 0 false []
def fX (t:List UInt8):aJ:=.mk 2 t 0 false []
def j7 (t:List UInt8):aJ:=.mk 5 t 0 false []
def dr:aJ:=.mk 7 [] 0 false []
def dY (t:List UInt8):aJ:=.mk 4 t 0 false []
def eE (p:Nat):Bool:=p == 0 || p == 1
def rq (p:Nat):Nat:=if p=0∨p=1 then 0 else if p=2∨p=3 then 1 else 2
def cX (p:Nat):Nat:=if p=0∨p=1 then 1 else if p=2∨p=3 then 3 else 6
def sub (l:List UInt8) (a b:Nat):List UInt8:=(l.drop a).take (b - a)
def fx (l:List aJ) (t:List UInt8):List aJ:=match l.getLast? with
 | some p=>if p.kind=1 then l.dropLast ++ [ck (p.text ++ t)] else l ++ [ck t]
 | none=>[ck t]
def dO (l:List aJ) (p:aJ):List aJ:=if p.kind=1 then fx l p.text else l ++ [p]
def ef (c p o:Nat):Bool:=((p == 1 || p == 3 || p == 6) && c == 125) || (p == 2 && c == 34) || (p == 4 && c == 41 && o == 0)
def ng (c p:Nat):Bool:=(c == 36 || c == 96 || c == 92) || (c == 34 && (p == 2 || p == 3)) || (c == 125 && (p == 3 || p == 6))
def wrap (t:List UInt8):List UInt8:=36 :: 40 :: (t ++ [41])
def kH:List UInt8→List UInt8
 | []=>[]
 | [c]=>[c]
 | c :: d :: l=>if c=92∧(d=96∨d=92∨d=36) then d :: kH l else c :: kH (d :: l)
def lH (t:List UInt8):List UInt8:=if t.head?=some 40 then 32 :: t else t
def Gs (l:List UInt8) (a:Nat):Int × Bool × Nat:=
 if decide (l.length≤a + 1) then (0,false,0) else
 if bt l (a + 1) == 45 then (1,true,a + 1 - a + 1) else
 if bt l (a + 1) == 61 then (2,true,a + 1 - a + 1) else
 if bt l (a + 1) == 63 then (3,true,a + 1 - a + 1) else
 if bt l (a + 1) == 43 then (4,true,a + 1 - a + 1) else (0,false,0)
def Gx (l:List UInt8) (a:Nat):Int × Bool × Nat:=
 if bt l a == 45 then (1,false,a - a + 1) else
 if bt l a == 61 then (2,false,a - a + 1) else
 if bt l a == 63 then (3,false,a - a + 1) else
 if bt l a == 43 then (4,false,a - a + 1) else
 if bt l a == 37 && (decide (a + 1 < l.length) && bt l (a + 1) == 37) then (7,false,2) else
 if bt l a == 37 then (6,false,1) else
 if bt l a == 35 && (decide (a + 1 < l.length) && bt l (a + 1) == 35) then (9,false,2) else
 if bt l a == 35 then (8,false,1) else (0,false,0)
def nR (l:List UInt8) (a:Nat):Int × Bool × Nat:=if bt l a == 58 then Gs l a else Gx l a
def dj (l:List UInt8):Nat:=l.foldl (fun v c=>10 * v + (c.toNat - 48)) 0
def mZ (l:List UInt8):Bool:=decide (l.length≤10) && !(bt l 0 == 48 && decide (1 < l.length)) && decide (dj l≤2147483647)
abbrev R:=Except (Nat × Nat) (List aJ × Nat)
inductive aT where
 | loop (a p lv fr o:Nat) (acc:List aJ)
 | part (a p lv:Nat)
 | brc (a p lv:Nat)
 | brc2 (a p lv:Nat)
def Ua:List UInt8→Nat
 | 92 :: 10 :: l=>Ua l + 2
 | _=>0
def fN (l:List UInt8) (i:Nat):Nat:=i + Ua (l.drop i)
def jC (l:List UInt8) (a p:Nat):Prop:=eE p=true∧bt l a=126∧(l.length≤fN l (a + 1)∨bt l (fN l (a + 1))=47∨p=1∧bt l (fN l (a + 1))=125)
instance (l:List UInt8) (a p:Nat):Decidable (jC l a p):=by unfold jC; infer_instance
def ly (l:List UInt8):Nat:=3 * l.length + 3
def lx (l:List UInt8) (t:aV):Nat × Nat:=rd l (ly l) t
def ik (L:Nat) (t:List UInt8):Prop:=t.length + 3≤L∧(lx (wrap t) (.pass 0 0)).2=0∧(lx (wrap t) (.pass 0 0)).1=t.length + 3∧(t=[]∨t.head?≠some 40)
instance (L:Nat) (t:List UInt8):Decidable (ik L t):=by unfold ik; infer_instance
def mY:List UInt8→Nat→Nat
 | [],_=>0
 | c :: l,v=>if ay c.toNat=true∧10 * v + (c.toNat - 48)≤2147483647 then mY l (10 * v + (c.toNat - 48)) + 1 else 0
def ax (l:List UInt8) (i:Nat):Nat:=
 if l.length≤i then i else
 if bt l i=48 then i + 1 else
 if ay (bt l i)=true then i + mY (l.drop i) 0 else
 if aF (bt l i)=true then bm l i else
 if b7 (bt l i)=true then i + 1 else i
def one (p:aJ) (j:Nat):R:=.ok ([p],j)
def ii (l:List UInt8) (a p:Nat):R:=
 if a + 1=l.length then (if p=5 then one (ck [92]) (a + 1) else .error (a,7)) else
 if bt l (a + 1)=10 then .ok ([],a + 2) else
 if eE p=true then one (fX (sub l (a + 1) (a + 2))) (a + 2) else
 if ng (bt l (a + 1)) p=true then one (ck (sub l (a + 1) (a + 2))) (a + 2) else
 if p=4∧(bt l (a + 1)=40∨bt l (a + 1)=41) then .error (a,6) else one (ck (sub l a (a + 2))) (a + 2)
def fJ (L:Nat) (l:List UInt8) (a:Nat):R:=
 let r:=lx l (.bq (a + 1) a);let t:=lH (kH (sub l (a + 1) (r.1 - 1)))
 if r.2≠0 then .error r else if ik L t then one (j7 t) r.1 else if ik L (t ++ [10]) then one (j7 (t ++ [10])) r.1 else .error (a,6)
def wd (L:Nat) (l:List UInt8):Nat→aT→R
 | 0,_=>.error (0,0)
 | n + 1,.loop a p lv fr o acc=>
  if a < l.length then
   if ef (bt l a) p o=true then
    if p=4 then (if a + 1=l.length then .error (fr,7) else if bt l (a + 1)=41 then .ok (acc,a) else .error (a,6)) else .ok (acc,a)
   else if acc.isEmpty=true∧jC l a p then wd L l n (.loop (a + 1) p lv fr o [dr])
   else match wd L l n (.part a p lv) with
    | .error x=>.error x
    | .ok (ps,j)=>wd L l n (.loop j p lv fr (if p=4 then bD (bt l a) o else o) (ps.foldl dO acc))
  else if p=0∨p=5 then .ok (acc,a) else .error (fr,7)
 | n + 1,.part a p lv=>
  if bt l a=92 then ii l a p else
  if bt l a=96 then fJ L l a else
  if bt l a=36 then
   if ch l a=true then
    if bt l (a + 1)=123 then wd L l n (.brc a p lv) else
    if bt l (a + 1)=40 then
     if a + 2 < l.length∧bt l (a + 2)=40 then
      if 32≤lv then .error (a,5) else match wd L l n (.loop (a + 3) 4 (lv + 1) a 0 []) with
      | .error x=>.error x
      | .ok (ps,j)=>one (.mk 6 [] 0 false ps) (j + 2)
     else
      let r:=lx l (.cmd (a + 2) a 1 true)
      if r.2=0 then one (j7 (sub l (a + 2) (r.1 - 1))) r.1 else .error r
    else if b7 (bt l (a + 1))=true then one (dY (sub l (a + 1) (a + 2))) (a + 2) else
    if 32 < bm l (a + 1) - (a + 1) then .error (a,3) else one (dY (sub l (a + 1) (bm l (a + 1)))) (bm l (a + 1))
   else if eE p=true∧((a + 1 < l.length∧bt l (a + 1)=96)∨bx l (a + 1)=true) then .error (a,6) else one (ck [36]) (a + 1)
  else if eE p=true∧bt l a=39 then (if aQ l 39 (a + 1) < l.length then one (fX (sub l (a + 1) (aQ l 39 (a + 1)))) (aQ l 39 (a + 1) + 1) else .error (a,7))
  else if eE p=true∧bt l a=34 then
   if 32≤lv then .error (a,5) else match wd L l n (.loop (a + 1) 2 (lv + 1) a 0 []) with
    | .error x=>.error x
    | .ok (ps,j)=>one (.mk 3 [] 0 false ps) (j + 1)
  else if p=0∧bu (bt l a)=true then .error (a,6)
  else if p=3∧bt l a=34 then .error (a,6)
  else one (ck (sub l a (a + 1))) (a + 1)
 | n + 1,.brc a p lv=>
  let j:=ax l (a + 3)
  if a + 2 < l.length∧bt l (a + 2)=35 then
   if 32 < j - (a + 3) then .error (a + 3,3) else
   if a + 3 < j∧j < l.length∧bt l j=125 then one (.mk 4 (sub l (a + 3) j) 5 false []) (j + 1) else
   if a + 3 < j∧j=l.length then .error (a,7) else wd L l n (.brc2 a p lv)
  else wd L l n (.brc2 a p lv)
 | n + 1,.brc2 a p lv=>
  let j:=ax l (a + 2);let q:=nR l j
  if 32 < j - (a + 2) then .error (a + 2,3) else
  if l.length≤j then .error (a,7) else
  if j=a + 2 then .error (a + 2,6) else
  if bt l j=125 then one (dY (sub l (a + 2) j)) (j + 1) else
  if q.1=0 then
   if bt l j=58 then (if j + 1=l.length then .error (a,7) else .error (j + 1,6)) else
   if bt l (a + 2)=35 then .error (ax l (a + 3),6) else .error (j,6)
  else if 32≤lv then .error (j,5) else
  if bx l (j + q.2.2)=true then .error (j + q.2.2,6) else
  match wd L l n (.loop (j + q.2.2) (cX p) (lv + 1) a 0 []) with
   | .error x=>.error x
   | .ok (ps,i)=>one (.mk 4 (sub l (a + 2) j) q.1 q.2.1 ps) (i + 1)
theorem qq (l:List UInt8) (c:UInt8):dj (l ++ [c])=10 * dj l + (c.toNat - 48):=by
 unfold dj; rw [List.foldl_append]; rfl
theorem uO {l:List UInt8}{i:Nat} (h:i < l.length):l.take (i + 1)=l.take i ++ [l[i]]:=by
 rw [List.take_add_one,List.getElem?_eq_getElem h]; rfl
theorem jd {l:List UInt8}{i:Nat} (h:i < l.length):dj (l.take (i + 1))=10 * dj (l.take i) + (bt l i - 48):=by
 rw [uO h,qq,cf h]
theorem pO {c:Nat} (h:ay c=true) : 48≤c∧c≤57:=by
 unfold ay at h; simp at h; exact h
theorem EF {l:List UInt8} (hd:∀i,i < l.length→ay (bt l i)=true):∀n,n≤l.length→dj (l.take n) < 10 ^ n:=by
 intro n
 induction n with
 | zero=>intro _; simp [dj]
 | succ n ih=>
  intro h;have h1:=ih (by omega);have h2:=pO (hd n (by omega));rw [jd (by omega),Nat.pow_succ];omega
theorem uK {l:List UInt8} (hd:∀i,i < l.length→ay (bt l i)=true) (h0:bt l 0≠48):∀n,n < l.length→10 ^ n≤dj (l.take (n + 1)):=by
 intro n
 induction n with
 | zero=>
  intro h;have h2:=pO (hd 0 h);rw [jd h];simp [dj];omega
 | succ n ih=>
  intro h;have h1:=ih (by omega);rw [jd h,Nat.pow_succ];omega
theorem de {l:List UInt8}{a e:Nat} (h:e≤l.length):(sub l a e).length=e - a:=by
 unfold sub; rw [List.length_take,List.length_drop]; omega
theorem pY {l:List UInt8}{a e k:Nat} (h:e≤l.length) (hk:k < e - a):bt (sub l a e) k=bt l (a + k):=by
 unfold bt sub;rw [List.getD_eq_getElem?_getD,List.getD_eq_getElem?_getD,List.getElem?_take,if_pos hk,List.getElem?_drop]
theorem F4 {l:List UInt8}{a e:Nat} (h:a≤e) (hl:e < l.length):sub l a (e + 1)=sub l a e ++ [l[e]]:=by
 unfold sub;have h1:e + 1 - a=(e - a) + 1:=by omega
 rw [h1,uO (l:=l.drop a) (i:=e - a) (by rw [List.length_drop]; omega),List.getElem_drop];congr 2;congr 1;omega
theorem Cb {l:List UInt8}{a e:Nat} (h:a≤e) (hl:e < l.length):dj (sub l a (e + 1))=10 * dj (sub l a e) + (bt l e - 48):=by
 rw [F4 h hl,qq,cf hl]
theorem NI {t:List UInt8} (hne : 0 < t.length) (hd:∀i,i < t.length→ay (bt t i)=true) (h0:bt t 0≠48):mZ t=decide (dj t≤2147483647):=by
 unfold mZ;have e0:(bt t 0 == 48)=false:=beq_eq_false_iff_ne.2 h0;rw [e0,Bool.false_and,Bool.not_false,Bool.and_true];cases c:decide (t.length≤10) with
 | true=>rw [Bool.true_and]
 | false=>
  have hl:=of_decide_eq_false c;have h1:=uK hd h0 10 (by omega);have h2:=uK hd h0 (t.length - 1) (by omega);have h3 : 10 ^ 10≤10 ^ (t.length - 1):=Nat.pow_le_pow_right (by omega) (by omega);rw [show t.length - 1 + 1=t.length by omega,List.take_length] at h2;have hp2:(10:Nat) ^ 10=10000000000:=rfl;rw [Bool.false_and];exact (decide_eq_false (by omega)).symm
theorem yS {l:List UInt8}{i:Nat} (h:bx l i=false):fN l i=i:=by
 have e:Ua (l.drop i)=0:=by
  unfold Ua;split
  ·rename_i m hm;exfalso;have h1:i + 1 < l.length:=by
    have:=congrArg List.length hm;rw [List.length_drop] at this; simp at this; omega
   rw [dp (by omega),dp h1] at hm;injection hm with e1 hm; injection hm with e2 _;unfold bx at h;rw [cf (by omega),cf h1,e1,e2] at h;simp at h; omega
  ·rfl
 unfold fN; rw [e]; rfl
theorem yD {l:List UInt8}{i:Nat} (h:bx l i=true):fN l i=fN l (i + 2):=by
 have h1:=dx h;obtain⟨d1,d2⟩:=sT h;have e1:l[i]=92:=UInt8.toNat_inj.1 (by rw [← cf (by omega),d1]; rfl);have e2:l[i + 1]=10:=UInt8.toNat_inj.1 (by rw [← cf h1,d2]; rfl);unfold fN;rw [dp (l:=l) (i:=i) (by omega),dp h1,e1,e2];show i + (Ua (l.drop (i + 2)) + 2)=_;omega
theorem iJ {l:List UInt8}{i v:Nat} (h:l.length≤i∨ay (bt l i)=false∨2147483647 < 10 * v + (bt l i - 48)):mY (l.drop i) v=0:=by
 by_cases hi:l.length≤i
 ·rw [List.drop_eq_nil_of_le hi]; rfl
 ·rw [dp (by omega)];unfold mY;rw [← cf (by omega),if_neg];rintro⟨h1,h2⟩;rcases h with h | h | h
  ·omega
  ·rw [h1] at h; cases h
  ·omega
theorem vP {l:List UInt8}{i v:Nat} (h:i < l.length) (h1:ay (bt l i)=true) (h2 : 10 * v + (bt l i - 48)≤2147483647):mY (l.drop i) v=mY (l.drop (i + 1)) (10 * v + (bt l i - 48)) + 1:=by
 rw [dp h]
 conv=>lhs; unfold mY
 rw [← cf h,if_pos ⟨h1,h2⟩]
def rP:R→List aJ
 | .ok q=>q.1
 | .error _=>[]
def rA:R→Nat
 | .ok q=>q.2
 | .error x=>x.1
def rE:R→Nat
 | .ok _=>0
 | .error x=>x.2
theorem jq {l:List UInt8}{t:aV} (ok:t.ok l):(lx l t).1≤l.length∧((lx l t).2=0→t.at < (lx l t).1):=hJ l _ t ok
theorem Kf (l:List UInt8) (v:Nat):mY l v≤l.length:=by
 induction l generalizing v with
 | nil=>exact Nat.le_refl _
 | cons c l ih=>
  unfold mY;split
  ·have:=ih (10 * v + (c.toNat - 48)); rw [List.length_cons]; omega
  ·omega
theorem fA {l:List UInt8}{i:Nat} (h:i≤l.length):i≤ax l i∧ax l i≤l.length:=by
 have h1:=Kf (l.drop i) 0;rw [List.length_drop] at h1;have h2:bm l i≤l.length:=gn h;have h3:i≤bm l i:=lJ _ _ _;unfold ax
 (repeat' split)<;>omega
def aT.ok (l:List UInt8):aT→Prop
 | .loop a _ _ _ _ _=>a≤l.length
 | .part a _ _=>a < l.length
 | .brc a _ _ | .brc2 a _ _=>a + 1 < l.length
def aT.at:aT→Nat
 | .loop a _ _ _ _ _ | .part a _ _ | .brc a _ _ | .brc2 a _ _=>a
def aT.size (l:List UInt8):aT→Nat
 | .loop a _ _ _ _ _=>4 * (l.length - a) + 3
 | .part a _ _=>4 * (l.length - a) + 2
 | .brc a _ _=>4 * (l.length - a) + 1
 | .brc2 a _ _=>4 * (l.length - a)
def rJ (l:List UInt8) (t:aT):R→Prop
 | .error (x,e)=>e≠0∧(match t with | .loop _ _ _ fr _ _=>x≤l.length∨x=fr | _=>x≤l.length)
 | .ok (ps,j)=>match t with
  | .loop a p _ _ _ _=>a≤j∧j≤l.length∧(p≠0→p≠5→j < l.length)∧(p=4→j + 1 < l.length)
  | .part a _ _=>a < j∧j≤l.length∧ps.length≤1∧∀q∈ps,q.kind=1→0 < q.text.length∧q.text.length≤j - a
  | .brc a _ _ | .brc2 a _ _=>a < j∧j≤l.length∧ps.length≤1∧∀q∈ps,q.kind≠1
end Go.Mir
namespace Go.Mir
theorem sw (l:List UInt8) (a:Nat) (ha:a < l.length):(nR l a).1≠0→1≤(nR l a).2.2∧a + (nR l a).2.2≤l.length:=by
 unfold nR Gs Gx
 (repeat' split)<;>simp_all<;>omega
theorem lE (t:List UInt8):(ck t).kind=1∧(ck t).text=t:=⟨rfl,rfl⟩
theorem one_ok {l:List UInt8}{a p lv j:Nat}{q:aJ} (h1:a < j) (h2:j≤l.length) (h3:q.kind=1→0 < q.text.length∧q.text.length≤j - a):rJ l (.part a p lv) (one q j):=
 ⟨h1,h2,Nat.le_refl _,fun x hx hk=>by rw [List.mem_singleton] at hx; subst hx; exact h3 hk⟩
theorem BZ {l:List UInt8}{a p lv j:Nat}{q:aJ} (h1:a < j) (h2:j≤l.length) (h3:q.kind≠1):rJ l (.brc a p lv) (one q j):=
 ⟨h1,h2,Nat.le_refl _,fun x hx=>by rw [List.mem_singleton] at hx; subst hx; exact h3⟩
theorem yi {l:List UInt8}{a p lv j:Nat}{q:aJ} (h1:a < j) (h2:j≤l.length) (h3:q.kind≠1):rJ l (.brc2 a p lv) (one q j):=
 ⟨h1,h2,Nat.le_refl _,fun x hx=>by rw [List.mem_singleton] at hx; subst hx; exact h3⟩
theorem Iw {l:List UInt8}{a p lv:Nat}{r:R} (h:rJ l (.brc a p lv) r):rJ l (.part a p lv) r:=by
 cases r with
 | error x=>exact h
 | ok q=>exact⟨h.1,h.2.1,h.2.2.1,fun x hx hk=>absurd hk (h.2.2.2 x hx)⟩
theorem Au {l:List UInt8}{a p lv x e:Nat} (h:e≠0) (h2:x≤l.length):rJ l (.part a p lv) (.error (x,e)):=⟨h,h2⟩
theorem Ed {l:List UInt8}{a p lv:Nat} (ha:a < l.length):rJ l (.part a p lv) (ii l a p):=by
 have h1:=fun h=>de (l:=l) (a:=a + 1) (e:=a + 2) h;have h2:=fun h=>de (l:=l) (a:=a) (e:=a + 2) h;unfold ii
 (repeat' split)<;>first
  | exact Au (by omega) (by omega)
  | (refine one_ok (by omega) (by omega) fun _=>?_; first | (rw [(lE _).2,h1 (by omega)]; omega) | (rw [(lE _).2,h2 (by omega)]; omega) | (rw [(lE _).2]; simp; done))
  | (refine one_ok (by omega) (by omega) fun hk=>?_; cases hk; done)
  | exact⟨by omega,by omega,Nat.zero_le _,fun q hq=>by cases hq⟩
theorem DW {L:Nat}{l:List UInt8}{a p lv:Nat} (ha:a < l.length):rJ l (.part a p lv) (fJ L l a):=by
 have h1:=jq (l:=l) (t:=.bq (a + 1) a) ⟨ha,ha⟩;simp only [aV.at] at h1;unfold fJ;simp only []
 (repeat' split)<;>first
  | exact⟨by assumption,h1.1⟩
  | exact Au (by omega) (by omega)
  | (refine one_ok (by omega) (by omega) fun hk=>?_; cases hk; done)
theorem fw (L:Nat) (l:List UInt8):∀(n:Nat) (t:aT),t.ok l→t.size l < n→rJ l t (wd L l n t):=by
 intro n
 induction n with
 | zero=>intro t _ h; omega
 | succ n ih=>
  intro t ok hn;cases t with
  | loop a p lv fr o acc=>
   simp only [aT.ok,aT.size] at ok hn;rw [wd];by_cases ha:a < l.length
   ·rw [if_pos ha];split
    ·rename_i he;split
     ·rename_i hp
      (repeat' split)<;>simp only [rJ]<;>first | (refine⟨by omega,.inr trivial⟩) | (refine⟨by omega,.inl (by omega)⟩) | (refine⟨by omega,by omega,by omega,by omega⟩)
     ·simp only [rJ]; exact⟨by omega,by omega,by omega,by omega⟩
    ·split
     ·have h:=ih (.loop (a + 1) p lv fr o [dr]) (by simp only [aT.ok]; omega) (by simp only [aT.size]; omega);revert h;generalize wd L l n (.loop (a + 1) p lv fr o [dr])=r;cases r with
      | error x=>exact id
      | ok q=>simp only [rJ]; intro h; exact⟨by omega,h.2⟩
     ·have h:=ih (.part a p lv) ha (by simp only [aT.size]; omega);revert h;generalize wd L l n (.part a p lv)=r;cases r with
      | error x=>simp only [rJ]; exact fun h=>⟨h.1,.inl h.2⟩
      | ok q=>
       obtain⟨ps,j⟩:=q;simp only [rJ];intro hq;have h:=ih (.loop j p lv fr (if p=4 then bD (bt l a) o else o) (ps.foldl dO acc)) hq.2.1 (by simp only [aT.size]; omega);revert h;generalize wd L l n _=r;cases r with
       | error x=>exact id
       | ok q=>simp only [rJ]; intro h; exact⟨by omega,h.2⟩
   ·rw [if_neg ha];split
    ·simp only [rJ]; exact⟨by omega,by omega,by omega,by omega⟩
    ·simp only [rJ]; exact⟨by omega,.inr trivial⟩
  | part a p lv=>
   simp only [aT.ok,aT.size] at ok hn;rw [wd];have hx:=fun h:ch l a=true=>dD h;have hb:=fun h:a + 1 < l.length=>ih (.brc a p lv) h (by simp only [aT.size]; omega);have h3:=fun h:a + 3≤l.length=>ih (.loop (a + 3) 4 (lv + 1) a 0 []) h (by simp only [aT.size]; omega);have h1:=ih (.loop (a + 1) 2 (lv + 1) a 0 []) (by simp only [aT.ok]; omega) (by simp only [aT.size]; omega);have hc:=fun h:a + 1 < l.length=>jq (l:=l) (t:=.cmd (a + 2) a 1 true) ⟨h,ok⟩;have hn:=fun (h:ch l a=true) h1 h2 h3=>tY h h1 h2 h3;have hn2:=fun h:a + 1≤l.length=>gn (l:=l) (i:=a + 1) h;have hs:=de (l:=l) (a:=a) (e:=a + 1) (by omega);have ht:=eK l 39 (a + 1);simp only [aV.at] at hc
   (repeat' split)<;>first
    | exact Ed ok
    | exact DW ok
    | exact Au (by omega) (by omega)
    | (refine one_ok (by omega) (by omega) fun hk=>?_; cases hk; done)
    | (refine one_ok (by omega) (by omega) fun _=>?_; first | (rw [(lE _).2,hs]; omega) | (rw [(lE _).2]; simp; done))
    | skip
   ·exact Iw (hb (hx (by assumption)))
   ·have h:=h3 (by omega);rename_i heq;rw [heq] at h;exact⟨h.1,by rcases h.2 with h | h<;>omega⟩
   ·have h:=h3 (by omega);rename_i heq;rw [heq] at h;obtain⟨g1,g2,_,g4⟩:=h;have g4:=g4 rfl;exact one_ok (by omega) (by omega) fun hk=>by cases hk
   ·have hl:=hx (by assumption);have hc:=hc hl;show rJ l _ (if (lx l (.cmd (a + 2) a 1 true)).2=0 then _ else _);split
    ·exact one_ok (by omega) hc.1 fun hk=>by cases hk
    ·exact⟨by assumption,hc.1⟩
   ·have hl:=hx (by assumption);exact one_ok (by omega) (by omega) fun hk=>by cases hk
   ·have hl:=hx (by assumption);have hn:=hn (by assumption) (by assumption) (by assumption) (by simp_all);exact one_ok (by omega) (hn2 (by omega)) fun hk=>by cases hk
   ·rename_i heq;rw [heq] at h1;exact⟨h1.1,by rcases h1.2 with h | h<;>omega⟩
   ·rename_i heq;rw [heq] at h1;obtain⟨g1,g2,g3,_⟩:=h1;have g3:=g3 (by omega) (by omega);exact one_ok (by omega) (by omega) fun hk=>by cases hk
  | brc a p lv=>
   simp only [aT.ok,aT.size] at ok hn;have h:=ih (.brc2 a p lv) ok (by simp only [aT.size]; omega);have hp:=fun h:a + 3≤l.length=>fA (l:=l) (i:=a + 3) h;rw [wd]
   (repeat' split)<;>first
    | exact h
    | exact⟨by omega,by omega⟩
    | (refine BZ (by omega) (by omega) fun hk=>?_; cases hk; done)
    | (have hp:=hp (by omega); exact⟨by omega,by omega⟩)
  | brc2 a p lv=>
   simp only [aT.ok,aT.size] at ok hn;have hp:=fA (l:=l) (i:=a + 2) (by omega);have hp3:=fun h:a + 3≤l.length=>fA (l:=l) (i:=a + 3) h;have ho:=fun h=>sw l (ax l (a + 2)) h;rw [wd]
   (repeat' split)<;>first
    | exact⟨by omega,by omega⟩
    | exact BZ (by omega) (by omega) fun hk=>by cases hk
    | (have hp3:=hp3 (by omega); exact⟨by omega,by omega⟩)
    | skip
   ·exact yi (by omega) (by omega) fun hk=>by cases hk
   ·rename_i heq;have ho:=ho (by omega) (by assumption);have h:=ih (.loop (ax l (a + 2) + (nR l (ax l (a + 2))).2.2) (cX p) (lv + 1) a 0 []) ho.2 (by simp only [aT.size]; omega);rw [heq] at h;exact⟨h.1,by rcases h.2 with h | h<;>omega⟩
   ·rename_i heq;have ho:=ho (by omega) (by assumption);have h:=ih (.loop (ax l (a + 2) + (nR l (ax l (a + 2))).2.2) (cX p) (lv + 1) a 0 []) ho.2 (by simp only [aT.size]; omega);rw [heq] at h;obtain⟨g1,g2,g3,_⟩:=h;have g3:=g3 (by unfold cX; (repeat' split)<;>omega) (by unfold cX; (repeat' split)<;>omega);exact yi (by omega) (by omega) fun hk=>by cases hk
end Go.Mir
namespace Go.Mir
def Tl (t:List UInt8):Prop:=t.length≤1∨ay (bt t 0)=false∨∀i,i < t.length→ay (bt t i)=true
def TF (t:List UInt8):Prop:=Tl t∧t≠[]
inductive Gd (N:Nat):aJ→Prop where
 | mk {k t o c ps} (hk : 1≤k∧k≤7) (ho:k=4→0≤o∧o≤9∧TF t) (h:ps.length≤N) (hs:∀q∈ps,Gd N q):Gd N (.mk k t o c ps)
theorem Gd.nil {N:Nat}{k:Int}{t:List UInt8}{o:Int}{c:Bool} (hk : 1≤k∧k≤7) (h4:k=4→0≤o∧o≤9∧TF t):∀q∈[aJ.mk k t o c []],Gd N q:=fun q hq=>by
 cases hq with
 | head=>exact .mk hk h4 (Nat.zero_le _) fun q hq=>by cases hq
 | tail _ h=>cases h
theorem Gd.text {N:Nat}{t:List UInt8} : ∀q∈[ck t],Gd N q:=Gd.nil (by decide) fun h=>by cases h
theorem Gd.sub {N:Nat}{k:Int}{t:List UInt8}{o:Int}{c:Bool}{ps:List aJ} (hk : 1≤k∧k≤7) (h4:k=4→0≤o∧o≤9∧TF t) (h:ps.length≤N) (hs:∀q∈ps,Gd N q):∀q∈[aJ.mk k t o c ps],Gd N q:=fun q hq=>by
 cases hq with
 | head=>exact .mk hk h4 h hs
 | tail _ h=>cases h
def aT.pre (N:Nat):aT→Prop
 | .loop a _ _ _ _ acc=>acc.length≤a∧∀q∈acc,Gd N q
 | _=>True
def WG (N:Nat):aT→R→Prop
 | .loop _ _ _ _ _ _,.ok x=>x.1.length≤x.2∧∀q∈x.1,Gd N q
 | _,.ok x=>∀q∈x.1,Gd N q
 | _,.error _=>True
theorem Im {N:Nat}{l:List aJ}{t:List UInt8} (h:∀q∈l,Gd N q):(fx l t).length≤l.length + 1∧∀q∈fx l t,Gd N q:=by
 unfold fx;split
 ·split
  ·refine⟨by simp only [List.length_append,List.length_dropLast,List.length_cons,List.length_nil]; omega,fun q hq=>?_⟩;rcases List.mem_append.1 hq with hq | hq
   ·exact h q (List.dropLast_subset _ hq)
   ·exact Gd.text q hq
  ·refine⟨by simp only [List.length_append,List.length_cons,List.length_nil]; omega,fun q hq=>?_⟩;rcases List.mem_append.1 hq with hq | hq
   ·exact h q hq
   ·exact Gd.text q hq
 ·exact⟨by simp only [List.length_cons,List.length_nil]; omega,Gd.text⟩
theorem IX {N:Nat}{l:List aJ}{p:aJ} (h:∀q∈l,Gd N q) (hp:Gd N p):(dO l p).length≤l.length + 1∧∀q∈dO l p,Gd N q:=by
 unfold dO;split
 ·exact Im h
 ·refine⟨by simp only [List.length_append,List.length_cons,List.length_nil]; omega,fun q hq=>?_⟩;rcases List.mem_append.1 hq with hq | hq
  ·exact h q hq
  ·cases hq with
   | head=>exact hp
   | tail _ h=>cases h
theorem Ke {N:Nat}{l ps:List aJ} (h1:ps.length≤1) (h:∀q∈l,Gd N q) (hp:∀q∈ps,Gd N q):(ps.foldl dO l).length≤l.length + 1∧∀q∈ps.foldl dO l,Gd N q:=by
 match ps,h1 with
 | [],_=>exact⟨Nat.le_succ _,h⟩
 | [p],_=>exact IX h (hp p (List.mem_cons_self ..))
theorem wi {l:List UInt8}{a:Nat} : Tl (sub l a (a + 1)):=.inl (by unfold sub; rw [List.length_take]; omega)
theorem y4 {l:List UInt8}{a e:Nat} (ha:a < l.length) (he:e≤l.length) (hd:ay (bt l a)=false):Tl (sub l a e):=by
 by_cases h:a < e
 ·exact .inr (.inl (by rw [pY he (by omega)]; exact hd))
 ·exact .inl (by rw [de he]; omega)
theorem xH:∀(l:List UInt8) (v i:Nat),i < mY l v→ay (bt l i)=true
 | [],v,i,h=>by cases h
 | c :: l,v,i,h=>by
  unfold mY at h;split at h
  ·rename_i hc;cases i with
   | zero=>exact hc.1
   | succ i=>exact xH l (10 * v + (c.toNat - 48)) i (by omega)
  ·cases h
theorem xL {l:List UInt8}{i:Nat} (hi:i≤l.length):Tl (sub l i (ax l i)):=by
 have hp:=fA hi;unfold ax at hp ⊢;split
 ·exact .inl (by rw [de (by omega)]; omega)
 rename_i h0;rw [if_neg h0] at hp;split
 ·exact wi
 rename_i h1;rw [if_neg h1] at hp;split
 ·rename_i h2;rw [if_pos h2] at hp;refine .inr (.inr fun k hk=>?_);rw [de hp.2] at hk;rw [pY hp.2 hk];have:=xH (l.drop i) 0 k (by omega);rw [show bt (l.drop i) k=bt l (i + k) from by unfold bt; rw [List.getD_eq_getElem?_getD,List.getD_eq_getElem?_getD,List.getElem?_drop]] at this;exact this
 rename_i h2;rw [if_neg h2] at hp;split
 ·rename_i h3;rw [if_pos h3] at hp;exact y4 (by omega) hp.2 (by simpa using h2)
 rename_i h3;rw [if_neg h3] at hp;split
 ·exact wi
 ·exact .inl (by rw [de hi]; omega)
theorem Gt {l:List UInt8}{a:Nat} (ha:a < l.length) (hs:b7 (bt l a)=false):Tl (sub l a (bm l a)):=by
 refine y4 ha (gn (by omega)) ?_;unfold b7 at hs;simp only [Bool.or_eq_false_iff] at hs;simp_all
theorem Lf (l:List UInt8) (a:Nat) : 0≤(nR l a).1∧(nR l a).1≤9:=by
 unfold nR Gs Gx
 (repeat' split)<;>(simp only; omega)
theorem Qr (L:Nat) (l:List UInt8):∀(n:Nat) (t:aT),t.ok l→t.size l < n→t.pre l.length→WG l.length t (wd L l n t):=by
 intro n
 induction n with
 | zero=>intro t _ h; omega
 | succ n ih=>
  intro t ok hn pr;cases t with
  | loop a p lv fr o acc=>
   simp only [aT.ok,aT.size] at ok hn;rw [wd];by_cases ha:a < l.length
   ·rw [if_pos ha];split
    ·split
     ·(repeat' split)<;>first | trivial | exact pr
     ·exact pr
    ·split
     ·have h:=ih (.loop (a + 1) p lv fr o [dr]) (by simp only [aT.ok]; omega) (by simp only [aT.size]; omega) ⟨Nat.succ_le_succ (Nat.zero_le _),Gd.nil (by decide) fun h=>by cases h⟩;generalize wd L l n (.loop (a + 1) p lv fr o [dr])=r at *;cases r with
      | error x=>trivial
      | ok q=>exact h
     ·have h:=ih (.part a p lv) ha (by simp only [aT.size]; omega) trivial;have hw:=fw L l n (.part a p lv) ha (by simp only [aT.size]; omega);generalize wd L l n (.part a p lv)=r at *;rcases r with x | ⟨ps,j⟩
      ·trivial
      ·obtain⟨w1,w2,w3,_⟩:=hw;have hf:=Ke w3 pr.2 h;have hp1:=pr.1;have h:=ih (.loop j p lv fr (if p=4 then bD (bt l a) o else o) (ps.foldl dO acc)) w2 (by simp only [aT.size]; omega) ⟨by have:=hf.1; omega,hf.2⟩;simp only;generalize wd L l n _=r at *;cases r with
       | error x=>trivial
       | ok q=>exact h
   ·rw [if_neg ha];split
    ·exact pr
    ·trivial
  | part a p lv=>
   simp only [aT.ok,aT.size] at ok hn;rw [wd];have hx:=fun h:ch l a=true=>dD h;have hb:=fun h:a + 1 < l.length=>ih (.brc a p lv) h (by simp only [aT.size]; omega) trivial;have h3:=fun h:a + 3≤l.length=>ih (.loop (a + 3) 4 (lv + 1) a 0 []) h (by simp only [aT.size]; omega) ⟨Nat.zero_le _,fun q hq=>by cases hq⟩;have h3w:=fun h:a + 3≤l.length=>fw L l n (.loop (a + 3) 4 (lv + 1) a 0 []) h (by simp only [aT.size]; omega);have h1:=ih (.loop (a + 1) 2 (lv + 1) a 0 []) (by simp only [aT.ok]; omega) (by simp only [aT.size]; omega) ⟨Nat.zero_le _,fun q hq=>by cases hq⟩;have h1w:=fw L l n (.loop (a + 1) 2 (lv + 1) a 0 []) (by simp only [aT.ok]; omega) (by simp only [aT.size]; omega);have g1:∀t j,WG l.length (.part a p lv) (one (ck t) j):=fun t j=>Gd.text;have g2:∀t j,WG l.length (.part a p lv) (one (fX t) j):=fun t j=>Gd.nil (by decide) fun h=>by cases h
   have g5:∀t j,WG l.length (.part a p lv) (one (j7 t) j):=fun t j=>Gd.nil (by decide) fun h=>by cases h
   have g4:∀t j,TF t→WG l.length (.part a p lv) (one (dY t) j):=fun t j h=>Gd.nil (by decide) fun _=>⟨by decide,by decide,h⟩
   have hb2:WG l.length (.part a p lv) (ii l a p):=by
    unfold ii
    (repeat' split)<;>first | trivial | exact g1 _ _ | exact g2 _ _ | exact fun q hq=>by cases hq
   have hq2:WG l.length (.part a p lv) (fJ L l a):=by
    unfold fJ;simp only []
    (repeat' split)<;>first | trivial | exact g5 _ _
   by_cases c1:bt l a=92
   ·rw [if_pos c1]; exact hb2
   rw [if_neg c1];by_cases c2:bt l a=96
   ·rw [if_pos c2]; exact hq2
   rw [if_neg c2];by_cases c3:bt l a=36
   ·rw [if_pos c3];by_cases c4:ch l a=true
    ·rw [if_pos c4];have hl:=hx c4;by_cases c5:bt l (a + 1)=123
     ·rw [if_pos c5];have h:=hb hl;generalize wd L l n (.brc a p lv)=r at *;cases r with
      | error x=>trivial
      | ok q=>exact h
     rw [if_neg c5];by_cases c6:bt l (a + 1)=40
     ·rw [if_pos c6];by_cases c7:a + 2 < l.length∧bt l (a + 2)=40
      ·rw [if_pos c7];by_cases c8 : 32≤lv
       ·rw [if_pos c8]; trivial
       rw [if_neg c8];have h:=h3 (by omega);have hw:=h3w (by omega);generalize wd L l n (.loop (a + 3) 4 (lv + 1) a 0 [])=r at *;rcases r with x | ⟨ps,j⟩
       ·trivial
       ·exact Gd.sub (by decide) (fun h=>by cases h) (Nat.le_trans h.1 (by have:=hw.2; omega)) h.2
      ·rw [if_neg c7];show WG _ _ (if (lx l (.cmd (a + 2) a 1 true)).2=0 then _ else _);split
       ·exact g5 _ _
       ·trivial
     rw [if_neg c6];by_cases c7:b7 (bt l (a + 1))=true
     ·rw [if_pos c7]; exact g4 _ _ ⟨wi,fun e=>by have:=congrArg List.length e; rw [de (by omega)] at this; simp at this⟩
     rw [if_neg c7];split
     ·trivial
     ·exact g4 _ _ ⟨Gt hl (by simpa using c7),fun e=>by have h1:=tY c4 c5 c6 (by simpa using c7); have h2:bm l (a + 1)≤l.length:=gn (by omega); have:=congrArg List.length e; rw [de h2] at this; simp at this; omega⟩
    ·rw [if_neg c4];split
     ·trivial
     ·exact g1 _ _
   rw [if_neg c3];by_cases c4:eE p=true∧bt l a=39
   ·rw [if_pos c4];split
    ·exact g2 _ _
    ·trivial
   rw [if_neg c4];by_cases c5:eE p=true∧bt l a=34
   ·rw [if_pos c5];split
    ·trivial
    generalize wd L l n (.loop (a + 1) 2 (lv + 1) a 0 [])=r at *;rcases r with x | ⟨ps,j⟩
    ·trivial
    ·exact Gd.sub (by decide) (fun h=>by cases h) (Nat.le_trans h1.1 (by have:=h1w.2; omega)) h1.2
   rw [if_neg c5]
   (repeat' split)<;>first | trivial | exact g1 _ _
  | brc a p lv=>
   simp only [aT.ok,aT.size] at ok hn;have h:=ih (.brc2 a p lv) ok (by simp only [aT.size]; omega) trivial;have h2:WG l.length (.brc a p lv) (wd L l n (.brc2 a p lv)):=by
    generalize wd L l n (.brc2 a p lv)=r at *;cases r with
    | error x=>trivial
    | ok q=>exact h
   rw [wd]
   (repeat' split)<;>first | trivial | exact h2 | exact Gd.nil (by decide) fun _=>⟨by decide,by decide,xL (by omega),fun e=>by have:=congrArg List.length e; rw [de (by omega)] at this; simp at this; omega⟩
  | brc2 a p lv=>
   simp only [aT.ok,aT.size] at ok hn;have hp:=fA (l:=l) (i:=a + 2) (by omega);have ho:=fun h=>sw l (ax l (a + 2)) h;have hr:=Lf l (ax l (a + 2));have hg0:=xL (l:=l) (i:=a + 2) (by omega);rw [wd];by_cases c1 : 32 < ax l (a + 2) - (a + 2)
   ·rw [if_pos c1]; trivial
   rw [if_neg c1];by_cases c2:l.length≤ax l (a + 2)
   ·rw [if_pos c2]; trivial
   rw [if_neg c2];by_cases c3:ax l (a + 2)=a + 2
   ·rw [if_pos c3]; trivial
   rw [if_neg c3];have hg:TF (sub l (a + 2) (ax l (a + 2))):=⟨hg0,fun e=>by have:=congrArg List.length e; rw [de hp.2] at this; simp at this; omega⟩
   by_cases c4:bt l (ax l (a + 2))=125
   ·rw [if_pos c4]; exact Gd.nil (by decide) fun _=>⟨by decide,by decide,hg⟩
   rw [if_neg c4];by_cases c5:(nR l (ax l (a + 2))).1=0
   ·rw [if_pos c5]
    (repeat' split)<;>trivial
   rw [if_neg c5];have ho:=ho (by omega) c5;by_cases c6 : 32≤lv
   ·rw [if_pos c6]; trivial
   rw [if_neg c6];by_cases c7:bx l (ax l (a + 2) + (nR l (ax l (a + 2))).2.2)=true
   ·rw [if_pos c7]; trivial
   rw [if_neg c7];have h:=ih (.loop (ax l (a + 2) + (nR l (ax l (a + 2))).2.2) (cX p) (lv + 1) a 0 []) ho.2 (by simp only [aT.size]; omega) ⟨Nat.zero_le _,fun q hq=>by cases hq⟩;have hw:=fw L l n (.loop (ax l (a + 2) + (nR l (ax l (a + 2))).2.2) (cX p) (lv + 1) a 0 []) ho.2 (by simp only [aT.size]; omega);generalize wd L l n (.loop (ax l (a + 2) + (nR l (ax l (a + 2))).2.2) (cX p) (lv + 1) a 0 [])=r at *;rcases r with x | ⟨ps,j⟩
   ·trivial
   ·exact Gd.sub (by decide) (fun _=>⟨hr.1,hr.2,hg⟩) (Nat.le_trans h.1 (by have:=hw.2; omega)) h.2
end Go.Mir
namespace Go.Mir
def dG (t:List UInt8):Bool:=!t.isEmpty && decide (t.length≤32) && !ay (bt t 0) && t.all fun c=>aF c.toNat
def kr (t:List UInt8):Nat:=if decide (bm t 0 < t.length) && bt t (bm t 0) == 61 && dG (t.take (bm t 0)) then bm t 0 + 1 else 0
end Go.Mir
namespace Go.Mir
def OT:List (List UInt8):=[[38,38],[124,124],[59],[59,59],[38],[124],[40],[41],[60],[62],[60,60],[60,60,45],[62,62],[60,38],[62,38],[60,62],[62,124],[10]]
def tl (t:List UInt8):Bool:=OT.any fun x=>t == x
def dh (l:List UInt8):Nat→Nat→Nat
 | 0,i=>i
 | n + 1,i=>if i < l.length then
   if bt l i=35 then aQ l 10 i else
   if bx l i=true then dh l n (i + 2) else
   if bA (bt l i)=true then dh l n (i + 1) else i
  else i
theorem nW {l:List UInt8} : ∀(n i:Nat),i≤l.length→i≤dh l n i∧dh l n i≤l.length:=by
 intro n
 induction n with
 | zero=>intro i h; exact⟨Nat.le_refl _,h⟩
 | succ n ih=>
  intro i h;rw [dh];have h4:=eK l 10 i;have h5:aQ l 10 i≤l.length:=fc h;have hj:=fun h:bx l i=true=>dx h;have h1:=fun h:i + 1≤l.length=>ih (i + 1) h;have h2:=fun h:i + 2≤l.length=>ih (i + 2) h
  (repeat' split)<;>first | omega | (rename_i hjj _; have:=hj (by assumption); have:=h2 (by omega); omega) | (have:=hj (by assumption); have:=h2 (by omega); omega) | (have:=h1 (by omega); omega)
theorem He {l:List UInt8} : ∀(n i:Nat),i≤l.length→l.length≤i + n→dh l n i < l.length→bt l (dh l n i)≠10→bA (bt l (dh l n i))=false:=by
 intro n
 induction n with
 | zero=>intro i h h2 h3; rw [dh] at h3; omega
 | succ n ih=>
  intro i h h2;rw [dh];by_cases c:i < l.length
  ·rw [if_pos c];by_cases c1:bt l i=35
   ·rw [if_pos c1];intro h3 h4;have:=wV (q:=fun x=>x != 10) (l:=l) (l.length - i) i (by omega) h3;exact absurd (show bt l (aQ l 10 i)=10 from (by simpa using this:bt l (run (fun x=>x != 10) l i)=10)) h4
   rw [if_neg c1];by_cases c2:bx l i=true
   ·rw [if_pos c2];have:=dx c2;exact ih (i + 2) (by omega) (by omega)
   rw [if_neg c2];by_cases c3:bA (bt l i)=true
   ·rw [if_pos c3]; exact ih (i + 1) (by omega) (by omega)
   rw [if_neg c3];intro _ _;simpa using c3
  ·rw [if_neg c]; intro h3; omega
theorem Fh {l:List UInt8}{n i:Nat} (h1:bt l i≠35) (h2:bx l i=false) (h3:bA (bt l i)=false):dh l n i=i:=by
 cases n with
 | zero=>rfl
 | succ n=>rw [dh,if_neg h1,h2,h3]; simp
def ft (l:List UInt8):Nat→Nat→Nat × Nat
 | 0,i=>(i,0)
 | n + 1,i=>if i < l.length∧bu (bt l i)=false then
   if (lx l (.pass i 0)).2=0 then ft l n (lx l (.pass i 0)).1 else lx l (.pass i 0)
  else (i,0)
theorem tU {l:List UInt8} : ∀(n i:Nat),i≤l.length→(ft l n i).1≤l.length∧((ft l n i).2=0→i≤(ft l n i).1):=by
 intro n
 induction n with
 | zero=>intro i h; exact⟨h,fun _=>Nat.le_refl _⟩
 | succ n ih=>
  intro i h;rw [ft];split
  ·rename_i c;have hx:=jq (l:=l) (t:=.pass i 0) c.1;simp only [aV.at] at hx;split
   ·rename_i c2;have:=ih _ hx.1;have:=hx.2 c2;exact⟨by omega,fun h=>by have:=(ih _ hx.1).2 h; omega⟩
   ·rename_i c2;exact⟨hx.1,fun h=>absurd h c2⟩
  ·exact⟨h,fun _=>Nat.le_refl _⟩
theorem Gh {l:List UInt8}{n i:Nat} (c:i < l.length∧bu (bt l i)=false) (h0:(ft l (n + 1) i).2=0):i < (ft l (n + 1) i).1:=by
 have hx:=jq (l:=l) (t:=.pass i 0) c.1;simp only [aV.at] at hx;rw [ft,if_pos c] at h0 ⊢;split
 ·rename_i c2;rw [if_pos c2] at h0;have:=(tU n _ hx.1).2 h0;have:=hx.2 c2;omega
 ·rename_i c2;rw [if_neg c2] at h0;exact absurd h0 c2
def sx (l:List UInt8) (i:Nat):Nat:=
 if i + 3≤l.length∧tl (sub l i (i + 3))=true then 3 else
 if i + 2≤l.length∧tl (sub l i (i + 2))=true then 2 else
 if i + 1≤l.length∧tl (sub l i (i + 1))=true then 1 else 0
theorem Fe {l:List UInt8}{i:Nat} (h:i≤l.length):i + sx l i≤l.length:=by
 unfold sx; (repeat' split)<;>omega
theorem yB {l:List UInt8}{i:Nat} (h:i < l.length):sub l i (i + 1)=[l[i]]:=by
 unfold sub;rw [dp h,show i + 1 - i=1 by omega]; rfl
theorem AQ {l:List UInt8}{i:Nat} (h:i < l.length) (h2:cn (bt l i)=true):sx l i≠0:=by
 have e:tl (sub l i (i + 1))=true:=by
  rw [yB h];rw [cf h] at h2;have hc:∀n,n < 256→cn n=true→tl [UInt8.ofNat n]=true:=by decide +kernel
  have:=hc _ (UInt8.toNat_lt l[i]) h2;rwa [UInt8.ofNat_toNat] at this
 unfold sx;rw [if_pos (show i + 1≤l.length∧tl (sub l i (i + 1))=true from ⟨h,e⟩)]
 (repeat' split)<;>omega
def j9 (t:List UInt8):Bool:=t.any fun c=>c.toNat == 35
structure Tk where
 k:Nat
 p:Nat
 e:Nat
def Tk.t (l:List UInt8) (x:Tk):List UInt8:=sub l x.p x.e
def r7 (t:List UInt8):Bool:=t.all fun c=>ay c.toNat
def zq (l:List UInt8) (a:Nat) (w:Nat × Nat):Except (Nat × Nat) Tk:=
 if w.2≠0 then .error w else
 if r7 (sub l a w.1)=true∧w.1 < l.length∧(bt l w.1=60∨bt l w.1=62) then .ok ⟨4,a,w.1⟩ else .ok ⟨1,a,w.1⟩
def FI (l:List UInt8) (a:Nat):Except (Nat × Nat) Tk:=
 if a=l.length then .ok ⟨5,a,a⟩ else
 if bt l a=10 then .ok ⟨3,a,a + 1⟩ else
 if sx l a≠0 then .ok ⟨2,a,a + sx l a⟩ else zq l a (ft l l.length a)
def iO (l:List UInt8) (i:Nat):Except (Nat × Nat) Tk:=FI l (dh l l.length i)
theorem CV {l:List UInt8}{i:Nat} (hi:i≤l.length) (h1:dh l l.length i≠l.length) (h2:bt l (dh l l.length i)≠10) (h3:sx l (dh l l.length i)=0):dh l l.length i < l.length∧bu (bt l (dh l l.length i))=false∧((ft l l.length (dh l l.length i)).2=0→dh l l.length i < (ft l l.length (dh l l.length i)).1):=by
 have ha:=nW (l:=l) l.length i hi;have hlt:dh l l.length i < l.length:=by omega
 have hb:=He l.length i hi (by omega) hlt h2;have ho:cn (bt l (dh l l.length i))=false:=by
  cases h:cn (bt l (dh l l.length i)) with
  | false=>rfl
  | true=>exact absurd h3 (AQ hlt h)
 have hk:bu (bt l (dh l l.length i))=false:=by
  unfold bu;rw [hb,ho]; simp [h2]
 refine⟨hlt,hk,fun h=>?_⟩;obtain⟨n,hn⟩ : ∃n,l.length=n + 1:=⟨l.length - 1,by omega⟩
 rw [hn] at h ⊢;rw [hn] at hlt hk;exact Gh ⟨by rw [hn]; exact hlt,hk⟩ h
structure Uz (l:List UInt8) (i:Nat) (x:Tk):Prop where
 le:i≤x.p
 pe:x.p≤x.e
 el:x.e≤l.length
 lt:x.k≠5→x.p < x.e
 en:x.k=5→x.p=l.length∧x.e=l.length
 nu:x.k=4→x.e < l.length∧(bt l x.e=60∨bt l x.e=62)
 ra : 1≤x.k∧x.k≤5
theorem jS {l:List UInt8}{i:Nat} (hi:i≤l.length):match iO l i with | .ok x=>Uz l i x | .error x=>x.2≠0:=by
 have ha:=nW (l:=l) l.length i hi;have hg:=CV hi;unfold iO;generalize dh l l.length i=a at *;unfold FI;have hw:=tU (l:=l) l.length a ha.2;have ho:=Fe (l:=l) (i:=a) ha.2;by_cases c1:a=l.length
 ·rw [if_pos c1]; exact⟨ha.1,Nat.le_refl _,ha.2,fun h=>absurd rfl h,fun _=>⟨c1,c1⟩,fun h=>(by cases h),(show (1:Nat)≤5∧5≤5 by decide)⟩
 rw [if_neg c1];by_cases c2:bt l a=10
 ·rw [if_pos c2]; exact⟨ha.1,Nat.le_succ _,by show a + 1≤_; omega,fun _=>Nat.lt_succ_self _,fun h=>(by cases h),fun h=>(by cases h),(show (1:Nat)≤3∧3≤5 by decide)⟩
 rw [if_neg c2];by_cases c3:sx l a≠0
 ·rw [if_pos c3]; exact⟨ha.1,Nat.le_add_right _ _,ho,fun _=>by show a < a + sx l a; omega,fun h=>(by cases h),fun h=>(by cases h),(show (1:Nat)≤2∧2≤5 by decide)⟩
 rw [if_neg c3];obtain⟨g1,g2,g3⟩:=hg c1 c2 (by omega);generalize ft l l.length a=w at *;unfold zq;by_cases c4:w.2≠0
 ·rw [if_pos c4]; exact c4
 rw [if_neg c4];have c4:w.2=0:=by omega
 have g3:=g3 c4;by_cases c5:r7 (sub l a w.1)=true∧w.1 < l.length∧(bt l w.1=60∨bt l w.1=62)
 ·rw [if_pos c5];exact⟨ha.1,by show a≤w.1; omega,hw.1,fun _=>g3,fun h=>(by cases h),fun _=>c5.2,(show (1:Nat)≤4∧4≤5 by decide)⟩
 ·rw [if_neg c5];exact⟨ha.1,by show a≤w.1; omega,hw.1,fun _=>g3,fun h=>(by cases h),fun h=>(by cases h),(show (1:Nat)≤1∧1≤5 by decide)⟩
def fE (l:List UInt8):Nat→Nat→Except (Nat × Nat) (List Tk)
 | 0,_=>.ok []
 | n + 1,i=>match iO l i with
  | .error x=>.error x
  | .ok x=>if x.k=5 then .ok [x] else match fE l n x.e with
   | .error y=>.error y
   | .ok r=>.ok (x :: r)
theorem sg {l:List UInt8}{i:Nat} (hi:i < l.length) (h:bt l i=60∨bt l i=62):iO l i=.ok ⟨2,i,i + sx l i⟩:=by
 have h1:dh l l.length i=i:=Fh (by omega) (by
  unfold bx;have:(bt l i == 92)=false:=by rw [beq_eq_false_iff_ne]; omega
  rw [this]; simp) (by
  unfold bA;have h1:(bt l i == 9)=false:=by rw [beq_eq_false_iff_ne]; omega
  have h2:(bt l i == 32)=false:=by rw [beq_eq_false_iff_ne]; omega
  rw [h1,h2]; rfl)
 unfold iO;rw [h1];unfold FI;rw [if_neg (by omega),if_neg (by omega),if_pos];refine AQ hi ?_;rcases h with h | h<;>rw [h]<;>rfl
end Go.Mir
namespace Go.Mir
def ud:List aJ→Nat
 | []=>0
 | p :: l=>(if p.kind=1 then p.text.length else 0) + ud l
def zU (p:aJ):Nat:=if p.kind=1∨p.kind=2 then p.text.length else if p.kind=3 then ud p.parts else 0
def fS:List aJ→Nat
 | []=>0
 | p :: l=>zU p + fS l
theorem H5:∀l:List aJ,ud l≤fS l
 | []=>Nat.le_refl _
 | p :: l=>by
  have:=H5 l;rw [ud,fS];unfold zU;split
  ·rename_i h; rw [if_pos (.inl h)]; omega
  ·omega
theorem ol (b:List aJ):∀a:List aJ,fS (a ++ b)=fS a + fS b
 | []=>by rw [List.nil_append,fS,Nat.zero_add]
 | p :: a=>by rw [List.cons_append,fS,fS,ol b a,Nat.add_assoc]
theorem oe (t:List UInt8):fS [ck t]=t.length:=by
 show (if _ then _ else _) + 0=_;rw [if_pos (.inl rfl)]; rfl
theorem DN (l:List aJ) (t:List UInt8):fS (fx l t)≤fS l + t.length:=by
 unfold fx;split
 ·rename_i p hp;have he:l=l.dropLast ++ [p]:=by
   obtain⟨h0,e⟩:=List.getLast?_eq_some_iff.1 hp;rw [e]; simp
  split
  ·rename_i hk;rw [ol,oe,List.length_append];have:fS l=fS l.dropLast + p.text.length:=by
    conv=>lhs; rw [he]
    rw [ol,fS,fS,zU,if_pos (.inl hk),Nat.add_zero]
   omega
  ·rw [ol,oe]; exact Nat.le_refl _
 ·rw [oe]; omega
theorem ER (l:List aJ) (p:aJ):fS (dO l p)≤fS l + zU p:=by
 unfold dO;split
 ·rename_i hk;have:=DN l p.text;rw [zU,if_pos (.inl hk)]; exact this
 ·rw [ol,fS,fS]; omega
theorem Gl {l ps:List aJ} (h:ps.length≤1):fS (ps.foldl dO l)≤fS l + fS ps:=by
 match ps,h with
 | [],_=>exact Nat.le_refl _
 | [p],_=>have:=ER l p; rw [fS,fS]; exact this
def WT:aT→R→Prop
 | _,.error _=>True
 | .loop a _ _ _ _ acc,.ok x=>fS x.1 + a≤fS acc + x.2
 | .part a _ _,.ok x=>fS x.1 + a≤x.2
 | .brc a _ _,.ok x=>fS x.1 + a≤x.2
 | .brc2 a _ _,.ok x=>fS x.1 + a≤x.2
theorem i3 (t:aT) (x:Nat × Nat):WT t (.error x):=by cases t<;>trivial
theorem Md {k:Int}{t:List UInt8}{o:Int}{c:Bool}{ps:List aJ} (h:k≠1∧k≠2∧k≠3):fS [.mk k t o c ps]=0:=by
 simp [fS,zU,aJ.kind,h.1,h.2.1,h.2.2]
theorem Rr {t:List UInt8}{o:Int}{c:Bool}{ps:List aJ} : fS [.mk 3 t o c ps]=ud ps:=by
 simp [fS,zU,aJ.kind,aJ.parts]
theorem Bv {a p lv j:Nat}{q:aJ} (h:fS [q] + a≤j):WT (.part a p lv) (one q j):=h
theorem mE {a p lv j:Nat}{k:Int}{t:List UInt8}{o:Int}{c:Bool}{ps:List aJ} (h:k≠1∧k≠2∧k≠3) (h2:a≤j):WT (.part a p lv) (one (.mk k t o c ps) j):=by
 show fS _ + a≤j; rw [Md h]; omega
theorem KF {a p lv j:Nat}{k:Int}{t:List UInt8}{o:Int}{c:Bool}{ps:List aJ} (h:k≠1∧k≠2∧k≠3) (h2:a≤j):WT (.brc a p lv) (one (.mk k t o c ps) j):=mE (p:=p) (lv:=lv) h h2
theorem Cx {a p lv j:Nat}{k:Int}{t:List UInt8}{o:Int}{c:Bool}{ps:List aJ} (h:k≠1∧k≠2∧k≠3) (h2:a≤j):WT (.brc2 a p lv) (one (.mk k t o c ps) j):=mE (p:=p) (lv:=lv) h h2
theorem wt {a p lv j:Nat}{t:List UInt8} (h:t.length + a≤j):WT (.part a p lv) (one (ck t) j):=Bv (by rw [oe]; exact h)
theorem uV {a p lv j:Nat}{t:List UInt8} (h:t.length + a≤j):WT (.part a p lv) (one (fX t) j):=Bv (by
 show (if _ then _ else _) + 0 + a≤_;rw [if_pos (.inr rfl)]; exact h)
theorem rC (l:List UInt8) (a b:Nat):(sub l a b).length≤b - a:=by
 unfold sub; rw [List.length_take]; omega
theorem SO (L:Nat) (l:List UInt8):∀(n:Nat) (t:aT),t.ok l→t.size l < n→WT t (wd L l n t):=by
 intro n
 induction n with
 | zero=>intro t _ h; omega
 | succ n ih=>
  intro t ok hn;cases t with
  | loop a p lv fr o acc=>
   simp only [aT.ok,aT.size] at ok hn;rw [wd];by_cases ha:a < l.length
   ·rw [if_pos ha];split
    ·split
     ·(repeat' split)<;>first | exact i3 _ _ | exact Nat.le_refl _
     ·exact Nat.le_refl _
    ·split
     ·rename_i hh;have h:=ih (.loop (a + 1) p lv fr o [dr]) (by simp only [aT.ok]; omega) (by simp only [aT.size]; omega);generalize wd L l n (.loop (a + 1) p lv fr o [dr])=r at *;cases r with
      | error x=>exact i3 _ _
      | ok q=>
       have h:fS q.1 + (a + 1)≤fS [dr] + q.2:=h;rw [show fS [dr]=0 from Md (by decide)] at h;show fS q.1 + a≤_;omega
     ·have h:=ih (.part a p lv) ha (by simp only [aT.size]; omega);have hw:=fw L l n (.part a p lv) ha (by simp only [aT.size]; omega);generalize wd L l n (.part a p lv)=r at *;rcases r with x | ⟨ps,j⟩
      ·exact i3 _ _
      ·obtain⟨w1,w2,w3,_⟩:=hw;have hf:=Gl (l:=acc) w3;have h0:fS ps + a≤j:=h;have h:=ih (.loop j p lv fr (if p=4 then bD (bt l a) o else o) (ps.foldl dO acc)) w2 (by simp only [aT.size]; omega);simp only;generalize wd L l n _=r at *;cases r with
       | error x=>exact i3 _ _
       | ok q=>
        have h:fS q.1 + j≤fS (ps.foldl dO acc) + q.2:=h;show fS q.1 + a≤_;omega
   ·rw [if_neg ha];split
    ·exact Nat.le_refl _
    ·exact i3 _ _
  | part a p lv=>
   simp only [aT.ok,aT.size] at ok hn;rw [wd];have hx:=fun h:ch l a=true=>dD h;have hb:=fun h:a + 1 < l.length=>ih (.brc a p lv) h (by simp only [aT.size]; omega);have h3w:=fun h:a + 3≤l.length=>fw L l n (.loop (a + 3) 4 (lv + 1) a 0 []) h (by simp only [aT.size]; omega);have h1:=ih (.loop (a + 1) 2 (lv + 1) a 0 []) (by simp only [aT.ok]; omega) (by simp only [aT.size]; omega);have h1w:=fw L l n (.loop (a + 1) 2 (lv + 1) a 0 []) (by simp only [aT.ok]; omega) (by simp only [aT.size]; omega);have e1:=rC l (a + 1) (a + 2);have e2:=rC l a (a + 2);have e3:=rC l a (a + 1);have e4:=rC l (a + 1) (aQ l 39 (a + 1));have e5:=eK l 39 (a + 1);have e6:=(jq (l:=l) (t:=.bq (a + 1) a) ⟨by omega,by omega⟩).2;have e7:a + 1≤bm l (a + 1):=lJ _ _ _;simp only [aV.at] at e6;have hb2:WT (.part a p lv) (ii l a p):=by
    unfold ii
    (repeat' split)<;>first | exact i3 _ _ | (refine wt (p:=p) (lv:=lv) ?_; first | omega | (simp only [List.length_cons,List.length_nil]; omega)) | (refine uV (p:=p) (lv:=lv) ?_; omega) | (show 0 + a≤a + 2; omega)
   have hq2:WT (.part a p lv) (fJ L l a):=by
    unfold fJ;simp only []
    (repeat' split)<;>first | exact i3 _ _ | (refine mE (by decide) ?_; have:=e6 (by omega); omega)
   by_cases c1:bt l a=92
   ·rw [if_pos c1]; exact hb2
   rw [if_neg c1];by_cases c2:bt l a=96
   ·rw [if_pos c2]; exact hq2
   rw [if_neg c2];by_cases c3:bt l a=36
   ·rw [if_pos c3];by_cases c4:ch l a=true
    ·rw [if_pos c4];have hl:=hx c4;by_cases c5:bt l (a + 1)=123
     ·rw [if_pos c5];have h:=hb hl;generalize wd L l n (.brc a p lv)=r at *;cases r with
      | error x=>exact i3 _ _
      | ok q=>exact h
     rw [if_neg c5];by_cases c6:bt l (a + 1)=40
     ·rw [if_pos c6];by_cases c7:a + 2 < l.length∧bt l (a + 2)=40
      ·rw [if_pos c7];by_cases c8 : 32≤lv
       ·rw [if_pos c8]; exact i3 _ _
       rw [if_neg c8];have h:=h3w (by omega);generalize wd L l n (.loop (a + 3) 4 (lv + 1) a 0 [])=r at *;rcases r with x | ⟨ps,j⟩
       ·exact i3 _ _
       ·have h:a + 3≤j:=h.1;exact mE (by decide) (by omega)
      ·rw [if_neg c7];simp only [];have e8:=(jq (l:=l) (t:=.cmd (a + 2) a 1 true) ⟨by omega,by omega⟩).2;simp only [aV.at] at e8;split
       ·rename_i c9; exact mE (by decide) (by have:=e8 c9; omega)
       ·exact i3 _ _
     rw [if_neg c6]
     (repeat' split)<;>first | exact i3 _ _ | exact mE (by decide) (by omega)
    ·rw [if_neg c4];split
     ·exact i3 _ _
     ·exact wt (by simp only [List.length_cons,List.length_nil]; omega)
   rw [if_neg c3];split
   ·split
    ·exact uV (by omega)
    ·exact i3 _ _
   split
   ·split
    ·exact i3 _ _
    ·generalize wd L l n (.loop (a + 1) 2 (lv + 1) a 0 [])=r at *;rcases r with x | ⟨ps,j⟩
     ·exact i3 _ _
     ·have h:fS ps + (a + 1)≤fS [] + j:=h1;rw [fS] at h;have hq:=H5 ps;refine Bv ?_;rw [Rr];omega
   (repeat' split)<;>first | exact i3 _ _ | exact wt (by omega)
  | brc a p lv=>
   simp only [aT.ok,aT.size] at ok hn;have h:=ih (.brc2 a p lv) ok (by simp only [aT.size]; omega);have h:WT (.brc a p lv) (wd L l n (.brc2 a p lv)):=by
    generalize wd L l n (.brc2 a p lv)=r at *;cases r with
    | error x=>exact i3 _ _
    | ok q=>exact h
   rw [wd]
   (repeat' split)<;>first | exact i3 _ _ | exact h | exact KF (by decide) (by omega)
  | brc2 a p lv=>
   simp only [aT.ok,aT.size] at ok hn;rw [wd];have hj:=fA (l:=l) (i:=a + 2) (by omega);have ho:=sw l (ax l (a + 2));by_cases c0 : 32 < ax l (a + 2) - (a + 2)
   ·rw [if_pos c0]; exact i3 _ _
   rw [if_neg c0];by_cases c1:l.length≤ax l (a + 2)
   ·rw [if_pos c1]; exact i3 _ _
   rw [if_neg c1];by_cases c2:ax l (a + 2)=a + 2
   ·rw [if_pos c2]; exact i3 _ _
   rw [if_neg c2];by_cases c3:bt l (ax l (a + 2))=125
   ·rw [if_pos c3]; exact Cx (by decide) (by omega)
   rw [if_neg c3];by_cases c4:(nR l (ax l (a + 2))).1=0
   ·rw [if_pos c4]
    (repeat' split)<;>exact i3 _ _
   rw [if_neg c4];have ho:=ho (by omega) c4;have hw:=fw L l n (.loop (ax l (a + 2) + (nR l (ax l (a + 2))).2.2) (cX p) (lv + 1) a 0 []) ho.2 (by simp only [aT.size]; omega);split
   ·exact i3 _ _
   split
   ·exact i3 _ _
   generalize wd L l n (.loop (ax l (a + 2) + (nR l (ax l (a + 2))).2.2) (cX p) (lv + 1) a 0 [])=r at *;rcases r with x | ⟨ps,j⟩
   ·exact i3 _ _
   ·have h:ax l (a + 2) + (nR l (ax l (a + 2))).2.2≤j:=hw.1;exact Cx (by decide) (by omega)
end Go.Mir
namespace Go.PE
open Go Go.EvL
inductive ZR where
 | ok (v:PV) (s:PS)
 | pan (v:Value) (s:PS)
inductive ZC where
 | go (x:E9) (f:aE) (s:PS)
 | pan (v:Value) (f:aE) (s:PS)
abbrev dW:=Nat→List PV→PS→Option ZR
def fj (o:Option (PV × PS)):Option ZR:=o.map fun q=>.ok q.1 q.2
noncomputable def cq (P:Program) (call:dW) (f:aE) (s:PS) (o:gw):Option ZR:=match o with
 | .call x args=>match aA f x with
  | .fn g first cap=>call g (first ++ (args.map (aA f) ++ cap)) s
  | _=>none
 | .pan x=>match aA f x with
  | .sc (.iface t v)=>if wQ (.iface t v)=true then some (.pan (.iface t v) s) else none
  | _=>none
 | o=>fj (bS P f s o)
noncomputable def jH (P:Program) (call:dW):List PI→aE→PS→Option ZC
 | [],f,s=>some (.go .normal f s)
 | i :: l,f,s=>match eb f i.gd with
  | some true=>(cq P call f s i.op).bind fun
   | .ok v s'=>jH P call l (gD f i.dst v) s'
   | .pan v s'=>some (.pan v f s')
  | some false=>jH P call l (gD f i.dst (.sc undef)) s
  | none=>none
noncomputable def qX (P:Program) (call:dW) (b:Bool) (f:aE) (s:PS) (o:gw):Option ZC:=
 if b=true then (cq P call f s o).bind fun
  | .pan v s'=>some (.pan v f s')
  | .ok _ _=>none
 else none
noncomputable def fQ (P:Program) (pu:Nat→Bool) (call:dW):Bool→List (PI × List Nat × List Nat)→Nat→List (Nat × gy × Nat × Nat)→aE→PS→Option ZC
 | _,[],_,_,f,s=>some (.go .normal f s)
 | b,(i,ls,un) :: l,j,acc,f,s=>match eb (cR ls f) i.gd with
  | some true=>(cq P call (cR ls f) s i.op).bind fun
   | .ok v s'=>if (aS pu (cR ls f) i=true∨mX un j l=true)∧aG un (mV (cR ls f) i) acc then fQ P pu call (b && i.gd.isNone) l (j + 1) ((j,mV (cR ls f) i,s.n,s'.n) :: acc) (gD f i.dst v) s' else none
   | .pan _ _=>qX P call (b && i.gd.isNone && mX un j l) f s i.op
  | some false=>if (aS pu (cR ls f) i=true∨mX un j l=true)∧aG un (mV (cR ls f) i) acc then fQ P pu call false l (j + 1) ((j,mV (cR ls f) i,s.n,s.n) :: acc) (gD f i.dst (.sc undef)) s else none
  | none=>none
def pZ (r:Option ZC) (k:aE→PS→Option ZC):Option ZC:=r.bind fun
 | .go .normal f s=>k f s
 | r=>some r
def AX (id:Nat) (r:Option ZC):Option ZC:=r.map fun
 | .go (.exit i) f s=>if i=id then .go .normal f s else .go (.exit i) f s
 | r=>r
def tJ (b:Option Bool) (x y:Option ZC):Option ZC:=match b with
 | some true=>x
 | some false=>y
 | none=>none
def nX (body:aE→PS→Option ZC):Nat→aE→PS→Option ZC
 | 0,_,_=>none
 | n + 1,f,s=>pZ (body f s) (nX body n)
noncomputable def cT (P:Program) (pu:Nat→Bool) (call:dW) (L:Nat):aR→aE→PS→Option ZC
 | .skip,f,s=>some (.go .normal f s)
 | .reg l,f,s=>jH P call l f s
 | .draw l,f,s=>fQ P pu call true l 0 [] f s
 | .seq a b,f,s=>pZ (cT P pu call L a f s) (cT P pu call L b)
 | .cond c a b,f,s=>tJ (ep (aA f c)) (cT P pu call L a f s) (cT P pu call L b f s)
 | .block id b,f,s=>AX id (cT P pu call L b f s)
 | .loop b,f,s=>nX (cT P pu call L b) L f s
 | .exit id,f,s=>some (.go (.exit id) f s)
 | .ret,f,s=>some (.go .ret f s)
 | .bad,_,_=>none
noncomputable def fG (fn:fe) (s:PS) (r:ZC):Option ZR:=match r with
 | .go (.exit _) _ _=>none
 | .go _ f s'=>fj (gI fn s f s')
 | .pan v _ s1=>if fn.keep=true then some (.pan v ⟨s1.h,s1.n,min s.w s1.w⟩) else if s.n≤s1.w then some (.pan v s) else none
noncomputable def nz (P:Program) (pu:Nat→Bool) (call:dW) (L:Nat) (fn:fe) (args:List PV) (s:PS):Option ZR:=
 if args.length≤fn.nt then (cT P pu call L fn.body (ej args 0) ⟨s.h,s.n,s.n⟩).bind (fG fn s) else none
noncomputable def cB (P:Program) (Γ:Nat→Option fe) (ext:aw):Nat→dW
 | 0=>fun _ _ _=>none
 | n + 1=>fun g args s=>match Γ g with
  | some fn=>nz P (cz Γ) (cB P Γ ext n) n fn args s
  | none=>fj (ext g args s)
def Me (c d:dW):Prop:=∀g args s,Le (c g args s) (d g args s)
section
variable {P:Program}{c d:dW}
theorem vW (h:Me c d) (f:aE) (s:PS) (o:gw):Le (cq P c f s o) (cq P d f s o):=by
 unfold cq;split
 ·split
  ·exact h _ _ _
  ·exact .refl _
 ·exact .refl _
 ·exact .refl _
theorem FR (h:Me c d):∀(l:List PI) (f:aE) (s:PS),Le (jH P c l f s) (jH P d l f s):=by
 intro l
 induction l with
 | nil=>intro f s; exact .refl _
 | cons i l ih=>
  intro f s;simp only [jH];split
  ·refine Le.bind (vW h f s i.op) fun q=>?_;cases q with
   | ok v s'=>exact ih _ _
   | pan v s'=>exact .refl _
  ·exact ih _ _
  ·exact .refl _
theorem GA (h:Me c d) (b:Bool) (f:aE) (s:PS) (o:gw):Le (qX P c b f s o) (qX P d b f s o):=by
 unfold qX;split
 ·exact Le.bind (vW h f s o) fun q=>.refl _
 ·exact .refl _
theorem CW {pu:Nat→Bool} (h:Me c d):∀(l:List (PI × List Nat × List Nat)) (b:Bool) (j:Nat) (acc:List (Nat × gy × Nat × Nat)) (f:aE) (s:PS),Le (fQ P pu c b l j acc f s) (fQ P pu d b l j acc f s):=by
 intro l
 induction l with
 | nil=>intro b j acc f s; exact .refl _
 | cons i l ih=>
  intro b j acc f s;obtain⟨i,ls,un⟩:=i;simp only [fQ];split
  ·refine Le.bind (vW h _ s i.op) fun q=>?_;cases q with
   | ok v s'=>
    simp only;split
    ·exact ih _ _ _ _ _
    ·exact .refl _
   | pan v s'=>exact GA h _ _ _ _
  ·split
   ·exact ih _ _ _ _ _
   ·exact .refl _
  ·exact .refl _
theorem HH {a b:Option ZC}{k l:aE→PS→Option ZC} (h:Le a b) (hk:∀f s,Le (k f s) (l f s)):Le (pZ a k) (pZ b l):=by
 refine Le.bind h fun q=>?_;rcases q with ⟨x,f,s⟩ | ⟨v,f,s⟩
 ·cases x with
  | normal=>exact hk _ _
  | _=>exact .refl _
 ·exact .refl _
theorem wN {a b:aE→PS→Option ZC} (h:∀f s,Le (a f s) (b f s)):∀(n m:Nat),n≤m→∀f s,Le (nX a n f s) (nX b m f s):=by
 intro n
 induction n with
 | zero=>intro m _ f s x hx; cases hx
 | succ n ih=>
  intro m hm f s;obtain⟨m',rfl⟩ : ∃m',m=m' + 1:=⟨m - 1,by omega⟩
  exact HH (h f s) (ih m' (by omega))
theorem CX {pu:Nat→Bool} (h:Me c d) {n m:Nat} (hn:n≤m):∀(pc:aR) (f:aE) (s:PS),Le (cT P pu c n pc f s) (cT P pu d m pc f s):=by
 intro pc
 induction pc with
 | reg l=>intro f s; exact FR h l f s
 | draw l=>intro f s; exact CW h l _ _ _ f s
 | seq a b iha ihb=>intro f s; exact HH (iha f s) ihb
 | cond o a b iha ihb=>
  intro f s;simp only [cT];unfold tJ;cases ep (aA f o) with
  | none=>exact .refl _
  | some t=>cases t; exact ihb f s; exact iha f s
 | block id b ih=>intro f s; exact Le.map (ih f s)
 | loop b ih=>intro f s; exact wN ih n m hn f s
 | _=>intro f s; exact .refl _
theorem FZ {pu:Nat→Bool} (h:Me c d) {n m:Nat} (hn:n≤m) (fn:fe) (args:List PV) (s:PS):Le (nz P pu c n fn args s) (nz P pu d m fn args s):=by
 unfold nz;split
 ·exact Le.bind (CX h hn _ _ _) fun q=>.refl _
 ·exact .refl _
variable {Γ:Nat→Option fe}{ext:aw}
theorem KY:∀n,Me (cB P Γ ext n) (cB P Γ ext (n + 1)):=by
 intro n
 induction n with
 | zero=>intro g args s x hx; cases hx
 | succ n ih=>
  intro g args s;simp only [cB];split
  ·exact FZ ih (Nat.le_succ n) _ _ _
  ·exact .refl _
theorem jV {n m:Nat} (h:n≤m):Me (cB P Γ ext n) (cB P Γ ext m):=by
 induction m with
 | zero=>rw [show n=0 by omega]; exact fun _ _ _=>.refl _
 | succ m ih=>
  by_cases he:n=m + 1
  ·rw [he]; exact fun _ _ _=>.refl _
  ·exact fun g args s x hx=>KY m g args s x (ih (by omega) g args s x hx)
end
section
variable (P:Program) (Γ:Nat→Option fe) (ext:aw)
noncomputable def ah:dW:=fun g args s=>uh fun n=>cB P Γ ext n g args s
noncomputable def eg (c:aR) (f:aE) (s:PS):Option ZC:=uh fun n=>cT P (cz Γ) (cB P Γ ext n) n c f s
end
section
variable {P:Program}{Γ:Nat→Option fe}{ext:aw}
theorem wl (g:Nat) (args:List PV) (s:PS):rh fun n=>cB P Γ ext n g args s:=fun _ _ h=>jV h g args s
theorem dV (c:aR) (f:aE) (s:PS):rh fun n=>cT P (cz Γ) (cB P Γ ext n) n c f s:=fun _ _ h=>CX (jV h) h c f s
theorem Bh (f:aE) (s:PS) (o:gw):rh fun n=>cq P (cB P Γ ext n) f s o:=fun _ _ h=>vW (jV h) f s o
theorem sC (f:aE) (s:PS) (o:gw):uh (fun n=>cq P (cB P Γ ext n) f s o)=cq P (ah P Γ ext) f s o:=by
 unfold cq;cases o with
 | call x args=>
  simp only;cases aA f x with
  | fn g first cap=>rfl
  | _=>exact bH _
 | _=>exact bH _
theorem FM:∀(l:List PI) (f:aE) (s:PS),uh (fun n=>jH P (cB P Γ ext n) l f s)=jH P (ah P Γ ext) l f s:=by
 intro l
 induction l with
 | nil=>intro f s; exact bH _
 | cons i l ih=>
  intro f s;simp only [jH];cases eb f i.gd with
  | none=>exact bH _
  | some b=>
   cases b with
   | false=>exact ih _ _
   | true=>
    simp only;refine (jN (Bh f s i.op) fun q=>?_).trans ?_
    ·cases q with
     | ok v s'=>exact fun _ _ h=>FR (jV h) _ _ _
     | pan v s'=>exact fun _ _ _=>.refl _
    ·rw [sC];congr 1;funext q;cases q with
     | ok v s'=>exact ih _ _
     | pan v s'=>exact bH _
theorem HC (b:Bool) (f:aE) (s:PS) (o:gw):uh (fun n=>qX P (cB P Γ ext n) b f s o)=qX P (ah P Γ ext) b f s o:=by
 unfold qX;split
 ·refine (jN (Bh f s o) fun q=>fun _ _ _=>.refl _).trans ?_;rw [sC];congr 1;funext q;exact bH _
 ·exact bH _
theorem Db:∀(l:List (PI × List Nat × List Nat)) (b:Bool) (j:Nat) (acc:List (Nat × gy × Nat × Nat)) (f:aE) (s:PS),uh (fun n=>fQ P (cz Γ) (cB P Γ ext n) b l j acc f s)=fQ P (cz Γ) (ah P Γ ext) b l j acc f s:=by
 intro l
 induction l with
 | nil=>intro b j acc f s; exact bH _
 | cons i l ih=>
  intro b j acc f s;obtain⟨i,ls,un⟩:=i;simp only [fQ];cases eb (cR ls f) i.gd with
  | none=>exact bH _
  | some g=>
   cases g with
   | false=>
    simp only;split
    ·exact ih _ _ _ _ _
    ·exact bH _
   | true=>
    simp only;refine (jN (Bh _ s i.op) fun q=>?_).trans ?_
    ·cases q with
     | ok v s'=>
      simp only;split
      ·exact fun _ _ h=>CW (jV h) _ _ _ _ _ _
      ·exact fun _ _ _=>.refl _
     | pan v s'=>exact fun _ _ h=>GA (jV h) _ _ _ _
    ·rw [sC];congr 1;funext q;cases q with
     | ok v s'=>
      simp only;split
      ·exact ih _ _ _ _ _
      ·exact bH _
     | pan v s'=>exact HC _ _ _ _
theorem DD (l:List PI) (f:aE) (s:PS):eg P Γ ext (.reg l) f s=jH P (ah P Γ ext) l f s:=FM l f s
theorem AW (l:List (PI × List Nat × List Nat)) (f:aE) (s:PS):eg P Γ ext (.draw l) f s=fQ P (cz Γ) (ah P Γ ext) true l 0 [] f s:=Db l _ _ _ f s
theorem Bm (f:aE) (s:PS):eg P Γ ext .skip f s=some (.go .normal f s):=bH _
theorem zN (id:Nat) (f:aE) (s:PS):eg P Γ ext (.exit id) f s=some (.go (.exit id) f s):=bH _
theorem DK (f:aE) (s:PS):eg P Γ ext .ret f s=some (.go .ret f s):=bH _
theorem Dv (a b:aR) (f:aE) (s:PS):eg P Γ ext (.seq a b) f s=pZ (eg P Γ ext a f s) (eg P Γ ext b):=by
 refine (jN (F:=fun n=>cT P (cz Γ) (cB P Γ ext n) n a f s) (G:=fun n q=>match q with | .go .normal f s=>cT P (cz Γ) (cB P Γ ext n) n b f s | r=>some r) (dV a f s) fun q=>?_).trans ?_
 ·rcases q with ⟨x,f,s⟩ | ⟨v,f,s⟩
  ·cases x with
   | normal=>exact dV b _ _
   | _=>exact fun _ _ _=>.refl _
  ·exact fun _ _ _=>.refl _
 ·unfold pZ eg;congr 1;funext q;rcases q with ⟨x,f,s⟩ | ⟨v,f,s⟩
  ·cases x with
   | normal=>rfl
   | _=>exact bH _
  ·exact bH _
theorem B0 (o:Operand) (a b:aR) (f:aE) (s:PS):eg P Γ ext (.cond o a b) f s=tJ (ep (aA f o)) (eg P Γ ext a f s) (eg P Γ ext b f s):=by
 unfold eg tJ;simp only [cT,tJ];cases ep (aA f o) with
 | none=>exact bH _
 | some t=>cases t<;>rfl
theorem xQ (id:Nat) (b:aR) (f:aE) (s:PS):eg P Γ ext (.block id b) f s=AX id (eg P Γ ext b f s):=vK (dV b f s) _
theorem fO {r:Option ZC}{k:aE→PS→Option ZC}{x:ZC} : pZ r k=some x↔(∃f s,r=some (.go .normal f s)∧k f s=some x)∨(r=some x∧∀f s,x≠.go .normal f s):=by
 unfold pZ;constructor
 ·intro h;rw [Option.bind_eq_some_iff] at h;obtain⟨q,h1,h2⟩:=h;rcases q with ⟨y,f,s⟩ | ⟨v,f,s⟩
  ·cases y with
   | normal=>exact .inl ⟨f,s,h1,h2⟩
   | _=>injection h2 with h2; subst h2; exact .inr ⟨h1,fun _ _ h=>by cases h⟩
  ·injection h2 with h2; subst h2; exact .inr ⟨h1,fun _ _ h=>by cases h⟩
 ·rintro (⟨f,s,rfl,h⟩ | ⟨rfl,h⟩)
  ·exact h
  ·rcases x with ⟨y,f,s⟩ | ⟨v,f,s⟩
   ·cases y with
    | normal=>exact absurd rfl (h f s)
    | _=>rfl
   ·rfl
theorem sL (b:aR) (f:aE) (s:PS):eg P Γ ext (.loop b) f s=pZ (eg P Γ ext b f s) (eg P Γ ext (.loop b)):=by
 apply Option.ext;intro x;rw [fO];unfold eg;rw [bN (dV (.loop b) f s)];constructor
 ·rintro⟨n,h⟩;cases n with
  | zero=>cases h
  | succ n=>
   have h':pZ (cT P (cz Γ) (cB P Γ ext (n + 1)) (n + 1) b f s) (nX (cT P (cz Γ) (cB P Γ ext (n + 1)) (n + 1) b) n)=some x:=h;rw [fO] at h';rcases h' with ⟨f1,s1,h1,h2⟩ | ⟨h1,h2⟩
   ·refine .inl ⟨f1,s1,(bN (dV b f s) _).2 ⟨_,h1⟩,(bN (dV (.loop b) _ _) x).2 ⟨n + 1,?_⟩⟩;exact wN (fun _ _=>.refl _) n (n + 1) (by omega) _ _ _ h2
   ·exact .inr ⟨(bN (dV b f s) _).2 ⟨_,h1⟩,h2⟩
 ·rintro (⟨f1,s1,h1,h2⟩ | ⟨h1,h2⟩)
  ·obtain⟨n,h1⟩:=(bN (dV b f s) _).1 h1;obtain⟨m,h2⟩:=(bN (dV (.loop b) _ _) x).1 h2;refine⟨max n m + 1,?_⟩;show pZ (cT P (cz Γ) (cB P Γ ext (max n m + 1)) (max n m + 1) b f s) (nX (cT P (cz Γ) (cB P Γ ext (max n m + 1)) (max n m + 1) b) (max n m))=some x;rw [fO];refine .inl ⟨f1,s1,dV b f s n _ (by omega) _ h1,?_⟩;exact wN (fun f s=>dV b f s m _ (by omega)) m (max n m) (by omega) _ _ _ h2
  ·obtain⟨n,h1⟩:=(bN (dV b f s) _).1 h1;refine⟨n + 1,?_⟩;show pZ (cT P (cz Γ) (cB P Γ ext (n + 1)) (n + 1) b f s) (nX (cT P (cz Γ) (cB P Γ ext (n + 1)) (n + 1) b) n)=some x;rw [fO];exact .inr ⟨dV b f s n _ (by omega) _ h1,h2⟩
theorem Hq {g:Nat}{fn:fe} (h:Γ g=some fn) (args:List PV) (s:PS) (hl:args.length≤fn.nt):ah P Γ ext g args s=(eg P Γ ext fn.body (ej args 0) ⟨s.h,s.n,s.n⟩).bind (fG fn s):=by
 unfold ah;rw [← xG (wl g args s)];have e:(fun n=>cB P Γ ext (n + 1) g args s)=fun n=>nz P (cz Γ) (cB P Γ ext n) n fn args s:=by
  funext n;simp only [cB,h]
 rw [e];unfold nz;simp only [if_pos hl];exact jN (dV fn.body (ej args 0) ⟨s.h,s.n,s.n⟩) (fun q=>fun _ _ _=>.refl _) |>.trans (by
  unfold eg;congr 1;funext q;exact bH _)
theorem pV {g:Nat} (h:Γ g=none) (args:List PV) (s:PS):ah P Γ ext g args s=fj (ext g args s):=by
 unfold ah;rw [← xG (wl g args s)];have e:(fun n=>cB P Γ ext (n + 1) g args s)=fun _=>fj (ext g args s):=by
  funext n;simp only [cB,h]
 rw [e];exact bH _
def O9 (P:Program) (Γ:Nat→Option fe) (ext:aw) (z:dW) (c:aw) (K:KX):Prop:=∀g args s,(∀v s',z g args s=some (.ok v s')→c g args s=some (v,s'))∧∀v s',z g args s=some (.pan v s')→∀U:Value→PS→Prop,U v s'→K g args s U
theorem fP {o:Option (PV × PS)}{r:ZR} : fj o=some r↔∃v s,o=some (v,s)∧r=.ok v s:=by
 unfold fj;rw [Option.map_eq_some_iff];constructor
 ·rintro⟨⟨v,s⟩,h,rfl⟩; exact⟨v,s,h,rfl⟩
 ·rintro⟨v,s,h,rfl⟩; exact⟨(v,s),h,rfl⟩
theorem ni (f h:aE) (d:Option Nat) (v:PV):I4 f d (gD h d v)=gD f d v:=by
 cases d with
 | none=>rfl
 | some d=>
  show aE.set f d (aE.set h d v d)=_;rw [show aE.set h d v d=v from if_pos rfl]; rfl
section
variable {z:dW}{c:aw}{K:KX}
theorem wS (hz:O9 P Γ ext z c K) (f:aE) (s:PS) (o:gw):(∀v s',cq P z f s o=some (.ok v s')→zi P c f s o=some (v,s'))∧∀v s',cq P z f s o=some (.pan v s')→∀U:Value→PS→Prop,U v s'→XA K f s U o:=by
 unfold cq zi XA;cases o with
 | call x args=>
  simp only [sZ];cases aA f x with
  | fn g first cap=>exact hz g _ s
  | _=>exact⟨fun _ _ h=>(by simp at h),fun _ _ h=>(by simp at h)⟩
 | pan x=>
  simp only;refine⟨fun v s' h=>?_,fun v s' h U hu=>?_⟩
  ·split at h
   ·split at h<;>cases h
   ·cases h
  ·cases hp:aA f x with
   | sc u=>
    cases u with
    | iface t w=>
     simp only [hp] at h ⊢;split at h
     ·rename_i hs;injection h with h; injection h with h1 h2; subst h1; subst h2;exact⟨hs,hu⟩
     ·cases h
    | _=>simp [hp] at h
   | _=>simp [hp] at h
 | _=>
  refine⟨fun v s' h=>?_,fun v s' h=>?_⟩
  ·obtain⟨v1,s1,h1,h2⟩:=fP.1 h;injection h2 with h2 h3; subst h2; subst h3;exact h1
  ·obtain⟨v1,s1,h1,h2⟩:=fP.1 h;cases h2
theorem pA (hz:O9 P Γ ext z c K) (hc:Ci c (gp P Γ ext)) {i:PI}{f:aE}{s:PS}{v:PV}{s':PS} (hg:eb f i.gd=some true) (h:cq P z f s i.op=some (.ok v s')):dZ P c i f s=some (gD f i.dst v,s'):=by
 unfold dZ;rw [hg];simp only [(wS hz f s i.op).1 v s' h];rfl
theorem CY (hz:O9 P Γ ext z c K) (hc:Ci c (gp P Γ ext)):∀(l:List PI) (f:aE) (s:PS),(∀x f' s',jH P z l f s=some (.go x f' s')→x=.normal∧lS P c l f s=some (f',s'))∧∀v f' s',jH P z l f s=some (.pan v f' s')→∀U:XU,U v f' s'→XO P Γ ext K l f s U:=by
 intro l
 induction l with
 | nil=>intro f s; exact⟨fun x f' s' h=>(by injection h with h; injection h with h1 h2 h3; subst h1; subst h2; subst h3; exact⟨rfl,rfl⟩),fun v f' s' h=>(by cases h)⟩
 | cons i l ih=>
  intro f s;cases hg:eb f i.gd with
  | none=>exact⟨fun _ _ _ h=>(by simp only [jH,hg] at h; cases h),fun _ _ _ h=>(by simp only [jH,hg] at h; cases h)⟩
  | some b=>
   cases b with
   | false=>
    have hst:dZ P c i f s=some (gD f i.dst (.sc undef),s):=by unfold dZ; rw [hg]
    obtain⟨a1,a2⟩:=ih (gD f i.dst (.sc undef)) s;refine⟨fun x f' s' h=>?_,fun v f' s' h U hu=>?_⟩
    ·simp only [jH,hg] at h;obtain⟨b1,b2⟩:=a1 x f' s' h;exact⟨b1,by show (dZ P c i f s).bind _=_; rw [hst]; exact b2⟩
    ·simp only [jH,hg] at h;exact .inr ⟨_,mB hc i f s _ hst,a2 v f' s' h U hu⟩
   | true=>
    refine⟨fun x f' s' h=>?_,fun v f' s' h U hu=>?_⟩
    ·simp only [jH,hg] at h;rw [Option.bind_eq_some_iff] at h;obtain⟨q,h1,h2⟩:=h;cases q with
     | ok v1 s1=>
      obtain⟨b1,b2⟩:=(ih _ _).1 x f' s' h2;exact⟨b1,by show (dZ P c i f s).bind _=_; rw [pA hz hc hg h1]; exact b2⟩
     | pan v1 s1=>cases h2
    ·simp only [jH,hg] at h;rw [Option.bind_eq_some_iff] at h;obtain⟨q,h1,h2⟩:=h;cases q with
     | ok v1 s1=>exact .inr ⟨_,mB hc i f s _ (pA hz hc hg h1),(ih _ _).2 v f' s' h2 U hu⟩
     | pan v1 s1=>
      injection h2 with h2; injection h2 with e1 e2 e3; subst e1; subst e2; subst e3;exact .inl ⟨hg,(wS hz f s i.op).2 v1 s1 h1 _ hu⟩
theorem yu (hz:O9 P Γ ext z c K) (hc:Ci c (gp P Γ ext)):∀(l:List (PI × List Nat × List Nat)) (b:Bool) (j:Nat) (acc:List (Nat × gy × Nat × Nat)) (f:aE) (s:PS),
  (∀x f' s',fQ P (cz Γ) z b l j acc f s=some (.go x f' s')→x=.normal∧j4 P (cz Γ) c l j acc f s=some (f',s'))∧∀v f' s',fQ P (cz Γ) z b l j acc f s=some (.pan v f' s')→b=true∧∀U:XU,U v f' s'→XD P Γ ext K l j acc f s U:=by
 intro l
 induction l with
 | nil=>intro b j acc f s; exact⟨fun x f' s' h=>(by injection h with h; injection h with h1 h2 h3; subst h1; subst h2; subst h3; exact⟨rfl,rfl⟩),fun v f' s' h=>(by cases h)⟩
 | cons i l ih=>
  intro b j acc f s;obtain⟨i,ls,un⟩:=i;cases hg:eb (cR ls f) i.gd with
  | none=>exact⟨fun _ _ _ h=>(by simp only [fQ,hg] at h; cases h),fun _ _ _ h=>(by simp only [fQ,hg] at h; cases h)⟩
  | some g=>
   cases g with
   | false=>
    have hst:dZ P c i (cR ls f) s=some (gD (cR ls f) i.dst (.sc undef),s):=by unfold dZ; rw [hg]
    refine⟨fun x f' s' h=>?_,fun v f' s' h=>?_⟩
    ·simp only [fQ,hg] at h;split at h
     ·rename_i hok;obtain⟨b1,b2⟩:=(ih _ _ _ _ _).1 x f' s' h;refine⟨b1,?_⟩;show (dZ P c i (cR ls f) s).bind _=_;rw [hst];simp only [Option.bind_some,ni,if_pos hok];exact b2
     ·cases h
    ·simp only [fQ,hg] at h;split at h
     ·have:=((ih _ _ _ _ _).2 v f' s' h).1;cases this
     ·cases h
   | true=>
    refine⟨fun x f' s' h=>?_,fun v f' s' h=>?_⟩
    ·simp only [fQ,hg] at h;rw [Option.bind_eq_some_iff] at h;obtain⟨q,h1,h2⟩:=h;cases q with
     | ok v1 s1=>
      simp only at h2;split at h2
      ·rename_i hok;obtain⟨b1,b2⟩:=(ih _ _ _ _ _).1 x f' s' h2;refine⟨b1,?_⟩;show (dZ P c i (cR ls f) s).bind _=_;rw [pA hz hc hg h1];simp only [Option.bind_some,ni,if_pos hok];exact b2
      ·cases h2
     | pan v1 s1=>
      simp only at h2;unfold qX at h2;split at h2
      ·rw [Option.bind_eq_some_iff] at h2;obtain⟨q,_,h3⟩:=h2;cases q<;>cases h3
      ·cases h2
    ·simp only [fQ,hg] at h;rw [Option.bind_eq_some_iff] at h;obtain⟨q,h1,h2⟩:=h;cases q with
     | ok v1 s1=>
      simp only at h2;split at h2
      ·rename_i hok;obtain⟨b1,b2⟩:=(ih _ _ _ _ _).2 v f' s' h2;rw [Bool.and_eq_true,Option.isNone_iff_eq_none] at b1;refine⟨b1.1,fun U hu=>⟨b1.2,.inr ⟨_,mB hc i (cR ls f) s _ (pA hz hc hg h1),hok.1,hok.2,?_⟩⟩⟩;simp only [ni];exact b2 U hu
      ·cases h2
     | pan v1 s1=>
      simp only at h2;unfold qX at h2;split at h2
      ·rename_i hb;simp only [Bool.and_eq_true,Option.isNone_iff_eq_none] at hb;rw [Option.bind_eq_some_iff] at h2;obtain⟨q,h2,h3⟩:=h2;cases q with
       | ok _ _=>cases h3
       | pan v2 s2=>
        injection h3 with h3; injection h3 with e1 e2 e3; subst e1; subst e2; subst e3;exact⟨hb.1.1,fun U hu=>⟨hb.1.2,.inl ⟨hb.2,(wS hz f s i.op).2 v2 s2 h2 _ hu⟩⟩⟩
      ·cases h2
theorem Ck (hz:O9 P Γ ext z c K) (hc:Ci c (gp P Γ ext)) {L:Nat} (hL:∀pc f s,Le (cx P (cz Γ) c L pc f s) (io P Γ ext pc f s)):∀(pc:aR) (f:aE) (s:PS),
  (∀x f' s',cT P (cz Γ) z L pc f s=some (.go x f' s')→cx P (cz Γ) c L pc f s=some (x,f',s'))∧∀v f' s',cT P (cz Γ) z L pc f s=some (.pan v f' s')→∀U:XU,U v f' s'→XC P Γ ext K pc f s U:=by
 intro pc
 induction pc with
 | skip=>intro f s; exact⟨fun x f' s' h=>(by injection h with h; injection h with h1 h2 h3; subst h1; subst h2; subst h3; rfl),fun v f' s' h=>(by cases h)⟩
 | exit id=>intro f s; exact⟨fun x f' s' h=>(by injection h with h; injection h with h1 h2 h3; subst h1; subst h2; subst h3; rfl),fun v f' s' h=>(by cases h)⟩
 | ret=>intro f s; exact⟨fun x f' s' h=>(by injection h with h; injection h with h1 h2 h3; subst h1; subst h2; subst h3; rfl),fun v f' s' h=>(by cases h)⟩
 | bad=>intro f s; exact⟨fun x f' s' h=>(by cases h),fun v f' s' h=>(by cases h)⟩
 | reg l=>
  intro f s;refine⟨fun x f' s' h=>?_,fun v f' s' h=>(CY hz hc l f s).2 v f' s' h⟩;obtain⟨rfl,h2⟩:=(CY hz hc l f s).1 x f' s' h;show (lS P c l f s).map _=_;rw [h2]; rfl
 | draw l=>
  intro f s;refine⟨fun x f' s' h=>?_,fun v f' s' h=>((yu hz hc l true 0 [] f s).2 v f' s' h).2⟩;obtain⟨rfl,h2⟩:=(yu hz hc l true 0 [] f s).1 x f' s' h;show (j4 P (cz Γ) c l 0 [] f s).map _=_;rw [h2]; rfl
 | seq a b iha ihb=>
  intro f s;refine⟨fun x f' s' h=>?_,fun v f' s' h U hu=>?_⟩
  ·rcases fO.1 h with ⟨f1,s1,h1,h2⟩ | ⟨h1,h2⟩
   ·show pP (cx P (cz Γ) c L a f s) _=_;rw [(iha f s).1 _ _ _ h1];exact (ihb f1 s1).1 _ _ _ h2
   ·show pP (cx P (cz Γ) c L a f s) _=_;rw [(iha f s).1 _ _ _ h1];cases x with
    | normal=>exact absurd rfl (h2 f' s')
    | _=>rfl
  ·rcases fO.1 h with ⟨f1,s1,h1,h2⟩ | ⟨h1,h2⟩
   ·exact .inr ⟨f1,s1,hL a f s _ ((iha f s).1 _ _ _ h1),(ihb f1 s1).2 _ _ _ h2 U hu⟩
   ·exact .inl ((iha f s).2 _ _ _ h1 U hu)
 | cond o a b iha ihb=>
  intro f s;simp only [cT,cx,XC];unfold tJ tN;cases ep (aA f o) with
  | none=>exact⟨fun _ _ _ h=>(by cases h),fun _ _ _ h=>(by cases h)⟩
  | some t=>
   cases t with
   | true=>exact⟨(iha f s).1,fun v f' s' h U hu=>.inl ⟨rfl,(iha f s).2 v f' s' h U hu⟩⟩
   | false=>exact⟨(ihb f s).1,fun v f' s' h U hu=>.inr ⟨rfl,(ihb f s).2 v f' s' h U hu⟩⟩
 | block id b ih=>
  intro f s;refine⟨fun x f' s' h=>?_,fun v f' s' h U hu=>?_⟩
  ·have h':AX id (cT P (cz Γ) z L b f s)=some (.go x f' s'):=h;unfold AX at h';rw [Option.map_eq_some_iff] at h';obtain⟨q,h1,h2⟩:=h';rcases q with ⟨y,f1,s1⟩ | ⟨w,f1,s1⟩
   ·show sH id (cx P (cz Γ) c L b f s)=_;rw [(ih f s).1 _ _ _ h1];cases y with
    | exit i=>
     simp only at h2;show some (if i=id then _ else _)=_;split at h2
     ·rename_i hi; injection h2 with e1 e2 e3; subst e1; subst e2; subst e3; rw [if_pos hi]
     ·rename_i hi; injection h2 with e1 e2 e3; subst e1; subst e2; subst e3; rw [if_neg hi]
    | _=>injection h2 with e1 e2 e3; subst e1; subst e2; subst e3; rfl
   ·cases h2
  ·have h':AX id (cT P (cz Γ) z L b f s)=some (.pan v f' s'):=h;unfold AX at h';rw [Option.map_eq_some_iff] at h';obtain⟨q,h1,h2⟩:=h';rcases q with ⟨y,f1,s1⟩ | ⟨w,f1,s1⟩
   ·cases y with
    | exit i=>simp only at h2; split at h2<;>cases h2
    | _=>cases h2
   ·injection h2 with e1 e2 e3; subst e1; subst e2; subst e3;exact (ih f s).2 _ _ _ h1 U hu
 | loop b ih=>
  have key:∀n f s,(∀x f' s',nX (cT P (cz Γ) z L b) n f s=some (.go x f' s')→pB (cx P (cz Γ) c L b) n f s=some (x,f',s'))∧∀v f' s',nX (cT P (cz Γ) z L b) n f s=some (.pan v f' s')→∀U:XU,U v f' s'→XL (fun f s=>XC P Γ ext K b f s U) (io P Γ ext b) f s:=by
   intro n
   induction n with
   | zero=>intro f s; exact⟨fun _ _ _ h=>(by cases h),fun _ _ _ h=>(by cases h)⟩
   | succ n ihn=>
    intro f s;refine⟨fun x f' s' h=>?_,fun v f' s' h U hu=>?_⟩
    ·rcases fO.1 h with ⟨f1,s1,h1,h2⟩ | ⟨h1,h2⟩
     ·show pP (cx P (cz Γ) c L b f s) _=_;rw [(ih f s).1 _ _ _ h1];exact (ihn f1 s1).1 _ _ _ h2
     ·show pP (cx P (cz Γ) c L b f s) _=_;rw [(ih f s).1 _ _ _ h1];cases x with
      | normal=>exact absurd rfl (h2 f' s')
      | _=>rfl
    ·rcases fO.1 h with ⟨f1,s1,h1,h2⟩ | ⟨h1,h2⟩
     ·exact .next f s f1 s1 (hL b f s _ ((ih f s).1 _ _ _ h1)) ((ihn f1 s1).2 _ _ _ h2 U hu)
     ·exact .here f s ((ih f s).2 _ _ _ h1 U hu)
  intro f s;exact key L f s
theorem Ey {fn:fe}{s:PS}{r:ZC}{v:PV}{s':PS} (h:fG fn s r=some (.ok v s')):∃x f1 s1,r=.go x f1 s1∧OA (x,f1,s1) (gI fn s)=some (v,s'):=by
 unfold fG at h;rcases r with ⟨x,f,s1⟩ | ⟨w,f,s1⟩
 ·cases x with
  | exit i=>cases h
  | normal=>
   obtain⟨v1,s2,h1,h2⟩:=fP.1 h;injection h2 with e1 e2; subst e1; subst e2;exact⟨_,_,_,rfl,h1⟩
  | ret=>
   obtain⟨v1,s2,h1,h2⟩:=fP.1 h;injection h2 with e1 e2; subst e1; subst e2;exact⟨_,_,_,rfl,h1⟩
 ·simp only at h;split at h
  ·cases h
  ·split at h<;>cases h
theorem Bq {fn:fe}{s:PS}{r:ZC}{v:Value}{s':PS} (h:fG fn s r=some (.pan v s')):∃f1 s1,r=.pan v f1 s1∧((fn.keep=true∧s'=⟨s1.h,s1.n,min s.w s1.w⟩)∨(fn.keep=false∧s.n≤s1.w∧s'=s)):=by
 unfold fG at h;rcases r with ⟨x,f,s1⟩ | ⟨w,f,s1⟩
 ·cases x with
  | exit i=>cases h
  | normal=>obtain⟨v1,s2,h1,h2⟩:=fP.1 h; cases h2
  | ret=>obtain⟨v1,s2,h1,h2⟩:=fP.1 h; cases h2
 ·simp only at h;split at h
  ·rename_i hk;injection h with h; injection h with e1 e2; subst e1; subst e2;exact⟨f,s1,rfl,.inl ⟨hk,rfl⟩⟩
  ·rename_i hk;split at h
   ·rename_i hw;injection h with h; injection h with e1 e2; subst e1; subst e2;exact⟨f,s1,rfl,.inr ⟨by simpa using hk,hw,rfl⟩⟩
   ·cases h
end
theorem mK:∀n,O9 P Γ ext (cB P Γ ext n) (dM P Γ ext n) (Up P Γ ext n):=by
 intro n
 induction n with
 | zero=>intro g args s; exact⟨fun _ _ h=>(by cases h),fun _ _ h=>(by cases h)⟩
 | succ n ih=>
  intro g args s;have hc:Ci (dM P Γ ext n) (gp P Γ ext):=fun g args s x hx=>(bN (jQ g args s) x).2 ⟨n,hx⟩;have hL:∀pc f s,Le (cx P (cz Γ) (dM P Γ ext n) n pc f s) (io P Γ ext pc f s):=fun pc f s x hx=>(bN (kg pc f s) x).2 ⟨n,hx⟩;simp only [cB,dM];cases hg:Γ g with
  | none=>
   refine⟨fun v s' h=>?_,fun v s' h=>?_⟩
   ·obtain⟨v1,s1,h1,h2⟩:=fP.1 h;injection h2 with e1 e2; subst e1; subst e2;exact h1
   ·obtain⟨v1,s1,h1,h2⟩:=fP.1 h; cases h2
  | some fn=>
   simp only;unfold nz ny;split
   ·rename_i hl;refine⟨fun v s' h=>?_,fun v s' h U hu=>?_⟩
    ·rw [Option.bind_eq_some_iff] at h;obtain⟨r,h1,h2⟩:=h;obtain⟨x,f1,s1,rfl,h3⟩:=Ey h2;rw [(Ck ih hc hL _ _ _).1 _ _ _ h1];exact h3
    ·rw [Option.bind_eq_some_iff] at h;obtain⟨r,h1,h2⟩:=h;obtain⟨f1,s1,rfl,h3⟩:=Bq h2;refine⟨fn,hg,hl,(Ck ih hc hL _ _ _).2 _ _ _ h1 _ ?_⟩;rcases h3 with ⟨h3,rfl⟩ | ⟨h3,h4,rfl⟩
     ·exact .inl ⟨h3,hu⟩
     ·exact .inr ⟨h3,h4,hu⟩
   ·exact⟨fun _ _ h=>(by cases h),fun _ _ h=>(by cases h)⟩
theorem Iz {g:Nat}{args:List PV}{s:PS}{v:PV}{s':PS} (h:ah P Γ ext g args s=some (.ok v s')):gp P Γ ext g args s=some (v,s'):=by
 obtain⟨n,h⟩:=(bN (wl g args s) _).1 h;exact (bN (jQ g args s) _).2 ⟨n,(mK n g args s).1 v s' h⟩
theorem DG {c:aR}{f:aE}{s:PS}{v:Value}{f':aE}{s':PS} (h:eg P Γ ext c f s=some (.pan v f' s')) {U:XU} (hu:U v f' s'):XC P Γ ext (XK P Γ ext) c f s U:=by
 obtain⟨n,h⟩:=(bN (dV c f s) _).1 h;have hc:Ci (dM P Γ ext n) (gp P Γ ext):=fun g args s x hx=>(bN (jQ g args s) x).2 ⟨n,hx⟩;have hL:∀pc f s,Le (cx P (cz Γ) (dM P Γ ext n) n pc f s) (io P Γ ext pc f s):=fun pc f s x hx=>(bN (kg pc f s) x).2 ⟨n,hx⟩;have hz:O9 P Γ ext (cB P Γ ext n) (dM P Γ ext n) (XK P Γ ext):=fun g args s=>⟨(mK n g args s).1,fun v s' h U hu=>⟨n,(mK n g args s).2 v s' h U hu⟩⟩
 exact (Ck hz hc hL c f s).2 v f' s' h U hu
theorem yM {c:aR}{f:aE}{s:PS}{x:E9}{f':aE}{s':PS} (h:eg P Γ ext c f s=some (.go x f' s')):io P Γ ext c f s=some (x,f',s'):=by
 obtain⟨n,h⟩:=(bN (dV c f s) _).1 h;have hc:Ci (dM P Γ ext n) (gp P Γ ext):=fun g args s x hx=>(bN (jQ g args s) x).2 ⟨n,hx⟩;have hL:∀pc f s,Le (cx P (cz Γ) (dM P Γ ext n) n pc f s) (io P Γ ext pc f s):=fun pc f s x hx=>(bN (kg pc f s) x).2 ⟨n,hx⟩;exact hL c f s _ ((Ck (mK n) hc hL c f s).1 x f' s' h)
end
section
variable {P:Program}{Γ:Nat→Option fe}{ext:aw}
theorem JB (ls:List Nat) (f:aE) (t:Nat):cR ls f t=if t∈ls then f t else .sc undef:=(rfl)
theorem aq (F:gy) (acc:List (Nat × gy × Nat × Nat)):aG [] F acc:=fun e _ he=>by cases he
theorem av (un:List Nat) (acc:List (Nat × gy × Nat × Nat)):aG un ⟨[],[],false,false⟩ acc:=fun e _ _=>by
 refine⟨fun k _=>⟨?_,?_⟩,?_,?_,?_,?_,?_,?_⟩<;>simp
theorem aa (f:aE) (t:Nat):aA f (.tmp t)=f t:=(rfl)
theorem zG (f:aE) (v:Value):aA f (.const v)=ig v:=(rfl)
theorem DZ (f:aE) (g:Nat):aA f (.func g)=.fn g [] []:=(rfl)
theorem Nw (f:aE) (d:Nat) (v:PV) (j:Nat):aE.set f d v j=if j=d then v else f j:=(rfl)
theorem qT (s:PS) (b:pD) (j:Nat):(s.new b).h j=if j=s.n then b else s.h j:=(rfl)
theorem aj (s:PS) (b:pD):(s.new b).n=s.n + 1:=(rfl)
theorem cO (s:PS) (b:pD):(s.new b).w=s.w:=(rfl)
theorem v9 (s:PS) (k:Nat) (b:pD) (j:Nat):(s.put k b).h j=if j=k then b else s.h j:=(rfl)
theorem ak (s:PS) (k:Nat) (b:pD):(s.put k b).n=s.n:=(rfl)
theorem db (s:PS) (k:Nat) (b:pD):(s.put k b).w=min s.w k:=(rfl)
theorem JF (t:Nat) (x y:Operand) (a b:Int):gP P .add t x y (.sc (.int .i64 a)) (.sc (.int .i64 b))=some (.sc (.int .i64 (IntKind.i64.wrap (a + b)))):=(rfl)
theorem JX (t:Nat) (x y:Operand) (a b:Int):gP P .sub t x y (.sc (.int .i64 a)) (.sc (.int .i64 b))=some (.sc (.int .i64 (IntKind.i64.wrap (a - b)))):=(rfl)
theorem Ks (t:Nat) (x y:Operand) (a b:Int):gP P .lss t x y (.sc (.int .i64 a)) (.sc (.int .i64 b))=some (.sc (.bool (decide (a < b)))):=(rfl)
theorem IU (t:Nat) (x y:Operand) (a b:Int):gP P .leq t x y (.sc (.int .i64 a)) (.sc (.int .i64 b))=some (.sc (.bool (decide (a≤b)))):=(rfl)
theorem IY (t:Nat) (x y:Operand) (a b:Int):gP P .gtr t x y (.sc (.int .i64 a)) (.sc (.int .i64 b))=some (.sc (.bool (decide (a > b)))):=(rfl)
theorem Lt (t:Nat) (x y:Operand) (a b:Int):gP P .geq t x y (.sc (.int .i64 a)) (.sc (.int .i64 b))=some (.sc (.bool (decide (a ≥ b)))):=(rfl)
theorem Jx (t:Nat) (x y:Operand) (a b:Int):gP P .eql t x y (.sc (.int .i64 a)) (.sc (.int .i64 b))=some (.sc (.bool (a == b))):=(rfl)
theorem KO (t:Nat) (x y:Operand) (a b:Int):gP P .neq t x y (.sc (.int .i64 a)) (.sc (.int .i64 b))=some (.sc (.bool (a != b))):=(rfl)
theorem GU (t:Nat) (x y:Operand) (a b:ByteArray):gP P .eql t x y (.sc (.string a)) (.sc (.string b))=some (.sc (.bool (a.toList == b.toList))):=(rfl)
theorem Hp (t:Nat) (x y:Operand) (a b:ByteArray):gP P .neq t x y (.sc (.string a)) (.sc (.string b))=some (.sc (.bool (!(a.toList == b.toList)))):=(rfl)
theorem kS {α β:Type} (P:Program) (s:Sem α) (k:α→Sem β):cF P (s >>= k)=(cF P s).bind fun a=>cF P (k a):=by
 induction s with
 | pure a=>rfl
 | program k' ih=>exact ih P
 | _=>first | rfl | (rename_i ih; exact ih)
theorem Mm (b:Bool):Ul P .not (.sc (.bool b))=some (.sc (.bool (!b))):=(rfl)
end
theorem kq (k:IntKind) (i:Nat):iu (.sc (.int k (i:Int)))=some i:=by
 simp only [iu]; rw [if_pos (by omega),Int.toNat_natCast]
theorem bB {α:Type}{c:α→List PV}{es:Nat} (hc:∀x,(c x).length=es) (l:List α):(l.flatMap c).length=l.length * es:=by
 induction l with
 | nil=>simp
 | cons x l ih=>rw [List.flatMap_cons,List.length_append,hc,ih,List.length_cons,Nat.succ_mul]; omega
def wO {α:Type} (e:Nat) (c:α→List PV) (x:Option (List α)):PV:=match x with
 | none=>.sc (.slice none 0 0)
 | some l=>.lit e l.length (l.flatMap c)
theorem PG (s:PS) (k off fin sz:Nat):ur s (.ptr k off fin) sz=if off + sz≤fin∧(s.h k).low≤fin∧fin≤(s.h k).cells.length then some (((s.h k).cells.drop off).take sz) else none:=(rfl)
theorem Fa {n:Nat} (h:n < 9223372036854775808):IntKind.i64.wrap (n:Int)=(n:Int):=by
 unfold IntKind.wrap;simp [IntKind.bits,IntKind.signed];omega
section
variable {P:Program}{Γ:Nat→Option fe}{ext:aw}
def W (r:ua) (Q:E9→aE→PS→Prop):Prop:=∃x f s,r=some (x,f,s)∧Q x f s
end
def jF {α:Type} (l:List α):Option (List α):=match l with
 | []=>none
 | l=>some l
theorem I3 {α:Type} (l:List α):(jF l).getD []=l:=by cases l<;>rfl
def fF {α:Type} (e es:Nat) (c:α→List PV) (b:Nat) (l:List α) (v:PV) (s:PS):Prop:=
 (l=[]∧v=.sc (.slice none 0 0))∨(l≠[]∧∃k,b≤k∧k < s.n∧v=.own k 0 l.length (l.length * es)∧s.h k=⟨l.flatMap c,0,e⟩)
theorem fF.nil {α:Type} (e es:Nat) (c:α→List PV) (b:Nat) (s:PS):fF e es c b [] (.sc (.slice none 0 0)) s:=.inl ⟨rfl,rfl⟩
theorem pH {α:Type}{c:α→List PV}{m:List α} (ho:∀x∈m,(c x).all eQ=true):(m.flatMap c).all eQ=true:=by
 rw [List.all_flatMap];exact List.all_eq_true.2 ho
theorem fF.app {α:Type}{e es bytes b:Nat}{c:α→List PV}{l:List α}{v:PV}{s:PS} (hc:∀x,(c x).length=es) (h:fF e es c b l v s) (m:List α) (hes:es≠0) (hb:(l.length + m.length) * bytes≤140737488355328) (hn:l.length + m.length≤1073741824) (ho:∀x∈m,(c x).all eQ=true) (hbn:b≤s.n) :
  ∃v' s',fo s e es bytes v (m.flatMap c) m.length=some (v',s')∧fF e es c b (l ++ m) v' s'∧(∀j,j < b→s'.h j=s.h j)∧s.n≤s'.n∧(∀n0,n0≤b→n0≤s.w→n0≤s'.w):=by
 by_cases hm:m=[]
 ·subst hm;refine⟨v,s,?_,by rw [List.append_nil]; exact h,fun _ _=>rfl,Nat.le_refl _,fun _ _ h=>h⟩;unfold fo;rw [if_pos (by rfl)];rw [if_pos];rcases h with ⟨_,rfl⟩ | ⟨_,k,_,_,rfl,_⟩<;>rfl
 ·have hm0:m.length≠0:=by simpa using hm
  have hfl:=bB hc m;have hone:=pH ho;rcases h with ⟨rfl,rfl⟩ | ⟨hl,k,k1,k2,rfl,k3⟩
  ·refine⟨.own s.n 0 m.length (m.flatMap c).length,s.new ⟨m.flatMap c,0,e⟩,?_,.inr ⟨hm,s.n,hbn,by rw [aj]; omega,?_,?_⟩,fun j hj=>?_,by rw [aj]; omega,fun n0 _ hw=>by rw [cO]; exact hw⟩
   ·unfold fo;rw [if_neg hm0];simp only;rw [if_pos ⟨hes,hfl,by simpa using hb,by simpa using hn,hone⟩]
   ·rw [List.nil_append,hfl]
   ·rw [qT,if_pos rfl,List.nil_append]
   ·rw [qT,if_neg (by omega)]
  ·have hfl':=bB hc l;refine⟨.own k 0 (l.length + m.length) (l.length * es + (m.flatMap c).length),s.put k ⟨l.flatMap c ++ m.flatMap c,0,e⟩,?_,.inr ⟨by simp [hm],k,k1,by rw [ak]; exact k2,?_,?_⟩,fun j hj=>?_,by rw [ak]; exact Nat.le_refl _,fun n0 h1 h2=>by rw [db]; omega⟩
   ·unfold fo;rw [if_neg hm0];simp only [k3];rw [if_pos ⟨⟨hes,hfl,hb,hn,hone⟩,by omega,hfl'.symm,Nat.zero_le _,trivial,trivial⟩]
   ·rw [List.length_append,hfl,Nat.add_mul]
   ·rw [v9,if_pos rfl,List.flatMap_append]
   ·rw [v9,if_neg (by omega)]
theorem fF.frz {α:Type}{e es b n0:Nat}{c:α→List PV}{l:List α}{v:PV}{s:PS} (hc:∀x,(c x).length=es) (h:fF e es c b l v s) (hn:n0≤b) (hcl:∀x∈l,(c x).all dQ=true):aP n0 s v=some (wO e c (jF l)):=by
 rcases h with ⟨rfl,rfl⟩ | ⟨hl,k,k1,k2,rfl,k3⟩
 ·rfl
 ·have hfl:=bB hc l;have hall:(l.flatMap c).all dQ=true:=by rw [List.all_flatMap]; exact List.all_eq_true.2 hcl
  unfold aP;simp only [k3,List.drop_zero,Nat.sub_zero];rw [if_neg (by omega)];rw [List.take_of_length_le (by omega),if_pos ⟨Nat.zero_le _,by omega,Nat.zero_le _,hall⟩];cases l with
  | nil=>exact absurd rfl hl
  | cons a l=>rfl
theorem fF.new {α:Type}{e es b:Nat}{c:α→List PV}{l:List α}{v:PV}{s:PS} (h:fF e es c b l v s) (k:pD):fF e es c b l v (s.new k):=by
 rcases h with h | ⟨hl,k,k1,k2,rfl,k3⟩
 ·exact .inl h
 ·exact .inr ⟨hl,k,k1,by rw [aj]; omega,rfl,by rw [qT,if_neg (by omega)]; exact k3⟩
theorem fF.frame {α:Type}{e es b:Nat}{c:α→List PV}{l:List α}{v:PV}{s s':PS} (h:fF e es c b l v s) (hn:s.n≤s'.n) (hh:∀j,j < s.n→s'.h j=s.h j):fF e es c b l v s':=by
 rcases h with h | ⟨hl,k,k1,k2,rfl,k3⟩
 ·exact .inl h
 ·exact .inr ⟨hl,k,k1,by omega,rfl,by rw [hh k k2]; exact k3⟩
theorem Hx {α:Type}{e es:Nat}{c:α→List PV} (hc:∀x,(c x).length=es) (l:Option (List α)) (s:PS):eM s es (wO e c l)=some ((l.getD []).flatMap c,(l.getD []).length):=by
 cases l with
 | none=>rfl
 | some l=>
  show (if (l.flatMap c).length=l.length * es then some (l.flatMap c,l.length) else none)=_;rw [if_pos (bB hc l)]; rfl
def oD {α:Type} (e es:Nat) (c:α→List PV) (b:Nat) (X:Nat→Prop) (l:List α) (v:PV) (s:PS):Prop:=
 (l=[]∧v=.sc (.slice none 0 0))∨(l≠[]∧∃k low,b≤k∧k < s.n∧¬ X k∧v=.own k 0 l.length (l.length * es)∧s.h k=⟨l.flatMap c,low,e⟩∧low≤l.length * es)
def mt (d t:Nat):PI:=⟨some d,.mv (.tmp t),none⟩
def mk (d:Nat) (v:Value):PI:=⟨some d,.mv (.const v),none⟩
def gt (j:Nat) (w:Bool) (d t:Nat):PI:=⟨some d,.mv (.tmp t),some (j,w)⟩
def ob (d:Nat) (p:gw):PI:=⟨some d,p,none⟩
def og (j:Nat) (w:Bool) (d:Nat) (p:gw):PI:=⟨some d,p,some (j,w)⟩
def o0 (p:gw):PI:=⟨none,p,none⟩
def g0 (j:Nat) (w:Bool) (p:gw):PI:=⟨none,p,some (j,w)⟩
abbrev tp (n:Nat):Operand:=.tmp n
abbrev ki (n:Int):Operand:=.const (.int .i64 n)
abbrev kc (n:Int):Operand:=.const (.int .u8 n)
def bn (o:BinOp) (t x y:Nat):gw:=.bin o t (.tmp x) (.tmp y)
def bi (o:BinOp) (x:Nat) (n:Int):gw:=.bin o 3 (.tmp x) (.const (.int .i64 n))
def bc (o:BinOp) (x:Nat) (n:Int):gw:=.bin o 5 (.tmp x) (.const (.int .u8 n))
def pk (a b:Nat):gw:=.pick (.tmp a) (.tmp b) (.const (.bool false))
def po (a b:Nat):gw:=.pick (.tmp a) (.const (.bool true)) (.tmp b)
def cl (g:Nat) (l:List Operand):gw:=.call (.func g) l
def Qn (l:List PI) (t:Nat) (a b:aR):aR:=.seq (.reg l) (.cond (.tmp t) a b)
def sr (l:List PI) (c:aR):aR:=.seq (.reg l) c
def lt (id:Nat) (b r:aR):aR:=.seq (.block id (.loop b)) r
section
variable {P:Program}{Γ:Nat→Option fe}{ext:aw}
theorem FT (t:Nat) (x y:Operand) (a b:Int):gP P .eql t x y (.sc (.int .u8 a)) (.sc (.int .u8 b))=some (.sc (.bool (a == b))):=(rfl)
theorem Fo (t:Nat) (x y:Operand) (a b:Int):gP P .neq t x y (.sc (.int .u8 a)) (.sc (.int .u8 b))=some (.sc (.bool (a != b))):=(rfl)
theorem GQ (t:Nat) (x y:Operand) (a b:Int):gP P .lss t x y (.sc (.int .u8 a)) (.sc (.int .u8 b))=some (.sc (.bool (decide (a < b)))):=(rfl)
theorem EV (t:Nat) (x y:Operand) (a b:Int):gP P .leq t x y (.sc (.int .u8 a)) (.sc (.int .u8 b))=some (.sc (.bool (decide (a≤b)))):=(rfl)
theorem GV (t:Nat) (x y:Operand) (a b:Int):gP P .gtr t x y (.sc (.int .u8 a)) (.sc (.int .u8 b))=some (.sc (.bool (decide (a > b)))):=(rfl)
theorem Hh (t:Nat) (x y:Operand) (a b:Int):gP P .geq t x y (.sc (.int .u8 a)) (.sc (.int .u8 b))=some (.sc (.bool (decide (a ≥ b)))):=(rfl)
theorem Ud (a b:Nat):((a:Int) == (b:Int))=(a == b):=by
 rw [Bool.eq_iff_iff]; simp only [beq_iff_eq]; omega
theorem Vt (a b:Nat):((a:Int) != (b:Int))=!(a == b):=by
 show (!((a:Int) == (b:Int)))=_; rw [Ud]
theorem Xi (a b:Nat):decide ((a:Int) < (b:Int))=decide (a < b):=by
 rw [Bool.eq_iff_iff]; simp only [decide_eq_true_iff]; omega
theorem Xr (a b:Nat):decide ((a:Int)≤(b:Int))=decide (a≤b):=by
 rw [Bool.eq_iff_iff]; simp only [decide_eq_true_iff]; omega
theorem Xl (a b:Nat):decide ((a:Int) > (b:Int))=decide (b < a):=by
 rw [Bool.eq_iff_iff]; simp only [decide_eq_true_iff]; omega
theorem Xp (a b:Nat):decide ((a:Int) ≥ (b:Int))=decide (b≤a):=by
 rw [Bool.eq_iff_iff]; simp only [decide_eq_true_iff]; omega
theorem xF {z:Int} (h0 : 0≤z) (h:z < 9223372036854775808):IntKind.i64.wrap z=z:=by
 obtain⟨n,rfl⟩:=Int.eq_ofNat_of_zero_le h0;exact Fa (by omega)
theorem UV {i k:Nat} (h:i + k < 9223372036854775808):IntKind.i64.wrap ((i:Int) + (k:Int))=((i + k:Nat):Int):=by
 rw [xF (by omega) (by omega)]; omega
theorem W9 {i k:Nat} (h:k≤i∧i < 9223372036854775808):IntKind.i64.wrap ((i:Int) - (k:Int))=((i - k:Nat):Int):=by
 rw [xF (by omega) (by omega)]; omega
theorem I9 (t:Nat) (x y:Operand) {a b:ByteArray} (h:a.size + b.size < 9223372036854775808):gP P .add t x y (.sc (.string a)) (.sc (.string b))=some (.sc (.string (a ++ b))):=by
 have e:MX P .add t x y (.string a) (.string b)=some (.string (a ++ b)):=by
  show cF P (if ((a.size + b.size:Nat):Int) > IntKind.i64.max then _ else pure (Value.string (a ++ b)))=_;rw [if_neg (by show ¬ (((a.size + b.size:Nat):Int) > 9223372036854775807); omega)];rfl
 simp only [gP,dP,e]; rfl
end
section
variable {P:Program}{Γ:Nat→Option fe}{ext:aw}
theorem UJ (j:Nat) (w:Bool) (d t:Nat):gt j w d t=⟨some d,.mv (.tmp t),some (j,w)⟩:=rfl
theorem VM (d:Nat) (p:gw):ob d p=⟨some d,p,none⟩:=rfl
theorem Wm (j:Nat) (w:Bool) (d:Nat) (p:gw):og j w d p=⟨some d,p,some (j,w)⟩:=rfl
theorem V3 (p:gw):o0 p=⟨none,p,none⟩:=rfl
theorem Wn (j:Nat) (w:Bool) (p:gw):g0 j w p=⟨none,p,some (j,w)⟩:=rfl
theorem Wx (o:BinOp) (t x y:Nat):bn o t x y=.bin o t (.tmp x) (.tmp y):=rfl
theorem Uy (o:BinOp) (x:Nat) (n:Int):bi o x n=.bin o 3 (.tmp x) (.const (.int .i64 n)):=rfl
theorem VF (o:BinOp) (x:Nat) (n:Int):bc o x n=.bin o 5 (.tmp x) (.const (.int .u8 n)):=rfl
theorem UD (a b:Nat):pk a b=.pick (.tmp a) (.tmp b) (.const (.bool false)):=rfl
theorem VT (a b:Nat):po a b=.pick (.tmp a) (.const (.bool true)) (.tmp b):=rfl
theorem UO (g:Nat) (l:List Operand):cl g l=.call (.func g) l:=rfl
theorem P2 (cs:List PV):cI (.agg cs)=cs:=rfl
theorem Qq (v:Value):cI (.sc v)=[.sc v]:=rfl
theorem MB (k off n fin:Nat):cI (.own k off n fin)=[.own k off n fin]:=rfl
theorem OX (k off fin:Nat):cI (.ptr k off fin)=[.ptr k off fin]:=rfl
theorem Qo (g:Nat) (a c:List PV):cI (.fn g a c)=[.fn g a c]:=rfl
theorem P4 (e n:Nat) (c:List PV):cI (.lit e n c)=[.lit e n c]:=rfl
theorem ai:undef=.tuple #[]:=rfl
theorem OS (i:Nat):ej [] i=fun _=>.sc undef:=rfl
theorem Ng (v:PV) (l:List PV) (i:Nat):ej (v :: l) i=aE.set (ej l (i + 1)) i v:=rfl
end
end Go.PE
namespace Go.PE
open Go Go.EvL Go.Mir
structure Ar (p:Prop):Prop where
 h:p
def DI {α:Type} (p:Prop) [Decidable p] (A:p→α) (B:¬ p→α):α:=if h:p then A h else B h
theorem DI_c {α:Type}{p:Prop} [Decidable p] {A:p→α}{B:¬ p→α}{R:α} (h1:∀h,A h=R) (h2:∀h,B h=R):DI p A B=R:=by
 unfold DI; split
 ·exact h1 _
 ·exact h2 _
inductive KI where
 | s (b:aR)
 | b (id:Nat)
section
variable (P:Program) (Γ:Nat→Option fe) (ext:aw) (F:ZC→Option ZR)
noncomputable def kz:List KI→Option ZC→Option ZC
 | [],r=>r
 | .s b :: k,r=>kz k (pZ r (eg P Γ ext b))
 | .b id :: k,r=>kz k (AX id r)
noncomputable def iD (k:List KI) (r:Option ZC):Option ZR:=(kz P Γ ext k r).bind F
noncomputable def zr (c:aR) (f:aE) (s:PS) (k:List KI):Option ZR:=iD P Γ ext F k (eg P Γ ext c f s)
noncomputable def rl (id:Nat) (b r:aR) (f:aE) (s:PS) (k:List KI):Option ZR:=zr P Γ ext F (.seq (.block id (.loop b)) r) f s k
noncomputable def rn (f:aE) (s:PS) (k:List KI):Option ZR:=iD P Γ ext F k (some (.go .normal f s))
noncomputable def re (id:Nat) (f:aE) (s:PS) (k:List KI):Option ZR:=iD P Γ ext F k (some (.go (.exit id) f s))
noncomputable def iU (l:List PI) (f:aE) (s:PS) (k:List KI):Option ZR:=iD P Γ ext F k (jH P (ah P Γ ext) l f s)
noncomputable def ra (r:Option ZR) (d:Option Nat) (f:aE) (l:List PI) (k:List KI):Option ZR:=r.bind fun
 | .ok v s'=>iU P Γ ext F l (gD f d v) s' k
 | .pan v s'=>F (.pan v f s')
noncomputable def rg (v:PV) (w:Bool) (d:Option Nat) (o:gw) (f:aE) (s:PS) (l:List PI) (k:List KI):Option ZR:=match v with
 | .sc (.bool b)=>if b=w then ra P Γ ext F (cq P (ah P Γ ext) f s o) d f l k else iU P Γ ext F l (gD f d (.sc undef)) s k
 | .sc (.tuple _)=>iU P Γ ext F l (gD f d (.sc undef)) s k
 | _=>none
noncomputable def gk (p:Prop) [Decidable p] (A:p→Option ZR) (d:Option Nat) (f:aE) (s:PS) (l:List PI) (k:List KI):Option ZR:=
 if h:p then ra P Γ ext F (A h) d f l k else iU P Γ ext F l (gD f d (.sc undef)) s k
noncomputable def rc (v:PV) (a b:aR) (f:aE) (s:PS) (k:List KI):Option ZR:=match v with
 | .sc (.bool true)=>zr P Γ ext F a f s k
 | .sc (.bool false)=>zr P Γ ext F b f s k
 | _=>none
noncomputable def IG (b:Bool) (l:List (PI × List Nat × List Nat)) (j:Nat) (acc:List (Nat × gy × Nat × Nat)) (f:aE) (s:PS) (k:List KI):Option ZR:=iD P Γ ext F k (fQ P (cz Γ) (ah P Γ ext) b l j acc f s)
noncomputable def Mz (r:Option ZR) (b:Bool) (d:Option Nat) (o:gw) (E:gy) (pu:Bool) (un:List Nat) (l:List (PI × List Nat × List Nat)) (j:Nat) (acc:List (Nat × gy × Nat × Nat)) (f:aE) (s:PS) (k:List KI):Option ZR:=r.bind fun
 | .ok v s'=>if (pu=true∨mX un j l=true)∧aG un E acc then IG P Γ ext F b l (j + 1) ((j,E,s.n,s'.n) :: acc) (gD f d v) s' k else none
 | .pan _ _=>iD P Γ ext F k (qX P (ah P Γ ext) (b && mX un j l) f s o)
end
section
variable {P:Program}{Γ:Nat→Option fe}{ext:aw}{F:ZC→Option ZR}
theorem Bp (k:List KI) (v:Value) (f:aE) (s:PS):kz P Γ ext k (some (.pan v f s))=some (.pan v f s):=by
 induction k with
 | nil=>rfl
 | cons i k ih=>cases i<;>exact ih
theorem Nc (k:List KI) (f:aE) (s:PS):kz P Γ ext k (some (.go .ret f s))=some (.go .ret f s):=by
 induction k with
 | nil=>rfl
 | cons i k ih=>cases i<;>exact ih
theorem jh (k:List KI):kz P Γ ext k none=none:=by
 induction k with
 | nil=>rfl
 | cons i k ih=>cases i<;>exact ih
theorem pn {g:Nat} (fn:fe) (h:Γ g=some fn) (args:List PV) (s:PS) (hl:args.length≤fn.nt):ah P Γ ext g args s=zr P Γ ext (fG fn s) fn.body (ej args 0) ⟨s.h,s.n,s.n⟩ []:=Hq h args s hl
def ZT (res:List Nat) (s0:PS):ZC→Option ZR
 | .go (.exit _) _ _=>none
 | .go _ f s=>if s0.n≤s.w then (frz s0.n s (ae (res.map f))).map fun v=>.ok v s0 else none
 | .pan v _ s=>if s0.n≤s.w then some (.pan v s0) else none
theorem so (f:aE) (s:PS):∀l:List Nat,gj f s (l.map .tmp)=some (l.map f)
 | []=>rfl
 | a :: l=>by simp only [List.map_cons,gj,so f s l,Option.map_some]
theorem S5 {fn:fe}{res:List Nat} (hr:fn.res=res.map .tmp) (hk:fn.keep=false) (s0:PS):fG fn s0=ZT res s0:=by
 funext r;unfold fG ZT;have h:∀f s,gI fn s0 f s=if s0.n≤s.w then (frz s0.n s (ae (res.map f))).map fun v=>(v,s0) else none:=fun f s=>by
  unfold gI;rw [hr,so];simp only [Option.bind_some,hk,Bool.false_eq_true,if_false]
 rcases r with ⟨x,f,s⟩ | ⟨v,f,s⟩
 ·cases x with
  | exit i=>rfl
  | _=>
   simp only [h];split
   ·unfold fj; rw [Option.map_map]; rfl
   ·rfl
 ·simp only [hk,Bool.false_eq_true,if_false]
theorem zT {g:Nat}{fn:fe} (res:List Nat) (h:Γ g=some fn) (hr:fn.res=res.map .tmp) (hk:fn.keep=false) (args:List PV) (s:PS) (hl:Nat.ble args.length fn.nt=true):ah P Γ ext g args s=zr P Γ ext (ZT res s) fn.body (ej args 0) ⟨s.h,s.n,s.n⟩ []:=by
 rw [pn fn h args s (Nat.le_of_ble_eq_true hl),S5 hr hk]
noncomputable def Ql (w:Nat) (s0:PS) (r:Option PV):Option ZR:=if s0.n≤w then r.map fun v=>.ok v s0 else none
theorem UM (res:List Nat) (s0:PS) (f:aE) (s:PS):ZT res s0 (.go .ret f s)=Ql s.w s0 (frz s0.n s (ae (res.map f))):=rfl
theorem V6 (res:List Nat) (s0:PS) (f:aE) (s:PS):ZT res s0 (.go .normal f s)=Ql s.w s0 (frz s0.n s (ae (res.map f))):=rfl
noncomputable def Uo (w:Nat) (s0:PS) (v:Value):Option ZR:=if s0.n≤w then some (.pan v s0) else none
theorem V7 (res:List Nat) (s0:PS) (v:Value) (f:aE) (s:PS):ZT res s0 (.pan v f s)=Uo s.w s0 v:=rfl
theorem QL {w:Nat}{s0:PS} (h:Ar (s0.n≤w)) (v:PV):Ql w s0 (some v)=some (.ok v s0):=if_pos h.h
theorem Rp {w:Nat}{s0:PS} (h:Ar (s0.n≤w)) (v:Value):Uo w s0 v=some (.pan v s0):=if_pos h.h
theorem setD_s (f:aE) (d:Nat) (v:PV):gD f (some d) v=f.set d v:=rfl
theorem setD_n (f:aE) (v:PV):gD f none v=f:=rfl
theorem mO (a b:aR) (f:aE) (s:PS) (k:List KI):zr P Γ ext F (.seq a b) f s k=zr P Γ ext F a f s (.s b :: k):=by
 unfold zr; rw [Dv]; rfl
theorem mH (id:Nat) (b:aR) (f:aE) (s:PS) (k:List KI):zr P Γ ext F (.block id b) f s k=zr P Γ ext F b f s (.b id :: k):=by
 unfold zr; rw [xQ]; rfl
theorem vm (l:List PI) (f:aE) (s:PS) (k:List KI):zr P Γ ext F (.reg l) f s k=iU P Γ ext F l f s k:=by
 unfold zr; rw [DD]; rfl
theorem H3 (l:List (PI × List Nat × List Nat)) (f:aE) (s:PS) (k:List KI):zr P Γ ext F (.draw l) f s k=IG P Γ ext F true l 0 [] f s k:=by
 unfold zr; rw [AW]; rfl
theorem EX (f:aE) (s:PS) (k:List KI):zr P Γ ext F .skip f s k=rn P Γ ext F f s k:=by
 unfold zr; rw [Bm]; rfl
theorem GK (id:Nat) (f:aE) (s:PS) (k:List KI):zr P Γ ext F (.exit id) f s k=re P Γ ext F id f s k:=by
 unfold zr; rw [zN]; rfl
theorem IQ (f:aE) (s:PS) (k:List KI):zr P Γ ext F .ret f s k=F (.go .ret f s):=by
 unfold zr; rw [DK]; unfold iD; rw [Nc]; rfl
theorem Gy (t:Nat) (a b:aR) (f:aE) (s:PS) (k:List KI):zr P Γ ext F (.cond (.tmp t) a b) f s k=rc P Γ ext F (f t) a b f s k:=by
 unfold zr; rw [B0]; unfold rc;show iD P Γ ext F k (tJ (ep (f t)) _ _)=_;cases f t with
 | sc v=>
  cases v with
  | bool b=>cases b<;>rfl
  | _=>unfold iD; exact (congrArg (Option.bind · _) (jh k))
 | _=>unfold iD; exact (congrArg (Option.bind · _) (jh k))
theorem Li (l:List PI) (t:Nat) (a b:aR) (f:aE) (s:PS) (k:List KI):zr P Γ ext F (Qn l t a b) f s k=iU P Γ ext F l f s (.s (.cond (.tmp t) a b) :: k):=by
 unfold Qn; rw [mO,vm]
theorem MO (l:List PI) (c:aR) (f:aE) (s:PS) (k:List KI):zr P Γ ext F (sr l c) f s k=iU P Γ ext F l f s (.s c :: k):=by
 unfold sr; rw [mO,vm]
theorem OC (id:Nat) (b r:aR) (f:aE) (s:PS) (k:List KI):zr P Γ ext F (lt id b r) f s k=rl P Γ ext F id b r f s k:=rfl
theorem SH (b:aR) (f:aE) (s:PS) (k:List KI):rn P Γ ext F f s (.s b :: k)=zr P Γ ext F b f s k:=rfl
theorem Us (id:Nat) (f:aE) (s:PS) (k:List KI):rn P Γ ext F f s (.b id :: k)=rn P Γ ext F f s k:=rfl
theorem PH (f:aE) (s:PS):rn P Γ ext F f s []=F (.go .normal f s):=rfl
theorem OW (id:Nat) (b:aR) (f:aE) (s:PS) (k:List KI):re P Γ ext F id f s (.s b :: k)=re P Γ ext F id f s k:=rfl
theorem Rx (id j:Nat) (f:aE) (s:PS) (k:List KI):re P Γ ext F id f s (.b j :: k)=if id=j then rn P Γ ext F f s k else re P Γ ext F id f s k:=by
 show iD P Γ ext F k (some (if id=j then _ else _))=_;split<;>rfl
theorem Hk (f:aE) (s:PS) (k:List KI):iU P Γ ext F [] f s k=rn P Γ ext F f s k:=rfl
theorem NS (d:Option Nat) (o:gw) (l:List PI) (f:aE) (s:PS) (k:List KI):iU P Γ ext F (⟨d,o,none⟩ :: l) f s k=ra P Γ ext F (cq P (ah P Γ ext) f s o) d f l k:=by
 unfold iU ra;simp only [jH,eb];cases cq P (ah P Γ ext) f s o with
 | none=>unfold iD; exact (congrArg (Option.bind · _) (jh k))
 | some q=>
  cases q with
  | ok v s'=>rfl
  | pan v s'=>unfold iD; exact (congrArg (Option.bind · _) (Bp k _ _ _))
theorem Ni (d:Option Nat) (o:gw) (j:Nat) (w:Bool) (l:List PI) (f:aE) (s:PS) (k:List KI):iU P Γ ext F (⟨d,o,some (j,w)⟩ :: l) f s k=rg P Γ ext F (f j) w d o f s l k:=by
 have hn:iD P Γ ext F k none=none:=by unfold iD; exact (congrArg (Option.bind · _) (jh k))
 unfold iU rg;simp only [jH,eb];generalize f j=v at *;cases v with
 | sc u=>
  cases u with
  | bool b=>
   simp only;cases hb:(b == w) with
   | false=>
    have hne:b≠w:=by simpa using hb
    simp only [if_neg hne];rfl
   | true=>
    have he:b=w:=by simpa using hb
    simp only [if_pos he];unfold ra;cases cq P (ah P Γ ext) f s o with
    | none=>exact hn
    | some q=>
     cases q with
     | ok v s'=>rfl
     | pan v s'=>unfold iD; exact (congrArg (Option.bind · _) (Bp k _ _ _))
  | tuple x=>rfl
  | _=>exact hn
 | _=>exact hn
theorem TA (v:PV) (s:PS) (d:Nat) (f:aE) (l:List PI) (k:List KI):ra P Γ ext F (some (.ok v s)) (some d) f l k=iU P Γ ext F l (f.set d v) s k:=rfl
theorem N2 (v:PV) (s:PS) (f:aE) (l:List PI) (k:List KI):ra P Γ ext F (some (.ok v s)) none f l k=iU P Γ ext F l f s k:=rfl
theorem Mo (v:Value) (s:PS) (d:Option Nat) (f:aE) (l:List PI) (k:List KI):ra P Γ ext F (some (.pan v s)) d f l k=F (.pan v f s):=rfl
theorem Lc (d t:Nat) (l:List PI) (f:aE) (s:PS) (k:List KI):iU P Γ ext F (mt d t :: l) f s k=iU P Γ ext F l (f.set d (f t)) s k:=rfl
theorem J5 (d:Nat) (v:Value) (l:List PI) (f:aE) (s:PS) (k:List KI):iU P Γ ext F (mk d v :: l) f s k=iU P Γ ext F l (f.set d (ig v)) s k:=rfl
theorem Pi (b:Bool) (d:Option Nat) (o:gw) (f:aE) (s:PS) (l:List PI) (k:List KI):rg P Γ ext F (.sc (.bool b)) b d o f s l k=ra P Γ ext F (cq P (ah P Γ ext) f s o) d f l k:=by
 unfold rg; simp
theorem LG (d:Option Nat) (o:gw) (f:aE) (s:PS) (l:List PI) (k:List KI):rg P Γ ext F (.sc (.bool true)) false d o f s l k=iU P Γ ext F l (gD f d (.sc undef)) s k:=by
 unfold rg; simp
theorem LR (d:Option Nat) (o:gw) (f:aE) (s:PS) (l:List PI) (k:List KI):rg P Γ ext F (.sc (.bool false)) true d o f s l k=iU P Γ ext F l (gD f d (.sc undef)) s k:=by
 unfold rg; simp
theorem Wp (x:Array Value) (w:Bool) (d:Option Nat) (o:gw) (f:aE) (s:PS) (l:List PI) (k:List KI):rg P Γ ext F (.sc (.tuple x)) w d o f s l k=iU P Γ ext F l (gD f d (.sc undef)) s k:=rfl
theorem Ta (p:Prop) [Decidable p] (d:Option Nat) (o:gw) (f:aE) (s:PS) (l:List PI) (k:List KI):rg P Γ ext F (.sc (.bool (decide p))) true d o f s l k=gk P Γ ext F p (fun _=>cq P (ah P Γ ext) f s o) d f s l k:=by
 unfold gk;split
 ·rename_i h; rw [decide_eq_true h,Pi]
 ·rename_i h; rw [decide_eq_false h,LR]
theorem LV (p:Prop) [Decidable p] (d:Option Nat) (o:gw) (f:aE) (s:PS) (l:List PI) (k:List KI):rg P Γ ext F (.sc (.bool (decide p))) false d o f s l k=gk P Γ ext F (¬ p) (fun _=>cq P (ah P Γ ext) f s o) d f s l k:=by
 unfold gk;split
 ·rename_i h; rw [decide_eq_false h,Pi]
 ·rename_i h; rw [decide_eq_true (Decidable.not_not.1 h),LG]
def gv (p:Prop) [Decidable p] (v:PV):PV:=if p then v else .sc undef
theorem Wy {p:Prop} [Decidable p] (h:p) (v:PV):gv p v=v:=if_pos h
theorem Ue {p q:Prop} [Decidable p] [Decidable q] (h:p) (v:PV):gv (p∧q) v=gv q v:=by
 unfold gv; simp [h]
theorem VY (q p:Prop) [Decidable q] [Decidable p] (d:Option Nat) (o:gw) (f:aE) (s:PS) (l:List PI) (k:List KI):rg P Γ ext F (gv q (.sc (.bool (decide p)))) true d o f s l k=gk P Γ ext F (q∧p) (fun _=>cq P (ah P Γ ext) f s o) d f s l k:=by
 unfold gv;by_cases hq:q
 ·rw [if_pos hq,Ta]; unfold gk; simp only [hq,true_and]
 ·rw [if_neg hq]; unfold gk; simp only [hq,false_and,dif_neg,not_false_eq_true]; rfl
theorem Rb (q p:Prop) [Decidable q] [Decidable p] (d:Option Nat) (o:gw) (f:aE) (s:PS) (l:List PI) (k:List KI):rg P Γ ext F (gv q (.sc (.bool (decide p)))) false d o f s l k=gk P Γ ext F (q∧¬ p) (fun _=>cq P (ah P Γ ext) f s o) d f s l k:=by
 unfold gv;by_cases hq:q
 ·rw [if_pos hq,LV]; unfold gk; simp only [hq,true_and]
 ·rw [if_neg hq]; unfold gk; simp only [hq,false_and,dif_neg,not_false_eq_true]; rfl
theorem TE (p:Prop) [Decidable p] (v:PV) (s:PS) (d:Nat) (f:aE) (l:List PI) (k:List KI):gk P Γ ext F p (fun _=>some (.ok v s)) (some d) f s l k=iU P Γ ext F l (f.set d (gv p v)) s k:=by
 unfold gk gv;split<;>rfl
theorem bR {p:Prop} [Decidable p] (h:Ar p) (A:p→Option ZR) (d:Option Nat) (f:aE) (s:PS) (l:List PI) (k:List KI):gk P Γ ext F p A d f s l k=ra P Γ ext F (A h.h) d f l k:=dif_pos h.h
theorem ed {p:Prop} [Decidable p] (h:Ar (¬ p)) (A:p→Option ZR) (d:Option Nat) (f:aE) (s:PS) (l:List PI) (k:List KI):gk P Γ ext F p A d f s l k=iU P Γ ext F l (gD f d (.sc undef)) s k:=dif_neg h.h
theorem Vd (p:Prop) [Decidable p] (A:p→Option ZR) (B:¬ p→Option ZR) (d:Option Nat) (f:aE) (l:List PI) (k:List KI):ra P Γ ext F (DI p A B) d f l k=DI p (fun h=>ra P Γ ext F (A h) d f l k) fun h=>ra P Γ ext F (B h) d f l k:=by
 unfold DI; split<;>rfl
def lk (id:Nat) (b r:aR) (k:List KI):List KI:=.s (.loop b) :: .b id :: .s r :: k
theorem Sa (id:Nat) (b r:aR) (f:aE) (s:PS) (k:List KI):rn P Γ ext F f s (lk id b r k)=rl P Γ ext F id b r f s k:=by
 unfold rl; rw [mO,mH]; rfl
theorem SL (j id:Nat) (b r:aR) (f:aE) (s:PS) (k:List KI):re P Γ ext F j f s (lk id b r k)=if j=id then zr P Γ ext F r f s k else re P Γ ext F j f s k:=by
 unfold lk; rw [OW,Rx,SH,OW]
theorem GP (id:Nat) (b r:aR) (f:aE) (s:PS) (k:List KI):zr P Γ ext F (.loop b) f s (.b id :: .s r :: k)=rl P Γ ext F id b r f s k:=by
 unfold rl; rw [mO,mH]
theorem J0 (id:Nat) (b r:aR) (f:aE) (s:PS) (k:List KI):rl P Γ ext F id b r f s k=zr P Γ ext F b f s (lk id b r k):=by
 unfold rl; rw [mO,mH];unfold zr lk;rw [sL];rfl
theorem Vo (a b:aR) (f:aE) (s:PS) (k:List KI):rc P Γ ext F (.sc (.bool true)) a b f s k=zr P Γ ext F a f s k:=rfl
theorem Wh (a b:aR) (f:aE) (s:PS) (k:List KI):rc P Γ ext F (.sc (.bool false)) a b f s k=zr P Γ ext F b f s k:=rfl
theorem UY (p:Prop) [Decidable p] (a b:aR) (f:aE) (s:PS) (k:List KI):rc P Γ ext F (.sc (.bool (decide p))) a b f s k=DI p (fun _=>zr P Γ ext F a f s k) fun _=>zr P Γ ext F b f s k:=by
 unfold DI; split
 ·rename_i h; rw [decide_eq_true h]; rfl
 ·rename_i h; rw [decide_eq_false h]; rfl
theorem dt {α:Type}{p:Prop} [Decidable p] {A:p→α}{B:¬ p→α} (h:Ar p):DI p A B=A h.h:=dif_pos h.h
theorem df {α:Type}{p:Prop} [Decidable p] {A:p→α}{B:¬ p→α} (h:Ar (¬ p)):DI p A B=B h.h:=dif_neg h.h
theorem am {g:Nat}{fn:fe}{args:List PV}{s:PS}{B:aR}{R:Option ZR} (res:List Nat) (h:Γ g=some fn) (hr:fn.res=res.map .tmp) (hk:fn.keep=false) (hl:Nat.ble args.length fn.nt=true) (hb:fn.body=B)
  (hR:∀R',R'=R→zr P Γ ext (ZT res s) B (ej args 0) ⟨s.h,s.n,s.n⟩ []=R'):ah P Γ ext g args s=R:=by
 rw [zT res h hr hk args s hl,hb]; exact hR R rfl
theorem ar {id:Nat}{b B r C:aR}{f:aE}{s:PS}{k:List KI}{R:Option ZR} (hb:b=B) (hr:r=C) (hR:(∀f s k,zr P Γ ext F r f s k=zr P Γ ext F C f s k)→∀R',R'=R→zr P Γ ext F B f s (lk id b r k)=R'):rl P Γ ext F id b r f s k=R:=by
 rw [J0]; subst hb; exact hR (fun _ _ _=>by rw [hr]) R rfl
variable {c:dW}
def zv (r:Option PV) (s:PS):Option ZR:=fj (r.map fun v=>(v,s))
theorem Vw (v:PV) (s:PS):zv (some v) s=some (.ok v s):=rfl
def P3 (r:Option (PV × PS)):Option ZR:=fj r
theorem SJ (v:PV) (s:PS):P3 (some (v,s))=some (.ok v s):=rfl
theorem Vl (f:aE) (s:PS) (x:Operand):cq P c f s (.mv x)=some (.ok (aA f x) s):=rfl
def EJ (b x y:PV):Option PV:=match ep b with
 | some true=>some x
 | some false=>some y
 | none=>none
theorem Qa (f:aE) (s:PS) (x a b:Operand):cq P c f s (.pick x a b)=zv (EJ (aA f x) (aA f a) (aA f b)) s:=by
 show fj (bS P f s (.pick x a b))=_;unfold zv EJ;simp only [bS];cases ep (aA f x) with
 | none=>rfl
 | some b=>cases b<;>rfl
theorem Bf (x y:PV):EJ (.sc (.bool true)) x y=some x:=rfl
theorem AB (x y:PV):EJ (.sc (.bool false)) x y=some y:=rfl
theorem bk {p:Prop} [Decidable p] (h:Ar p) (x y:PV):EJ (.sc (.bool (decide p))) x y=some x:=by rw [decide_eq_true h.h]; rfl
theorem bI {p:Prop} [Decidable p] (h:Ar (¬ p)) (x y:PV):EJ (.sc (.bool (decide p))) x y=some y:=by rw [decide_eq_false h.h]; rfl
theorem Ws (p q:Prop) [Decidable p] [Decidable q]:EJ (.sc (.bool (decide p))) (gv p (.sc (.bool (decide q)))) (.sc (.bool false))=some (.sc (.bool (decide (p∧q)))):=by
 unfold gv;by_cases h:p
 ·rw [decide_eq_true h,Bf,if_pos h]; simp [h]
 ·rw [decide_eq_false h,AB]; simp [h]
theorem UX (p q:Prop) [Decidable p] [Decidable q]:EJ (.sc (.bool (decide p))) (.sc (.bool true)) (gv (¬ p) (.sc (.bool (decide q))))=some (.sc (.bool (decide (p∨q)))):=by
 unfold gv;by_cases h:p
 ·rw [decide_eq_true h,Bf]; simp [h]
 ·rw [decide_eq_false h,AB,if_pos h]; simp [h]
theorem SV (p:Prop) [Decidable p]:EJ (.sc (.bool (decide p))) (gv p (.sc (.bool true))) (.sc (.bool false))=some (.sc (.bool (decide p))):=by
 unfold gv;by_cases h:p
 ·rw [decide_eq_true h,Bf,if_pos h]
 ·rw [decide_eq_false h,AB]
theorem QO (p:Prop) [Decidable p]:EJ (.sc (.bool (decide p))) (gv p (.sc (.bool false))) (.sc (.bool false))=some (.sc (.bool false)):=by
 unfold gv;by_cases h:p
 ·rw [decide_eq_true h,Bf,if_pos h]
 ·rw [decide_eq_false h,AB]
theorem QJ (p:Prop) [Decidable p]:EJ (.sc (.bool (decide p))) (.sc (.bool true)) (gv (¬ p) (.sc (.bool false)))=some (.sc (.bool (decide p))):=by
 unfold gv;by_cases h:p
 ·rw [decide_eq_true h,Bf]
 ·rw [decide_eq_false h,AB,if_pos h]
theorem TJ (p:Prop) [Decidable p]:EJ (.sc (.bool (decide p))) (.sc (.bool true)) (gv (¬ p) (.sc (.bool true)))=some (.sc (.bool true)):=by
 unfold gv;by_cases h:p
 ·rw [decide_eq_true h,Bf]
 ·rw [decide_eq_false h,AB,if_pos h]
theorem Ry (f:aE) (s:PS) (e:Nat) (x:Operand):cq P c f s (.box e x)=some (.ok (.ptr s.n 0 (cI (aA f x)).length) (s.new ⟨cI (aA f x),0,e⟩)):=rfl
theorem KW (f:aE) (s:PS) (e:Nat) (z:Value):cq P c f s (.alloc e z)=some (.ok (.ptr s.n 0 (cI (ig z)).length) (s.new ⟨cI (ig z),0,e⟩)):=rfl
theorem Qt (f:aE) (s:PS) (b:Bool) (x:Operand):cq P c f s (.len b x)=zv (oC b (aA f x)) s:=rfl
theorem Rz (l:List UInt8):oC true (.sc (.string ⟨⟨l⟩⟩))=some (.sc (.int .i64 (l.length:Int))):=rfl
def Lz (x i:PV):Option PV:=match x,iu i with
  | .sc (.string b),some j=>if j < b.data.toList.length then some (.sc (.int .u8 ((b.data.toList.getD j 0).toNat:Int))) else none
  | _,_=>none
theorem N8 (f:aE) (s:PS) (x i:Operand):cq P c f s (.sidx x i)=zv (Lz (aA f x) (aA f i)) s:=by
 show fj (bS P f s (.sidx x i))=_;unfold zv Lz;simp only [bS];generalize iu (aA f i)=b;generalize aA f x=a;cases a with
 | sc v=>cases v with
  | string t=>cases b with
   | none=>rfl
   | some j=>simp only []; split<;>rfl
  | _=>rfl
 | _=>rfl
theorem SI {l:List UInt8}{j:Nat} (h:Ar (j < l.length)):Lz (.sc (.string ⟨⟨l⟩⟩)) (.sc (.int .i64 (j:Int)))=some (.sc (.int .u8 (bt l j:Int))):=by
 unfold Lz;rw [kq];exact if_pos h.h
theorem Tc (f:aE) (s:PS) (op:BinOp) (t:Nat) (x y:Operand):cq P c f s (.bin op t x y)=zv (gP P op t x y (aA f x) (aA f y)) s:=rfl
theorem W8 (f:aE) (s:PS) (op:UnOp) (x:Operand):cq P c f s (.un op x)=zv (Ul P op (aA f x)) s:=rfl
theorem Ty (f:aE) (s:PS) (x:Operand) (i:Nat):cq P c f s (.ext x i)=zv (match aA f x with | .tup vs=>vs[i]? | _=>none) s:=by
 show fj (bS P f s (.ext x i))=_;unfold zv;simp only [bS];cases aA f x<;>rfl
theorem MN (f:aE) (s:PS) (g:Nat) (a:List Operand):cq P c f s (.call (.func g) a)=c g (a.map (aA f)) s:=by
 show c g ([] ++ (a.map (aA f) ++ [])) s=_;rw [List.append_nil]; rfl
theorem MK (f:aE) (s:PS) (t:Nat) (ag:Bool) (sz:Nat) (x:Operand):cq P c f s (.load t ag sz x)=zv ((ur s (aA f x) sz).bind (ad ag)) s:=by
 show fj (bS P f s (.load t ag sz x))=_;unfold zv;simp only [bS];cases ur s (aA f x) sz<;>rfl
theorem QX (f:aE) (s:PS) (ag:Bool) (off sz:Nat) (x:Operand):cq P c f s (.fld ag off sz x)=zv (match aA f x with
  | .agg cs=>if off + sz≤cs.length then ad ag ((cs.drop off).take sz) else none
  | _=>none) s:=by
 show fj (bS P f s (.fld ag off sz x))=_;unfold zv;simp only [bS];generalize aA f x=a;cases a with
 | agg cs=>simp only []; split<;>rfl
 | _=>rfl
theorem Kr (f:aE) (s:PS) (z:List Value) (ps:List (Nat × Nat × Operand)):cq P c f s (.build z ps)=zv ((aD f (z.map .sc) ps).map .agg) s:=by
 show fj (bS P f s (.build z ps))=_;unfold zv;simp only [bS];cases aD f (z.map .sc) ps<;>rfl
def ul (x:PV) (l h:Option PV):Option PV:=match (match l with | none=>some 0 | some l=>iu l),(match h with | none=>some (sO x) | some h=>iu h) with
 | some l,some h=>tX x l h
 | _,_=>none
theorem MG (f:aE) (s:PS) (x:Operand) (lo hi:Option Operand):cq P c f s (.sslc x lo hi)=zv (ul (aA f x) (lo.map (aA f)) (hi.map (aA f))) s:=by
 show fj (bS P f s (.sslc x lo hi))=_;unfold zv ul;simp only [bS];cases lo<;>cases hi<;>simp only [nV,Option.map_none,Option.map_some]<;>(repeat' split)<;>first | rfl | simp_all
def sb (l:List UInt8) (i j:Nat):List UInt8:=(l.drop i).take (j - i)
theorem Oz (l:List UInt8):ul (.sc (.string ⟨⟨l⟩⟩)) none none=some (.sc (.string ⟨⟨l⟩⟩)):=by
 unfold ul tX sO;simp
theorem Om {l:List UInt8}{i:Nat} (h:Ar (i≤l.length)):ul (.sc (.string ⟨⟨l⟩⟩)) (some (.sc (.int .i64 (i:Int)))) none=some (.sc (.string ⟨⟨l.drop i⟩⟩)):=by
 unfold ul;simp only [kq];unfold tX sO;simp only;rw [if_pos ⟨h.h,Nat.le_refl _⟩];rw [List.take_of_length_le (by rw [List.length_drop]; exact Nat.le_refl _)]
theorem MV {l:List UInt8}{j:Nat} (h:Ar (j≤l.length)):ul (.sc (.string ⟨⟨l⟩⟩)) none (some (.sc (.int .i64 (j:Int))))=some (.sc (.string ⟨⟨l.take j⟩⟩)):=by
 unfold ul;simp only [kq];unfold tX;simp only;rw [if_pos ⟨Nat.zero_le _,h.h⟩];rfl
theorem OU {l:List UInt8}{i j:Nat} (h:Ar (i≤j∧j≤l.length)):ul (.sc (.string ⟨⟨l⟩⟩)) (some (.sc (.int .i64 (i:Int)))) (some (.sc (.int .i64 (j:Int))))=some (.sc (.string ⟨⟨sb l i j⟩⟩)):=by
 unfold ul;simp only [kq];unfold tX;simp only;rw [if_pos h.h];rfl
theorem aN {i k:Nat} (h:Ar (i + k < 9223372036854775808)):IntKind.i64.wrap ((i:Int) + (k:Int))=((i + k:Nat):Int):=UV h.h
theorem sN {i k:Nat} (h:Ar (k≤i∧i < 9223372036854775808)):IntKind.i64.wrap ((i:Int) - (k:Int))=((i - k:Nat):Int):=W9 h.h
theorem Ux (a b:List UInt8):((ByteArray.mk ⟨a⟩).toList == (ByteArray.mk ⟨b⟩).toList)=decide (a=b):=by
 rw [ByteArray.toList_eq,ByteArray.toList_eq,Bool.eq_iff_iff]; simp
theorem JV (a:List UInt8) [Decidable (a=[])]:decide (a=[])=decide (a.length=0):=by
 rw [decide_eq_decide]; simp
theorem Sr (x y:List UInt8):(⟨⟨x⟩⟩ : ByteArray) ++ (⟨⟨y⟩⟩ : ByteArray)=⟨⟨x ++ y⟩⟩:=by
 apply ByteArray.ext; simp
theorem Wg {t:Nat}{x y:Operand}{a b:List UInt8} (h:Ar (a.length + b.length < 9223372036854775808)):gP P .add t x y (.sc (.string ⟨⟨a⟩⟩)) (.sc (.string ⟨⟨b⟩⟩))=some (.sc (.string ⟨⟨a ++ b⟩⟩)):=by
 rw [I9 t x y (a:=⟨⟨a⟩⟩) (b:=⟨⟨b⟩⟩) (by exact h.h),Sr]
theorem Lk (t:Nat) (x y:Operand) (a b:Int):gP P .mul t x y (.sc (.int .i64 a)) (.sc (.int .i64 b))=some (.sc (.int .i64 (IntKind.i64.wrap (a * b)))):=(rfl)
theorem mN {i k:Nat} (h:Ar (i * k < 9223372036854775808)):IntKind.i64.wrap ((i:Int) * (k:Int))=((i * k:Nat):Int):=by
 rw [← Int.natCast_mul]; exact xF (Int.natCast_nonneg _) (by have:=h.h; omega)
theorem GW (t:Nat) (x y:Operand) (a b:Int):gP P .sub t x y (.sc (.int .u8 a)) (.sc (.int .u8 b))=some (.sc (.int .u8 (IntKind.u8.wrap (a - b)))):=(rfl)
theorem Xo {i k:Nat} (h:Ar (k≤i∧i < 256)):IntKind.u8.wrap ((i:Int) - (k:Int))=((i - k:Nat):Int):=by
 have h:=h.h;have e:(i:Int) - (k:Int)=((i - k:Nat):Int):=by omega
 rw [e];show ((((i - k:Nat):Int) % 256):Int)=_;omega
theorem Q2 (f:aE) (s:PS) (k:IntKind) (x:Operand):cq P c f s (.conv k x)=zv (yk k (aA f x)) s:=rfl
theorem MW {c:Nat} (h:Ar (c < 256)):yk .i64 (.sc (.int .u8 (c:Int)))=some (.sc (.int .i64 (c:Int))):=by
 show some (PV.sc (.int .i64 (IntKind.i64.wrap (c:Int))))=_;rw [xF (by omega) (by have:=h.h; omega)]
def ix (p:Prop) [Decidable p] (n:Nat):Int:=if p then n else -1
theorem U1 (p:Prop) [Decidable p] (n:Nat):decide (ix p n ≥ ((0:Nat):Int))=decide p:=by
 unfold ix; split<;>simp_all
theorem TN (p:Prop) [Decidable p] (n:Nat):decide (ix p n < ((0:Nat):Int))=decide (¬ p):=by
 unfold ix; split<;>simp_all
theorem VZ {p:Prop} [Decidable p] (h:Ar p) (n:Nat):ix p n=(n:Int):=if_pos h.h
theorem Rv (f:aE) (s:PS) (g:Nat) (a:List Operand):cq P c f s (.pcl g a)=zv (G1 P g (a.map (aA f))) s:=rfl
def Um (v:PV) (off:Nat):Option PV:=match v with
 | .ptr k o fin=>some (.ptr k (o + off) fin)
 | .litp cs=>if off≤cs.length then some (.litp (cs.drop off)) else none
 | _=>none
theorem KR (f:aE) (s:PS) (off:Nat) (x:Operand):cq P c f s (.faddr off x)=zv (Um (aA f x) off) s:=by
 show fj (bS P f s (.faddr off x))=_;unfold zv Um;simp only [bS];cases aA f x with
 | litp cs=>simp only []; split<;>rfl
 | _=>rfl
theorem Vn (k o fin off:Nat):Um (.ptr k o fin) off=some (.ptr k (o + off) fin):=rfl
theorem VE (k:IntKind) (n:Nat):ig (.int k (no_index (@OfNat.ofNat Int n instOfNat)))=.sc (.int k ((@OfNat.ofNat Nat n (instOfNatNat n):Nat):Int)):=rfl
theorem Vx (l:List Value):ig (.agg (List.toArray l))=.agg (l.map .sc):=rfl
theorem Rk (k:IntKind) (n:Nat):PV.sc (.int k (no_index (@OfNat.ofNat Int n instOfNat)))=.sc (.int k ((@OfNat.ofNat Nat n (instOfNatNat n):Nat):Int)):=rfl
theorem W3 (l:List UInt8):ig (.string ⟨List.toArray l⟩)=.sc (.string ⟨⟨l⟩⟩):=rfl
theorem Vi (b:Bool):ig (.bool b)=.sc (.bool b):=rfl
theorem VD (a:Option Addr) (b c:Nat):ig (.slice a b c)=.sc (.slice a b c):=rfl
theorem Va (a:Option Addr):ig (.pointer a)=.sc (.pointer a):=rfl
theorem TS:ig .nilFunc=.sc .nilFunc:=rfl
theorem Tf:ig .nilIface=.sc .nilIface:=rfl
theorem UE (a:Array Value):ig (.tuple a)=.sc (.tuple a):=rfl
theorem eU {q:Prop} [Decidable q] (h:q) (s:PS):some (ZR.ok (.sc (.bool true)) s)=some (ZR.ok (.sc (.bool (decide q))) s):=by rw [decide_eq_true h]
theorem dT {q:Prop} [Decidable q] (h:¬ q) (s:PS):some (ZR.ok (.sc (.bool false)) s)=some (ZR.ok (.sc (.bool (decide q))) s):=by rw [decide_eq_false h]
theorem cZ {p q:Prop} [Decidable p] [Decidable q] (h:p↔q) (s:PS):some (ZR.ok (.sc (.bool (decide p))) s)=some (ZR.ok (.sc (.bool (decide q))) s):=by rw [decide_eq_decide.2 h]
theorem U0 {a b:Nat} : (a == b)=decide (a=b):=by
 rw [Bool.eq_iff_iff]; simp
theorem Rc (p:Prop) [Decidable p]:(!(decide p))=decide (¬ p):=by simp
theorem UK (p:Prop) [Decidable p]:(decide p == true)=decide p:=by cases decide p<;>rfl
end
section
variable {P:Program}{Γ:Nat→Option fe}{ext:aw}{F:ZC→Option ZR}{c:dW}
def hn (j n:Nat) (b x:pD):pD:=if j=n then b else x
theorem ap (s:PS) (b:pD) (j:Nat):(s.new b).h j=hn j s.n b (s.h j):=rfl
theorem ao (s:PS) (k:Nat) (b:pD) (j:Nat):(s.put k b).h j=hn j k b (s.h j):=rfl
theorem aI (n:Nat) (b x:pD):hn n n b x=b:=if_pos rfl
theorem au {j n:Nat} (h:Ar (j≠n)) (b x:pD):hn j n b x=x:=if_neg h.h
def ZK (res:List Nat) (s0:PS):ZC→Option ZR
 | .go (.exit _) _ _=>none
 | .go _ f s=>some (.ok (ae (res.map f)) ⟨s.h,s.n,min s0.w s.w⟩)
 | .pan v _ s=>some (.pan v ⟨s.h,s.n,min s0.w s.w⟩)
theorem M3 {fn:fe}{res:List Nat} (hr:fn.res=res.map .tmp) (hk:fn.keep=true) (s0:PS):fG fn s0=ZK res s0:=by
 funext r;unfold fG ZK;have h:∀f s,gI fn s0 f s=some (ae (res.map f),⟨s.h,s.n,min s0.w s.w⟩):=fun f s=>by
  unfold gI;rw [hr,so];simp only [Option.bind_some,hk,if_true]
 rcases r with ⟨x,f,s⟩ | ⟨v,f,s⟩
 ·cases x with
  | exit i=>rfl
  | _=>simp only [h]; rfl
 ·simp only [hk,if_true]
theorem aK {g:Nat}{fn:fe}{args:List PV}{s:PS}{B:aR}{R:Option ZR} (res:List Nat) (h:Γ g=some fn) (hr:fn.res=res.map .tmp) (hk:fn.keep=true) (hl:Nat.ble args.length fn.nt=true) (hb:fn.body=B)
  (hR:∀R',R'=R→zr P Γ ext (ZK res s) B (ej args 0) ⟨s.h,s.n,s.n⟩ []=R'):ah P Γ ext g args s=R:=by
 rw [pn fn h args s (Nat.le_of_ble_eq_true hl),M3 hr hk,hb]; exact hR R rfl
theorem Vj (res:List Nat) (s0:PS) (f:aE) (s:PS):ZK res s0 (.go .ret f s)=some (.ok (ae (res.map f)) ⟨s.h,s.n,min s0.w s.w⟩):=rfl
theorem VC (res:List Nat) (s0:PS) (f:aE) (s:PS):ZK res s0 (.go .normal f s)=some (.ok (ae (res.map f)) ⟨s.h,s.n,min s0.w s.w⟩):=rfl
theorem VU (res:List Nat) (s0:PS) (v:Value) (f:aE) (s:PS):ZK res s0 (.pan v f s)=some (.pan v ⟨s.h,s.n,min s0.w s.w⟩):=rfl
def ZL (r m:Nat) (s0:PS):ZC→Option ZR
 | .go (.exit _) _ _=>none
 | .go _ f s=>if s0.n≤s.w then (ur s (f r) m).bind fun cs=>(oN s0.n s cs).map fun cs=>.ok (.agg cs) s0 else none
 | .pan v _ s=>if s0.n≤s.w then some (.pan v s0) else none
theorem SR {fn:fe}{r m:Nat} (hr:fn.res=[.cell r true m]) (hk:fn.keep=false) (s0:PS):fG fn s0=ZL r m s0:=by
 funext q;unfold fG ZL;have h:∀f s,gI fn s0 f s=if s0.n≤s.w then (ur s (f r) m).bind fun cs=>(oN s0.n s cs).map fun cs=>(.agg cs,s0) else none:=fun f s=>by
  unfold gI;rw [hr];simp only [gj,hk,Bool.false_eq_true,if_false];cases hd:ur s (f r) m with
  | none=>simp
  | some cs=>
   simp only [Option.bind_some,ad,if_true,Option.map_some];split
   ·show (Option.map PV.agg (oN s0.n s cs)).map _=_;rw [Option.map_map]; rfl
   ·rfl
 rcases q with ⟨x,f,s⟩ | ⟨v,f,s⟩
 ·cases x with
  | exit i=>rfl
  | _=>
   simp only [h];split
   ·cases ur s (f r) m with
    | none=>rfl
    | some cs=>simp only [Option.bind_some]; unfold fj; rw [Option.map_map]; rfl
   ·rfl
 ·simp only [hk,Bool.false_eq_true,if_false]
theorem bF {g:Nat}{fn:fe}{args:List PV}{s:PS}{B:aR}{R:Option ZR} (r m:Nat) (h:Γ g=some fn) (hr:fn.res=[.cell r true m]) (hk:fn.keep=false) (hl:Nat.ble args.length fn.nt=true) (hb:fn.body=B)
  (hR:∀R',R'=R→zr P Γ ext (ZL r m s) B (ej args 0) ⟨s.h,s.n,s.n⟩ []=R'):ah P Γ ext g args s=R:=by
 rw [pn fn h args s (Nat.le_of_ble_eq_true hl),SR hr hk,hb]; exact hR R rfl
noncomputable def Uk (w:Nat) (s0:PS) (r:Option (List PV)):Option ZR:=if s0.n≤w then r.map fun v=>.ok (.agg v) s0 else none
theorem RY (r m:Nat) (s0:PS) (f:aE) (s:PS):ZL r m s0 (.go .ret f s)=Uk s.w s0 ((ur s (f r) m).bind (oN s0.n s)):=by
 show (if s0.n≤s.w then (ur s (f r) m).bind (fun cs=>(oN s0.n s cs).map fun cs=>ZR.ok (.agg cs) s0) else none)=_;unfold Uk;split
 ·cases ur s (f r) m<;>rfl
 ·rfl
theorem Vb (r m:Nat) (s0:PS) (f:aE) (s:PS):ZL r m s0 (.go .normal f s)=Uk s.w s0 ((ur s (f r) m).bind (oN s0.n s)):=RY r m s0 f s
theorem Vu (r m:Nat) (s0:PS) (v:Value) (f:aE) (s:PS):ZL r m s0 (.pan v f s)=Uo s.w s0 v:=rfl
theorem Ug {w:Nat}{s0:PS} (h:Ar (s0.n≤w)) (v:List PV):Uk w s0 (some v)=some (.ok (.agg v) s0):=if_pos h.h
def WI (r:Option PS):Option ZR:=fj (r.map fun s=>(.sc undef,s))
theorem TV (s:PS):WI (some s)=some (.ok (.sc undef) s):=rfl
theorem KH (f:aE) (s:PS) (t sz:Nat) (x y:Operand):cq P c f s (.store t sz x y)=if (cI (aA f y)).length=sz then WI (Ma s (aA f x) (cI (aA f y))) else none:=by
 show fj (bS P f s (.store t sz x y))=_;simp only [bS];split<;>rfl
theorem Vs (s:PS) (k off fin:Nat) (ys:List PV):Ma s (.ptr k off fin) ys=if off + ys.length≤fin∧fin=(s.h k).cells.length∧ys.all eQ=true then some (s.put k ⟨(s.h k).cells.take off ++ (ys ++ (s.h k).cells.drop (off + ys.length)),fin,(s.h k).e⟩) else none:=(rfl)
theorem FP (f:aE) (s:PS) (e n:Nat) (z:List Value) (ps:List (Nat × Nat × Operand)):cq P c f s (.bslice e n z ps)=P3 ((aD f (z.map .sc) ps).map fun cs=>(.own s.n 0 n cs.length,s.new ⟨cs,0,e⟩)):=rfl
theorem Ra (f:aE) (s:PS) (e es bytes:Nat) (x y:Operand):cq P c f s (.app e es bytes x y)=P3 ((eM s es (aA f y)).bind fun q=>fo s e es bytes (aA f x) q.1 q.2):=rfl
theorem No (s:PS) (es:Nat):eM s es (.sc (.slice none 0 0))=some ([],0):=rfl
theorem Nj (s:PS) (es e n:Nat) (cs:List PV):eM s es (.lit e n cs)=if cs.length=n * es then some (cs,n) else none:=rfl
theorem Pa (s:PS) (es k off n fin:Nat):eM s es (.own k off n fin)=if off + n * es=fin∧(s.h k).low≤fin∧fin≤(s.h k).cells.length then some (((s.h k).cells.drop off).take (n * es),n) else none:=rfl
theorem K6 {s:PS}{e es bytes n:Nat}{ys:List PV} (h:Ar (n≠0∧es≠0∧ys.length=n * es∧(0 + n) * bytes≤140737488355328∧0 + n≤1073741824)):fo s e es bytes (.sc (.slice none 0 0)) ys n=if ys.all eQ=true then some (.own s.n 0 n ys.length,s.new ⟨ys,0,e⟩) else none:=by
 obtain⟨h0,h2,h3,h4,h5⟩:=h.h;unfold fo;rw [if_neg h0];simp only;split
 ·rename_i h1; rw [if_pos h1.2.2.2.2]
 ·rename_i h1; rw [if_neg fun hh=>h1 ⟨h2,h3,h4,h5,hh⟩]
theorem Lh {s:PS}{e es bytes n k m fin:Nat}{ys:List PV} (h:Ar (n≠0∧es≠0∧ys.length=n * es∧(m + n) * bytes≤140737488355328∧m + n≤1073741824∧m * es=fin)) :
  fo s e es bytes (.own k 0 m fin) ys n=if ys.all eQ=true∧fin=(s.h k).cells.length∧(s.h k).low≤fin∧(s.h k).e=e then some (.own k 0 (m + n) (fin + ys.length),s.put k ⟨(s.h k).cells ++ ys,(s.h k).low,e⟩) else none:=by
 obtain⟨h0,h5,h6,h7,h8,h9⟩:=h.h;unfold fo;rw [if_neg h0];simp only;split
 ·rename_i h1; rw [if_pos ⟨h1.1.2.2.2.2,h1.2.2.1,h1.2.2.2.1,h1.2.2.2.2.2⟩]
 ·rename_i h1; rw [if_neg fun hh=>h1 ⟨⟨h5,h6,h7,h8,hh.1⟩,by omega,hh.2.1,hh.2.2.1,trivial,hh.2.2.2⟩]
theorem Xh {α:Type}{p:Prop} [Decidable p] (h:Ar p) (a b:α):(if p then a else b)=a:=if_pos h.h
theorem U9 (s:PS) (e es k off n fin l h:Nat):Hw s e es (.own k off n fin) l h=if l≤h∧h≤n∧off + n * es=fin∧(s.h k).low≤fin∧(s.h k).e=e then some (.own k (off + l * es) (h - l) (off + h * es)) else none:=rfl
theorem RG (s:PS) (e es e' n l h:Nat) (cs:List PV):Hw s e es (.lit e' n cs) l h=if l≤h∧h≤n∧cs.length=n * es∧e'=e then some (.lit e (h - l) ((cs.drop (l * es)).take ((h - l) * es))) else none:=rfl
theorem OH (s:PS) (e es bytes:Nat) (ys:List PV):fo s e es bytes (.sc (.slice none 0 0)) ys 0=some (.sc (.slice none 0 0),s):=rfl
theorem Pw (s:PS) (e es bytes k off n fin:Nat) (ys:List PV):fo s e es bytes (.own k off n fin) ys 0=some (.own k off n fin,s):=rfl
theorem QI:oC false (.sc (.slice none 0 0))=some (.sc (.int .i64 ((0:Nat):Int))):=rfl
theorem Sq (k off n fin:Nat):oC false (.own k off n fin)=some (.sc (.int .i64 (n:Int))):=rfl
theorem SX (e n:Nat) (cs:List PV):oC false (.lit e n cs)=some (.sc (.int .i64 (n:Int))):=rfl
def Tz (es:Nat) (x:PV) (j:Option Nat):Option PV:=match x,j with
  | .own k off n fin,some j=>if j < n∧off + n * es=fin then some (.ptr k (off + j * es) fin) else none
  | .lit _ n cs,some j=>if j < n∧cs.length=n * es then some (.litp (cs.drop (j * es))) else none
  | .litx _ n cs,some j=>if j < n∧cs.length=n * es then some (.litp (cs.drop (j * es))) else none
  | .ownx k off n fin,some j=>if j < n∧off + n * es=fin then some (.ptr k (off + j * es) fin) else none
  | _,_=>none
theorem Lm (f:aE) (s:PS) (es:Nat) (x i:Operand):cq P c f s (.iaddr es x i)=zv (Tz es (aA f x) (iu (aA f i))) s:=by
 show fj (bS P f s (.iaddr es x i))=_;unfold zv Tz;simp only [bS];generalize iu (aA f i)=b;generalize aA f x=a;cases a<;>cases b<;>(try rfl)<;>(simp only []; split<;>rfl)
theorem V8 (es e n j:Nat) (cs:List PV):Tz es (.lit e n cs) (some j)=if j < n∧cs.length=n * es then some (.litp (cs.drop (j * es))) else none:=rfl
theorem UU (es k off n fin j:Nat):Tz es (.own k off n fin) (some j)=if j < n∧off + n * es=fin then some (.ptr k (off + j * es) fin) else none:=rfl
theorem Wu {off:Nat}{cs:List PV} (h:Ar (off≤cs.length)):Um (.litp cs) off=some (.litp (cs.drop off)):=if_pos h.h
theorem VG {s:PS}{sz:Nat}{cs:List PV} (h:Ar (sz≤cs.length)):ur s (.litp cs) sz=some (cs.take sz):=if_pos h.h
def I2 (s:PS) (e es:Nat) (x:PV) (l h:Option Nat):Option PV:=match l,h with
  | some l,some h=>Hw s e es x l h
  | _,_=>none
theorem RR (f:aE) (s:PS) (e es:Nat) (x:Operand) (lo hi:Option Operand):cq P c f s (.slc e es x lo hi)=zv (I2 s e es (aA f x) (nV f lo 0) (nV f hi (sO (aA f x)))) s:=by
 show fj (bS P f s (.slc e es x lo hi))=_;unfold zv I2;simp only [bS];generalize nV f lo 0=a;generalize nV f hi (sO (aA f x))=b;cases a<;>cases b<;>rfl
theorem UZ (f:aE) (d:Nat):nV f none d=some d:=rfl
theorem VS (f:aE) (x:Operand) (d:Nat):nV f (some x) d=iu (aA f x):=rfl
theorem VH (e n:Nat) (cs:List PV):sO (.lit e n cs)=n:=rfl
theorem Uw (k off n fin:Nat):sO (.own k off n fin)=n:=rfl
theorem VA:sO (.sc (.slice none 0 0))=0:=rfl
theorem T0 (k:IntKind) (z:Int):eQ (.sc (.int k z))=true:=(rfl)
theorem QU (b:ByteArray):eQ (.sc (.string b))=true:=(rfl)
theorem Tn (b:Bool):eQ (.sc (.bool b))=true:=(rfl)
theorem Se:eQ (.sc (.slice none 0 0))=true:=(rfl)
theorem Tm (k off n fin:Nat):eQ (.own k off n fin)=true:=(rfl)
theorem SE (e n:Nat) (cs:List PV):eQ (.lit e n cs)=true:=(rfl)
theorem SB (k off fin:Nat):eQ (.ptr k off fin)=true:=(rfl)
theorem Sw (v:Value):dQ (.sc v)=true:=rfl
theorem Nt (e n:Nat) (cs:List PV):dQ (.lit e n cs)=true:=rfl
theorem P8 (n e m:Nat) (s:PS) (cs:List PV):aP n s (.lit e m cs)=some (.lit e m cs):=rfl
theorem Sk (n:Nat) (s:PS) (v:Value):aP n s (.sc v)=some (.sc v):=rfl
theorem Qc {n k off m fin:Nat}{s:PS} (h0:Ar (n≤k)):aP n s (.own k off m fin)=if (s.h k).low≤fin∧fin≤(s.h k).cells.length∧off≤fin∧(((s.h k).cells.drop off).take (fin - off)).all dQ=true then some (.lit (s.h k).e m (((s.h k).cells.drop off).take (fin - off))) else none:=by
 unfold aP;simp only;rw [if_neg (by have:=h0.h; omega)]
theorem Ro (n:Nat) (s:PS):oN n s []=some []:=rfl
theorem QH (n:Nat) (s:PS) (p:PV) (l:List PV):oN n s (p :: l)=(aP n s p).bind fun p=>(oN n s l).map fun l=>p :: l:=rfl
end
structure Ak (p:Prop):Prop where
 h:p
structure Kk (p:Prop):Prop where
 h:p
section
variable {P:Program}{Γ:Nat→Option fe}{ext:aw}{F:ZC→Option ZR}
theorem J7 (b:Bool) (j:Nat) (acc:List (Nat × gy × Nat × Nat)) (f:aE) (s:PS) (k:List KI):IG P Γ ext F b [] j acc f s k=rn P Γ ext F f s k:=rfl
theorem GR (b:Bool) (d:Option Nat) (o:gw) (ls un:List Nat) (l:List (PI × List Nat × List Nat)) (j:Nat) (acc:List (Nat × gy × Nat × Nat)) (f:aE) (s:PS) (k:List KI) :
  IG P Γ ext F b ((⟨d,o,none⟩,ls,un) :: l) j acc f s k=Mz P Γ ext F (cq P (ah P Γ ext) (cR ls f) s o) b d o (aW (cR ls f) o) (aS (cz Γ) (cR ls f) ⟨d,o,none⟩) un l j acc f s k:=by
 unfold IG Mz;simp only [fQ,eb,Option.isNone_none,Bool.and_true];cases cq P (ah P Γ ext) (cR ls f) s o with
 | none=>unfold iD; exact (congrArg (Option.bind · _) (jh k))
 | some q=>
  cases q with
  | ok v s'=>
   simp only [Option.bind_some];rw [show mV (cR ls f) ⟨d,o,none⟩=aW (cR ls f) o from rfl];split
   ·rfl
   ·unfold iD; exact (congrArg (Option.bind · _) (jh k))
  | pan v s'=>rfl
theorem NX (b:Bool) (d t:Nat) (ls un:List Nat) (l:List (PI × List Nat × List Nat)) (j:Nat) (acc:List (Nat × gy × Nat × Nat)) (f:aE) (s:PS) (k:List KI) :
  IG P Γ ext F b ((mt d t,ls,un) :: l) j acc f s k=IG P Γ ext F b l (j + 1) ((j,⟨[],[],false,false⟩,s.n,s.n) :: acc) (f.set d (cR ls f t)) s k:=by
 refine (GR b (some d) (.mv (.tmp t)) ls un l j acc f s k).trans ?_;exact if_pos ⟨.inl rfl,av _ _⟩
theorem NF (b:Bool) (d:Nat) (v:Value) (ls un:List Nat) (l:List (PI × List Nat × List Nat)) (j:Nat) (acc:List (Nat × gy × Nat × Nat)) (f:aE) (s:PS) (k:List KI) :
  IG P Γ ext F b ((mk d v,ls,un) :: l) j acc f s k=IG P Γ ext F b l (j + 1) ((j,⟨[],[],false,false⟩,s.n,s.n) :: acc) (f.set d (ig v)) s k:=by
 refine (GR b (some d) (.mv (.const v)) ls un l j acc f s k).trans ?_;exact if_pos ⟨.inl rfl,av _ _⟩
theorem Oh {v:PV}{s':PS}{b pu:Bool}{d:Option Nat}{o:gw}{E:gy}{un:List Nat}{l:List (PI × List Nat × List Nat)}{j:Nat}{acc:List (Nat × gy × Nat × Nat)} (h1:Ak (pu=true∨mX un j l=true)) (h2:Ak (aG un E acc)) (f:aE) (s:PS) (k:List KI) :
  Mz P Γ ext F (some (.ok v s')) b d o E pu un l j acc f s k=IG P Γ ext F b l (j + 1) ((j,E,s.n,s'.n) :: acc) (gD f d v) s' k:=if_pos ⟨h1.h,h2.h⟩
theorem tB (b:aR) (f:aE) (s:PS) (k:List KI):zr P Γ ext F (.loop b) f s k=zr P Γ ext F b f s (.s (.loop b) :: k):=by
 unfold zr; rw [sL]; rfl
noncomputable def pz (F:ZC→Option ZR) (r:Option ZR) (f:aE):Option ZR:=r.bind fun
 | .pan v s'=>F (.pan v f s')
 | .ok _ _=>none
theorem MD (v:Value) (s:PS) (f:aE):pz F (some (.pan v s)) f=F (.pan v f s):=rfl
theorem Ln {v:Value}{s':PS}{b pu:Bool}{d:Option Nat}{o:gw}{E:gy}{un:List Nat}{l:List (PI × List Nat × List Nat)}{j:Nat}{acc:List (Nat × gy × Nat × Nat)} (h:Ak ((b && mX un j l)=true)) (f:aE) (s:PS) (k:List KI) :
  Mz P Γ ext F (some (.pan v s')) b d o E pu un l j acc f s k=pz F (cq P (ah P Γ ext) f s o) f:=by
 show iD P Γ ext F k (qX P (ah P Γ ext) (b && mX un j l) f s o)=_;rw [h.h];unfold qX pz;rw [if_pos rfl];cases cq P (ah P Γ ext) f s o with
 | none=>unfold iD; exact (congrArg (Option.bind · _) (jh k))
 | some q=>
  cases q with
  | ok v s'=>unfold iD; exact (congrArg (Option.bind · _) (jh k))
  | pan v s'=>unfold iD; exact (congrArg (Option.bind · _) (Bp k _ _ _))
theorem Si (p:Prop) [Decidable p] (A:p→Option ZR) (B:¬ p→Option ZR) (b:Bool) (d:Option Nat) (o:gw) (E:gy) (pu:Bool) (un:List Nat) (l:List (PI × List Nat × List Nat)) (j:Nat) (acc:List (Nat × gy × Nat × Nat)) (f:aE) (s:PS) (k:List KI) :
  Mz P Γ ext F (DI p A B) b d o E pu un l j acc f s k=DI p (fun h=>Mz P Γ ext F (A h) b d o E pu un l j acc f s k) fun h=>Mz P Γ ext F (B h) b d o E pu un l j acc f s k:=by
 unfold DI; split<;>rfl
theorem US (p:Prop) [Decidable p] (A:p→Option ZR) (B:¬ p→Option ZR) (f:aE):pz F (DI p A B) f=DI p (fun h=>pz F (A h) f) fun h=>pz F (B h) f:=by
 unfold DI; split<;>rfl
variable {c:dW}
def Qd (v:PV):Option PV:=match v with
 | .ptr k o fin=>some (.ptr k o fin)
 | .litp cs=>some (.litp cs)
 | _=>none
theorem TX (f:aE) (s:PS) (x:Operand):cq P c f s (.nck x)=zv (Qd (aA f x)) s:=by
 show fj (bS P f s (.nck x))=_;unfold zv Qd;simp only [bS];cases aA f x<;>rfl
theorem TW (k o fin:Nat):Qd (.ptr k o fin)=some (.ptr k o fin):=rfl
theorem MA (f:aE) (s:PS) (t:Nat) (x:Operand):cq P c f s (.mkif t x)=zv ((TG t (aA f x)).map .sc) s:=by
 show fj (bS P f s (.mkif t x))=_;unfold zv;simp only [bS];cases TG t (aA f x)<;>rfl
noncomputable def Rt (v:PV) (s:PS):Option ZR:=match v with
 | .sc (.iface t v)=>if wQ (.iface t v)=true then some (.pan (.iface t v) s) else none
 | _=>none
theorem QN (f:aE) (s:PS) (x:Operand):cq P c f s (.pan x)=Rt (aA f x) s:=rfl
def lw (a e:Nat):Value:=.iface 164 (.agg #[.int .i64 (a:Int),.int .i64 (e:Int)])
theorem OK (a e:Nat):TG 164 (.agg [.sc (.int .i64 (a:Int)),.sc (.int .i64 (e:Int))])=some (lw a e):=rfl
theorem L0 (a e:Nat) (s:PS):Rt (.sc (lw a e)) s=some (.pan (lw a e) s):=by
 have h:wQ (lw a e)=true:=rfl;show (if wQ (lw a e)=true then some (ZR.pan (lw a e) s) else none)=_;rw [if_pos h]
theorem RX (f:aE) (s:PS) (x:Operand):cq P c f s (.bts x)=zv ((eM s 1 (aA f x)).bind fun q=>(fC q.1).map fun l=>.sc (.string ⟨⟨l⟩⟩)) s:=by
 show fj (bS P f s (.bts x))=_;unfold zv;simp only [bS];cases eM s 1 (aA f x) with
 | none=>rfl
 | some q=>simp only [Option.bind_some]; cases fC q.1<;>rfl
def ZG (res:List kR) (s0:PS):ZC→Option ZR
 | .go (.exit _) _ _=>none
 | .go _ f s=>if s0.n≤s.w then (gj f s res).bind fun vs=>(frz s0.n s (ae vs)).map fun v=>.ok v s0 else none
 | .pan v _ s=>if s0.n≤s.w then some (.pan v s0) else none
theorem S4 {fn:fe}{res:List kR} (hr:fn.res=res) (hk:fn.keep=false) (s0:PS):fG fn s0=ZG res s0:=by
 funext r;unfold fG ZG;have h:∀f s,gI fn s0 f s=if s0.n≤s.w then (gj f s res).bind fun vs=>(frz s0.n s (ae vs)).map fun v=>(v,s0) else none:=fun f s=>by
  unfold gI;rw [hr];simp only [hk,Bool.false_eq_true,if_false];cases gj f s res with
  | none=>simp
  | some vs=>rfl
 rcases r with ⟨x,f,s⟩ | ⟨v,f,s⟩
 ·cases x with
  | exit i=>rfl
  | _=>
   simp only [h];split
   ·cases gj f s res with
    | none=>rfl
    | some vs=>simp only [Option.bind_some]; unfold fj; rw [Option.map_map]; rfl
   ·rfl
 ·simp only [hk,Bool.false_eq_true,if_false]
theorem bL {g:Nat}{fn:fe}{args:List PV}{s:PS}{B:aR}{R:Option ZR} (res:List kR) (h:Γ g=some fn) (hr:fn.res=res) (hk:fn.keep=false) (hl:Nat.ble args.length fn.nt=true) (hb:fn.body=B)
  (hR:∀R',R'=R→zr P Γ ext (ZG res s) B (ej args 0) ⟨s.h,s.n,s.n⟩ []=R'):ah P Γ ext g args s=R:=by
 rw [pn fn h args s (Nat.le_of_ble_eq_true hl),S4 hr hk,hb]; exact hR R rfl
noncomputable def Ur (res:List kR) (s0:PS) (f:aE) (s:PS):Option PV:=(gj f s res).bind fun vs=>frz s0.n s (ae vs)
theorem Qp (res:List kR) (s0:PS) (f:aE) (s:PS):Ur res s0 f s=(gj f s res).bind fun vs=>frz s0.n s (ae vs):=rfl
theorem S3 (res:List kR) (s0:PS) (f:aE) (s:PS):ZG res s0 (.go .ret f s)=Ql s.w s0 (Ur res s0 f s):=by
 show (if s0.n≤s.w then (gj f s res).bind fun vs=>(frz s0.n s (ae vs)).map fun v=>ZR.ok v s0 else none)=_;unfold Ql Ur;split
 ·cases gj f s res<;>rfl
 ·rfl
theorem W7 (res:List kR) (s0:PS) (f:aE) (s:PS):ZG res s0 (.go .normal f s)=Ql s.w s0 (Ur res s0 f s):=S3 res s0 f s
theorem W1 (res:List kR) (s0:PS) (v:Value) (f:aE) (s:PS):ZG res s0 (.pan v f s)=Uo s.w s0 v:=rfl
theorem V9 (f:aE) (s:PS):gj f s []=some []:=rfl
theorem Ut (f:aE) (s:PS) (t:Nat) (l:List kR):gj f s (.tmp t :: l)=(gj f s l).map fun vs=>f t :: vs:=rfl
theorem W4 (f:aE) (s:PS) (a:Nat) (ag:Bool) (sz:Nat) (l:List kR):gj f s (.cell a ag sz :: l)=(ur s (f a) sz).bind fun cs=>(ad ag cs).bind fun v=>(gj f s l).map fun vs=>v :: vs:=rfl
end
end Go.PE
