/- An evaluator for closed calls, and its soundness. No statement is proved here. -/
import Derived.Test.YtgkggocjoolciaaGreatDoorEvC
import Derived.Laws.Tables
import Derived.Great.BuildSlice
import Derived.Laws.RangeString
import Derived.MapKept
import Derived.Laws.BytesArg
import Derived.Lib.Builder
import Derived.Lib.UnsafeStr
import Derived.Laws.MakeOwn
set_option linter.unusedSimpArgs false
set_option linter.unusedVariables false
set_option linter.defProp false
namespace Go.EvL
open Go
section
variable {P:Program}{f:Fr}{o:Oper}{A A':AS}{nx:dX}
theorem aZ {a:dX}{s:AS} (h:some (a,s)=some (nx,A')) (hs:A.next≤s.next):A.next≤A'.next:=by injection h with h; injection h with _ h; rw [← h]; exact hs
theorem jS {x:Option Value}{s:AS} (h:ou s x=some (nx,A')) (hs:A.next≤s.next):A.next≤A'.next:=by
 obtain⟨_,_,_,rfl⟩:=jf h; exact hs
theorem eH (h:fG P f o A=some (nx,A')):A.next≤A'.next:=by
 unfold fG at h;obtain⟨_,h⟩:=aI h;unfold jZ at h;split at h
 ·obtain⟨_,h⟩:=aI h;exact aZ h (Nat.le_refl _)
 ·cases h
theorem jX (s:AS) (c:Nat):(cE s c).next=s.next:=by rw [aH]
theorem sP (s:AS) (c:Nat):(wS s c).next=s.next:=by rw [gU]
theorem wv (s:AS) (b:Nat) (o:fW):(s.put b o).next=s.next:=by rw [iU]
theorem lJ (s:AS) (o:Nat→fW):(s.new o).next=s.next + 1:=by rw [jL]
theorem Bu (s:AS) (c:Nat) (l:List Nat):(vw s c l).next=s.next:=by rw [sf]
theorem Dz (s:AS) (b c:Nat):(mX s b c).next=s.next:=by
 unfold mX;split
 ·rfl
 ·rw [Bu,xC]
theorem A0 {b off:Nat}{vs:List Value} (h:FQ A b off vs=some A'):A'.next=A.next:=by
 unfold FQ at h;split at h
 ·unfold FI at h;obtain⟨_,h⟩:=aI h;rw [cA] at h;injection h with h;rw [← h,sP,wv,Dz]
 ·cases h
theorem yg {e:TypeId}{v:Value}{xs:List Value}{n:Nat} (h:jq P e A v xs n=some (nx,A')):A.next≤A'.next:=by
 unfold jq at h;split at h
 ·split at h
  ·rename_i i _;cases n with
   | zero=>exact aZ h (Nat.le_refl _)
   | succ n=>
    have h':(Bool.rec none (qX e A _ _ (n + 1) i.size xs) (xd i i.size _ (n + 1) xs):iG)=some (nx,A'):=h;obtain⟨_,h1⟩:=aI h';unfold qX at h1;split at h1
    ·obtain⟨_,h2⟩:=aI h1;exact aZ h2 (by rw [bz]; omega)
    ·split at h1
     ·obtain⟨_,h2⟩:=aI h1;rw [wn h2]; omega
     ·cases h1
    ·split at h1
     ·unfold Nr at h1;rw [cA] at h1;obtain⟨_,h2⟩:=aI h1;exact aZ h2 (by rw [bz,jX]; omega)
     ·cases h1
    ·cases h1
  ·cases h
 ·cases h
theorem D5 {g:FuncId}{vs:List Value} (h:v8 P g vs A=some (nx,A')):A.next≤A'.next:=by
 unfold v8 at h;split at h
 ·cases h
 ·split at h
  ·exact aZ h (Nat.le_refl _)
  ·rcases iv h with ⟨_,h⟩ | ⟨_,h⟩
   ·obtain⟨_,h⟩:=aI h;unfold jZ at h;split at h
    ·obtain⟨_,h⟩:=aI h;exact aZ h (Nat.le_refl _)
    ·cases h
   ·split at h
    ·exact aZ h (Nat.le_refl _)
    ·cases h
theorem xH {e:TypeId}{x:Option Value} (h:tM A e x=some (nx,A')):A.next≤A'.next:=by
 unfold tM at h;split at h
 ·exact aZ h (by rw [bz]; omega)
 ·cases h
theorem B1 {t:TypeId}{ps:Array (Nat × Operand)} (h:mY P f t ps A=some (nx,A')):A.next≤A'.next:=by
 unfold mY at h;split at h
 ·obtain⟨_,h⟩:=aI h;rw [Option.map_eq_some_iff] at h;obtain⟨cs,_,h⟩:=h;injection h with _ h;rw [← h]; exact Nat.le_refl _
 ·rw [Option.bind_eq_some_iff] at h;obtain⟨n,_,h⟩:=h;rw [Option.map_eq_some_iff] at h;obtain⟨cs,_,h⟩:=h;injection h with _ h;rw [← h]; exact Nat.le_refl _
 ·cases h
theorem s8 {t:TypeId}{len:Nat}{ps:Array (Nat × Operand)} (h:fH P f t len ps A=some (nx,A')):A.next≤A'.next:=by
 unfold fH at h;split at h
 ·split at h
  ·split at h
   ·rw [Option.map_eq_some_iff] at h;obtain⟨cs,_,h⟩:=h;injection h with _ h;rw [← h,bz]; omega
   ·cases h
  ·cases h
 ·cases h
theorem Dq {r:Option (List Value × AS)} (hr:∀xs s,r=some (xs,s)→A.next≤s.next) (h:uC r=some (nx,A')):A.next≤A'.next:=by
 unfold uC at h;split at h
 ·exact aZ h (hr _ _ rfl)
 ·cases h
theorem CB {r:Option (List Value × AS)} (hr:∀xs s,r=some (xs,s)→A.next≤s.next) (h:uu r=some (nx,A')):A.next≤A'.next:=by
 unfold uu at h;split at h
 ·exact aZ h (hr _ _ rfl)
 ·cases h
theorem Dp {t:TypeId}{x:Option Value} (h:nC P t x A=some (nx,A')):A.next≤A'.next:=by
 unfold nC at h;split at h
 ·split at h
  ·unfold mn at h;rcases iv h with ⟨_,h⟩ | ⟨_,h⟩
   ·exact Dq (fun xs s hs=>by rw [uc hs]; exact Nat.le_refl _) h
   ·split at h
    ·exact CB (fun xs s hs=>by rw [uc hs]; exact Nat.le_refl _) h
    ·cases h
  ·cases h
 ·cases h
theorem Ap {t:TypeId}{x y:Option Value} (h:nP P t x y A=some (nx,A')):A.next≤A'.next:=by
 unfold nP at h;split at h
 ·split at h
  ·split at h
   ·obtain⟨_,h⟩:=aI h;unfold DT at h;split at h
    ·rename_i hs;exact aZ h (by rw [A0 hs]; exact Nat.le_refl _)
    ·cases h
   ·cases h
  ·cases h
 ·cases h
theorem oI {op:BinOp}{b:Bool} (h:AO op b A=some (nx,A')):A.next≤A'.next:=by
 unfold AO at h;split at h
 ·exact aZ h (Nat.le_refl _)
 ·exact aZ h (Nat.le_refl _)
 ·cases h
theorem FW {op:BinOp}{t:TypeId}{x y:Option Value} (h:GU P f o op t x y A=some (nx,A')):A.next≤A'.next:=by
 unfold GU at h;split at h
 ·split at h
  ·split at h
   ·exact aZ h (Nat.le_refl _)
   ·unfold zB at h;split at h
    ·exact oI h
    ·exact oI h
    ·exact oI h
    ·unfold yz at h;split at h
     ·obtain⟨_,h⟩:=aI h;exact oI h
     ·cases h
    ·exact eH h
  ·cases h
 ·cases h
theorem De {a b:TypeId}{x:Option Value} (h:xx P f o a b x A=some (nx,A')):A.next≤A'.next:=by
 unfold xx at h;split at h
 ·cases h
 ·cases h
 ·split at h
  ·cases h
  ·exact eH h
 ·exact eH h
theorem Az {t:TypeId}{x:Option Value}{lo hi mx:Option Operand} (h:fy P f o t x lo hi mx A=some (nx,A')):A.next≤A'.next:=by
 unfold fy at h;split at h
 ·split at h
  ·split at h
   ·have inN:∀(a1 a2 a3 a4 a5 a6 a7 c:Nat),mC a1 a2 a3 a4 a5 a6 a7 (cE A c)=some (nx,A')→A.next≤A'.next:=fun a1 a2 a3 a4 a5 a6 a7 c h=>by
     unfold mC at h;obtain⟨_,h⟩:=aI h;exact aZ h (by rw [aH]; exact Nat.le_refl _)
    cases mx with
    | none=>
     have h2:sliceAt P _ _ _ _ _ _ _ A=some (nx,A'):=h;unfold sliceAt at h2;split at h2
     ·exact inN _ _ _ _ _ _ _ _ h2
     ·cases h2
    | some y=>
     have h2:kj P _ _ _ _ _ _ _ A=some (nx,A'):=h;unfold kj at h2;split at h2
     ·rcases iv h2 with ⟨_,h3⟩ | ⟨_,h3⟩
      ·exact inN _ _ _ _ _ _ _ _ h3
      ·unfold sliceX at h3;obtain⟨_,h3⟩:=aI h3;exact aZ h3 (by rw [aH]; exact Nat.le_refl _)
     ·cases h2
   ·cases h
  ·cases h
 ·split at h
  ·split at h
   ·exact aZ h (Nat.le_refl _)
   ·cases h
  ·exact eH h
 ·split at h
  ·split at h
   ·unfold qZ at h;obtain⟨_,h⟩:=aI h;rw [cA] at h;exact aZ h (Nat.le_refl _)
   ·cases h
  ·cases h
 ·exact eH h
theorem wI {b:Builtin}{args:List Operand}{tys:List TypeId} (h:lT P f o b args tys A=some (nx,A')):A.next≤A'.next:=by
 unfold lT at h;split at h
 ·unfold CX at h;split at h
  ·exact aZ h (Nat.le_refl _)
  ·rw [ci] at h; exact aZ h (Nat.le_refl _)
  ·unfold yO at h;split at h
   ·rw [ci] at h; exact aZ h (by rw [aH]; exact Nat.le_refl _)
   ·cases h
  ·exact eH h
 ·split at h
  ·unfold FP at h;split at h
   ·split at h
    ·rename_i harg;have sp:=ru harg;have:=yg h;rw [sp.next] at this;exact this
    ·cases h
   ·cases h
  ·cases h
 ·split at h
  ·unfold tu at h;split at h
   ·split at h
    ·rename_i xs m A1 i harg hin;have sp:=ru harg;obtain⟨_,h⟩:=aI h;cases m with
     | zero=>
      have h':some (dX.val (.int .i64 (.ofNat 0)),A1)=some (nx,A'):=h;exact aZ h' (Nat.le_of_eq sp.next.symm)
     | succ m0=>
      have h':(match (generalizing:=false) (‹Option Addr›) with
       | some ⟨b,off,none⟩=>match FQ A1 b off xs with
        | some s=>some (dX.val (.int .i64 (.ofNat (Nat.add m0 1))),s)
        | none=>none
       | _=>none)=some (nx,A'):=h
      split at h'
      ·split at h'
       ·rename_i s1 hs1;have:=A0 hs1;exact aZ h' (by have:=sp.next; omega)
       ·cases h'
      ·cases h'
    ·cases h
   ·cases h
  ·cases h
 ·exact aZ h (Nat.le_refl _)
 ·cases h
 ·cases h
 ·exact eH h
theorem yR {c:Call} (h:um P f o c A=some (nx,A')):A.next≤A'.next:=by
 unfold um at h;split at h
 ·unfold Ax at h;split at h
  ·exact D5 h
  ·cases h
 ·exact wI h
 ·cases h
theorem CV (P:Program):i7 P:=by
 intro f o A nx A' h;obtain⟨d,op,ty,pos,af,gd⟩:=o;cases op with
 | move x=>exact jS (show ou A (f.eval x)=_ from h) (Nat.le_refl _)
 | assign x=>exact jS (show ou A (f.eval x)=_ from h) (Nat.le_refl _)
 | pick c a b=>
  have h':ux f (f.eval c) a b A=some (nx,A'):=h;unfold ux at h';split at h'
  ·exact jS h' (Nat.le_refl _)
  ·exact jS h' (Nat.le_refl _)
  ·cases h'
 | alloc e=>exact xH (show tM A e (gE P e)=_ from h)
 | box e x=>exact xH (show tM A e (f.eval x)=_ from h)
 | build t ps=>exact B1 (show mY P f t ps A=_ from h)
 | buildSlice t n ps=>exact s8 (show fH P f t n ps A=_ from h)
 | insert=>cases h
 | load t a=>exact Dp (show nC P t (evalG P f a) A=_ from h)
 | store t a x=>exact Ap (show nP P t (f.eval a) (f.eval x) A=_ from h)
 | ready=>cases h
 | waits=>cases h
 | nilCheck x=>
  have h':jY P f _ (f.eval x) A=some (nx,A'):=h;unfold jY at h';split at h'
  ·exact aZ h' (Nat.le_refl _)
  ·exact aZ h' (Nat.le_refl _)
  ·exact eH h'
 | binOp op t x y u=>exact FW (show GU P f _ op t (f.eval x) (f.eval y) A=_ from h)
 | unOp=>exact eH (show fG P f _ A=_ from h)
 | convert a b x=>exact De (show xx P f _ a b (f.eval x) A=_ from h)
 | sliceToArrayPointer=>cases h
 | makeInterface t x=>
  have h':vG P t (f.eval x) A=some (nx,A'):=h;unfold vG at h';split at h'
  ·split at h'
   ·cases h'
   ·exact aZ h' (Nat.le_refl _)
   ·cases h'
  ·cases h'
 | makeFunc fn a b=>
  have h':uB f fn a b A=some (nx,A'):=h;unfold uB at h';split at h'
  ·split at h'
   ·split at h'
    ·exact aZ h' (Nat.le_refl _)
    ·cases h'
   ·cases h'
  ·cases h'
 | makeMap t r=>
  cases r with
  | none=>
   exact aZ (show some (dX.val (.map (some A.next)),A.new fun _=>.map [] 0)=some (nx,A') from h)
    (by rw [lJ]; omega)
  | some _=>cases h
 | makeChan=>cases h
 | makeSlice t l c=>
  have h':wg P t (f.eval l) (f.eval c) A=some (nx,A'):=h;unfold wg at h';split at h'
  ·split at h'
   ·split at h'
    ·unfold zz at h';obtain⟨_,h'⟩:=aI h';exact aZ h' (by rw [bz]; omega)
    ·cases h'
   ·cases h'
  ·cases h'
 | slice t x lo hi mx=>
  have hg:qm mx hi (fy P f ⟨d,.slice t x lo hi mx,ty,pos,af,gd⟩ t (f.eval x) lo hi mx A)=some (nx,A'):=h;have h':fy P f ⟨d,.slice t x lo hi mx,ty,pos,af,gd⟩ t (f.eval x) lo hi mx A=some (nx,A'):=by cases mx<;>cases hi<;>first | exact hg | cases hg
  exact Az h'
 | fieldAddr t x i=>
  have h':iC P t (evalG P f x) i A=some (nx,A'):=h;unfold iC at h';split at h'
  ·split at h'
   ·split at h'
    ·split at h'
     ·exact aZ h' (Nat.le_refl _)
     ·cases h'
    ·cases h'
   ·cases h'
  ·cases h'
 | field t x i=>
  have h':q9 P t (f.eval x) i A=some (nx,A'):=h;unfold q9 at h';split at h'
  ·split at h'
   ·split at h'
    ·exact jS h' (Nat.le_refl _)
    ·cases h'
   ·cases h'
  ·cases h'
 | indexAddr t x i=>
  have h':fL P t (evalG P f x) (f.eval i) A=some (nx,A'):=h;unfold fL at h';split at h'
  ·obtain⟨_,_,_,_,rfl⟩:=oO h'; exact Nat.le_refl _
  ·obtain⟨_,_,_,_,rfl⟩:=oO h'; exact Nat.le_refl _
  ·obtain⟨_,_,_,_,rfl⟩:=oO h'; exact Nat.le_refl _
  ·cases h'
 | index t x i=>
  have h':qT P f _ t (f.eval x) (f.eval i) A=some (nx,A'):=h;unfold qT at h';split at h'
  ·split at h'
   ·split at h'
    ·unfold Ew at h';split at h'
     ·rw [ci] at h'; exact aZ h' (Nat.le_refl _)
     ·cases h'
    ·cases h'
   ·cases h'
  ·exact eH h'
 | lookup t x k ok=>
  have h':rT P t (f.eval x) (f.eval k) ok A=some (nx,A'):=h;unfold rT at h';split at h'
  ·split at h'
   ·split at h'
    ·split at h'
     ·exact aZ h' (by rw [jX]; exact Nat.le_refl _)
     ·split at h'
      ·exact aZ h' (by rw [jX]; exact Nat.le_refl _)
      ·cases h'
     ·cases h'
    ·cases h'
   ·cases h'
  ·cases h'
 | mapUpdate t m k x=>
  have h':kw P t (f.eval m) (f.eval k) (f.eval x) A=some (nx,A'):=h;unfold kw at h';split at h'
  ·split at h'
   ·split at h'
    ·split at h'
     ·exact aZ h' (by rw [sP,jX,wv]; exact Nat.le_refl _)
     ·cases h'
    ·cases h'
   ·cases h'
  ·cases h'
 | mapEntry=>cases h
 | entryStore=>cases h
 | range t x=>
  have h':uA P t (f.eval x) A=some (nx,A'):=h;unfold uA at h';split at h'
  ·exact aZ h' (by rw [lJ]; omega)
  ·cases h'
 | next it b=>
  have h':Be (f.eval it) b A=some (nx,A'):=h;unfold Be at h';split at h'
  ·split at h'
   ·unfold DK at h';rcases iv h' with ⟨_,h1⟩ | ⟨_,h1⟩
    ·exact aZ h1 (by rw [jX]; exact Nat.le_refl _)
    ·exact aZ h1 (by rw [sP,jX,wv]; exact Nat.le_refl _)
   ·cases h'
  ·cases h'
 | entry=>cases h
 | typeAssert x t a ok=>cases h
 | extract t i=>
  have h':lN (f.eval t) i A=some (nx,A'):=h;unfold lN at h';split at h'
  ·exact jS h' (Nat.le_refl _)
  ·cases h'
 | call c=>exact yR (show um P f _ c A=_ from h)
 | go=>cases h
 | defer c=>cases h
 | panic x=>cases h
 | send=>cases h
 | recv=>cases h
 | select=>cases h
end
section
variable {P:Program}{f:Fr}{A A':AS}{nx:dX}{d:Option Tmp}{ty:TypeId}{pos:String}{af:Array Edge}{gd:Option (Nat × Bool)}
inductive Al (φ:dI):List (Nat × Value)→List (Nat × Value)→Prop
 | nil:Al φ [] []
 | cons (i:Nat) (v v':Value) (l l':List (Nat × Value)) (h:eR φ v v') (hs:Al φ l l'):Al φ ((i,v) :: l) ((i,v') :: l')
theorem si {φ:dI}{a:Act} (hf:fe φ f a):∀(l:List (Nat × Operand)) {ps:List (Nat × Value)},jT f l=some ps→Al φ ps (l.map fun (i,x)=>(i,a.eval x)):=by
 intro l
 induction l with
 | nil=>intro vs h; have h':some ([]:List (Nat × Value))=some vs:=h; injection h' with h'; subst h'; exact .nil
 | cons x l ih=>
  intro vs h;obtain⟨i,x⟩:=x;have h':(match f.eval x with | some v=>(match jT f l with | some vs=>some ((i,v) :: vs) | none=>none) | none=>none)=some vs:=h;split at h'
  ·rename_i v hx;split at h'
   ·rename_i us hu;injection h' with h';subst h';exact .cons _ _ _ _ _ (hf.eval hx) (ih hu)
   ·cases h'
  ·cases h'
theorem bu.set {φ:dI}{l l':List Value} (i:Nat) {v v':Value} (h:bu φ l l') (hv:eR φ v v'):bu φ (l.set i v) (l'.set i v'):=by
 refine .of_get (by simp [h.length]) fun j u hu=>?_;rw [List.getElem?_set] at hu ⊢;rw [← h.length];split at hu
 ·rename_i e;rw [if_pos e];split at hu
  ·rename_i e';injection hu with hu;subst hu;exact⟨v',by rw [if_pos e'],hv⟩
  ·cases hu
 ·rename_i e;rw [if_neg e];exact h.get j hu
theorem MZ {φ:dI} (off:Nat):∀(l l':List Value) (k:Nat) (cs cs':Array Value),bu φ l l'→bu φ cs.toList cs'.toList→
  bu φ ((l.zipIdx k).foldl (fun cs (x:Value × Nat)=>cs.setIfInBounds (off + x.2) x.1) cs).toList ((l'.zipIdx k).foldl (fun cs (x:Value × Nat)=>cs.setIfInBounds (off + x.2) x.1) cs').toList:=by
 intro l
 induction l with
 | nil=>intro l' k cs cs' h hc; cases h; exact hc
 | cons v l ih=>
  intro l' k cs cs' h hc;cases h with
  | cons _ v' _ l' hv hs=>
   refine ih l' (k + 1) _ _ hs ?_;rw [Array.toList_setIfInBounds,Array.toList_setIfInBounds];exact hc.set _ hv
theorem vS {φ:dI}{place place':Nat→Option (Nat × Nat)} (hp:∀i p,place i=some p→place' i=some p):∀(ps ps':List (Nat × Value)) (cs cs' out:Array Value),Al φ ps ps'→bu φ cs.toList cs'.toList→
  Instr.fill place cs ps=some out→∃out',Instr.fill place' cs' ps'=some out'∧bu φ out.toList out'.toList:=by
 intro ps
 induction ps with
 | nil=>
  intro ps' cs cs' out h hc he;cases h;injection he with he;subst he;exact⟨cs',rfl,hc⟩
 | cons x ps ih=>
  intro ps' cs cs' out h hc he;cases h with
  | cons i v v' _ ps' hv hs=>
   have hl:=(gN hv).length;have hl2:=hc.length;simp only [Array.length_toList] at hl hl2;simp only [Instr.fill] at he ⊢;split at he
   ·cases he
   ·rename_i off size hpl;rw [hp _ _ hpl];simp only;rw [← hl,← hl2];split at he
    ·cases he
    ·rename_i hk;rw [if_neg hk];refine ih ps' _ _ out hs ?_ he;have:=MZ off _ _ 0 cs cs' (gN hv) hc;rw [← Array.foldl_toList,← Array.foldl_toList,Array.toList_zipIdx,Array.toList_zipIdx];exact this
theorem Hn (off:Nat):∀(l:List (Value × Nat)) (cs:Array Value),(l.foldl (fun cs (x:Value × Nat)=>cs.setIfInBounds (off + x.2) x.1) cs).size=cs.size:=by
 intro l
 induction l with
 | nil=>intro cs; rfl
 | cons y l ih=>intro cs; rw [List.foldl_cons,ih,Array.size_setIfInBounds]
theorem Hg {place:Nat→Option (Nat × Nat)} : ∀(ps:List (Nat × Value)) (cs out:Array Value),Instr.fill place cs ps=some out→out.size=cs.size:=by
 intro ps
 induction ps with
 | nil=>intro cs out h; injection h with h; rw [h]
 | cons x ps ih=>
  intro cs out h;obtain⟨i,v⟩:=x;simp only [Instr.fill] at h;split at h
  ·cases h
  ·split at h
   ·cases h
   ·rw [ih _ _ h,← Array.foldl_toList];exact Hn _ _ _
end
structure Sa (P:Program):Prop where
 fields:∀(t:TypeId) (fs:Array Field),t < P.types.size→P.underlying t=some (.struct fs)→∀fl∈fs.toList,∃n,dM P fl.type=some n
section
variable {P:Program}{f:Fr}{A A':AS}{nx:dX}{d:Option Tmp}{ty:TypeId}{pos:String}{af:Array Edge}{gd:Option (Nat × Bool)}
theorem GM:∀(l:List Field),(∀fl∈l,∃n,dM P fl.type=some n)→l.mapM (fun f=>(P.info? f.type).map fun i=>(f.offset,i.size))=some (l.map fun f=>(f.offset,(dM P f.type).getD 0)):=by
 intro l
 induction l with
 | nil=>intro _; rfl
 | cons x l ih=>
  intro h;obtain⟨n,hn⟩:=h x (by simp);have e:=ih fun fl hfl=>h fl (by simp [hfl]);unfold dM at hn;cases hi:P.info? x.type with
  | none=>rw [hi] at hn; cases hn
  | some i=>simp [List.mapM_cons,e,hi,dM]
theorem sK {t:TypeId}{z:Value} (h:gE P t=some z):∃i,P.info? t=some i∧i.zero=some z:=by
 unfold gE at h;split at h
 ·rename_i z' hz;unfold nj at h;obtain⟨_,he⟩:=aI h;injection he with he;subst he;cases hi:P.info? t with
  | none=>rw [hi] at hz; cases hz
  | some i=>rw [hi] at hz; exact⟨i,rfl,hz⟩
 ·cases h
theorem Ba (hS:Sa P) (hi:cT A) (t:TypeId) (ps:Array (Nat × Operand)) (h:bQ P f ⟨d,.build t ps,ty,pos,af,gd⟩ A=some (nx,A')):dp P f A ⟨d,.build t ps,ty,pos,af,gd⟩ nx A':=by
 have h':mY P f t ps A=some (nx,A'):=h;unfold mY at h';split at h'
 ·rename_i z fs us hz hu hps;obtain⟨htl,h'⟩:=aI h';have htl:=Nat.le_of_ble_eq_true htl;cases hc:Instr.fill (fun i=>(fs[i]?).bind fun fl=>(dM P fl.type).map fun n=>(fl.offset,n)) z.cells us with
  | none=>rw [hc] at h'; cases h'
  | some cs=>
   rw [hc] at h';injection h' with h';injection h' with h1 h2;subst h1;subst h2;obtain⟨it,hit,hzz⟩:=sK hz;have hp:=(nF hz).1;refine bB hi fun φ w a hf=>?_;obtain⟨out,e1,e2⟩:=vS (place':=fun i=>(fs.toList.map fun f=>(f.offset,(dM P f.type).getD 0)).toArray[i]?) (fun i p hip=>by
    cases hg:fs[i]? with
    | none=>rw [hg] at hip; cases hip
    | some fl=>
     rw [hg] at hip;cases hs:dM P fl.type with
     | none=>simp [hs] at hip
     | some n=>
      simp [hs] at hip;subst hip;simp [hg,hs]) _ _ _ _ _ (si hf _ hps) (gN (dN φ _ _ hp)) hc
   have e:(execOp a.eval ⟨d,.build t ps,ty,pos,af,gd⟩).run P w=.ok (.value (.agg out)) w:=by
    refine ez ?_;refine run_build w t _ out ?_;unfold Program.built;rw [hit,hu];simp only [hzz,GM _ (hS.fields t fs htl hu)];rw [Array.toList_map];exact e1
   rw [e];exact .val _ _ (.agg _ _ e2)
 ·rename_i z k e us hz hu hps;cases hn:dM P e with
  | none=>rw [hn] at h'; cases h'
  | some n=>
   rw [hn] at h';have h'':(Instr.fill (fun i=>some (i * n,n)) z.cells us).map (fun cs=>(dX.val (.agg cs),A))=some (nx,A'):=h';cases hc:Instr.fill (fun i=>some (i * n,n)) z.cells us with
   | none=>rw [hc] at h''; cases h''
   | some cs=>
    rw [hc] at h'';injection h'' with h';injection h' with h1 h2;subst h1;subst h2;obtain⟨it,hit,hzz⟩:=sK hz;obtain⟨ie,hie,hsz,_⟩:=rP hn;have hp:=(nF hz).1;refine bB hi fun φ w a hf=>?_;obtain⟨out,e1,e2⟩:=vS (place':=fun i=>some (i * n,n)) (fun i p hip=>hip) _ _ _ _ _ (si hf _ hps) (gN (dN φ _ _ hp)) hc;have e:(execOp a.eval ⟨d,.build t ps,ty,pos,af,gd⟩).run P w=.ok (.value (.agg out)) w:=by
     refine ez ?_;refine run_build w t _ out ?_;unfold Program.built;rw [hit,hu];simp only [hzz,hie,hsz];rw [Array.toList_map];exact e1
    rw [e];exact .val _ _ (.agg _ _ e2)
 ·cases h'
theorem NV {α:Type} (l:List α) (n:Nat):∀(k i:Nat),l.length=n→i < k * n→(List.replicate k l).flatten[i]?=l[i % n]?:=by
 intro k
 induction k with
 | zero=>intro i _ h; omega
 | succ k ih=>
  intro i hl h;rw [List.replicate_succ,List.flatten_cons,List.getElem?_append];split
  ·rename_i hlt;rw [hl] at hlt;rw [Nat.mod_eq_of_lt hlt]
  ·rename_i hge;rw [hl] at hge ⊢;rw [Nat.succ_mul] at h;rw [ih (i - n) hl (by omega)];congr 1;exact (Nat.mod_eq_sub_mod (by omega)).symm
theorem IK (z:Value) (k n:Nat) (hz:z.cells.size=n):(Array.range (k * n)).map (z.cells[· % z.cells.size]!)=(List.replicate k z.cells.toList).flatten.toArray:=by
 apply Array.ext';rw [Array.toList_map,Array.toList_range];apply List.ext_getElem?;intro i;rw [List.getElem?_map];show _=(List.replicate k z.cells.toList).flatten[i]?;by_cases hi:i < k * n
 ·rw [NV _ n k i (by rw [Array.length_toList]; exact hz) hi];have hn : 0 < n:=by
   rcases Nat.eq_zero_or_pos n with h | h
   ·subst h; omega
   ·exact h
  have hm:i % n < z.cells.size:=by rw [hz]; exact Nat.mod_lt _ hn
  rw [List.getElem?_range hi];simp only [Option.map_some,hz];rw [getElem!_pos z.cells (i % n) hm,Array.getElem?_toList,Array.getElem?_eq_getElem hm]
 ·rw [List.getElem?_eq_none (by rw [List.length_range]; omega),List.getElem?_eq_none (by simp [hz]; omega)];rfl
theorem vF (w:World) (t e:TypeId) (len:Nat) (parts:Array (Nat × Value)) (cells:Array Value) (ie:TypeInfo) (z:Value) (hs:z.cells.size=ie.size)
  (hu:P.underlying t=some (.slice e)) (hie:P.info? e=some ie) (hz:ie.zero=some z) (hsmall:¬ len * ie.size > 2 ^ 24)
  (h:Instr.fill (fun i=>some (i * ie.size,ie.size)) (List.replicate len z.cells.toList).flatten.toArray parts.toList=some cells) :
  (Instr.buildSlice t len parts).run P w=.ok (.slice (some ⟨w.heap.size,0,none⟩) len len) (w.alloc (.cells cells e)):=by
 by_cases hp:len * ie.size=0
 ·have e0:(List.replicate len z.cells.toList).flatten.toArray = #[]:=by rw [← IK z len ie.size hs,hp]; simp
  rw [e0] at h;have r0:Array.range 0 = #[]:=by simp
  simp [Instr.buildSlice,run_underlying hu,sizeOf,typeInfo,hie,hp,r0,h,Go.newRow]
 ·exact run_buildSlice w t e len parts cells ie z hu hie hz hsmall hp (by rw [IK z len ie.size hs]; exact h)
theorem Md {φ:dI}{l l':List Value} (h:bu φ l l'):∀k,bu φ (List.replicate k l).flatten (List.replicate k l').flatten:=by
 intro k
 induction k with
 | zero=>exact .nil
 | succ k ih=>rw [List.replicate_succ,List.flatten_cons,List.replicate_succ,List.flatten_cons]; exact h.append ih
theorem sg (hi:cT A) (hn:A'.next≤A'.next) (t:TypeId) (len:Nat) (ps:Array (Nat × Operand)) (h:bQ P f ⟨d,.buildSlice t len ps,ty,pos,af,gd⟩ A=some (nx,A')):dp P f A ⟨d,.buildSlice t len ps,ty,pos,af,gd⟩ nx A':=by
 have h':fH P f t len ps A=some (nx,A'):=h;unfold fH at h';split at h'
 ·rename_i el hu;split at h'
  ·rename_i z n us hz hsz hps;split at h'
   ·rename_i hsm;simp only [Bool.and_eq_true] at hsm;have hzs:z.cells.size=n:=by rw [← Array.length_toList]; exact Nat.eq_of_beq_eq_true hsm.2
    have hsm:len * n≤1048576:=Nat.le_of_ble_eq_true hsm.1;cases hc:Instr.fill (fun i=>some (i * n,n)) (List.replicate len z.cells.toList).flatten.toArray us with
    | none=>rw [hc] at h'; cases h'
    | some cs=>
     rw [hc] at h';injection h' with h';injection h' with h1 h2;subst h1;subst h2;obtain⟨ie,hie,hzz⟩:=sK hz;obtain⟨ie',hie',hsz',hco⟩:=rP hsz;obtain rfl:ie=ie':=by rw [hie] at hie'; injection hie'
     have hp:=(nF hz).1;rw [bz] at hn;refine⟨gO hi hn _ _,fun φ T w a hf hr _ hfr=>?_⟩;have hzc:bu φ (List.replicate len z.cells.toList).flatten (List.replicate len z.cells.toList).flatten:=by
      exact Md (gN (dN φ _ _ hp)) len
     obtain⟨out,e1,e2⟩:=vS (place':=fun i=>some (i * n,n)) (fun i p hip=>hip) _ _ _ _ _ (si hf _ hps) hzc hc;obtain⟨φ',g1,g2⟩:=jC hi (by rw [bz]; exact hn) hr hfr e2;refine⟨φ',_,g2,?_⟩;have e:(execOp a.eval ⟨d,.buildSlice t len ps,ty,pos,af,gd⟩).run P w=.ok (.value (.slice (some ⟨w.heap.size,0,none⟩) len len)) (w.alloc (.cells out.toList.toArray el)):=by
      refine ez ?_;rw [Array.toArray_toList];refine vF w t el len _ out ie z (by rw [hzs,hsz']) hu hie hzz (by rw [hsz']; omega) ?_;rw [Array.toList_map,hsz'];exact e1
     rw [e];refine .val _ _ (.slice _ 0 len len len _ _ g1 (Nat.le_refl _) (Nat.le_refl _) (.inr rfl) ?_);have q1:=Hg _ _ _ hc;have q2:=e2.length;simp only [Array.length_toList] at q2;show 0 + len * P.cellsOf el≤out.toList.length;rw [hco,Array.length_toList,← q2,q1];simp [hzs]
   ·cases h'
  ·cases h'
 ·cases h'
end
def flat:fW→Bool
 | .row _ _ _ _ _=>false
 | _=>true
theorem Bl {o:fW} (h:flat o=true) (b:Nat):dE b o=b:=by cases o<;>first | rfl | cases h
theorem cK.put {P:Program}{φ:dI}{T:Nat→Prop}{A:AS}{w:World}{b:Nat}{o o1:fW}{x x1:Obj}{i:ua} (hi:cT A) (hn:A.next≤A.next) (h:je P φ T A w) (hT:T b) (hb:A.heap.get b=some o) (ho:flat o=true) (ho1:flat o1=true)
  (hφ:φ b=some i) (hx:w.heap[i.blk]?=some x) (hox:qJ P φ (A.fz.get b) b i o x) (h1:qJ P φ (A.fz.get b) b i o1 x1) :
  cK P φ T A (wS (cE (A.put b o1) b) b) w { w with heap:=w.heap.setIfInBounds i.blk x1 } φ:=by
 have hl:=(hi.lt _ _ hb).1;have hf:kC b:=tK (by omega);have hlt:i.blk < w.heap.size:=h.blk _ _ hφ;have hcls:i.cls=b:=by rw [hox.cls,Bl ho]
 rw [iU,aH,gU];refine⟨fun _ _ h=>h,fun _ _=>rfl,⟨fun y j hy=>?_,h.inj,fun y p hy hlv hTy=>?_,h.al,h.glob,h.root⟩,fun y j hy _=>⟨y,j,hy,rfl,rfl⟩,?_,fun k hk hw=>?_,rfl,rfl,rfl⟩
 ·show j.blk < (w.heap.setIfInBounds i.blk x1).size;rw [Array.size_setIfInBounds];exact h.blk _ _ hy
 ·have hy':(Tr.set o1 40 A.heap b).get y=some p:=hy;rw [Tr.get_set _ _ _ _ hf] at hy';split at hy'
  ·rename_i he;subst he;injection hy' with hy';subst hy';refine⟨i,x1,hφ,?_,?_⟩
   ·show (w.heap.setIfInBounds i.blk x1)[i.blk]?=_;rw [Array.getElem?_setIfInBounds,if_pos rfl,if_pos hlt]
   ·rw [Bl ho1]; exact h1
  ·rename_i hne;have hTy':T (dE y p):=hTy.elim id fun hc=>by have:A.next≤dE y p∧dE y p < A.next:=hc; omega
   obtain⟨j,q,e1,e2,e3⟩:=h.obj y p hy' hlv hTy';refine⟨j,q,e1,?_,e3⟩;show (w.heap.setIfInBounds i.blk x1)[j.blk]?=_;rw [Array.getElem?_setIfInBounds,if_neg ?_]
   ·exact e2
   ·intro he;have hc:=(h.inj _ _ _ _ hφ e1 he).1;rw [hcls,e3.cls] at hc;rw [← he,hx] at e2;injection e2 with e2;subst e2;cases e3 with
    | row=>
     cases hox;cases ho
    | map=>exact hne hc.symm
    | iter=>exact hne hc.symm
 ·show w.heap.size≤(w.heap.setIfInBounds i.blk x1).size;rw [Array.size_setIfInBounds];exact Nat.le_refl _
 ·show (w.heap.setIfInBounds i.blk x1)[k]?=_;rw [Array.getElem?_setIfInBounds,if_neg];intro he;have:=hw b i hφ he;rw [hcls] at this;rw [dC] at this;simp at this
section
variable {P:Program}{f:Fr}{A A':AS}{nx:dX}{d:Option Tmp}{ty:TypeId}{pos:String}{af:Array Edge}{gd:Option (Nat × Bool)}
theorem wW (hi:cT A) (hn:A'.next≤A'.next) (t:TypeId) (r:Option Operand) (h:bQ P f ⟨d,.makeMap t r,ty,pos,af,gd⟩ A=some (nx,A')):dp P f A ⟨d,.makeMap t r,ty,pos,af,gd⟩ nx A':=by
 cases r with
 | some _=>cases h
 | none=>
  have h':some (dX.val (.map (some A.next)),A.new fun _=>.map [] 0)=some (nx,A'):=h;injection h' with h';injection h' with h1 h2;subst h1;subst h2;rw [lJ] at hn;refine⟨C7 hi hn _ rfl,fun φ T w a hf hr _ hfr=>?_⟩;obtain⟨φ',e1,e2⟩:=cK.new hi hn hr (hfr _ (Nat.le_refl _) (by rw [lJ]; omega)) (fun _=>.map [] 0) rfl (.map #[] 0) 0 0 0 0 rfl fun φ' he hp=>.map _ _ _ rfl .nil;refine⟨φ',_,e2,?_⟩;exact .val _ _ (.map _ _ e1)
theorem BF (hi:cT A) (hn:A'.next≤A'.next) (t:TypeId) (x:Operand) (h:bQ P f ⟨d,.range t x,ty,pos,af,gd⟩ A=some (nx,A')):dp P f A ⟨d,.range t x,ty,pos,af,gd⟩ nx A':=by
 have h':uA P t (f.eval x) A=some (nx,A'):=h;unfold uA at h';split at h'
 ·rename_i b hu hx;injection h' with h';injection h' with h1 h2;subst h1;subst h2;rw [lJ] at hn;refine⟨C7 hi hn _ rfl,fun φ T w a hf hr _ hfr=>?_⟩;obtain⟨φ',e1,e2⟩:=cK.new hi hn hr (hfr _ (Nat.le_refl _) (by rw [lJ]; omega)) (fun _=>.iter b 0) rfl (.stringIter b 0) 0 0 0 0 rfl fun φ' he hp=>.iter _ _ rfl rfl;refine⟨φ',_,e2,?_⟩;have hv:=hf.eval hx;generalize hq:a.eval x=q at hv;cases hv;have e:(execOp a.eval ⟨d,.range t x,ty,pos,af,gd⟩).run P w=.ok (.value (.pointer (some ⟨w.heap.size,0,none⟩))) (w.alloc (.stringIter b 0)):=by
   refine ez ?_;rw [hq];exact run_range_string w t b hu
  rw [e];exact .val _ _ (.ptr _ 0 _ e1)
 ·cases h'
theorem BY (hi:cT A) (hn:A'.next≤A'.next) (it:Operand) (s:Bool) (h:bQ P f ⟨d,.next it s,ty,pos,af,gd⟩ A=some (nx,A')):dp P f A ⟨d,.next it s,ty,pos,af,gd⟩ nx A':=by
 have h':Be (f.eval it) s A=some (nx,A'):=h;unfold Be at h';split at h'
 ·rename_i b hx;split at h'
  ·rename_i st p hb;have hl:=(hi.lt _ _ hb).1;unfold DK at h';rcases iv h' with ⟨hlt,h1⟩ | ⟨hlt,h1⟩
   ·injection h1 with h1;injection h1 with h1 h2;subst h1;subst h2;refine⟨iZ hi hl,fun φ T w a hf hr hT _=>⟨φ,w,by rw [aH]; exact .refl hr rfl rfl rfl rfl rfl rfl rfl,?_⟩⟩;have hTb:T b:=hT b hl (.inl (by rw [aH,dC]; simp));obtain⟨i,q,e1,e2,e3⟩:=hr.obj b _ hb rfl hTb;cases e3 with
    | iter _ _ hc hs=>
     have hv:=hf.eval hx;generalize hq:a.eval it=v at hv;cases hv with
     | ptr _ _ j hj=>
      rw [e1] at hj;injection hj with hj;subst hj;have hp:¬ p < st.size:=by intro hh; rw [Nat.ble_eq_true_of_le hh] at hlt; cases hlt
      have e:(execOp a.eval ⟨d,.next it true,ty,pos,af,gd⟩).run P w=.ok (.value (.tuple #[.bool false])) w:=by
       refine ez ?_;rw [hq,hs];simp [Instr.next,getObj,Sem.run,e2,hp]
      rw [e];exact .val _ _ (.tuple _ _ (.cons _ _ _ _ (.bool _) .nil))
   ·injection h1 with h1;injection h1 with h1 h2;subst h1;subst h2;have hn':A.next≤A.next:=by rw [iU,aH,gU] at hn; exact hn
    have hp:p < st.size:=Nat.le_of_ble_eq_true hlt;refine⟨Iv hi hn' hb rfl rfl (by intros; simp) (by intros; simp),fun φ T w a hf hr hT _=>?_⟩;have hTb:T b:=hT b hl (.inl (by rw [iU,aH,gU,dC]; simp));obtain⟨i,q,e1,e2,e3⟩:=hr.obj b _ hb rfl hTb;have e3':=e3;cases e3 with
    | iter _ _ hc hs=>
     have hv:=hf.eval hx;generalize hq:a.eval it=v at hv;cases hv with
     | ptr _ _ j hj=>
      rw [e1] at hj;injection hj with hj;subst hj;refine⟨φ,_,cK.put hi hn' hr hTb hb rfl rfl e1 e2 e3' (.iter st (p + (Utf8.decode st p).2) hc hs),?_⟩;have e:(execOp a.eval ⟨d,.next it true,ty,pos,af,gd⟩).run P w=.ok (.value (.tuple #[.bool true,.int .i64 p,.int .i32 (Utf8.decode st p).1])) { w with heap:=w.heap.setIfInBounds i.blk (.stringIter st (p + (Utf8.decode st p).2)) }:=by
       refine ez ?_;rw [hq,hs];simp [Instr.next,getObj,setObj,Sem.run,e2,hp,goInt,Result.andThen]
      rw [e];exact .val _ _ (.tuple _ _ (.cons _ _ _ _ (.bool _) (.cons _ _ _ _ (.int _ _) (.cons _ _ _ _ (.int _ _) .nil))))
  ·cases h'
 ·cases h'
end
section
variable {P:Program}{f:Fr}{A A':AS}{nx:dX}{d:Option Tmp}{ty:TypeId}{pos:String}{af:Array Edge}{gd:Option (Nat × Bool)}
theorem FG {kt:TypeId}{dd:TypeDesc}{k:Value} (hd:P.underlying kt=some dd) (hk:BH dd k=true) (e:Bool) (n:Nat) (w:World):(Instr.checkKey e (n + 1) kt k).run P w=.ok () w:=by
 unfold BH at hk;split at hk
 ·simp [Instr.checkKey,run_underlying hd,Result.andThen]
 ·simp [Instr.checkKey,run_underlying hd,Result.andThen]
 ·simp [Instr.checkKey,run_underlying hd,Result.andThen]
 ·cases hk
theorem wj {kt:TypeId}{dd:TypeDesc}{k:Value} (hd:P.underlying kt=some dd) (hk:BH dd k=true) (e:Bool) (w:World):(Instr.checkKey e 10000 kt k).run P w=.ok () w:=FG hd hk e 9999 w
theorem vt {kt:TypeId}{k:Value}{es:List MapEntry}{r:Option (Nat × Value)} (h:EK P kt k es=some r):∃dd,P.underlying kt=some dd∧BH dd k=true∧Instr.findNow dd k es 0=some r:=by
 unfold EK at h;split at h
 ·rename_i dd hd;obtain⟨h1,h2⟩:=aI h;exact⟨dd,hd,h1,h2⟩
 ·cases h
theorem wC {φ:dI}{dd:TypeDesc}{k:Value} : ∀{l l':List MapEntry} (i:Nat),rZ φ l l'→
  (Instr.findNow dd k l i=some none→Instr.findNow dd k l' i=some none)∧(∀j v,Instr.findNow dd k l i=some (some (j,v))→∃v',Instr.findNow dd k l' i=some (some (j,v'))∧eR φ v v'):=by
 intro l l' i h
 induction h generalizing i with
 | nil=>exact⟨fun _=>rfl,fun j v h=>by cases h⟩
 | cons q v v' n l l' hk hv _ ih=>
  simp only [Instr.findNow];cases hs:Instr.sameNow dd k q with
  | none=>exact⟨fun h=>(by cases h),fun j v h=>(by cases h)⟩
  | some b=>
   cases b with
   | true=>
    refine⟨fun h=>(by cases h),fun j u h=>?_⟩;injection h with h;injection h with h;injection h with h1 h2;subst h1;subst h2;exact⟨v',rfl,hv⟩
   | false=>exact ih (i + 1)
theorem EO {φ:dI} (ok:Bool) {v v':Value} (h:eR φ v v') (b:Bool):eR φ (okV ok v b) (if ok=true then .tuple #[v',.bool b] else v'):=by
 cases ok with
 | false=>exact h
 | true=>exact .tuple _ _ (.cons _ _ _ _ h (.cons _ _ _ _ (.bool _) .nil))
theorem yq (hi:cT A) (t:TypeId) (x k:Operand) (ok:Bool) (h:bQ P f ⟨d,.lookup t x k ok,ty,pos,af,gd⟩ A=some (nx,A')):dp P f A ⟨d,.lookup t x k ok,ty,pos,af,gd⟩ nx A':=by
 have h':rT P t (f.eval x) (f.eval k) ok A=some (nx,A'):=h;unfold rT at h';split at h'
 ·rename_i kt et b kv hu hx hk;split at h'
  ·rename_i es clk hb;have hl:=(hi.lt _ _ hb).1;split at h'
   ·rename_i hpl;have main:∀(φ:dI) (T:Nat→Prop) (w:World) (a:Act),fe φ f a→je P φ T A w→jd A (cE A b) T→∃i es',w.heap[i]?=some (.map es' clk)∧rZ φ es es'.toList∧a.eval x=.map (some i)∧a.eval k=kv:=by
     intro φ T w a hf hr hT;have hTb:T b:=hT b hl (.inl (by rw [aH,dC]; simp));obtain⟨i,q,e1,e2,e3⟩:=hr.obj b _ hb rfl hTb;cases e3 with
     | map _ _ es' hc he=>
      have hv:=hf.eval hx;generalize hq:a.eval x=v at hv;cases hv with
      | map _ j hj=>
       rw [e1] at hj;injection hj with hj;subst hj;exact⟨i.blk,es',e2,he,rfl,ij φ _ _ _ hpl (hf.eval hk)⟩
    split at h'
    ·rename_i j v hfk;obtain⟨dd,hd,hko,hfn⟩:=vt hfk;injection h' with h';injection h' with h1 h2;subst h1;subst h2;refine⟨iZ hi hl,fun φ T w a hf hr hT _=>⟨φ,w,by rw [aH]; exact .refl hr rfl rfl rfl rfl rfl rfl rfl,?_⟩⟩;obtain⟨i,es',g1,g2,g3,g4⟩:=main φ T w a hf hr hT;obtain⟨v',g5,g6⟩:=(wC 0 g2).2 j v hfn;have e:(execOp a.eval ⟨d,.lookup t x k ok,ty,pos,af,gd⟩).run P w=.ok (.value (if ok=true then .tuple #[v',.bool true] else v')) w:=by
      refine ez ?_;rw [g3,g4];simp [Instr.lookup,run_underlying hu,MapKept.run_getObj_map g1,wj hd hko,MapKept.run_findKey hd g5,Result.andThen]
     rw [e];exact .val _ _ (EO ok g6 true)
    ·rename_i hfk;obtain⟨dd,hd,hko,hfn⟩:=vt hfk;split at h'
     ·rename_i z hz;injection h' with h';injection h' with h1 h2;subst h1;subst h2;refine⟨iZ hi hl,fun φ T w a hf hr hT _=>⟨φ,w,by rw [aH]; exact .refl hr rfl rfl rfl rfl rfl rfl rfl,?_⟩⟩;obtain⟨i,es',g1,g2,g3,g4⟩:=main φ T w a hf hr hT;have g5:=(wC 0 g2).1 hfn;obtain⟨hp,hzr⟩:=nF hz;have e:(execOp a.eval ⟨d,.lookup t x k ok,ty,pos,af,gd⟩).run P w=.ok (.value (if ok=true then .tuple #[z,.bool false] else z)) w:=by
       refine ez ?_;rw [g3,g4];simp [Instr.lookup,run_underlying hu,MapKept.run_getObj_map g1,wj hd hko,MapKept.run_findKey hd g5,hzr w,Result.andThen]
      rw [e];exact .val _ _ (EO ok (dN φ _ _ hp) false)
     ·cases h'
    ·cases h'
   ·cases h'
  ·cases h'
 ·cases h'
theorem rZ.snoc {φ:dI}{l l':List MapEntry} (h:rZ φ l l') (k v v':Value) (n:Nat) (hk:plain 50 k=true) (hv:eR φ v v'):rZ φ (l ++ [⟨k,v,n⟩]) (l' ++ [⟨k,v',n⟩]):=by
 induction h with
 | nil=>exact .cons _ _ _ _ _ _ hk hv .nil
 | cons q u u' m l l' hq hu _ ih=>exact .cons _ _ _ _ _ _ hq hu ih
theorem tL (hi:cT A) (hn:A'.next≤A'.next) (t:TypeId) (m k x:Operand) (h:bQ P f ⟨d,.mapUpdate t m k x,ty,pos,af,gd⟩ A=some (nx,A')):dp P f A ⟨d,.mapUpdate t m k x,ty,pos,af,gd⟩ nx A':=by
 have h':kw P t (f.eval m) (f.eval k) (f.eval x) A=some (nx,A'):=h;unfold kw at h';split at h'
 ·rename_i kt et b kv xv hu hm hk hx;split at h'
  ·rename_i es clk hb;have hl:=(hi.lt _ _ hb).1;split at h'
   ·rename_i hpl;split at h'
    ·rename_i hfk;obtain⟨dd,hd,hko,hfn⟩:=vt hfk;injection h' with h';injection h' with h1 h2;subst h1;subst h2;have hn':A.next≤A.next:=by rw [iU,aH,gU] at hn; exact hn
     refine⟨Iv hi hn' hb rfl rfl (by intros; simp) (by intros; simp),fun φ T w a hf hr hT _=>?_⟩;have hTb:T b:=hT b hl (.inl (by rw [iU,aH,gU,dC]; simp));obtain⟨i,q,e1,e2,e3⟩:=hr.obj b _ hb rfl hTb;have e3':=e3;cases e3 with
     | map _ _ es' hc he=>
      have hv:=hf.eval hm;generalize hq:a.eval m=v at hv;cases hv with
      | map _ j hj=>
       rw [e1] at hj;injection hj with hj;subst hj;have hkk:a.eval k=kv:=ij φ _ _ _ hpl (hf.eval hk);have g5:=(wC 0 he).1 hfn;refine⟨φ,_,cK.put hi hn' hr hTb hb rfl rfl e1 e2 e3' (.map (es ++ [{ key:=kv,val:=xv,born:=clk }]) (clk + 1) (es'.push { key:=kv,val:=a.eval x,born:=clk }) hc (by rw [Array.toList_push]; exact he.snoc _ _ _ _ hpl (hf.eval hx))),?_⟩;have e:(Instr.mapUpdate t (.map (some i.blk)) kv (a.eval x)).run P w=.ok () { w with heap:=w.heap.setIfInBounds i.blk (.map (es'.push { key:=kv,val:=a.eval x,born:=clk }) (clk + 1)) }:=by
        simp [Instr.mapUpdate,run_underlying hu,MapKept.run_getObj_map e2,wj hd hko,MapKept.run_findKey hd g5,MapKept.run_setObj_map _ e2,Result.andThen]
       have e':(execOp a.eval ⟨d,.mapUpdate t m k x,ty,pos,af,gd⟩).run P w=.ok .skip { w with heap:=w.heap.setIfInBounds i.blk (.map (es'.push { key:=kv,val:=a.eval x,born:=clk }) (clk + 1)) }:=by
        simp only [execOp,hq,hkk,Sem.run_bind,e,Result.andThen];rfl
       rw [e'];exact .skip
    ·cases h'
   ·cases h'
  ·cases h'
 ·cases h'
end
section
variable {P:Program}{f:Fr}{A A':AS}{nx:dX}{d:Option Tmp}{ty:TypeId}{pos:String}{af:Array Edge}{gd:Option (Nat × Bool)}
theorem Ce (hi:cT A) (hn:A'.next≤A'.next) (src dst:TypeId) (x:Operand) (h:bQ P f ⟨d,.convert src dst x,ty,pos,af,gd⟩ A=some (nx,A')):dp P f A ⟨d,.convert src dst x,ty,pos,af,gd⟩ nx A':=by
 have h':xx P f ⟨d,.convert src dst x,ty,pos,af,gd⟩ src dst (f.eval x) A=some (nx,A'):=h;unfold xx at h';split at h'
 ·cases h'
 ·cases h'
 ·split at h'
  ·cases h'
  ·exact fk hi _ (by intro _ _ hh; cases hh) h'
 ·exact fk hi _ (by intro _ _ hh; cases hh) h'
end
section
variable {P:Program}{f:Fr}{A A':AS}{nx:dX}{d:Option Tmp}{ty:TypeId}{pos:String}{af:Array Edge}{gd:Option (Nat × Bool)}
theorem Gg {φ:dI}{g:Nat→Value} (h:∀k,eR φ (g k) (g k)):∀l:List Nat,bu φ (l.map g) (l.map g):=by
 intro l
 induction l with
 | nil=>exact .nil
 | cons a l ih=>exact .cons _ _ _ _ (h a) ih
theorem LM (z:Array Value) (n:Nat) (h:n=0∨z.size≠0):(mO z.toList z.size n).toArray=madeCells z n:=by
 unfold mO madeCells;apply Array.ext
 ·simp
 ·intro k h1 h2;have hk:k < n:=by simpa using h1
  have hz : 0 < z.size:=by rcases h with h | h<;>omega
  have hlt:k % z.size < z.size:=Nat.mod_lt _ hz;simp only [List.getElem_toArray,List.getElem_map,List.getElem_range,Array.getElem_map,Array.getElem_range];rw [getElem!_pos z (k % z.size) hlt];have:Nat.mod k z.size=k % z.size:=rfl;rw [this];simp [List.getD,hlt]
theorem CN (hi:cT A) (hn:A'.next≤A'.next) (t:TypeId) (l c:Operand) (h:bQ P f ⟨d,.makeSlice t l c,ty,pos,af,gd⟩ A=some (nx,A')):dp P f A ⟨d,.makeSlice t l c,ty,pos,af,gd⟩ nx A':=by
 have h':wg P t (f.eval l) (f.eval c) A=some (nx,A'):=h;unfold wg at h';split at h'
 case h_2=>cases h'
 rename_i e n m ht hl hc;split at h'
 case h_2=>cases h'
 rename_i i hin;split at h'
 case h_2=>cases h'
 rename_i z hz;unfold zz at h';obtain⟨hb,h'⟩:=aI h';simp only [Bool.and_eq_true] at hb;have b1:=Nat.le_of_ble_eq_true hb.1;have b2:i.bytes * m≤281474976710656:=Nat.le_of_ble_eq_true hb.2.1;have b3:=Nat.le_of_ble_eq_true hb.2.2.1;have b4:=hb.2.2.2.1;have b5:z.cells.size=i.size:=by rw [← Array.length_toList]; exact Nat.eq_of_beq_eq_true hb.2.2.2.2
 injection h' with h';injection h' with h1 h2;subst h1;subst h2;rw [bz] at hn;refine⟨gO hi hn _ _,fun φ T w a hf hr _ hfr=>?_⟩;have hself:=gN (dN φ 50 z b4);have hcells:bu φ (mO z.cells.toList i.size (Nat.mul m i.size)) (mO z.cells.toList i.size (Nat.mul m i.size)):=by
  refine Gg (fun k=>?_) _;cases hk:z.cells.toList[Nat.mod k i.size]? with
  | none=>rw [List.getD_eq_getElem?_getD,hk]; exact iP φ
  | some v=>
   obtain⟨v',g1,g2⟩:=bu.get _ hself hk;rw [hk] at g1;injection g1 with g1;subst g1;rw [List.getD_eq_getElem?_getD,hk];exact g2
 obtain⟨φ',e1,e2⟩:=jC hi (by rw [bz]; exact hn) hr hfr hcells;refine⟨φ',_,e2,?_⟩;obtain⟨vl,hl1,hl2⟩ : ∃v,f.eval l=some v∧jg v=some n:=by
  cases hh:f.eval l with
  | none=>rw [hh] at hl; cases hl
  | some v=>rw [hh] at hl; exact⟨v,rfl,hl⟩
 obtain⟨vc,hc1,hc2⟩ : ∃v,f.eval c=some v∧jg v=some m:=by
  cases hh:f.eval c with
  | none=>rw [hh] at hc; cases hc
  | some v=>rw [hh] at hc; exact⟨v,rfl,hc⟩
 obtain⟨kl,rfl⟩:=jp hl2;obtain⟨kc,rfl⟩:=jp hc2;have r1:=hf.eval hl1;have r2:=hf.eval hc1;generalize hq1:a.eval l=q1 at r1;generalize hq2:a.eval c=q2 at r2;cases r1;cases r2;have hcm:(mO z.cells.toList i.size (Nat.mul m i.size)).toArray=madeCells z.cells (m * i.size):=by
  rw [← b5];refine LM _ _ ?_;by_cases h0:z.cells.size=0
  ·left; rw [h0]; rfl
  ·exact .inr h0
 have hb2:(i.bytes:Int) * (m:Int)≤281474976710656:=by
  have h:((i.bytes * m:Nat):Int)≤281474976710656:=by omega
  rwa [Int.natCast_mul] at h
 have hrun:=run_make (P:=P) w t e i z ht hin hz kl kc (n:Int) (m:Int) (by omega) (by omega) hb2 (by omega);simp only [Int.toNat_natCast] at hrun;have hes:P.cellsOf e=i.size:=by simp [Program.cellsOf,hin]
 have ee:(execOp a.eval ⟨d,.makeSlice t l c,ty,pos,af,gd⟩).run P w=.ok (.value (.slice (some ⟨w.heap.size,0,none⟩) n m)) (w.alloc (.cells (mO z.cells.toList i.size (Nat.mul m i.size)).toArray e)):=by
  refine ez ?_;rw [hq1,hq2,hcm];exact hrun
 rw [ee];refine .val _ _ (.slice _ _ _ _ _ _ _ e1 b1 (Nat.le_refl _) (.inr (by simp)) ?_);show 0 + m * P.cellsOf e≤(mO z.cells.toList i.size (Nat.mul m i.size)).length;rw [hes];unfold mO;simp
end
section
variable {P:Program}{f:Fr}{A A':AS}{nx:dX}{d:Option Tmp}{ty:TypeId}{pos:String}{af:Array Edge}{gd:Option (Nat × Bool)}
theorem mE {α:Type}{xs:Array α}{x y:α} (h:xs.toList=[x,y]):xs = #[x,y]:=by cases xs; cases h; rfl
theorem wV (hi:cT A) (hn:A'.next≤A'.next) (b:Builtin) (args:Array Operand) (tys:Array TypeId) (h:lT P f ⟨d,.call ⟨.builtin b,args,tys⟩,ty,pos,af,gd⟩ b args.toList tys.toList A=some (nx,A')) :
  dp P f A ⟨d,.call ⟨.builtin b,args,tys⟩,ty,pos,af,gd⟩ nx A':=by
 unfold lT at h;split at h
 ·exact Gb hi args tys h
 ·split at h
  ·rename_i x y t u h1 h2;obtain rfl:=mE h1;obtain rfl:=mE h2;exact yV hi hn x y t u h
  ·cases h
 ·split at h
  ·rename_i x y t u h1 h2;obtain rfl:=mE h1;obtain rfl:=mE h2;exact Dt hi hn x y t u h
  ·cases h
 ·injection h with h;injection h with h1 h2;subst h1;subst h2;refine bB hi fun φ w a hf=>?_;exact .recover
 ·cases h
 ·cases h
 ·exact fk hi _ (by intro _ _ hh; cases hh) h
theorem Cp (hE:zE P) (hi:cT A) (hn:A'.next≤A'.next) (c:Call) (h:bQ P f ⟨d,.call c,ty,pos,af,gd⟩ A=some (nx,A')):dp P f A ⟨d,.call c,ty,pos,af,gd⟩ nx A':=by
 obtain⟨cal,args,tys⟩:=c;cases cal with
 | value x=>exact tr hE hi x args tys (show Ax P (f.eval x) (qW f args.toList) A=_ from h)
 | builtin b=>exact wV hi hn b args tys (show lT P f _ b args.toList tys.toList A=_ from h)
 | invoke=>cases h
end
theorem ER {P:Program} (hE:zE P) (hS:Sa P):cQ P:=by
 intro f o A nx A' hi hn h;obtain⟨d,op,ty,pos,af,gd⟩:=o;cases op with
 | move x=>exact DL hi x h
 | assign x=>exact zJ hi x h
 | pick c a b=>exact Cf hi c a b h
 | alloc e=>exact Bq hi hn e h
 | box e x=>exact Ha hi hn e x h
 | build t ps=>exact Ba hS hi t ps h
 | buildSlice t n ps=>exact sg hi hn t n ps h
 | insert=>cases h
 | load t a=>exact Dy hi t a h
 | store t a x=>exact Aq hi hn t a x h
 | ready=>cases h
 | waits=>cases h
 | nilCheck x=>exact vE hi x h
 | binOp op t x y u=>exact Hf hi op t u x y h
 | unOp=>exact fk hi _ (by intro _ _ hh; cases hh) (show fG P f _ A=_ from h)
 | convert a b x=>exact Ce hi hn a b x h
 | sliceToArrayPointer=>cases h
 | makeInterface t x=>exact BG hi t x h
 | makeFunc fn a b=>exact Ch hi fn a b h
 | makeMap t r=>exact wW hi hn t r h
 | makeChan=>cases h
 | makeSlice t l c=>exact CN hi hn t l c h
 | slice t x lo hi' mx=>exact Bh hi t x lo hi' mx h
 | fieldAddr t x i=>exact tV hi t x i h
 | field t x i=>exact B6 hi t x i h
 | indexAddr t x i=>exact tR hi t x i h
 | index t x i=>exact BI hi t x i h
 | lookup t x k ok=>exact yq hi t x k ok h
 | mapUpdate t m k x=>exact tL hi hn t m k x h
 | mapEntry=>cases h
 | entryStore=>cases h
 | range t x=>exact BF hi hn t x h
 | next it b=>exact BY hi hn it b h
 | entry=>cases h
 | typeAssert x t a ok=>cases h
 | extract t i=>exact wG hi t i h
 | call c=>exact Cp hE hi hn c h
 | go=>cases h
 | defer c=>cases h
 | panic x=>cases h
 | send=>cases h
 | recv=>cases h
 | select=>cases h
section
variable {P:Program}{call:dZ}
theorem eY (s:AS):(cU s).next=s.next:=by cases s; rfl
theorem jD (s s':AS):(j6 s s').next=s'.next:=by cases s'; unfold j6; simp only [ci]
theorem oe (ops:Array Oper) (j:Nat) (bs:Tr Nat) (acc:List Fp) (f:Fr) (A:AS):jv P call ops [] j bs acc f A=.on f A:=rfl
theorem me (ops:Array Oper) (o:Oper) (l:List Oper) (j:Nat) (bs:Tr Nat) (acc:List Fp) (f:Fr) (A:AS) :
  jv P call ops (o :: l) j bs acc f A=lA o (o.looksAt ops) f A j bs acc (io P call ops.toList (hZ (o.looksAt ops) f) o (cU A)) (jv P call ops l):=by
 show jo (o.looksAt ops) (fun ls=>lA o ls f A j bs acc (io P call ops.toList (hZ ls f) o (cU A)) (jv P call ops l))=_;rw [cA]
theorem kW {o:Oper}{l:List Tmp}{f:Fr}{A:AS}{j:Nat}{bs:Tr Nat}{acc:List Fp}{r:St}{k:Tg} (h:lA o l f A j bs acc r k≠.no) :
  ∃g B f',r=.on g B∧jw f o.dst g=some f'∧lE j o.after.toList=true∧j < 100000∧nD l=true∧
   my (j7 bs o.after.toList) (eO f'.n B.r (bP l)) (eO f'.n B.w (bP o.dst.toList)) acc=true∧
   lA o l f A j bs acc r k=k (j + 1) (Tr.set (j7 bs o.after.toList) 40 bs j) (⟨j,eO f'.n B.r (bP l),eO f'.n B.w (bP o.dst.toList)⟩ :: acc) f' (j6 A B):=by
 unfold lA at h ⊢;cases r with
 | no=>exact absurd rfl h
 | up v g B=>exact absurd rfl h
 | on g B=>
  simp only at h ⊢;cases hp:jw f o.dst g with
  | none=>rw [hp] at h; exact absurd rfl h
  | some f'=>
   rw [hp] at h;simp only at h ⊢;unfold Jc at h ⊢;simp only [ci,dh] at h ⊢;cases hb:(lE j o.after.toList && (Nat.ble (Nat.succ j) 100000 && (nD l && my (j7 bs o.after.toList) (eO f'.n B.r (bP l)) (eO f'.n B.w (bP o.dst.toList)) acc))) with
   | false=>rw [hb] at h; exact absurd rfl h
   | true=>
    have hb':=hb;simp only [Bool.and_eq_true] at hb';exact⟨g,B,f',rfl,hp,hb'.1,Nat.le_of_ble_eq_true hb'.2.1,hb'.2.2.1,hb'.2.2.2,rfl⟩
theorem vP (ops:Array Oper):∀(l:List Oper) (j:Nat) (bs:Tr Nat) (acc:List Fp) (f:Fr) (A:AS) (v:Value) (f':Fr) (A':AS),jv P call ops l j bs acc f A≠.up v f' A':=by
 intro l
 induction l with
 | nil=>intro j bs acc f A v f' A' h; rw [oe] at h; cases h
 | cons o l ih=>
  intro j bs acc f A v f' A' h;rw [me] at h;obtain⟨g,B,f1,_,_,_,_,_,_,he⟩:=kW (by rw [h]; exact fun hh=>by cases hh);rw [he] at h;exact ih _ _ _ _ _ _ _ _ h
theorem zw (hO:i7 P) (hM:dQ call) {ops:Array Oper} : ∀(l:List Oper) {f f':Fr}{A A':AS}{j:Nat}{bs:Tr Nat}{acc:List Fp},jv P call ops l j bs acc f A=.on f' A'→A.next≤A'.next:=by
 intro l
 induction l with
 | nil=>intro f f' A A' j bs acc h; rw [oe] at h; injection h with _ h2; rw [h2]; exact Nat.le_refl _
 | cons o l ih=>
  intro f f' A A' j bs acc h;rw [me] at h;obtain⟨g,B,f1,hs,_,_,_,_,_,he⟩:=kW (by rw [h]; exact fun hh=>by cases hh);have h1:=lI hO hM (v:=undef) (.inl hs);rw [he] at h;have h2:=ih h;rw [jD] at h2;rw [eY] at h1;omega
theorem AQ (hO:i7 P) (hM:dQ call):lD P call:=by
 intro ops f A x f' A' h;rcases pe h with ⟨h1,_⟩ | ⟨v,h1,_⟩
 ·exact zw hO hM _ h1
 ·exact absurd h1 (vP _ _ _ _ _ _ _ _ _ _)
structure Gw where
 f:Fr
 s:AS
 g:Fr
 B:AS
 bs:Tr Nat
 acc:List Fp
def Tn (P:Program) (call:dZ) (ops:Array Oper) (f:Fr) (A:AS) (g:Fr) (B:AS) (o:Oper):Prop:=
 io P call ops.toList f o A=.on g B∨(m8 P ops o f A g B∧(jO ops.toList f o.guard=some false∨∀cs b,o.op≠.select cs b))
structure Qy (P:Program) (call:dZ) (ops:Array Oper) (X:Nat→Gw) (j:Nat) (o:Oper):Prop where
 step:Tn P call ops (hZ (o.looksAt ops) (X j).f) (cU (X j).s) (X j).g (X j).B o
 put:jw (X j).f o.dst (X j).g=some (X (j + 1)).f
 s:(X (j + 1)).s=j6 (X j).s (X j).B
 low:lE j o.after.toList=true
 few:j < 100000
 looks:nD (o.looksAt ops)=true
 bs:(X (j + 1)).bs=Tr.set (j7 (X j).bs o.after.toList) 40 (X j).bs j
 acc:(X (j + 1)).acc=⟨j,eO (X (j + 1)).f.n (X j).B.r (bP (o.looksAt ops)),eO (X (j + 1)).f.n (X j).B.w (bP o.dst.toList)⟩ :: (X j).acc
 clear:my (j7 (X j).bs o.after.toList) (eO (X (j + 1)).f.n (X j).B.r (bP (o.looksAt ops))) (eO (X (j + 1)).f.n (X j).B.w (bP o.dst.toList)) (X j).acc=true
theorem SS {ops:Array Oper} : ∀(l:List Oper) (j:Nat) (bs:Tr Nat) (acc:List Fp) (f f':Fr) (A A':AS),jv P call ops l j bs acc f A=.on f' A'→
  ∃X:Nat→Gw,(X j).f=f∧(X j).s=A∧(X j).bs=bs∧(X j).acc=acc∧(X (j + l.length)).f=f'∧(X (j + l.length)).s=A'∧∀i o,l[i]?=some o→Qy P call ops X (j + i) o:=by
 intro l
 induction l with
 | nil=>
  intro j bs acc f f' A A' h;rw [oe] at h;injection h with h1 h2;exact⟨fun _=>⟨f,A,f,A,bs,acc⟩,rfl,rfl,rfl,rfl,h1,h2,fun i o hh=>by simp at hh⟩
 | cons o l ih=>
  intro j bs acc f f' A A' h;rw [me] at h;obtain⟨g,B,f1,hs,hp,hl,hf,hlo,hc,he⟩:=kW (by rw [h]; exact fun hh=>by cases hh);rw [he] at h;obtain⟨X,e1,e2,e3,e4,e5,e6,e7⟩:=ih _ _ _ _ _ _ _ h;obtain⟨Y,hYj,hY⟩ : ∃Y:Nat→Gw,Y j=⟨f,A,g,B,bs,acc⟩∧∀i,Y (j + 1 + i)=X (j + 1 + i):=
   ⟨fun n=>if n=j then ⟨f,A,g,B,bs,acc⟩ else X n,if_pos rfl,fun i=>if_neg (by omega)⟩
  refine⟨Y,by rw [hYj],by rw [hYj],by rw [hYj],by rw [hYj],?_,?_,fun i o' hi=>?_⟩
  ·rw [List.length_cons,show j + (l.length + 1)=j + 1 + l.length by omega,hY]; exact e5
  ·rw [List.length_cons,show j + (l.length + 1)=j + 1 + l.length by omega,hY]; exact e6
  ·cases i with
   | zero=>
    simp at hi;subst hi;have h0:Y (j + 1)=X (j + 1):=hY 0;refine⟨.inl ?_,?_,?_,hl,hf,hlo,?_,?_,?_⟩<;>simp only [Nat.add_zero,hYj,h0,e1,e2,e3,e4]<;>assumption
   | succ i=>
    have hg:=e7 i o' (by simpa using hi);have h0:=hY i;have h1:=hY (i + 1);rw [show j + (i + 1)=j + 1 + i by omega];obtain⟨a1,a2,a3,a4,a5,a9,a6,a7,a8⟩:=hg;rw [show j + 1 + (i + 1)=j + 1 + i + 1 by omega] at h1;refine⟨?_,?_,?_,a4,a5,a9,?_,?_,?_⟩<;>simp only [h0,h1]<;>assumption
end
section
variable {P:Program}{call:dZ}
theorem BE {x:Option Fr}{s A':AS}{f':Fr} (h:kZ x s=.on f' A'):s=A':=(jV h).2
theorem rk (ops:List Oper) (o:Oper) (l:List Oper) (f:Fr) (A:AS) (u:Option Value):rK P call ops (o :: l) f A u=Oj P call ops o f A u (rK P call ops l):=rfl
theorem mG (hO:i7 P) (hM:dQ call) {ops:List Oper} : ∀(l:List Oper) {f:Fr}{A:AS}{u:Option Value}{q:Dd},rK P call ops l f A u=some q→A.next≤q.s.next:=by
 intro l
 induction l with
 | nil=>
  intro f A u q h;have h':some (⟨f,A,u⟩ : Dd)=some q:=h;injection h' with h';rw [← h'];exact Nat.le_refl _
 | cons o l ih=>
  intro f A u q h;rw [rk] at h;unfold Oj at h;split at h
  ·rename_i s hev;have h1:=hO _ _ _ _ _ hev;split at h
   ·unfold S4 at h;split at h
    ·rename_i g s' hon;have:=BE hon;subst this;have:=ih h;omega
    ·cases h
   ·cases h
  ·unfold S4 at h;split at h
   ·rename_i g s' hst;have h1:=lI hO hM (v:=undef) (.inl hst);have:=ih h;omega
   ·cases h
theorem xN (hO:i7 P) (hM:dQ call) (hD:lD P call):pg P call:=by
 intro d A u A' u' h;unfold gP at h;split at h
 ·split at h
  ·obtain⟨_,h⟩:=aI h;unfold zW at h;split at h
   ·split at h
    ·rename_i g s v hr;have h1:=mG hO hM _ hr;unfold PP at h;split at h
     ·rename_i f0 s0 he;have h2:=fY hO hM hD _ _ _ _ _ _ he;split at h
      ·injection h with h;injection h with h3 _;subst h3;exact Nat.le_trans h1 h2
      ·cases h
     ·rename_i f0 s0 he;have h2:=fY hO hM hD _ _ _ _ _ _ he;split at h
      ·injection h with h;injection h with h3 _;subst h3;exact Nat.le_trans h1 h2
      ·cases h
     ·cases h
    ·cases h
   ·cases h
  ·cases h
 ·cases h
end
section
variable {P:Program}{call:dZ}{ops:Array Oper}{X:Nat→Gw}
theorem dc (s:AS):cU s=⟨s.heap,s.next,s.mem,s.fz,0,0⟩:=by cases s; rfl
theorem iI (s s':AS):j6 s s'=⟨s'.heap,s'.next,s'.mem,s'.fz,s'.r ||| s.r,s'.w ||| s.w⟩:=by
 cases s'; unfold j6; simp only [ci]; rfl
theorem Kt {A B:AS} (h:cT A) (h1:B.heap=A.heap) (h2:B.next=A.next) (h3:B.mem=A.mem) (h4:B.fz=A.fz):cT B:=by
 obtain⟨hp,n,m,z,r,w⟩:=A;obtain⟨hp',n',m',z',r',w'⟩:=B;simp only at h1 h2 h3 h4;subst h1; subst h2; subst h3; subst h4;exact⟨h.lt,h.mem,h.memc,h.root,h.ml,h.old,h.fz⟩
theorem sM {A:AS} (h:cT A):cT (cU A):=by rw [dc]; exact Kt h rfl rfl rfl rfl
theorem yv {A B:AS} (h:mR (cU A) B):mR A (j6 A B):=by
 rw [dc] at h;rw [iI];refine⟨h.next,fun c hc=>?_,fun c hc=>?_,fun b o hb hw=>?_,fun b o hb hw=>?_,fun c hc=>?_,fun c hc=>?_,fun c hc=>?_,fun c hc=>?_,Kt h.inv rfl rfl rfl rfl⟩
 ·show (B.r ||| A.r).testBit c=true; rw [Nat.testBit_or,hc,Bool.or_true]
 ·show (B.w ||| A.w).testBit c=true; rw [Nat.testBit_or,hc,Bool.or_true]
 ·have hw':(B.w ||| A.w).testBit _=false:=hw;rw [Nat.testBit_or,Bool.or_eq_false_iff] at hw';exact h.old b o hb hw'.1
 ·have hw':(B.w ||| A.w).testBit _=false:=hw;rw [Nat.testBit_or,Bool.or_eq_false_iff] at hw';exact h.new b o hb hw'.1
 ·have hw':(B.w ||| A.w).testBit _=false:=hc;rw [Nat.testBit_or,Bool.or_eq_false_iff] at hw';exact h.fz c hw'.1
 ·have hw':(B.w ||| A.w).testBit _=false:=hc;rw [Nat.testBit_or,Bool.or_eq_false_iff] at hw';exact h.mem c hw'.1
 ·have hw':(B.r ||| A.r).testBit _=true:=hc;rw [Nat.testBit_or,Bool.or_eq_true] at hw';rcases hw' with hw' | hw'
  ·rcases h.rb c hw' with h1 | h1
   ·simp at h1
   ·exact .inr h1
  ·exact .inl hw'
 ·have hw':(B.w ||| A.w).testBit _=true:=hc;rw [Nat.testBit_or,Bool.or_eq_true] at hw';rcases hw' with hw' | hw'
  ·rcases h.wb c hw' with h1 | h1
   ·simp at h1
   ·exact .inr h1
  ·exact .inl hw'
theorem m7 {l:List Tmp}{t:Nat} (h:t∈l):(bP l).testBit t=true:=by
 induction l with
 | nil=>cases h
 | cons x l ih=>
  show (Nat.lor (bP l) (1 <<< x)).testBit t=true;have e:Nat.lor (bP l) (1 <<< x)=bP l ||| (1 <<< x):=rfl
  rw [e,dC];rcases List.mem_cons.1 h with rfl | h
  ·simp
  ·rw [ih h]; rfl
theorem nZ {n c l x:Nat} (h:c.testBit x=true):(eO n c l).testBit (n + x)=true:=by
 show ((c <<< n) ||| l).testBit (n + x)=true;rw [Nat.testBit_or,Nat.testBit_shiftLeft];simp [h]
theorem lS {n c l x:Nat} (h:l.testBit x=true):(eO n c l).testBit x=true:=by
 show ((c <<< n) ||| l).testBit x=true;rw [Nat.testBit_or,h,Bool.or_true]
theorem K4 {a b x:Nat} (ha:a.testBit x=true) (hb:b.testBit x=true):Nat.beq (Nat.land a b) 0=false:=by
 have e:Nat.land a b=a &&& b:=rfl;cases hz:Nat.beq (Nat.land a b) 0 with
 | false=>rfl
 | true=>
  have h0:=Nat.eq_of_beq_eq_true hz;rw [e] at h0;have:(a &&& b).testBit x=true:=by rw [Nat.testBit_and,ha,hb]; rfl
  rw [h0] at this;simp at this
theorem HM {r w r' w' x:Nat} (h:(w.testBit x=true∧(r'.testBit x=true∨w'.testBit x=true))∨(w'.testBit x=true∧r.testBit x=true)):uz r w r' w'=false:=by
 unfold uz;rcases h with ⟨h1,h2⟩ | ⟨h1,h2⟩
 ·rw [K4 (x:=x) h1 (by show (r' ||| w').testBit x=true; rw [Nat.testBit_or]; rcases h2 with h2 | h2<;>simp [h2])]; rfl
 ·rw [K4 h1 h2,Bool.and_false]
theorem Hh {bs:Tr Nat}{l:List Edge}{i:Nat} (h:(j7 bs l).testBit i=true):∃e∈l,Region.binds .any e=true∧(i=e.on∨((bs.get e.on).getD 0).testBit i=true):=by
 induction l with
 | nil=>exact absurd h (by show (Nat.testBit 0 i)≠true; simp)
 | cons e l ih=>
  have h':(Bool.rec (j7 bs l) (Nat.lor (j7 bs l) (Nat.lor (Nat.shiftLeft 1 e.on) ((bs.get e.on).getD 0))) (Region.binds .any e):Nat).testBit i=true:=h;cases hb:Region.binds .any e with
  | false=>
   rw [hb] at h';obtain⟨e',h1,h2⟩:=ih h';exact⟨e',List.mem_cons_of_mem _ h1,h2⟩
  | true=>
   rw [hb] at h';have h'':(j7 bs l ||| ((1 <<< e.on) ||| ((bs.get e.on).getD 0))).testBit i=true:=h';rw [Nat.testBit_or,Nat.testBit_or,Bool.or_eq_true,Bool.or_eq_true] at h'';rcases h'' with h1 | h1 | h1
   ·obtain⟨e',h1,h2⟩:=ih h1;exact⟨e',List.mem_cons_of_mem _ h1,h2⟩
   ·rw [Nat.one_shiftLeft,Nat.testBit_two_pow] at h1;exact⟨e,List.mem_cons_self,hb,.inl (by simpa using (of_decide_eq_true h1).symm)⟩
   ·exact⟨e,List.mem_cons_self,hb,.inr h1⟩
structure pR (P:Program) (call:dZ) (ops:Array Oper) (X:Nat→Gw):Prop where
 bs:(X 0).bs=.nil
 acc:(X 0).acc=[]
 good:∀i o,ops[i]?=some o→Qy P call ops X i o
theorem lP {i:Nat} (h:i < ops.size):∃o,ops[i]?=some o:=⟨ops[i],by simp [h]⟩
theorem ut {i:Nat}{o:Oper} (h:ops[i]?=some o):i < ops.size:=(Array.getElem?_eq_some_iff.1 h).1
theorem pR.bsAt (W:pR P call ops X):∀j,j≤ops.size→∀m,((X j).bs.get m).isSome=true→∃o,ops[m]?=some o∧m < j∧(X j).bs.get m=some (j7 (X m).bs o.after.toList):=by
 intro j
 induction j with
 | zero=>intro _ m h; rw [W.bs] at h; simp [Tr.get_nil] at h
 | succ j ih=>
  intro hj m h;obtain⟨o,ho⟩:=lP (ops:=ops) (show j < ops.size by omega);have g:=W.good j o ho;have hf:kC j:=trivial;rw [g.bs,Tr.get_set _ _ _ _ hf] at h ⊢;split at h
  ·rename_i he; subst he; rw [if_pos rfl]; exact⟨o,ho,by omega,rfl⟩
  ·rename_i he;rw [if_neg he];obtain⟨o',h1,h2,h3⟩:=ih (by omega) m h;exact⟨o',h1,by omega,h3⟩
def Closed (ops:Array Oper) (L:Nat→Prop):Prop:=∀j o,ops[j]?=some o→L j→∀e∈o.after,Region.binds .any e=true→L e.on
theorem pR.before (W:pR P call ops X) {L:Nat→Prop} (hL:Closed ops L):∀j o,ops[j]?=some o→L j→∀i,(j7 (X j).bs o.after.toList).testBit i=true→L i:=by
 intro j
 induction j using Nat.strongRecOn with
 | _ j ih=>
  intro o ho hj i hi;obtain⟨e,h1,h2,h3⟩:=Hh hi;have he:=hL j o ho hj e (by simpa using h1) h2;rcases h3 with rfl | h3
  ·exact he
  ·cases hg:(X j).bs.get e.on with
   | none=>rw [hg] at h3; simp at h3
   | some b=>
    obtain⟨o',k1,k2,k3⟩:=W.bsAt j (Nat.le_of_lt (ut ho)) e.on (by rw [hg]; rfl);rw [k3] at h3;exact ih e.on k2 o' k1 he i h3
theorem pR.accAt (W:pR P call ops X):∀j,j≤ops.size→∀i o,i < j→ops[i]?=some o→(⟨i,eO (X (i + 1)).f.n (X i).B.r (bP (o.looksAt ops)),eO (X (i + 1)).f.n (X i).B.w (bP o.dst.toList)⟩ : Fp)∈(X j).acc:=by
 intro j
 induction j with
 | zero=>intro _ i o h; omega
 | succ j ih=>
  intro hj i o hi ho;obtain⟨o',ho'⟩:=lP (ops:=ops) (show j < ops.size by omega);rw [(W.good j o' ho').acc];by_cases he:i=j
  ·subst he;rw [ho] at ho'; injection ho' with ho'; subst ho';exact List.mem_cons_self
  ·exact List.mem_cons_of_mem _ (ih (by omega) i o (by omega) ho)
theorem xg {f f' g:Fr}{d:Option Tmp} (h:jw f d g=some f'):f'.n=f.n∧f'.defers=f.defers∧g.defers=[]:=by
 unfold jw at h;split at h
 ·rename_i hg;refine⟨?_,?_,hg⟩
  ·rcases yi h with ⟨_,rfl⟩ | ⟨t,_,_,rfl⟩<;>rfl
  ·rcases yi h with ⟨_,rfl⟩ | ⟨t,_,_,rfl⟩<;>rfl
 ·cases h
theorem vu {f f' g:Fr}{d:Option Tmp} (hf:f.n≤1000000) (h:jw f d g=some f') (t:Nat):(d=some t→t < f.n∧f'.tmps.get t=some ((g.tmps.get t).getD undef))∧(d≠some t→f'.tmps.get t=f.tmps.get t):=by
 unfold jw at h;split at h
 ·rcases yi h with ⟨rfl,rfl⟩ | ⟨t',rfl,hlt,rfl⟩
  ·exact⟨fun h=>absurd h (by simp),fun _=>rfl⟩
  ·have hfit:kC t':=trivial;refine⟨fun h=>?_,fun h=>?_⟩
   ·injection h with h; subst h;refine⟨hlt,?_⟩;show (Tr.set _ 40 f.tmps t').get t'=_;rw [Tr.get_set _ _ _ _ hfit,if_pos rfl]
   ·show (Tr.set _ 40 f.tmps t').get t=_;rw [Tr.get_set _ _ _ _ hfit,if_neg (fun e=>h (by rw [e]))]
 ·cases h
theorem pR.n (W:pR P call ops X):∀j,j≤ops.size→(X j).f.n=(X 0).f.n∧(X j).f.defers=(X 0).f.defers:=by
 intro j
 induction j with
 | zero=>intro _; exact⟨rfl,rfl⟩
 | succ j ih=>
  intro hj;obtain⟨o,ho⟩:=lP (ops:=ops) (show j < ops.size by omega);obtain⟨h1,h2,_⟩:=xg (W.good j o ho).put;obtain⟨k1,k2⟩:=ih (by omega);exact⟨h1.trans k1,h2.trans k2⟩
theorem pR.clash (W:pR P call ops X) {i j:Nat}{o o':Oper} (hij:i < j) (ho:ops[i]?=some o) (ho':ops[j]?=some o') {x:Nat}
  (h:((eO (X (i + 1)).f.n (X i).B.w (bP o.dst.toList)).testBit x=true∧((eO (X (j + 1)).f.n (X j).B.r (bP (o'.looksAt ops))).testBit x=true∨(eO (X (j + 1)).f.n (X j).B.w (bP o'.dst.toList)).testBit x=true))∨
   ((eO (X (j + 1)).f.n (X j).B.w (bP o'.dst.toList)).testBit x=true∧(eO (X (i + 1)).f.n (X i).B.r (bP (o.looksAt ops))).testBit x=true)) :
  (j7 (X j).bs o'.after.toList).testBit i=true:=by
 have hc:=(W.good j o' ho').clear;unfold my at hc;rw [List.all_eq_true] at hc;have:=hc _ (W.accAt j (Nat.le_of_lt (ut ho')) i o hij ho);rw [HM h,Bool.false_or] at this;exact this
theorem pR.cls (W:pR P call ops X) {L:Nat→Prop} (hL:Closed ops L) {i j:Nat} (hij:i < j) (hj:j < ops.size) (hLj:L j) {c:Nat}
  (h:((X i).B.w.testBit c=true∧((X j).B.r.testBit c=true∨(X j).B.w.testBit c=true))∨((X j).B.w.testBit c=true∧(X i).B.r.testBit c=true)):L i:=by
 obtain⟨o,ho⟩:=lP (ops:=ops) (show i < ops.size by omega);obtain⟨o',ho'⟩:=lP hj;have hn:(X (j + 1)).f.n=(X (i + 1)).f.n:=(W.n (j + 1) (by omega)).1.trans (W.n (i + 1) (by omega)).1.symm;refine W.before hL j o' ho' hLj i (W.clash hij ho ho' (x:=(X (i + 1)).f.n + c) ?_);rw [hn];rcases h with ⟨h1,h2⟩ | ⟨h1,h2⟩
 ·exact .inl ⟨nZ h1,h2.imp nZ nZ⟩
 ·exact .inr ⟨nZ h1,nZ h2⟩
theorem pR.slot (W:pR P call ops X) {L:Nat→Prop} (hL:Closed ops L) {i j:Nat}{o o':Oper} (hij:i < j) (ho:ops[i]?=some o) (ho':ops[j]?=some o') (hLj:L j) {t:Nat}
  (h:(o.dst=some t∧(t∈o'.looksAt ops∨o'.dst=some t))∨(o'.dst=some t∧t∈o.looksAt ops)):L i:=by
 have hd:∀{o:Oper},o.dst=some t→(bP o.dst.toList).testBit t=true:=fun h=>m7 (by rw [h]; simp);refine W.before hL j o' ho' hLj i (W.clash hij ho ho' (x:=t) ?_);rcases h with ⟨h1,h2⟩ | ⟨h1,h2⟩
 ·exact .inl ⟨lS (hd h1),h2.imp (fun h=>lS (m7 h)) (fun h=>lS (hd h))⟩
 ·exact .inr ⟨lS (hd h1),lS (m7 h2)⟩
end
section
variable {P:Program}{call:dZ}{ops:Array Oper}{X:Nat→Gw}
structure kE (P:Program) (ops:Array Oper) (X:Nat→Gw):Prop where
 fr:∀i,i < ops.size→mR (cU (X i).s) (X i).B
 on:∀i o,ops[i]?=some o→m8 P ops o (hZ (o.looksAt ops) (X i).f) (cU (X i).s) (X i).g (X i).B
theorem kE.fr' (W:pR P call ops X) (H:kE P ops X) {i:Nat} (hi:i < ops.size):mR (X i).s (X (i + 1)).s:=by
 obtain⟨o,ho⟩:=lP hi;rw [(W.good i o ho).s];exact yv (H.fr i hi)
theorem kE.le (W:pR P call ops X) (H:kE P ops X) {i:Nat} : ∀{j:Nat},i≤j→j≤ops.size→(X i).s.next≤(X j).s.next:=by
 intro j
 induction j with
 | zero=>intro hij _; rw [show i=0 by omega]; exact Nat.le_refl _
 | succ j ih=>
  intro hij hj;by_cases he:i=j + 1
  ·rw [he]; exact Nat.le_refl _
  ·exact Nat.le_trans (ih (by omega) (by omega)) (H.fr' W (show j < ops.size by omega)).next
theorem kE.heap (W:pR P call ops X) {i:Nat} (hi:i < ops.size):(X (i + 1)).s.heap=(X i).B.heap∧(X (i + 1)).s.fz=(X i).B.fz∧(X (i + 1)).s.next=(X i).B.next∧(X (i + 1)).s.w=(X i).B.w ||| (X i).s.w∧(X (i + 1)).s.r=(X i).B.r ||| (X i).s.r:=by
 obtain⟨o,ho⟩:=lP hi;rw [(W.good i o ho).s,iI];exact⟨rfl,rfl,rfl,rfl,rfl⟩
theorem kE.agree (W:pR P call ops X) (H:kE P ops X) {c i:Nat} : ∀{k:Nat},i≤k→k≤ops.size→(∀m,i≤m→m < k→(X m).B.w.testBit c=false)→(X k).s.fz.get c=(X i).s.fz.get c∧∀b o,(X k).s.heap.get b=some o→dE b o=c→(X i).s.heap.get b=some o:=by
 intro k
 induction k with
 | zero=>intro hik _ _; rw [show i=0 by omega]; exact⟨rfl,fun _ _ h _=>h⟩
 | succ k ih=>
  intro hik hk hw;by_cases he:i=k + 1
  ·rw [he]; exact⟨rfl,fun _ _ h _=>h⟩
  ·obtain⟨h1,h2⟩:=ih (by omega) (by omega) fun m a b=>hw m a (by omega);have hf:=H.fr k (by omega);obtain⟨e1,e2,e3,_⟩:=kE.heap W (show k < ops.size by omega);rw [dc] at hf;have hwk:=hw k (by omega) (by omega);refine⟨by rw [e2,hf.fz c hwk]; exact h1,fun b o hb hc=>h2 b o ?_ hc⟩;rw [e1] at hb;exact hf.new b o hb (by rw [hc]; exact hwk)
theorem kE.bits (W:pR P call ops X) {i:Nat} (_hi:i < ops.size) {c:Nat} : ∀{k:Nat},i < k→k≤ops.size→((X i).B.w.testBit c=true→(X k).s.w.testBit c=true)∧((X i).B.r.testBit c=true→(X k).s.r.testBit c=true):=by
 intro k
 induction k with
 | zero=>intro h; omega
 | succ k ih=>
  intro hik hk;obtain⟨_,_,_,e4,e5⟩:=kE.heap W (show k < ops.size by omega);rw [e4,e5];by_cases he:i=k
  ·subst he;exact⟨fun h=>by rw [Nat.testBit_or,h]; rfl,fun h=>by rw [Nat.testBit_or,h]; rfl⟩
  ·obtain⟨h1,h2⟩:=ih (by omega) (by omega);exact⟨fun h=>by rw [Nat.testBit_or,h1 h,Bool.or_true],fun h=>by rw [Nat.testBit_or,h2 h,Bool.or_true]⟩
def OR (ops:Array Oper) (i t:Nat):Prop:=∃o,ops[i]?=some o∧o.dst=some t
theorem pR.slotAt (W:pR P call ops X) (hn:(X 0).f.n≤1000000) {t i:Nat} : ∀{k:Nat},i≤k→k≤ops.size→(∀m,i≤m→m < k→¬ OR ops m t)→(X k).f.tmps.get t=(X i).f.tmps.get t:=by
 intro k
 induction k with
 | zero=>intro hik _ _; rw [show i=0 by omega]
 | succ k ih=>
  intro hik hk hw;by_cases he:i=k + 1
  ·rw [he]
  ·obtain⟨o,ho⟩:=lP (ops:=ops) (show k < ops.size by omega);have h1:=ih (by omega) (by omega) fun m a b=>hw m a (by omega);have h2:=(vu (by rw [(W.n k (by omega)).1]; exact hn) (W.good k o ho).put t).2 (fun hd=>hw k (by omega) (by omega) ⟨o,ho,hd⟩);rw [h2]; exact h1
structure Ht (P:Program) (ops:Array Oper) (X:Nat→Gw) (φ₀:dI) (T:Nat→Prop) (w₀:World) (L:Nat→Prop) (φ:dI) (a:Act) (w:World):Prop where
 ext:BR φ₀ φ
 out:∀b,φ b=φ₀ b∨∃i,i < ops.size∧L i∧(X i).s.next≤b∧b < (X (i + 1)).s.next
 blk:∀b i,φ b=some i→i.blk < w.heap.size
 inj:∀b₁ b₂ i₁ i₂,φ b₁=some i₁→φ b₂=some i₂→i₁.blk=i₂.blk→i₁.cls=i₂.cls∧i₁.sh + i₂.st=i₂.sh + i₁.st
 al:∀b i,φ b=some i→True
 glob:IL P φ
 root:∀b i,φ b=some i→i.cls=b→i.sh=0
 obj:∀c,(T c∨(X 0).s.next≤c)→∀k,k≤ops.size→(∀i,i < k→(X i).B.w.testBit c=true→L i)→(∀i,k≤i→i < ops.size→(X i).B.w.testBit c=true→¬ L i)→
  ∀b o,(X k).s.heap.get b=some o→RG o=true→dE b o=c→∃i o',φ b=some i∧w.heap[i.blk]?=some o'∧qJ P φ ((X k).s.fz.get c) b i o o'
 img:∀b i,φ b=some i→i.blk < w₀.heap.size→∃b₀ i₀,φ₀ b₀=some i₀∧i₀.blk=i.blk∧i₀.cls=i.cls
 size:w₀.heap.size≤w.heap.size
 same:∀k,k < w₀.heap.size→(∀b i,φ₀ b=some i→i.blk=k→(X ops.size).s.w.testBit i.cls=false)→w.heap[k]?=w₀.heap[k]?
 os:w.os=w₀.os
 tape:w.tape=w₀.tape
 output:w.output=w₀.output
 sz:a.tmps.size=(X 0).f.n
 tmps:∀t k,k≤ops.size→(∀i,i < k→OR ops i t→L i)→(∀i,k≤i→i < ops.size→OR ops i t→¬ L i)→eR φ (((X k).f.tmps.get t).getD undef) (a.tmps.getD t undef)
 defers:qY φ (X 0).f.defers a.defers
theorem Ht.start (W:pR P call ops X) (H:kE P ops X) (hI:cT (X 0).s) {φ:dI}{T:Nat→Prop}{w:World}{a:Act}{k:Nat} (hf:fe φ (X 0).f a) (hr:je P φ T (X 0).s w) :
  Ht P ops X φ T w (fun _=>False) φ a { w with drawn:=k } where
 ext:=fun _ _ h=>h
 out:=fun _=>.inl rfl
 blk:=hr.blk
 inj:=hr.inj
 al:=hr.al
 glob:=hr.glob
 root:=hr.root
 obj:=fun c hc k hk h1 _ b o hb hl hcl=>by
  have hz:∀m,0≤m→m < k→(X m).B.w.testBit c=false:=fun m _ hm=>by
   cases hh:(X m).B.w.testBit c with
   | false=>rfl
   | true=>exact absurd hh (fun hh=>h1 m hm hh)
  obtain⟨e1,e2⟩:=H.agree W (Nat.zero_le k) hk hz;have hb0:=e2 b o hb hcl;have hlt:=(hI.lt _ _ hb0).2;obtain⟨i,o',g1,g2,g3⟩:=hr.obj b o hb0 hl (by rw [hcl]; exact hc.resolve_right (by omega));exact⟨i,o',g1,g2,by rw [e1]; rw [hcl] at g3; exact g3⟩
 img:=fun b i hb _=>⟨b,i,hb,rfl,rfl⟩
 size:=Nat.le_refl _
 same:=fun _ _ _=>rfl
 os:=rfl
 tape:=rfl
 output:=rfl
 sz:=hf.size
 tmps:=fun t k hk h1 _=>by
  rw [W.slotAt hf.few (Nat.zero_le k) hk fun m _ hm hd=>h1 m hm hd];exact hf.tmps t
 defers:=hf.defers
theorem Ht.finish (W:pR P call ops X) (H:kE P ops X) {φ₀ φ:dI}{T:Nat→Prop}{w₀ w:World}{a:Act}{L:Nat→Prop} (hn:(X 0).f.n≤1000000) (hL:∀i,i < ops.size→L i) (h:Ht P ops X φ₀ T w₀ L φ a w) :
  cK P φ₀ T (X 0).s (X ops.size).s w₀ w φ∧fe φ (X ops.size).f a:=by
 refine⟨⟨h.ext,fun b hb=>?_,⟨h.blk,h.inj,fun b o hb hl hT=>?_,h.al,h.glob,h.root⟩,h.img,h.size,h.same,h.os,h.tape,h.output⟩,?_,?_,?_,?_⟩
 ·rcases h.out b with h1 | ⟨i,h1,_,h3,h4⟩
  ·exact h1
  ·have:=H.le W (Nat.zero_le i) (Nat.le_of_lt h1);have:=H.le W (show i + 1≤ops.size by omega) (Nat.le_refl _);omega
 ·exact h.obj _ (hT.imp id fun hh=>hh.1) ops.size (Nat.le_refl _) (fun i hi _=>hL i hi) (fun i h1 h2=>by omega) b o hb hl rfl
 ·rw [(W.n ops.size (Nat.le_refl _)).1]; exact h.sz
 ·rw [(W.n ops.size (Nat.le_refl _)).1]; exact hn
 ·intro t; exact h.tmps t ops.size (Nat.le_refl _) (fun i hi _=>hL i hi) (fun i h1 h2=>by omega)
 ·rw [(W.n ops.size (Nat.le_refl _)).2]; exact h.defers
end
section
variable {P:Program}{call:dZ}{ops:Array Oper}{X:Nat→Gw}
def fh (l:List Tmp) (a:Act):Act:=⟨Array.ofFn (n:=a.tmps.size) fun i=>if i.val∈l then a.tmps.getD i.val undef else undef,[]⟩
theorem mV (l:List Tmp) (a:Act) (t:Nat):(fh l a).tmps.getD t undef=if t∈l then a.tmps.getD t undef else undef:=by
 unfold fh;by_cases h:t < a.tmps.size
 ·rw [Array.getD_eq_getD_getElem?,Array.getElem?_ofFn,dif_pos h]; rfl
 ·have h2:a.tmps.getD t undef=undef:=by rw [Array.getD_eq_getD_getElem?,Array.getElem?_eq_none (Nat.le_of_not_lt h)]; rfl
  rw [Array.getD_eq_getD_getElem?,Array.getElem?_ofFn,dif_neg h,h2];simp
theorem m9 (l:List Tmp) (a:Act):(fh l a).tmps.size=a.tmps.size:=by unfold fh; simp
theorem xl (t:Tr Value) (l:List Tmp) (hl:∀x∈l,kC x∨t.get x=none) (x:Nat):(mP t l).get x=if x∈l then t.get x else none:=by
 induction l with
 | nil=>show (Tr.nil:Tr Value).get x=_; rw [Tr.get_nil]; simp
 | cons y l ih=>
  have ih':=ih fun x hx=>hl x (List.mem_cons_of_mem _ hx);show (Option.rec (mP t l) (fun v=>dO (mP t l) fun ih=>Tr.set v 40 ih y) (t.get y):Tr Value).get x=_;cases hg:t.get y with
  | none=>
   show (mP t l).get x=_;rw [ih'];by_cases hx:x=y
   ·subst hx; rw [hg]; simp
   ·simp [hx]
  | some v=>
   show (dO (mP t l) fun ih=>Tr.set v 40 ih y).get x=_;have hf:kC y:=(hl y List.mem_cons_self).resolve_right (by rw [hg]; simp);rw [dh,Tr.get_set _ _ _ _ hf,ih'];by_cases hx:x=y
   ·subst hx; rw [if_pos rfl,hg]; simp
   ·rw [if_neg hx]; simp [hx]
theorem GB (l:List Tmp) (f:Fr):hZ l f=⟨mP f.tmps l,f.n,[]⟩:=by cases f; unfold hZ; simp only [dh]
theorem K7 {φ:dI}{f:Fr}{a:Act}{l:List Tmp} (hs:a.tmps.size=f.n) (hn:f.n≤1000000) (hfit:∀x∈l,kC x∨f.tmps.get x=none) (h:∀t∈l,eR φ ((f.tmps.get t).getD undef) (a.tmps.getD t undef)):fe φ (hZ l f) (fh l a):=by
 rw [GB];refine⟨by rw [m9]; exact hs,hn,fun t=>?_,.nil⟩;show eR φ (((mP f.tmps l).get t).getD undef) _;rw [xl _ _ hfit,mV];by_cases ht:t∈l
 ·rw [if_pos ht,if_pos ht]; exact h t ht
 ·rw [if_neg ht,if_neg ht]; exact iP φ
theorem H4 {o:Oper}{a:Act}{x:Operand} (hx:x∈o.op.operands):(fh (o.looksAt ops) a).eval x=a.eval x:=by
 cases x with
 | tmp t=>
  show (fh (o.looksAt ops) a).tmps.getD t undef=a.tmps.getD t undef;have hm:t∈o.looksAt ops:=List.mem_append_left _ (List.mem_filterMap.2 ⟨Operand.tmp t,by simpa using hx,rfl⟩);rw [mV,if_pos hm]
 | const v=>rfl
 | global g=>rfl
 | func g=>rfl
theorem Dv {o:Oper}{a:Act}{j:Nat}{b:Bool} (hg:o.guard=some (j,b)):yielded ops (fh (o.looksAt ops) a).tmps j=yielded ops a.tmps j:=by
 unfold yielded;cases ht:(ops[j]?).bind (·.dst) with
 | none=>rfl
 | some t=>
  have hm:t∈o.looksAt ops:=List.mem_append_right _ (by rw [hg]; simp [ht]);rw [Option.bind_some,Option.bind_some];have h1:=mV (o.looksAt ops) a t;rw [if_pos hm] at h1;have h2:=m9 (o.looksAt ops) a;have h3:(fh (o.looksAt ops) a).tmps[t]?=a.tmps[t]?:=by
   by_cases hlt:t < a.tmps.size
   ·have hlt':t < (fh (o.looksAt ops) a).tmps.size:=by rw [h2]; exact hlt
    rw [Array.getD_eq_getD_getElem?,Array.getD_eq_getD_getElem?,Array.getElem?_eq_getElem hlt,Array.getElem?_eq_getElem hlt'] at h1;rw [Array.getElem?_eq_getElem hlt,Array.getElem?_eq_getElem hlt'];exact congrArg some h1
   ·rw [Array.getElem?_eq_none (Nat.le_of_not_lt hlt),Array.getElem?_eq_none (by rw [h2]; exact Nat.le_of_not_lt hlt)]
  rw [h3]
theorem tl (o:Oper) (a:Act):Region.wanted o (yielded ops (fh (o.looksAt ops) a).tmps)=Region.wanted o (yielded ops a.tmps):=by
 unfold Region.wanted;cases hg:o.guard with
 | none=>rfl
 | some p=>obtain⟨j,b⟩:=p; simp only [Dv hg]
theorem BJ {f g:Fr}{o:Oper}{A B:AS}{l:List Oper} (h:io P call l f o A=.on g B):jO l f o.guard=some false∨∀cs b,o.op≠.select cs b:=by
 unfold io at h;split at h
 ·refine .inr fun cs b he=>?_;have hn:bQ P f o A=none:=by unfold bQ; rw [he]
  rw [hn] at h;cases h
 ·rename_i hw; exact .inl hw
 ·cases h
theorem GR {o:Oper}{a:Act}{w:World}{K K':Act→World→Prop}{Q:Exit→Act→World→Prop} (hs:Region.wanted o (yielded ops a.tmps)=false∨∀cs b,o.op≠.select cs b)
  (hv:∀v w',K' ((fh (o.looksAt ops) a).put o.dst v) w'→K (a.put o.dst v) w')
  (hd:∀d w',¬ K' (({ fh (o.looksAt ops) a with defers:=[d] } : Act).put o.dst undef) w')
  (h:l7 P ops (fun _ _ _=>False) o K' (fh (o.looksAt ops) a) w):l7 P ops Q o K a w:=by
 unfold l7 at h ⊢;rw [tl] at h;split
 ·rename_i hw;rw [if_pos hw] at h;have hs':=hs.resolve_left (by rw [hw]; simp);have he:execOp a.eval o=execOp (fh (o.looksAt ops) a).eval o:=execOp_congr o hs' fun x hx=>(H4 hx).symm;unfold Oper.wp at h ⊢;rw [he];generalize (execOp (fh (o.looksAt ops) a).eval o).run P w=r at h ⊢;cases r with
  | ok n w'=>
   cases n<;>simp only [Oper.upon] at h ⊢
   case value v=>exact hv v w' h
   case skip=>exact hv undef w' h
   case defer d=>exact absurd h (hd d w')
   case enter g args=>
    refine Calls.mono h fun e w'' he=>?_;cases e with
    | returned v=>exact hv v w'' he
    | panicked c=>exact he.elim
    | outgrown=>obtain⟨_,_,he⟩:=he; exact he.elim
   case row row args=>exact Rows.mono h fun v w'' he=>hv v w'' he
  | halt x w'=>cases x<;>simp only [Oper.upon] at h ⊢
 ·rename_i hw;rw [if_neg hw] at h;exact hv undef w h
theorem Fh {a:Act}{d:Option Tmp}{v:Value} (t:Nat):(a.put d v).tmps.getD t undef=if d=some t∧t < a.tmps.size then v else a.tmps.getD t undef:=by
 cases d with
 | none=>simp [Act.put]
 | some x=>
  show (a.tmps.setIfInBounds x v).getD t undef=_;simp only [Array.getD_eq_getD_getElem?,Array.getElem?_setIfInBounds,Option.some.injEq];by_cases hx:x=t
  ·subst hx;by_cases hlt:x < a.tmps.size
   ·simp [hlt]
   ·simp [hlt]
  ·simp [hx]
theorem K0 {a:Act}{d:Option Tmp}{v:Value} : (a.put d v).tmps.size=a.tmps.size:=by cases d<;>simp [Act.put]
theorem EB {a:Act}{d:Option Tmp}{v:Value} : (a.put d v).defers=a.defers:=by cases d<;>rfl
end
end Go.EvL
