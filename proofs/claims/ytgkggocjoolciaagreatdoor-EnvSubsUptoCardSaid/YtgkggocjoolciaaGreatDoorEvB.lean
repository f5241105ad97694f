/- An evaluator for closed calls, and its soundness. No statement is proved here. -/
import Derived.Test.YtgkggocjoolciaaGreatDoorEvA
import Derived.Lib.FrozenHead
import Derived.Tactics
import Derived.WalkKit
import Derived.IntWalk
import Derived.Laws.BytesString
set_option linter.unusedSimpArgs false
set_option linter.unusedVariables false
set_option linter.defProp false
namespace Go.EvL
open Go
inductive rZ (φ:dI):List MapEntry→List MapEntry→Prop
 | nil:rZ φ [] []
 | cons (k v v':Value) (n:Nat) (l l':List MapEntry) (hk:plain 50 k=true) (hv:eR φ v v') (hl:rZ φ l l'):rZ φ (⟨k,v,n⟩ :: l) (⟨k,v',n⟩ :: l')
theorem rZ.mono {φ φ':dI} (he:BR φ φ') {l l':List MapEntry} (h:rZ φ l l'):rZ φ' l l':=by
 induction h with
 | nil=>exact .nil
 | cons k v v' n l l' hk hv _ ih=>exact .cons k v v' n l l' hk (hv.mono he) ih
def S3 (hz:Option Nat):Prop:=∃h,hz=some h∧1180591620717411303424≤h
theorem S3.mono {hz hz':Option Nat} (hh:∀h,hz=some h→∃h',hz'=some h'∧h≤h') (h:S3 hz):S3 hz':=by
 obtain⟨k,e1,e2⟩:=h;obtain⟨k',e3,e4⟩:=hh k e1;exact⟨k',e3,Nat.le_trans e2 e4⟩
inductive qJ (P:Program) (φ:dI) (hz:Option Nat) (b:Nat) (i:ua):fW→Obj→Prop
 | row (cells:List Value) (e c st:Nat) (C:Array Value) (fz:Nat × Nat) (hc:i.cls=c) (hs:i.st=st) (he:i.es=P.cellsOf e) (hsz:i.sh + i.sz=C.size) (hl:i.sh + cells.length≤C.size)
   (hv:bu φ cells ((C.toList.drop i.sh).take cells.length)) (hf:fz=(0,0)∨∃h,hz=some h∧fz.2 + st≤h + i.sh) (e':Nat) (hE:(e'=e∧i.es ∣ i.sh)∨S3 hz):qJ P φ hz b i (.row cells e c st true) (.cells C e' fz)
 | map (es:List MapEntry) (k:Nat) (es':Array MapEntry) (hc:i.cls=b) (he:rZ φ es es'.toList):qJ P φ hz b i (.map es k) (.map es' k)
 | iter (s:ByteArray) (p:Nat) (hc:i.cls=b) (hs:i.sh=0):qJ P φ hz b i (.iter s p) (.stringIter s p)
def RG:fW→Bool
 | .row _ _ _ _ ok=>ok
 | _=>true
theorem qJ.mono {P:Program}{φ φ':dI}{hz hz':Option Nat}{b:Nat}{i:ua}{o:fW}{o':Obj} (he:BR φ φ') (hh:∀h,hz=some h→∃h',hz'=some h'∧h≤h') (h:qJ P φ hz b i o o'):qJ P φ' hz' b i o o':=by
 cases h with
 | row cells e c st C fz hc hs h1 hsz hl hv hf e' hE=>
  refine .row cells e c st C fz hc hs h1 hsz hl (hv.mono he) (hf.imp id ?_) e' (hE.imp id (S3.mono hh));rintro⟨h,e1,e2⟩;obtain⟨h',e3,e4⟩:=hh h e1;exact⟨h',e3,by omega⟩
 | map es k es' hc h1=>exact .map es k es' hc (h1.mono he)
 | iter s p hc hs=>exact .iter s p hc hs
theorem qJ.cls {P:Program}{φ:dI}{hz:Option Nat}{b:Nat}{i:ua}{o:fW}{o':Obj} (h:qJ P φ hz b i o o'):i.cls=dE b o:=by
 cases h with
 | row cells e c st C fz hc=>exact hc
 | map es k es' hc=>exact hc
 | iter s p hc hs=>exact hc
def IL (P:Program) (φ:dI):Prop:=∀g,g < P.globals.size→∃i,φ g=some i∧i.blk=g∧i.sh=0
theorem IL.mono {P:Program}{φ φ':dI} (he:BR φ φ') (h:IL P φ):IL P φ':=fun g hg=>let ⟨i,h1,h2⟩:=h g hg; ⟨i,he _ _ h1,h2⟩
structure je (P:Program) (φ:dI) (T:Nat→Prop) (A:AS) (w:World):Prop where
 blk:∀b i,φ b=some i→i.blk < w.heap.size
 inj:∀b₁ b₂ i₁ i₂,φ b₁=some i₁→φ b₂=some i₂→i₁.blk=i₂.blk→i₁.cls=i₂.cls∧i₁.sh + i₂.st=i₂.sh + i₁.st
 obj:∀b o,A.heap.get b=some o→RG o=true→T (dE b o)→∃i o',φ b=some i∧w.heap[i.blk]?=some o'∧qJ P φ (A.fz.get (dE b o)) b i o o'
 al:∀b i,φ b=some i→True
 glob:IL P φ
 root:∀b i,φ b=some i→i.cls=b→i.sh=0
theorem je.sub {P:Program}{φ:dI}{T T':Nat→Prop}{A:AS}{w:World} (h:je P φ T A w) (ht:∀c,T' c→T c):je P φ T' A w:=
 ⟨h.blk,h.inj,fun b o hb hl hT=>h.obj b o hb hl (ht _ hT),h.al,h.glob,h.root⟩
theorem je.heap {P:Program}{φ:dI}{T:Nat→Prop}{A A':AS}{w w':World} (h:je P φ T A w) (h1:A'.heap=A.heap) (h2:A'.fz=A.fz) (h3:w'.heap=w.heap):je P φ T A' w':=
 ⟨fun b i hb=>by rw [h3]; exact h.blk b i hb,h.inj,fun b o hb hl hT=>by rw [h1] at hb; rw [h2,h3]; exact h.obj b o hb hl hT,h.al,h.glob,h.root⟩
structure cK (P:Program) (φ:dI) (T:Nat→Prop) (A A':AS) (w w':World) (φ':dI):Prop where
 ext:BR φ φ'
 out:∀b,b < A.next∨A'.next≤b→φ' b=φ b
 rel:je P φ' (fun c=>T c∨(A.next≤c∧c < A'.next)) A' w'
 img:∀b i,φ' b=some i→i.blk < w.heap.size→∃b₀ i₀,φ b₀=some i₀∧i₀.blk=i.blk∧i₀.cls=i.cls
 size:w.heap.size≤w'.heap.size
 same:∀k,k < w.heap.size→(∀b i,φ b=some i→i.blk=k→A'.w.testBit i.cls=false)→w'.heap[k]?=w.heap[k]?
 os:w'.os=w.os
 tape:w'.tape=w.tape
 output:w'.output=w.output
theorem cK.refl {P:Program}{φ:dI}{T:Nat→Prop}{A A':AS}{w w':World} (h:je P φ T A w) (h1:A'.heap=A.heap) (h2:A'.fz=A.fz) (h4:A'.next=A.next) (h3:w'.heap=w.heap) (ho:w'.os=w.os) (ht:w'.tape=w.tape) (hp:w'.output=w.output):cK P φ T A A' w w' φ where
 ext:=fun _ _ h=>h
 out:=fun _ _=>rfl
 rel:=(h.heap h1 h2 h3).sub fun c hc=>hc.elim id fun hc=>by omega
 img:=fun b i hb _=>⟨b,i,hb,rfl,rfl⟩
 size:=by rw [h3]; exact Nat.le_refl _
 same:=fun k _ _=>by rw [h3]
 os:=ho
 tape:=ht
 output:=hp
theorem cK.trans {P:Program}{φ φ' φ'':dI}{T:Nat→Prop}{A B C:AS}{w w' w'':World} (hn:A.next≤B.next) (f:mR B C) (h:cK P φ T A B w w' φ') (k:cK P φ' (fun c=>T c∨(A.next≤c∧c < B.next)) B C w' w'' φ''):cK P φ T A C w w'' φ'' where
 ext:=fun b i hb=>k.ext b i (h.ext b i hb)
 out:=fun b hb=>by
  have:=f.next;rw [k.out b (by omega),h.out b (by omega)]
 rel:=k.rel.sub fun c hc=>by
  have:=f.next;rcases hc with hc | ⟨h1,h2⟩
  ·exact .inl (.inl hc)
  ·by_cases hlt:c < B.next
   ·exact .inl (.inr ⟨h1,hlt⟩)
   ·exact .inr ⟨by omega,h2⟩
 img:=fun b i hb hlt=>by
  obtain⟨b₁,i₁,e1,e2,e3⟩:=k.img b i hb (Nat.lt_of_lt_of_le hlt h.size);obtain⟨b₀,i₀,g1,g2,g3⟩:=h.img b₁ i₁ e1 (by rw [e2]; exact hlt);exact⟨b₀,i₀,g1,g2.trans e2,g3.trans e3⟩
 size:=Nat.le_trans h.size k.size
 same:=fun x hx hw=>by
  rw [k.same x (Nat.lt_of_lt_of_le hx h.size) fun b i hb he=>by
   obtain⟨b₀,i₀,g1,g2,g3⟩:=h.img b i hb (by rw [he]; exact hx);rw [← g3];exact hw b₀ i₀ g1 (g2.trans he)]
  exact h.same x hx fun b i hb he=>sa (f.w _) (hw b i hb he)
 os:=k.os.trans h.os
 tape:=k.tape.trans h.tape
 output:=k.output.trans h.output
theorem jR {w:World}{o:Obj}{k:Nat} (h:k < w.heap.size):(w.alloc o).heap[k]?=w.heap[k]?:=by
 unfold World.alloc; rw [Array.getElem?_push]; rw [if_neg (by omega)]
theorem rX {w:World}{o:Obj} : (w.alloc o).heap[w.heap.size]?=some o:=by
 unfold World.alloc; rw [Array.getElem?_push]; rw [if_pos rfl]
theorem cK.new {P:Program}{φ:dI}{T:Nat→Prop}{A:AS}{w:World} (hi:cT A) (hn:A.next + 1≤A.next + 1) (h:je P φ T A w) (hfr:φ A.next=none) (o:Nat→fW) (hc:dE A.next (o A.next)=A.next) (o':Obj) (sh sz es st:Nat) (hal:sh=0)
  (ho:∀φ',BR φ φ'→φ' A.next=some ⟨w.heap.size,sh,sz,es,A.next,st⟩→qJ P φ' (A.fz.get A.next) A.next ⟨w.heap.size,sh,sz,es,A.next,st⟩ (o A.next) o') :
  ∃φ',φ' A.next=some ⟨w.heap.size,sh,sz,es,A.next,st⟩∧cK P φ T A (A.new o) w (w.alloc o') φ':=by
 have hf:kC A.next:=tK (by omega);refine⟨fun b=>if b=A.next then some ⟨w.heap.size,sh,sz,es,A.next,st⟩ else φ b,if_pos rfl,?_⟩;have hext:BR φ fun b=>if b=A.next then some ⟨w.heap.size,sh,sz,es,A.next,st⟩ else φ b:=by
  intro b i hb;show (if b=A.next then _ else _)=_;rw [if_neg (by rintro rfl; rw [hfr] at hb; cases hb)];exact hb
 have hsz:(w.alloc o').heap.size=w.heap.size + 1:=by unfold World.alloc; exact Array.size_push ..
 refine⟨hext,fun b hb=>?_,⟨fun b i hb=>?_,fun b₁ b₂ i₁ i₂ h₁ h₂ he=>?_,fun b x hb hl hT=>?_,fun b i hb=>by
  have hb':(if b=A.next then some (⟨w.heap.size,sh,sz,es,A.next,st⟩ : ua) else φ b)=some i:=hb;split at hb'
  ·trivial
  ·exact h.al _ _ hb',h.glob.mono hext,fun b i hb hcl=>by
  have hb':(if b=A.next then some (⟨w.heap.size,sh,sz,es,A.next,st⟩ : ua) else φ b)=some i:=hb;split at hb'
  ·injection hb' with hb'; subst hb'; exact hal
  ·exact h.root _ _ hb' hcl⟩,fun b i hb hlt=>?_,by rw [hsz]; omega,fun k hk _=>jR hk,rfl,rfl,rfl⟩
 ·rw [jL] at hb;have hb':b < A.next∨A.next + 1≤b:=hb;show (if b=A.next then _ else _)=_;rw [if_neg (by omega)]
 ·rw [hsz];split at hb
  ·injection hb with hb; subst hb; show w.heap.size < _; omega
  ·have:=h.blk _ _ hb; omega
 ·split at h₁<;>split at h₂
  ·injection h₁ with h₁; injection h₂ with h₂; subst h₁; subst h₂; exact⟨rfl,rfl⟩
  ·injection h₁ with h₁; subst h₁; have:=h.blk _ _ h₂; simp only at he; omega
  ·injection h₂ with h₂; subst h₂; have:=h.blk _ _ h₁; simp only at he; omega
  ·exact h.inj _ _ _ _ h₁ h₂ he
 ·rw [jL] at hb hT;rw [show (A.new o).fz=A.fz from by rw [jL]];have hb':(Tr.set (o A.next) 40 A.heap A.next).get b=some x:=hb;rw [Tr.get_set _ _ _ _ hf] at hb';split at hb'
  ·rename_i he; subst he;injection hb' with hb'; subst hb';refine⟨_,o',if_pos rfl,rX,?_⟩;rw [hc];exact ho _ hext (if_pos rfl)
  ·have hlt:=(hi.lt _ _ hb').2;have hT':T (dE b x):=by
    rcases hT with hT | ⟨h1,_⟩
    ·exact hT
    ·omega
   obtain⟨i,y,e1,e2,e3⟩:=h.obj b x hb' hl hT';exact⟨i,y,hext _ _ e1,by rw [jR (h.blk _ _ e1)]; exact e2,e3.mono hext fun h hh=>⟨h,hh,Nat.le_refl _⟩⟩
 ·split at hb
  ·injection hb with hb; subst hb; simp only at hlt; omega
  ·exact⟨b,i,hb,rfl,rfl⟩
theorem je.cells {P:Program}{φ:dI}{T:Nat→Prop}{A:AS}{w:World} (h:je P φ T A w) {b:Nat}{cells:List Value}{e c st:Nat} (hb:A.heap.get b=some (.row cells e c st true)) (hT:T c) :
  ∃i C fz e',φ b=some i∧w.heap[i.blk]?=some (.cells C e' fz)∧i.cls=c∧i.st=st∧i.es=P.cellsOf e∧i.sh + i.sz=C.size∧i.sh + cells.length≤C.size∧bu φ cells ((C.toList.drop i.sh).take cells.length)∧(fz=(0,0)∨∃h,A.fz.get c=some h∧fz.2 + st≤h + i.sh)∧((e'=e∧i.es ∣ i.sh)∨S3 (A.fz.get c)):=by
 obtain⟨i,o',e1,e2,e3⟩:=h.obj b _ hb rfl hT;cases e3 with
 | row _ _ _ _ C fz hc hs he hsz hl hv hf e' hE=>exact⟨i,C,fz,e',e1,e2,hc,hs,he,hsz,hl,hv,hf,hE⟩
theorem Ij {α:Type} (C vs:List α) (sh off n:Nat) (h:off + vs.length≤n) (h2:sh + n≤C.length) :
  ((C.take (sh + off) ++ vs ++ C.drop (sh + off + vs.length)).drop sh).take n=((C.drop sh).take n).take off ++ (vs ++ ((C.drop sh).take n).drop (off + vs.length)):=by
 apply List.ext_getElem?;intro j;simp only [List.getElem?_take,List.getElem?_drop,List.getElem?_append,List.length_append,List.length_take,List.length_drop];have e1:min (sh + off) C.length=sh + off:=by omega
 have e2:min off (min n (C.length - sh))=off:=by omega
 rw [e1,e2];by_cases h1:j < n
 ·by_cases h3:j < off
  ·rw [if_pos h1,if_pos (show sh + j < sh + off + vs.length by omega),if_pos (show sh + j < sh + off by omega),if_pos (show sh + j < sh + off by omega),if_pos h3,if_pos h3,if_pos h1]
  ·rw [if_pos h1];by_cases h4:j < off + vs.length
   ·rw [if_pos (show sh + j < sh + off + vs.length by omega),if_neg (show ¬ sh + j < sh + off by omega),if_neg h3,if_pos (show j - off < vs.length by omega)];congr 1; omega
   ·rw [if_neg (show ¬ sh + j < sh + off + vs.length by omega),if_neg h3,if_neg (show ¬ j - off < vs.length by omega),if_pos (show off + vs.length + (j - off - vs.length) < n by omega)];congr 1; omega
 ·rw [if_neg h1,if_neg (show ¬ j < off by omega),if_neg (show ¬ j - off < vs.length by omega),if_neg (show ¬ off + vs.length + (j - off - vs.length) < n by omega)]
theorem wH {α:Type} (C vs:List α) (o sh n:Nat) (h:sh + n≤o) (h2:o≤C.length):((C.take o ++ vs ++ C.drop (o + vs.length)).drop sh).take n=(C.drop sh).take n:=by
 apply List.ext_getElem?;intro j;simp only [List.getElem?_take,List.getElem?_drop,List.getElem?_append,List.length_append,List.length_take];by_cases h1:j < n
 ·rw [if_pos h1,if_pos h1,if_pos (by omega),if_pos (by omega),if_pos (by omega)]
 ·rw [if_neg h1,if_neg h1]
theorem kJ (w:World) (g:Nat) (cs:Array Value):(w.setRow g cs).heap.size=w.heap.size:=by simp [World.setRow]
theorem IU {A:AS}{cls st off:Nat}{i:ua}{fz:Nat × Nat} (h:wJ A cls (st + off)=true) (hf:fz=(0,0)∨∃h,A.fz.get cls=some h∧fz.2 + st≤h + i.sh):fz.2≤i.sh + off:=by
 rcases hf with rfl | ⟨k,e1,e2⟩
 ·exact Nat.zero_le _
 ·unfold wJ at h;rw [e1] at h;have:=Nat.le_of_ble_eq_true h;omega
theorem cK.store {P:Program}{φ:dI}{T:Nat→Prop}{A A':AS}{w:World}{b off:Nat}{vs vs' cells:List Value}{e cls st:Nat}{K:List Nat} (hi:cT A) (s:HE A A' b off vs cells e cls st K)
  (h:je P φ T A w) (hT:T cls) (hv:bu φ vs vs') {i:ua} (hb:φ b=some i) :
  ∃C fz e',w.heap[i.blk]?=some (.cells C e' fz)∧fz.2≤i.sh + off∧i.sh + off + vs'.length≤C.size∧cK P φ T A A' w (w.setRow i.blk (C.toList.take (i.sh + off) ++ vs' ++ C.toList.drop (i.sh + off + vs'.length)).toArray) φ:=by
 obtain⟨i',C,fz,e',e1,e2,e3,e4,e5,e6,e7,e8,e9,e10⟩:=h.cells s.row hT;obtain rfl:i'=i:=by rw [hb] at e1; injection e1 with e1; exact e1.symm
 have hlen:=hv.length;have hsl:=s.len;refine⟨C,fz,e',e2,IU s.fz e9,by omega,?_⟩;have hnx:A'.next=A.next:=by
  rcases s.wr.next with ⟨h0,_⟩ | ⟨h1,_⟩
  ·have:=(hi.lt _ _ s.row).1; omega
  ·exact h1
 have hbit:A'.w.testBit cls=true:=by rw [s.wr.w,dC]; simp
 have hC:C.toList.length=C.size:=by simp
 refine⟨fun _ _ h=>h,fun _ _=>rfl,⟨fun b i hb=>by rw [kJ]; exact h.blk b i hb,h.inj,fun x o hx hl hTx=>?_,h.al,h.glob,h.root⟩,fun b i hb _=>⟨b,i,hb,rfl,rfl⟩,by rw [kJ]; exact Nat.le_refl _,fun k _ hk=>?_,rfl,rfl,rfl⟩
 ·rw [s.wr.heap] at hx;rw [s.fze];have hTx':T (dE x o):=hTx.elim id fun hc=>by omega
  split at hx
  ·rename_i he; subst he;injection hx with hx; subst hx;refine⟨i',_,hb,setRow_heap _ _ _ _ _ _ e2,.row _ _ _ _ _ fz e3 e4 e5 ?_ ?_ ?_ e9 e' e10⟩
   ·simp; omega
   ·simp; omega
   ·have hl1:(cells.take off ++ (vs ++ cells.drop (off + vs.length))).length=cells.length:=by simp; omega
    rw [hl1];show bu φ _ (((C.toList.take (i'.sh + off) ++ vs' ++ C.toList.drop (i'.sh + off + vs'.length)).toArray.toList.drop i'.sh).take cells.length);rw [List.toList_toArray,Ij _ _ _ _ _ (by omega) (by omega),hlen];exact (e8.take off).append (hv.append (e8.drop _))
  ·rename_i hne;split at hx
   ·obtain⟨y,hy,rfl⟩:=fQ hx;cases y with
    | row a1 a2 a3 a4 a5=>cases hl
    | map es k=>
     obtain⟨j,o',g1,g2,g3⟩:=h.obj x _ hy rfl hTx';cases g3 with
     | map _ _ es' hc hE=>exact⟨j,_,g1,by rw [setRow_other _ _ _ _ (by intro hh; rw [hh,e2] at g2; cases g2)]; exact g2,.map _ _ _ hc hE⟩
    | iter ss p=>
     obtain⟨j,o',g1,g2,g3⟩:=h.obj x _ hy rfl hTx';cases g3 with
     | iter _ _ hc hs=>exact⟨j,_,g1,by rw [setRow_other _ _ _ _ (by intro hh; rw [hh,e2] at g2; cases g2)]; exact g2,.iter _ _ hc hs⟩
   ·rename_i hk;obtain⟨j,o',g1,g2,g3⟩:=h.obj x _ hx hl hTx';have hjc:=g3.cls;have hne':dE x o≠cls:=by
     intro hc;cases o with
     | row a1 a2 a3 a4 a5=>
      cases hl;have:a3=cls:=hc;subst this;exact hk (s.all _ _ _ _ hne hx)
     | map es k=>
      have:x=cls:=hc;subst this;obtain⟨_,_,_,_,h4⟩:=s.wr.root;rw [hx] at h4; cases h4
     | iter ss p=>
      have:x=cls:=hc;subst this;obtain⟨_,_,_,_,h4⟩:=s.wr.root;rw [hx] at h4; cases h4
    refine⟨j,o',g1,?_,g3⟩;rw [setRow_other _ _ _ _ (by intro hh; exact hne' (by rw [← hjc,(h.inj _ _ _ _ g1 hb hh).1,e3]))];exact g2
 ·rw [setRow_other _ _ _ _ (by
   rintro rfl;have:=hk b i' hb rfl;rw [e3,hbit] at this;cases this)]
theorem Fc {φ:dI}{n:Nat}{i:ua} (hfr:φ n=none):BR φ fun b=>if b=n then some i else φ b:=by
 intro b j hb;show (if b=n then _ else _)=_;rw [if_neg (by rintro rfl; rw [hfr] at hb; cases hb)];exact hb
theorem cK.room {P:Program}{φ:dI}{T:Nat→Prop}{A A':AS}{w:World}{b off len n es:Nat}{xs xs' cells:List Value}{e cls st:Nat}{K:List Nat} (hi:cT A) (s:yB A A' off len n es xs cells e cls st K)
  (hb:A.heap.get b=some (.row cells e cls st true)) (h:je P φ T A w) (hT:T cls) (hfr:φ A.next=none) (hv:bu φ xs xs') (hx:xs.length=n * es) {i:ua} (hφ:φ b=some i) {cap:Nat} (hcap:len + n≤cap) (hes:i.es=es) (hr:off + cap * i.es≤i.sz) :
  ∃C fz e',w.heap[i.blk]?=some (.cells C e' fz)∧fz.2≤i.sh + off + len * es∧i.sh + off + len * es + xs'.length≤C.size∧
   cK P φ T A A' w (w.setRow i.blk (C.toList.take (i.sh + off + len * es) ++ xs' ++ C.toList.drop (i.sh + off + len * es + xs'.length)).toArray) (fun x=>if x=A.next then some ⟨i.blk,i.sh + off,i.sz - off,i.es,i.cls,i.st + off⟩ else φ x):=by
 obtain⟨i',C,fz,e',e1,e2,e3,e4,e5,e6,e7,e8,e9,e10⟩:=h.cells hb hT;obtain rfl:i'=i:=by rw [hφ] at e1; injection e1 with e1; exact e1.symm
 have hlen:=hv.length;have hold:=s.old;rw [List.length_take,List.length_drop] at hold;have hmul:len * es + n * es≤cap * i'.es:=by rw [hes,← Nat.add_mul]; exact Nat.mul_le_mul_right _ hcap
 have hsz:i'.sh + off + len * es + xs'.length≤C.size:=by omega
 have hoff:i'.sh + off≤C.size:=by omega
 have hC:C.toList.length=C.size:=by simp
 have hlow:fz.2≤i'.sh + off + len * es:=by
  have:=IU (A:=A) (st:=st) (off:=off + len * es) (i:=i') (fz:=fz) (by rw [← Nat.add_assoc]; exact s.fz) e9;omega
 refine⟨C,fz,e',e2,hlow,hsz,?_⟩;have hnx:A'.next=A.next + 1:=by
  rcases s.wr.next with ⟨_,h1⟩ | ⟨_,_,_,_,_,h2⟩
  ·exact h1
  ·have:=(hi.lt _ _ h2).1; omega
 have hbit:A'.w.testBit cls=true:=by rw [s.wr.w,dC]; simp
 have hcl:cls < A.next:=(hi.lt _ _ hb).2;have hext:=Fc (i:=⟨i'.blk,i'.sh + off,i'.sz - off,i'.es,i'.cls,i'.st + off⟩) hfr;refine⟨hext,fun x hx=>?_,⟨fun x j hx=>?_,fun b₁ b₂ i₁ i₂ h₁ h₂ he=>?_,fun x o hx hl hTx=>?_,fun x j hx=>by
  have hx':(if x=A.next then some (⟨i'.blk,i'.sh + off,i'.sz - off,i'.es,i'.cls,i'.st + off⟩ : ua) else φ x)=some j:=hx;split at hx'
  ·trivial
  ·exact h.al _ _ hx',h.glob.mono hext,fun x j hx hcl=>by
  have hx':(if x=A.next then some (⟨i'.blk,i'.sh + off,i'.sz - off,i'.es,i'.cls,i'.st + off⟩ : ua) else φ x)=some j:=hx;split at hx'
  ·rename_i hxn; injection hx' with hx'; subst hx'; have hcc:i'.cls=x:=hcl; rw [e3] at hcc; omega
  ·exact h.root _ _ hx' hcl⟩,fun x j hx hlt=>?_,by rw [kJ]; exact Nat.le_refl _,fun k _ hk=>?_,rfl,rfl,rfl⟩
 ·show (if x=A.next then _ else _)=_;rw [if_neg (by omega)]
 ·rw [kJ];split at hx
  ·injection hx with hx; subst hx; exact h.blk _ i' hφ
  ·exact h.blk _ _ hx
 ·split at h₁<;>split at h₂
  ·injection h₁ with h₁; injection h₂ with h₂; subst h₁; subst h₂; exact⟨rfl,rfl⟩
  ·injection h₁ with h₁; subst h₁;have:=h.inj _ _ _ _ hφ h₂ he;simp only;omega
  ·injection h₂ with h₂; subst h₂;have:=h.inj _ _ _ _ h₁ hφ he;simp only;omega
  ·exact h.inj _ _ _ _ h₁ h₂ he
 ·rw [s.wr.heap] at hx;rw [s.fze];split at hx
  ·rename_i he; subst he;injection hx with hx; subst hx;refine⟨⟨i'.blk,i'.sh + off,i'.sz - off,i'.es,i'.cls,i'.st + off⟩,_,if_pos rfl,setRow_heap _ _ _ _ _ _ e2,qJ.row (i:=⟨i'.blk,i'.sh + off,i'.sz - off,i'.es,i'.cls,i'.st + off⟩) _ _ _ _ _ fz e3 (by show i'.st + off=st + off; rw [e4]) e5 ?_ ?_ ?_ ?_ e' ?_⟩
   ·simp; omega
   ·simp; omega
   ·have hl1:((cells.drop off).take (len * es) ++ xs).length=len * es + xs'.length:=by rw [List.length_append,s.old,hlen]
    rw [hl1];show bu _ _ (((C.toList.take (i'.sh + off + len * es) ++ xs' ++ C.toList.drop (i'.sh + off + len * es + xs'.length)).toArray.toList.drop (i'.sh + off)).take (len * es + xs'.length));rw [List.toList_toArray,Ij _ _ _ _ _ (Nat.le_refl _) (by omega)];have hd:((C.toList.drop (i'.sh + off)).take (len * es + xs'.length)).drop (len * es + xs'.length)=[]:=by rw [List.drop_eq_nil_iff]; simp; omega
    rw [hd,List.append_nil];refine bu.append (VR.mono hext ?_) (hv.mono hext);have e8':=(e8.drop off).take (len * es);have hEq:(((C.toList.drop i'.sh).take cells.length).drop off).take (len * es)=((C.toList.drop (i'.sh + off)).take (len * es + xs'.length)).take (len * es):=by
     rw [List.drop_take,List.take_take,List.take_take,List.drop_drop];congr 1;omega
    rw [hEq] at e8';exact e8'
   ·refine e9.imp id ?_;rintro⟨k,g1,g2⟩;exact⟨k,g1,by show fz.2 + (st + off)≤k + (i'.sh + off); omega⟩
   ·exact e10.imp (fun ⟨g1,g2⟩=>⟨g1,Nat.dvd_add g2 (by show i'.es ∣ off; rw [hes]; exact s.al)⟩) id
  ·rename_i hne;have hTx':∀o',A.heap.get x=some o'→dE x o'=dE x o→T (dE x o):=by
    intro o' ho' hc;rcases hTx with ht | ⟨h1,_⟩
    ·exact ht
    ·have:=(hi.lt _ _ ho').2; rw [hc] at this; omega
   split at hx
   ·obtain⟨y,hy,rfl⟩:=fQ hx;have hT2:=hTx' y hy (by rw [uO]);cases y with
    | row a1 a2 a3 a4 a5=>cases hl
    | map es' k=>
     obtain⟨j,o',g1,g2,g3⟩:=h.obj x _ hy rfl hT2;cases g3 with
     | map _ _ es' hc hE=>exact⟨j,_,hext _ _ g1,by rw [setRow_other _ _ _ _ (by intro hh; rw [hh,e2] at g2; cases g2)]; exact g2,.map _ _ _ hc (hE.mono hext)⟩
    | iter ss p=>
     obtain⟨j,o',g1,g2,g3⟩:=h.obj x _ hy rfl hT2;cases g3 with
     | iter _ _ hc hs=>exact⟨j,_,hext _ _ g1,by rw [setRow_other _ _ _ _ (by intro hh; rw [hh,e2] at g2; cases g2)]; exact g2,.iter _ _ hc hs⟩
   ·rename_i hk;obtain⟨j,o',g1,g2,g3⟩:=h.obj x _ hx hl (hTx' o hx rfl);have hjc:=g3.cls;by_cases hblk:j.blk=i'.blk
    ·
     obtain⟨hc1,hc2⟩:=h.inj _ _ _ _ g1 hφ hblk;rw [hblk,e2] at g2;injection g2 with g2;subst g2;cases g3 with
     | row cells2 _ c2 st2 _ _ q1 q2 q3 q4 q5 q6 q7 _ q8=>
      have hcc:c2=cls:=by rw [← q1,hc1,e3]
      subst hcc;have hle:=s.all _ _ _ _ hk hx;refine⟨j,_,hext _ _ g1,by rw [hblk]; exact setRow_heap _ _ _ _ _ _ e2,.row _ _ _ _ _ fz q1 q2 q3 ?_ ?_ ?_ q7 _ q8⟩
      ·simp; omega
      ·simp; omega
      ·show bu _ _ (((C.toList.take (i'.sh + off + len * es) ++ xs' ++ C.toList.drop (i'.sh + off + len * es + xs'.length)).toArray.toList.drop j.sh).take cells2.length);rw [List.toList_toArray,wH _ _ _ _ _ (by omega) (by omega)];exact q6.mono hext
    ·exact⟨j,o',hext _ _ g1,by rw [setRow_other _ _ _ _ hblk]; exact g2,g3.mono hext fun k hk=>⟨k,hk,Nat.le_refl _⟩⟩
 ·split at hx
  ·injection hx with hx; subst hx; exact⟨b,i',hφ,rfl,rfl⟩
  ·exact⟨x,j,hx,rfl,rfl⟩
 ·rw [setRow_other _ _ _ _ (by
   rintro rfl;have:=hk b i' hφ rfl;rw [e3,hbit] at this;cases this)]
theorem cK.grow {P:Program}{φ:dI}{T:Nat→Prop}{A A':AS}{w:World}{b off len n es:Nat}{xs cells:List Value}{e cls st:Nat}{K:List Nat} (hi:cT A) (s:yB A A' off len n es xs cells e cls st K)
  (hb:A.heap.get b=some (.row cells e cls st true)) (h:je P φ T A w) (hfr:φ A.next=none) (C':Array Value) (hes:P.cellsOf e=es)
  (hv:bu φ ((cells.drop off).take (len * es) ++ xs) (C'.toList.take ((cells.drop off).take (len * es) ++ xs).length)) (hlC:((cells.drop off).take (len * es) ++ xs).length≤C'.size) :
  cK P φ T A A' w (w.alloc (.cells C' e)) (fun x=>if x=A.next then some ⟨w.heap.size,0,C'.size,es,cls,st + off⟩ else φ x):=by
 have hnx:A'.next=A.next + 1:=by
  rcases s.wr.next with ⟨_,h1⟩ | ⟨_,_,_,_,_,h2⟩
  ·exact h1
  ·have:=(hi.lt _ _ h2).1; omega
 have hcl:cls < A.next:=(hi.lt _ _ hb).2;have hext:=Fc (i:=⟨w.heap.size,0,C'.size,es,cls,st + off⟩) hfr;have hsz:(w.alloc (.cells C' e)).heap.size=w.heap.size + 1:=by unfold World.alloc; exact Array.size_push ..
 refine⟨hext,fun x hx=>?_,⟨fun x j hx=>?_,fun b₁ b₂ i₁ i₂ h₁ h₂ he=>?_,fun x o hx hl hTx=>?_,fun x j hx=>by
  have hx':(if x=A.next then some (⟨w.heap.size,0,C'.size,es,cls,st + off⟩ : ua) else φ x)=some j:=hx;split at hx'
  ·trivial
  ·exact h.al _ _ hx',h.glob.mono hext,fun x j hx hcl=>by
  have hx':(if x=A.next then some (⟨w.heap.size,0,C'.size,es,cls,st + off⟩ : ua) else φ x)=some j:=hx;split at hx'
  ·injection hx' with hx'; subst hx'; rfl
  ·exact h.root _ _ hx' hcl⟩,fun x j hx hlt=>?_,by rw [hsz]; omega,fun k hk _=>jR hk,rfl,rfl,rfl⟩
 ·show (if x=A.next then _ else _)=_;rw [if_neg (by omega)]
 ·rw [hsz];split at hx
  ·injection hx with hx; subst hx; show w.heap.size < _; omega
  ·have:=h.blk _ _ hx; omega
 ·split at h₁<;>split at h₂
  ·injection h₁ with h₁; injection h₂ with h₂; subst h₁; subst h₂; exact⟨rfl,rfl⟩
  ·injection h₁ with h₁; subst h₁; have:=h.blk _ _ h₂; simp only at he; omega
  ·injection h₂ with h₂; subst h₂; have:=h.blk _ _ h₁; simp only at he; omega
  ·exact h.inj _ _ _ _ h₁ h₂ he
 ·rw [s.wr.heap] at hx;rw [s.fze];split at hx
  ·rename_i he; subst he;injection hx with hx; subst hx;refine⟨⟨w.heap.size,0,C'.size,es,cls,st + off⟩,_,if_pos rfl,rX,.row _ _ _ _ _ (0,0) rfl rfl hes.symm (by simp) (by rw [Nat.zero_add]; exact hlC) ?_ (.inl rfl) _ (.inl ⟨rfl,Nat.dvd_zero _⟩)⟩;show bu _ _ ((C'.toList.drop 0).take _);rw [List.drop_zero];exact hv.mono hext
  ·rename_i hne;have hTx':∀o',A.heap.get x=some o'→dE x o'=dE x o→T (dE x o):=by
    intro o' ho' hc;rcases hTx with ht | ⟨h1,_⟩
    ·exact ht
    ·have:=(hi.lt _ _ ho').2; rw [hc] at this; omega
   have key:∀o',A.heap.get x=some o'→RG o'=true→dE x o'=dE x o→o'=o→∃i o',(if x=A.next then some (⟨w.heap.size,0,C'.size,es,cls,st + off⟩ : ua) else φ x)=some i∧(w.alloc (.cells C' e)).heap[i.blk]?=some o'∧qJ P (fun x=>if x=A.next then some ⟨w.heap.size,0,C'.size,es,cls,st + off⟩ else φ x) (A.fz.get (dE x o)) x i o o':=by
    rintro o' ho' hlo hc rfl;obtain⟨j,o2,g1,g2,g3⟩:=h.obj x _ ho' hlo (hTx' _ ho' rfl);exact⟨j,o2,hext _ _ g1,by rw [jR (h.blk _ _ g1)]; exact g2,g3.mono hext fun k hk=>⟨k,hk,Nat.le_refl _⟩⟩
   split at hx
   ·obtain⟨y,hy,rfl⟩:=fQ hx;cases y with
    | row a1 a2 a3 a4 a5=>cases hl
    | map es' k=>exact key _ hy rfl rfl rfl
    | iter ss p=>exact key _ hy rfl rfl rfl
   ·exact key _ hx hl rfl rfl
 ·split at hx
  ·injection hx with hx; subst hx; simp only at hlt; omega
  ·exact⟨x,j,hx,rfl,rfl⟩
theorem iP (φ:dI):eR φ undef undef:=.tuple _ _ .nil
inductive C2 (φ:dI):Deferred→Deferred→Prop
 | mk (g:FuncId) (cap cap' args args':Array Value) (hc:bu φ cap.toList cap'.toList) (ha:bu φ args.toList args'.toList):C2 φ ⟨.fn (.func g) cap,args⟩ ⟨.fn (.func g) cap',args'⟩
inductive qY (φ:dI):List Deferred→List Deferred→Prop
 | nil:qY φ [] []
 | cons (d d':Deferred) (l l':List Deferred) (h:C2 φ d d') (hs:qY φ l l'):qY φ (d :: l) (d' :: l')
theorem C2.mono {φ φ':dI} (he:BR φ φ') {d d':Deferred} (h:C2 φ d d'):C2 φ' d d':=by
 cases h with | mk g cap cap' args args' hc ha=>exact .mk g cap cap' args args' (hc.mono he) (ha.mono he)
theorem qY.mono {φ φ':dI} (he:BR φ φ') {d d':List Deferred} (h:qY φ d d'):qY φ' d d':=by
 induction h with
 | nil=>exact .nil
 | cons d d' l l' h _ ih=>exact .cons d d' l l' (h.mono he) ih
structure fe (φ:dI) (f:Fr) (a:Act):Prop where
 size:a.tmps.size=f.n
 few:f.n≤1000000
 tmps:∀t,eR φ ((f.tmps.get t).getD undef) (a.tmps.getD t undef)
 defers:qY φ f.defers a.defers
theorem fe.mono {φ φ':dI} (he:BR φ φ') {f:Fr}{a:Act} (h:fe φ f a):fe φ' f a:=⟨h.size,h.few,fun t=>(h.tmps t).mono he,h.defers.mono he⟩
theorem fe.eval {φ:dI}{f:Fr}{a:Act} (h:fe φ f a) {x:Operand}{v:Value} (hx:f.eval x=some v):eR φ v (a.eval x):=by
 cases x with
 | tmp t=>
  have hx':JZ (f.tmps.get t)=some v:=hx;have ht:=h.tmps t;cases hg:f.tmps.get t with
  | none=>rw [hg] at hx' ht; injection hx' with hx'; subst hx'; exact ht
  | some u=>rw [hg] at hx' ht; injection hx' with hx'; subst hx'; exact ht
 | const u=>
  have hx':nj u=some v:=hx;unfold nj at hx';obtain⟨hp,he⟩:=aI hx';injection he with he;subst he;exact dN φ _ _ hp
 | global g=>cases hx
 | func g=>
  have hx':some (Value.func (.func g) #[] #[])=some v:=hx;injection hx' with hx';subst hx';exact .func g _ _ _ _ .nil .nil
theorem fe.evalG {P:Program}{φ:dI}{f:Fr}{a:Act}{T:Nat→Prop}{A:AS}{w:World} (h:fe φ f a) (hr:je P φ T A w) {x:Operand}{v:Value} (hx:evalG P f x=some v):eR φ v (a.eval x):=by
 unfold Go.EvL.evalG at hx;split at hx
 ·rename_i g;obtain⟨h1,h2⟩:=aI hx;injection h2 with h2;subst h2;obtain⟨i,e1,e2,e3⟩:=hr.glob g (Nat.le_of_ble_eq_true h1);have:=VR.ptr (φ:=φ) g 0 i e1;rw [e2,e3] at this;exact this
 ·exact h.eval hx
inductive yj (φ:dI) (w:World):dX→Result Next→Prop
 | val (v v':Value) (h:eR φ v v'):yj φ w (.val v) (.ok (.value v') w)
 | skip:yj φ w (.val undef) (.ok .skip w)
 | enter (g:FuncId) (args args':Array Value) (h:bu φ args.toList args'.toList):yj φ w (.enter g args) (.ok (.enter g args') w)
 | dfr (d d':Deferred) (h:C2 φ d d'):yj φ w (.dfr d) (.ok (.defer d') w)
 | recover:yj φ w .recover (.ok .recover w)
 | panic (v v':Value) (h:eR φ v v'):yj φ w (.panic v) (.halt (.panic v') w)
def jd (A A':AS) (T:Nat→Prop):Prop:=∀c,c < A.next→(A'.r.testBit c=true∨A'.w.testBit c=true)→T c
def ja (A A':AS) (φ:dI):Prop:=∀b,A.next≤b→b < A'.next→φ b=none
structure dp (P:Program) (f:Fr) (A:AS) (o:Oper) (nx:dX) (A':AS):Prop where
 fr:mR A A'
 run:∀(φ:dI) (T:Nat→Prop) (w:World) (a:Act),fe φ f a→je P φ T A w→jd A A' T→ja A A' φ→
  ∃φ' w',cK P φ T A A' w w' φ'∧yj φ' w' nx ((execOp a.eval o).run P w)
theorem bB {P:Program}{f:Fr}{A:AS}{o:Oper}{nx:dX} (hi:cT A) (h:∀(φ:dI) (w:World) (a:Act),fe φ f a→yj φ w nx ((execOp a.eval o).run P w)):dp P f A o nx A:=
 ⟨.refl hi,fun φ _ w a hf hr _ _=>⟨φ,w,.refl hr rfl rfl rfl rfl rfl rfl rfl,h φ w a hf⟩⟩
theorem kN {P:Program}{f:Fr}{A:AS}{o:Oper}{nx:dX} (hi:cT A) (h:∀(φ:dI) (T:Nat→Prop) (w:World) (a:Act),fe φ f a→je P φ T A w→yj φ w nx ((execOp a.eval o).run P w)):dp P f A o nx A:=
 ⟨.refl hi,fun φ T w a hf hr _ _=>⟨φ,w,.refl hr rfl rfl rfl rfl rfl rfl rfl,h φ T w a hf hr⟩⟩
theorem jf {s A':AS}{x:Option Value}{nx:dX} (h:ou s x=some (nx,A')):∃v,x=some v∧nx=.val v∧A'=s:=by
 cases x with
 | none=>cases h
 | some v=>have h':some (dX.val v,s)=some (nx,A'):=h; injection h' with h'; injection h' with h1 h2; exact⟨v,rfl,h1.symm,h2.symm⟩
section
variable {P:Program}{f:Fr}{A A':AS}{nx:dX}{d:Option Tmp}{ty:TypeId}{pos:String}{af:Array Edge}{gd:Option (Nat × Bool)}
theorem DL (hi:cT A) (x:Operand) (h:bQ P f ⟨d,.move x,ty,pos,af,gd⟩ A=some (nx,A')):dp P f A ⟨d,.move x,ty,pos,af,gd⟩ nx A':=by
 have h':ou A (f.eval x)=some (nx,A'):=h;obtain⟨v,hx,rfl,rfl⟩:=jf h';exact bB hi fun φ w a hf=>.val _ _ (hf.eval hx)
theorem zJ (hi:cT A) (x:Operand) (h:bQ P f ⟨d,.assign x,ty,pos,af,gd⟩ A=some (nx,A')):dp P f A ⟨d,.assign x,ty,pos,af,gd⟩ nx A':=by
 have h':ou A (f.eval x)=some (nx,A'):=h;obtain⟨v,hx,rfl,rfl⟩:=jf h';exact bB hi fun φ w a hf=>.val _ _ (hf.eval hx)
theorem Cf (hi:cT A) (c x y:Operand) (h:bQ P f ⟨d,.pick c x y,ty,pos,af,gd⟩ A=some (nx,A')):dp P f A ⟨d,.pick c x y,ty,pos,af,gd⟩ nx A':=by
 have h':ux f (f.eval c) x y A=some (nx,A'):=h;unfold ux at h';split at h'
 ·rename_i hc;obtain⟨v,hx,rfl,rfl⟩:=jf h';refine bB hi fun φ w a hf=>?_;have hcc:=hf.eval hc;have e:(execOp a.eval ⟨d,.pick c x y,ty,pos,af,gd⟩).run P w=.ok (.value (a.eval x)) w:=by
   generalize hq:a.eval c=q at hcc;cases hcc;simp only [execOp,hq];rfl
  rw [e];exact .val _ _ (hf.eval hx)
 ·rename_i hc;obtain⟨v,hx,rfl,rfl⟩:=jf h';refine bB hi fun φ w a hf=>?_;have hcc:=hf.eval hc;have e:(execOp a.eval ⟨d,.pick c x y,ty,pos,af,gd⟩).run P w=.ok (.value (a.eval y)) w:=by
   generalize hq:a.eval c=q at hcc;cases hcc;simp only [execOp,hq];rfl
  rw [e];exact .val _ _ (hf.eval hx)
 ·cases h'
theorem wG (hi:cT A) (x:Operand) (i:Nat) (h:bQ P f ⟨d,.extract x i,ty,pos,af,gd⟩ A=some (nx,A')):dp P f A ⟨d,.extract x i,ty,pos,af,gd⟩ nx A':=by
 have h':lN (f.eval x) i A=some (nx,A'):=h;unfold lN at h';split at h'
 ·rename_i vs hc;obtain⟨v,hx,rfl,rfl⟩:=jf h';refine bB hi fun φ w a hf=>?_;have hcc:=hf.eval hc;generalize hq:a.eval x=q at hcc;cases hcc with
  | tuple _ vs' hv=>
   obtain⟨v',h1,h2⟩:=bu.get i hv hx;have e:(execOp a.eval ⟨d,.extract x i,ty,pos,af,gd⟩).run P w=.ok (.value v') w:=by
    simp only [execOp,hq,Instr.extract];rw [show vs'[i]?=some v' by simpa using h1];rfl
   rw [e];exact .val _ _ h2
 ·cases h'
theorem fk (hi:cT A) (o:Oper) (hs:∀cs b,o.op≠.select cs b) (h:fG P f o A=some (nx,A')):dp P f A o nx A':=by
 unfold fG at h;obtain⟨hp,h⟩:=aI h;unfold jZ at h;split at h
 ·rename_i v hv;obtain⟨hpv,h⟩:=aI h;injection h with h;injection h with h1 h2;subst h1;subst h2;refine bB hi fun φ w a hf=>?_;have hc:execOp a.eval o=execOp (fun x=>(f.eval x).getD undef) o:=by
   refine execOp_congr o hs fun x hx=>?_;rw [List.all_eq_true] at hp;have hpx:=hp x (by simpa using hx);unfold kR at hpx;split at hpx
   ·rename_i u hu;rw [hu];exact ij φ _ _ _ hpx (hf.eval hu)
   ·cases hpx
  rw [hc,kq P _ hv w];exact .val _ _ (dN φ _ _ hpv)
 ·cases h
end
theorem ez {P:Program}{s:Sem Value}{v:Value}{w w':World} (h:s.run P w=.ok v w'):(do pure (.value (← s)):Sem Next).run P w=.ok (.value v) w':=by
 rw [Sem.run_bind,h]; rfl
theorem To {P:Program}{s:Sem Unit}{w w':World} (h:s.run P w=.ok () w'):(do s; pure .skip:Sem Next).run P w=.ok .skip w':=by
 rw [Sem.run_bind,h]; rfl
theorem AX {P:Program}{t:TypeId}{i:TypeInfo} (h:P.info? t=some i) (w:World):(typeInfo t).run P w=.ok i w:=by
 simp [typeInfo,Sem.run_bind,Result.andThen,h]
theorem rP {P:Program}{t n:Nat} (h:dM P t=some n):∃i,P.info? t=some i∧i.size=n∧P.cellsOf t=n:=by
 unfold dM at h;cases hi:P.info? t with
 | none=>rw [hi] at h; cases h
 | some i=>rw [hi] at h; injection h with h; exact⟨i,rfl,h,by simp [Program.cellsOf,hi,h]⟩
theorem fS {P:Program}{t n:Nat} (h:dM P t=some n) (w:World):(sizeOf t).run P w=.ok n w:=by
 obtain⟨i,hi,hn,_⟩:=rP h;simp [sizeOf,Result.andThen,AX hi,hn]
theorem oZ {P:Program}{t:TypeId}{d:TypeDesc} (h:P.underlying t=some d) (w:World):(isAgg t).run P w=.ok (jl (some d)) w:=by
 simp only [isAgg,Sem.run_bind,run_underlying h,Result.andThen];cases d<;>rfl
theorem gN {φ:dI}{v v':Value} (h:eR φ v v'):bu φ v.cells.toList v'.cells.toList:=by
 cases h with
 | agg xs xs' h=>exact h
 | _=>all_goals exact .cons _ _ _ _ (by constructor<;>assumption) .nil
theorem N9 {φ:dI}{v v':Value} (h:eR φ v v') (ho:nE v=true):v'.oneCell'=true:=by
 cases h with
 | agg xs xs' h=>cases ho
 | tuple xs xs' h=>cases ho
 | _=>rfl
theorem rl {φ:dI} : ∀{l l':List Value},bu φ l l'→l.all nE=true→∀v'∈l',v'.oneCell'=true:=by
 intro l
 induction l with
 | nil=>intro l' h _ v' hv; cases h; cases hv
 | cons a l ih=>
  intro l' h ho v' hv;simp only [List.all_cons,Bool.and_eq_true] at ho;cases h with
  | cons _ a' _ l'' h1 hs=>
   rcases List.mem_cons.1 hv with rfl | hv
   ·exact N9 h1 ho.1
   ·exact ih hs ho.2 _ hv
section
variable {P:Program}{f:Fr}{A A':AS}{nx:dX}{d:Option Tmp}{ty:TypeId}{pos:String}{af:Array Edge}{gd:Option (Nat × Bool)}
theorem bz (A:AS) (cells:List Value) (e:Nat):(newRow A cells e).next=A.next + 1:=by rw [fC,jL]
theorem jC {φ:dI}{T:Nat→Prop}{w:World}{cells cells':List Value}{e:Nat} (hi:cT A) (hn:(newRow A cells e).next≤(newRow A cells e).next) (h:je P φ T A w) (hfr:ja A (newRow A cells e) φ) (hv:bu φ cells cells') :
  ∃φ',φ' A.next=some ⟨w.heap.size,0,cells'.length,P.cellsOf e,A.next,0⟩∧cK P φ T A (newRow A cells e) w (w.alloc (.cells cells'.toArray e)) φ':=by
 rw [bz] at hn;have hlen:=hv.length;rw [fC];refine cK.new hi hn h (hfr _ (Nat.le_refl _) (by rw [bz]; omega)) _ rfl _ _ _ _ _ rfl fun φ' he _=>?_;refine .row _ _ _ _ _ (0,0) rfl rfl rfl (by simp) (by simp; omega) ?_ (.inl rfl) _ (.inl ⟨rfl,Nat.dvd_zero _⟩);show bu φ' cells ((cells'.drop 0).take cells.length);rw [List.drop_zero,hlen,List.take_length];exact hv.mono he
theorem Ha (hi:cT A) (hn:A'.next≤A'.next) (e:TypeId) (x:Operand) (h:bQ P f ⟨d,.box e x,ty,pos,af,gd⟩ A=some (nx,A')):dp P f A ⟨d,.box e x,ty,pos,af,gd⟩ nx A':=by
 have h':tM A e (f.eval x)=some (nx,A'):=h;unfold tM at h';split at h'
 ·rename_i v hx;injection h' with h';injection h' with h1 h2;subst h1;subst h2;rw [bz] at hn;refine⟨gO hi hn _ _,fun φ T w a hf hr _ hfr=>?_⟩;obtain⟨φ',e1,e2⟩:=jC hi (by rw [bz]; exact hn) hr hfr (gN (hf.eval hx));refine⟨φ',_,e2,?_⟩;exact .val _ _ (.ptr _ 0 _ e1)
 ·cases h'
theorem nF {t:TypeId}{z:Value} (h:gE P t=some z):plain 50 z=true∧∀w,(zeroValue t).run P w=.ok z w:=by
 unfold gE at h;split at h
 ·rename_i z' hz;unfold nj at h;obtain⟨hp,he⟩:=aI h;injection he with he;subst he;refine⟨hp,fun w=>?_⟩;cases hi:P.info? t with
  | none=>rw [hi] at hz; cases hz
  | some i=>
   rw [hi] at hz;have hz':i.zero=some z':=hz;simp [zeroValue,Sem.run_bind,Result.andThen,AX hi,hz']
 ·cases h
theorem Bq (hi:cT A) (hn:A'.next≤A'.next) (e:TypeId) (h:bQ P f ⟨d,.alloc e,ty,pos,af,gd⟩ A=some (nx,A')):dp P f A ⟨d,.alloc e,ty,pos,af,gd⟩ nx A':=by
 have h':tM A e (gE P e)=some (nx,A'):=h;unfold tM at h';split at h'
 ·rename_i v hx;obtain⟨hp,hz⟩:=nF hx;injection h' with h';injection h' with h1 h2;subst h1;subst h2;rw [bz] at hn;refine⟨gO hi hn _ _,fun φ T w a hf hr _ hfr=>?_⟩;obtain⟨φ',e1,e2⟩:=jC hi (by rw [bz]; exact hn) hr hfr (gN (dN φ _ _ hp));refine⟨φ',_,e2,?_⟩;have e:(execOp a.eval ⟨d,.alloc e,ty,pos,af,gd⟩).run P w=.ok (.value (.pointer (some ⟨w.heap.size,0,none⟩))) (w.alloc (.cells v.cells.toList.toArray e)):=by
   refine ez ?_;simp only [Instr.alloc,Sem.run_bind,hz,Result.andThen];rw [Array.toArray_toList];rfl
  rw [e];exact .val _ _ (.ptr _ 0 _ e1)
 ·cases h'
theorem oS {b off n:Nat}{xs:List Value} (h:ld A b off n=some (xs,A')):∃cells e c st,A.heap.get b=some (.row cells e c st true)∧xs=(cells.drop off).take n∧xs.length=n∧A'=cE A c:=by
 unfold ld at h;split at h
 ·rename_i cells e c st hb;unfold MY at h;rw [cA] at h;obtain⟨h1,h2⟩:=aI h;injection h2 with h2;injection h2 with h3 h4;exact⟨cells,e,c,st,hb,h3.symm,by rw [← h3]; exact Nat.eq_of_beq_eq_true h1,h4.symm⟩
 ·cases h
theorem AC {b off n:Nat}{xs:List Value} (hi:cT A) (h:ld A b off n=some (xs,A')):mR A A':=by
 obtain⟨cells,e,c,st,hb,_,_,rfl⟩:=oS h;exact iZ hi (hi.lt _ _ hb).2
theorem fA (g o j:Nat):(⟨g,o,none⟩ : Addr).add j=⟨g,o + j,none⟩:=by unfold Addr.add; split<;>simp_all
theorem uq {φ:dI}{T:Nat→Prop}{w:World}{b off n:Nat}{xs:List Value}{i:ua} (hi:cT A) (h:ld A b off n=some (xs,A')) (hr:je P φ T A w) (hT:jd A A' T) (hφ:φ b=some i) :
  ∃xs',bu φ xs xs'∧(∀(j:Nat) (v:Value),xs'[j]?=some v→w.cell? ((⟨i.blk,i.sh + off,none⟩ : Addr).add j)=some v)∧cK P φ T A A' w w φ:=by
 obtain⟨cells,e,c,st,hb,rfl,hl,rfl⟩:=oS h;have hTc:T c:=hT c (hi.lt _ _ hb).2 (.inl (by rw [aH,dC]; simp));obtain⟨i',C,fz,e',e1,e2,e3,e4,e5,e6,e7,e8,e9,e10⟩:=hr.cells hb hTc;obtain rfl:i'=i:=by rw [hφ] at e1; injection e1 with e1; exact e1.symm
 refine⟨_,(e8.drop off).take n,fun j v hv=>?_,by rw [aH]; exact .refl hr rfl rfl rfl rfl rfl rfl rfl⟩;rw [fA];rw [List.getElem?_take,List.getElem?_drop,List.getElem?_take,List.getElem?_drop] at hv;split at hv
 ·split at hv
  ·simp only [World.cell?,e2];rw [Array.getElem?_toList] at hv;rw [← hv];simp [Nat.add_assoc]
  ·cases hv
 ·cases hv
theorem Dy (hi:cT A) (t:TypeId) (x:Operand) (h:bQ P f ⟨d,.load t x,ty,pos,af,gd⟩ A=some (nx,A')):dp P f A ⟨d,.load t x,ty,pos,af,gd⟩ nx A':=by
 have h':nC P t (evalG P f x) A=some (nx,A'):=h;unfold nC at h';split at h'
 ·rename_i b off hx;split at h'
  ·rename_i dd hd;unfold mn at h';rcases iv h' with ⟨ha,h1⟩ | ⟨ha,h1⟩
   ·unfold uC at h1;split at h1
    ·rename_i v s1 hl;injection h1 with h1;injection h1 with h2 h3;subst h2;subst h3;refine⟨AC hi hl,fun φ T w a hf hr hT _=>?_⟩;have hp:=hf.evalG hr hx;generalize hq:a.eval x=q at hp;cases hp with
     | ptr _ _ i hφ=>
      obtain⟨xs',g1,g2,g3⟩:=uq hi hl hr hT hφ;refine⟨φ,w,g3,?_⟩;cases g1 with
      | cons _ v' _ l' hv hs=>
       have hc:=g2 0 v' rfl;rw [fA,Nat.add_zero] at hc;have e:(execOp a.eval ⟨d,.load t x,ty,pos,af,gd⟩).run P w=.ok (.value v') w:=by
        refine ez ?_;rw [hq];simp only [Instr.loadAt,Instr.sureAddr,loadVar,Sem.run_bind,Sem.run_pure,Result.andThen,oZ hd,ha];simp [run_load,hc]
       rw [e];exact .val _ _ hv
    ·cases h1
   ·split at h1
    ·rename_i n hsz;unfold uu at h1;split at h1
     ·rename_i xs s1 hl;injection h1 with h1;injection h1 with h2 h3;subst h2;subst h3;refine⟨AC hi hl,fun φ T w a hf hr hT _=>?_⟩;have hp:=hf.evalG hr hx;generalize hq:a.eval x=q at hp;cases hp with
      | ptr _ _ i hφ=>
       obtain⟨xs',g1,g2,g3⟩:=uq hi hl hr hT hφ;refine⟨φ,w,g3,?_⟩;have hlen:xs'.length=n:=by
        obtain⟨_,_,_,_,_,_,hl',_⟩:=oS hl;rw [← g1.length,hl']
       have e:(execOp a.eval ⟨d,.load t x,ty,pos,af,gd⟩).run P w=.ok (.value (.agg xs'.toArray)) w:=by
        refine ez ?_;rw [hq];simp only [Instr.loadAt,Instr.sureAddr,loadVar,Sem.run_bind,Sem.run_pure,Result.andThen,oZ hd,ha];have:=run_loadCells_list (P:=P) w ⟨i.blk,i.sh + off,none⟩ xs' g2;rw [hlen] at this;simp [this,Sem.run_bind,Result.andThen,fS hsz]
       rw [e];exact .val _ _ (.agg _ _ g1)
     ·cases h1
    ·cases h1
  ·cases h'
 ·cases h'
end
theorem jd.wr {A A':AS}{T:Nat→Prop} (h:jd A A' T) {c:Nat} (hc:c < A.next) (hb:A'.w.testBit c=true):T c:=h c hc (.inr hb)
section
variable {P:Program}{f:Fr}{A A':AS}{nx:dX}{d:Option Tmp}{ty:TypeId}{pos:String}{af:Array Edge}{gd:Option (Nat × Bool)}
theorem Aq (hi:cT A) (hn:A'.next≤A'.next) (t:TypeId) (x y:Operand) (h:bQ P f ⟨d,.store t x y,ty,pos,af,gd⟩ A=some (nx,A')):dp P f A ⟨d,.store t x y,ty,pos,af,gd⟩ nx A':=by
 have h':nP P t (f.eval x) (f.eval y) A=some (nx,A'):=h;unfold nP at h';split at h'
 ·rename_i b off hx;split at h'
  ·rename_i v hy;split at h'
   ·rename_i n hsz;obtain⟨hc,h1⟩:=aI h';unfold DT at h1;split at h1
    ·rename_i s1 hs1;injection h1 with h1;injection h1 with h2 h3;subst h2;subst h3;have hn0:A.next≤A.next:=by
      by_cases hle:A.next≤A.next
      ·exact hle
      ·exfalso;unfold FQ at hs1;split at hs1
       ·rename_i cells e cls st hb;unfold FI at hs1;obtain⟨_,hs1⟩:=aI hs1;rw [cA] at hs1;injection hs1 with hs1;rw [gU,iU] at hs1;have hnx:s1.next=(mX A b cls).next:=by rw [← hs1]
        unfold mX at hnx;have kn:∀(l:List Nat) (B:AS),(kill B l).next=B.next:=by
         intro l
         induction l with
         | nil=>intro B; rfl
         | cons q l ih=>
          intro B;have:(kill B (q :: l))=kill (kU B q) l:=rfl;rw [this,ih];unfold kU;split
          ·rw [iU]
          ·rfl
        split at hnx
        ·omega
        ·rw [sf] at hnx;have:=kn (List.filter (fun m=>!(Nat.beq m b)) ‹_›) A;simp only at hnx;omega
       ·cases hs1
     obtain⟨cells,e,cls,st,K,sp⟩:=wu hi hn0 hs1;refine⟨sp.wr.fr hi,fun φ T w a hf hr hT _=>?_⟩;have hp:=hf.eval hx;have hv:=gN (hf.eval hy);generalize hq:a.eval x=q at hp;generalize hu:a.eval y=u at hv;cases hp with
     | ptr _ _ i hφ=>
      have hTc:T cls:=hT.wr (hi.lt _ _ sp.row).2 (by rw [sp.wr.w,dC]; simp);obtain⟨C,fz,e',g1,g2,g3,g4⟩:=cK.store hi sp hr hTc hv hφ;refine⟨φ,_,g4,?_⟩;have hsize:u.cells.size=n:=by
       have:=hv.length;have h5:=Nat.eq_of_beq_eq_true hc;simp at this;omega
      have e:(execOp a.eval ⟨d,.store t x y,ty,pos,af,gd⟩).run P w=.ok .skip (w.setRow i.blk (C.toList.take (i.sh + off) ++ u.cells.toList ++ C.toList.drop (i.sh + off + u.cells.toList.length)).toArray):=by
       refine To ?_;rw [hq,hu];have hst:=run_storeCells_atF P i.blk (i.sh + off) e' fz u.cells.toList 0 C w g1 (by omega) (by omega) (rl hv sp.one);simp only [Instr.storeAt,Instr.sureAddr,storeVar,Sem.run_bind,Sem.run_pure,Result.andThen,fS hsz,hsize];simp only [Nat.add_zero] at hst;simp [hst]
      rw [e];exact .skip
    ·cases h1
   ·cases h'
  ·cases h'
 ·cases h'
theorem vE (hi:cT A) (x:Operand) (h:bQ P f ⟨d,.nilCheck x,ty,pos,af,gd⟩ A=some (nx,A')):dp P f A ⟨d,.nilCheck x,ty,pos,af,gd⟩ nx A':=by
 have h':jY P f ⟨d,.nilCheck x,ty,pos,af,gd⟩ (f.eval x) A=some (nx,A'):=h;unfold jY at h';split at h'
 ·rename_i p hx;injection h' with h';injection h' with h1 h2;subst h1;subst h2;refine bB hi fun φ w a hf=>?_;have hp:=hf.eval hx;have e:(execOp a.eval ⟨d,.nilCheck x,ty,pos,af,gd⟩).run P w=.ok (.value (a.eval x)) w:=by
   generalize hq:a.eval x=q at hp;cases hp;simp only [execOp,hq];rfl
  rw [e];exact .val _ _ hp
 ·rename_i g y z hx;injection h' with h';injection h' with h1 h2;subst h1;subst h2;refine bB hi fun φ w a hf=>?_;have hp:=hf.eval hx;have e:(execOp a.eval ⟨d,.nilCheck x,ty,pos,af,gd⟩).run P w=.ok (.value (a.eval x)) w:=by
   generalize hq:a.eval x=q at hp;cases hp;simp only [execOp,hq];rfl
  rw [e];exact .val _ _ hp
 ·exact fk hi _ (by intro _ _ hh; cases hh) h'
theorem BG (hi:cT A) (t:TypeId) (x:Operand) (h:bQ P f ⟨d,.makeInterface t x,ty,pos,af,gd⟩ A=some (nx,A')):dp P f A ⟨d,.makeInterface t x,ty,pos,af,gd⟩ nx A':=by
 have h':vG P t (f.eval x) A=some (nx,A'):=h;unfold vG at h';split at h'
 ·rename_i v hx;split at h'
  ·cases h'
  ·rename_i dd hni hd;injection h' with h';injection h' with h1 h2;subst h1;subst h2;refine bB hi fun φ w a hf=>?_;have e:(execOp a.eval ⟨d,.makeInterface t x,ty,pos,af,gd⟩).run P w=.ok (.value (.iface t (a.eval x))) w:=by
    refine ez ?_;simp only [Instr.makeInterface,Sem.run_bind,run_underlying hd,Result.andThen];cases dd<;>first | rfl | exact absurd hd (by intro hh; exact hni _ hh)
   rw [e];exact .val _ _ (.iface t _ _ (hf.eval hx))
  ·cases h'
 ·cases h'
theorem sO {φ:dI}{a:Act} (hf:fe φ f a):∀(l:List Operand) {vs:List Value},qW f l=some vs→bu φ vs (l.map a.eval):=by
 intro l
 induction l with
 | nil=>intro vs h; have h':some ([]:List Value)=some vs:=h; injection h' with h'; subst h'; exact .nil
 | cons x l ih=>
  intro vs h;have h':(match f.eval x with | some v=>(match qW f l with | some vs=>some (v :: vs) | none=>none) | none=>none)=some vs:=h;split at h'
  ·rename_i v hx;split at h'
   ·rename_i us hu;injection h' with h';subst h';exact .cons _ _ _ _ (hf.eval hx) (ih hu)
   ·cases h'
  ·cases h'
theorem Ch (hi:cT A) (fn:Fn) (x y:Array Operand) (h:bQ P f ⟨d,.makeFunc fn x y,ty,pos,af,gd⟩ A=some (nx,A')):dp P f A ⟨d,.makeFunc fn x y,ty,pos,af,gd⟩ nx A':=by
 have h':uB f fn x y A=some (nx,A'):=h;unfold uB at h';split at h'
 ·split at h'
  ·rename_i us hx;split at h'
   ·rename_i vs hy;injection h' with h';injection h' with h1 h2;subst h1;subst h2;refine bB hi fun φ w a hf=>?_;refine .val _ (.func _ (x.map a.eval) (y.map a.eval)) (.func _ _ _ _ _ ?_ ?_)
    ·rw [Array.toList_map]; exact sO hf _ hx
    ·rw [Array.toList_map]; exact sO hf _ hy
   ·cases h'
  ·cases h'
 ·cases h'
theorem tV (hi:cT A) (t:TypeId) (x:Operand) (i:Nat) (h:bQ P f ⟨d,.fieldAddr t x i,ty,pos,af,gd⟩ A=some (nx,A')):dp P f A ⟨d,.fieldAddr t x i,ty,pos,af,gd⟩ nx A':=by
 have h':iC P t (evalG P f x) i A=some (nx,A'):=h;unfold iC at h';split at h'
 ·rename_i b off hx;split at h'
  ·rename_i fs hfs;split at h'
   ·rename_i fl hfl;split at h'
    ·rename_i m hsz;injection h' with h';injection h' with h1 h2;subst h1;subst h2;refine kN hi fun φ T w a hf hr=>?_;have hp:=hf.evalG hr hx;generalize hq:a.eval x=q at hp;cases hp with
     | ptr _ _ j hφ=>
      have hu:P.underlying t=some (.struct fs):=by
       unfold j8 at hfs;split at hfs
       ·rename_i hu; injection hfs with hfs; subst hfs; exact hu
       ·cases hfs
      have e:(execOp a.eval ⟨d,.fieldAddr t x i,ty,pos,af,gd⟩).run P w=.ok (.value (.pointer (some ⟨j.blk,j.sh + (off + fl.offset),none⟩))) w:=by
       refine ez ?_;rw [hq];simp only [Instr.fieldAt,Instr.sureAddr,fieldPlace,Sem.run_bind,run_underlying hu,Result.andThen,hfl,Sem.run_pure,fS hsz];simp [fA,Nat.add_assoc]
      rw [e];exact .val _ _ (.ptr _ _ j hφ)
    ·cases h'
   ·cases h'
  ·cases h'
 ·cases h'
end
section
variable {P:Program}{f:Fr}{A A':AS}{nx:dX}{d:Option Tmp}{ty:TypeId}{pos:String}{af:Array Edge}{gd:Option (Nat × Bool)}
theorem yn {t:TypeId}{fs:Array Field} (h:j8 P t=some fs):P.underlying t=some (.struct fs):=by
 unfold j8 at h;split at h
 ·rename_i hu; injection h with h; subst h; exact hu
 ·cases h
theorem IA {φ:dI}{t:TypeId}{cs cs':Array Value}{off:Nat}{v:Value} (h:xi P t cs.toList off=some v) (hv:bu φ cs.toList cs'.toList):∃v',eR φ v v'∧∀w,(part t cs' off).run P w=.ok v' w:=by
 unfold xi at h;split at h
 ·rename_i dd hd;rcases iv h with ⟨ha,h1⟩ | ⟨ha,h1⟩
  ·obtain⟨v',g1,g2⟩:=bu.get off hv h1;refine⟨v',g2,fun w=>?_⟩;simp only [part,Sem.run_bind,oZ hd,Result.andThen,ha];rw [show cs'[off]?=some v' by simpa using g1];rfl
  ·cases hs:dM P t with
   | none=>rw [hs] at h1; cases h1
   | some n=>
    rw [hs] at h1;injection h1 with h1;subst h1;refine⟨.agg (cs'.extract off (off + n)),.agg _ _ ?_,fun w=>?_⟩
    ·have:=(hv.drop off).take n;simpa [List.extract_eq_take_drop] using this
    ·simp only [part,Sem.run_bind,oZ hd,Result.andThen,ha];simp [fS hs,Result.andThen]
 ·cases h
theorem B6 (hi:cT A) (t:TypeId) (x:Operand) (i:Nat) (h:bQ P f ⟨d,.field t x i,ty,pos,af,gd⟩ A=some (nx,A')):dp P f A ⟨d,.field t x i,ty,pos,af,gd⟩ nx A':=by
 have h':q9 P t (f.eval x) i A=some (nx,A'):=h;unfold q9 at h';split at h'
 ·rename_i cs hx;split at h'
  ·rename_i fs hfs;split at h'
   ·rename_i fl hfl;obtain⟨v,hv,rfl,rfl⟩:=jf h';refine bB hi fun φ w a hf=>?_;have hp:=hf.eval hx;generalize hq:a.eval x=q at hp;cases hp with
    | agg _ cs' hcs=>
     obtain⟨v',g1,g2⟩:=IA hv hcs;have hu:=yn hfs;have e:(execOp a.eval ⟨d,.field t x i,ty,pos,af,gd⟩).run P w=.ok (.value v') w:=by
      refine ez ?_;rw [hq];simp only [Instr.field,Sem.run_bind,run_underlying hu,Result.andThen,hfl,asAgg,Sem.run_pure];exact g2 w
     rw [e];exact .val _ _ g1
   ·cases h'
  ·cases h'
 ·cases h'
theorem jp {v:Value}{n:Nat} (h:jg v=some n):∃k,v=.int k n:=by
 unfold jg at h;split at h
 ·rename_i k m; injection h with h; subst h; exact⟨k,rfl⟩
 ·cases h
theorem oO {b off len i:Nat}{e:TypeId} (h:qq P b off len i e A=some (nx,A')):∃n,dM P e=some n∧i < len∧nx=.val (.pointer (some ⟨b,off + i * n,none⟩))∧A'=A:=by
 unfold qq at h;split at h
 ·rename_i n hn;obtain⟨h1,h2⟩:=aI h;injection h2 with h2;injection h2 with h3 h4;exact⟨n,hn,Nat.le_of_ble_eq_true h1,h3.symm,h4.symm⟩
 ·cases h
theorem tR (hi:cT A) (t:TypeId) (x y:Operand) (h:bQ P f ⟨d,.indexAddr t x y,ty,pos,af,gd⟩ A=some (nx,A')):dp P f A ⟨d,.indexAddr t x y,ty,pos,af,gd⟩ nx A':=by
 have h':fL P t (evalG P f x) (f.eval y) A=some (nx,A'):=h;unfold fL at h';split at h'
 ·rename_i b off len cap e i hx hu hy;obtain⟨n,hn,hlt,rfl,rfl⟩:=oO h';refine kN hi fun φ T w a hf hrel=>?_;have hp:=hf.evalG hrel hx;cases hfy:f.eval y with
  | none=>rw [hfy] at hy; cases hy
  | some vy=>
   rw [hfy] at hy;obtain⟨k,rfl⟩:=jp hy;have hpy:=hf.eval hfy;generalize hq:a.eval x=q at hp;generalize hq2:a.eval y=q2 at hpy;cases hpy;cases hp with
   | slice _ _ _ _ cap' a' j hφ hl hc ha hr=>
    have ha':a'=⟨j.blk,j.sh + off,none⟩:=ha.resolve_left (by omega);subst ha';have e:(execOp a.eval ⟨d,.indexAddr t x y,ty,pos,af,gd⟩).run P w=.ok (.value (.pointer (some ⟨j.blk,j.sh + (off + i * n),none⟩))) w:=by
     refine ez ?_;rw [hq,hq2];have h1:(0:Int)≤(i:Int)∧(i:Int) < (len:Int):=by omega
     simp only [Instr.indexAt,asIntOf,Sem.run_bind,run_underlying hu,Result.andThen,Sem.run_pure,fS hn,h1,and_self,if_true];simp [fA,Nat.add_assoc]
    rw [e];exact .val _ _ (.ptr _ _ j hφ)
 ·rename_i b off len cap e i hx hu hy;obtain⟨n,hn,hlt,rfl,rfl⟩:=oO h';refine kN hi fun φ T w a hf hrel=>?_;have hp:=hf.evalG hrel hx;cases hfy:f.eval y with
  | none=>rw [hfy] at hy; cases hy
  | some vy=>
   rw [hfy] at hy;obtain⟨k,rfl⟩:=jp hy;have hpy:=hf.eval hfy;generalize hq:a.eval x=q at hp;generalize hq2:a.eval y=q2 at hpy;cases hpy;cases hp with
   | sliceX _ _ _ a' j hφ ha=>
    have ha':a'=⟨j.blk,j.sh + off,none⟩:=ha.resolve_left (by omega);subst ha';have e:(execOp a.eval ⟨d,.indexAddr t x y,ty,pos,af,gd⟩).run P w=.ok (.value (.pointer (some ⟨j.blk,j.sh + (off + i * n),none⟩))) w:=by
     refine ez ?_;rw [hq,hq2];have h1:(0:Int)≤(i:Int)∧(i:Int) < (len:Int):=by omega
     simp only [Instr.indexAt,asIntOf,Sem.run_bind,run_underlying hu,Result.andThen,Sem.run_pure,fS hn,h1,and_self,if_true];simp [fA,Nat.add_assoc]
    rw [e];exact .val _ _ (.ptr _ _ j hφ)
 ·rename_i b off len e i hx hu hy;obtain⟨n,hn,hlt,rfl,rfl⟩:=oO h';refine kN hi fun φ T w a hf hrel=>?_;have hp:=hf.evalG hrel hx;cases hfy:f.eval y with
  | none=>rw [hfy] at hy; cases hy
  | some vy=>
   rw [hfy] at hy;obtain⟨k,rfl⟩:=jp hy;have hpy:=hf.eval hfy;generalize hq:a.eval x=q at hp;generalize hq2:a.eval y=q2 at hpy;cases hpy;cases hp with
   | ptr _ _ j hφ=>
    have e:(execOp a.eval ⟨d,.indexAddr t x y,ty,pos,af,gd⟩).run P w=.ok (.value (.pointer (some ⟨j.blk,j.sh + (off + i * n),none⟩))) w:=by
     refine ez ?_;rw [hq,hq2];have h1:(0:Int)≤(i:Int)∧(i:Int) < (len:Int):=by omega
     simp only [Instr.indexAt,Instr.sureAddr,asIntOf,Sem.run_bind,run_underlying hu,Result.andThen,Sem.run_pure,fS hn,h1,and_self,if_true];simp [fA,Nat.add_assoc]
    rw [e];exact .val _ _ (.ptr _ _ j hφ)
 ·cases h'
theorem BI (hi:cT A) (t:TypeId) (x y:Operand) (h:bQ P f ⟨d,.index t x y,ty,pos,af,gd⟩ A=some (nx,A')):dp P f A ⟨d,.index t x y,ty,pos,af,gd⟩ nx A':=by
 have h':qT P f ⟨d,.index t x y,ty,pos,af,gd⟩ t (f.eval x) (f.eval y) A=some (nx,A'):=h;unfold qT at h';split at h'
 ·rename_i s hx;split at h'
  ·rename_i hu;split at h'
   ·rename_i i hy;unfold Ew at h';split at h'
    ·rename_i c hc;rw [ci] at h';injection h' with h';injection h' with h1 h2;subst h1;subst h2;refine bB hi fun φ w a hf=>?_;have hp:=hf.eval hx;cases hfy:f.eval y with
     | none=>rw [hfy] at hy; cases hy
     | some vy=>
      rw [hfy] at hy;obtain⟨k,rfl⟩:=jp hy;have hpy:=hf.eval hfy;generalize hq:a.eval x=q at hp;generalize hq2:a.eval y=q2 at hpy;cases hpy;cases hp;have hc':s[i]?=some c:=by
       rw [Array.getElem?_toList] at hc;exact hc
      have e:(execOp a.eval ⟨d,.index t x y,ty,pos,af,gd⟩).run P w=.ok (.value (.int .u8 c.toNat)) w:=by
       refine ez ?_;rw [hq,hq2];simp only [Instr.index,asIntOf,Sem.run_bind,run_underlying hu,Result.andThen,Sem.run_pure];simp [hc']
      rw [e];exact .val _ _ (.int _ _)
    ·cases h'
   ·cases h'
  ·cases h'
 ·exact fk hi _ (by intro _ _ hh; cases hh) h'
end
section
variable {P:Program}{f:Fr}{A A':AS}{nx:dX}{d:Option Tmp}{ty:TypeId}{pos:String}{af:Array Edge}{gd:Option (Nat × Bool)}
def RL (x:Option Operand) (a:Act) (n:Nat) (dflt:Nat):Prop:=(x=none∧n=dflt)∨∃y k,x=some y∧a.eval y=.int k (n:Int)
theorem eM {φ:dI}{a:Act} (hf:fe φ f a) {x:Option Operand}{dflt n:Nat} (h:iE f x dflt=some n):RL x a n dflt:=by
 unfold iE at h;split at h
 ·injection h with h; exact .inl ⟨rfl,h.symm⟩
 ·rename_i y;split at h
  ·rename_i v hv;obtain⟨k,rfl⟩:=jp h;have:=hf.eval hv;generalize hq:a.eval y=q at this;cases this;exact .inr ⟨y,k,rfl,hq⟩
  ·cases h
theorem gX {x:Value}{k:IntKind}{n y:Nat} (hx:x=.int k (n:Int)) (hle:n≤y) (c:BoundsCode) (w:World):(Instr.sliceBound x y c).run P w=.ok n w:=by
 subst hx;have h1:(0:Int)≤(n:Int)∧(n:Int)≤(y:Int):=by omega
 simp only [Instr.sliceBound,asIntOf,Sem.run_bind,Sem.run_pure,Result.andThen,h1,and_self,if_true];simp
theorem mu {lo hi mx:Option Operand}{a:Act}{l h m len cap':Nat} (isS:Bool) (hl:RL lo a l 0) (hh:RL hi a h len) (hm:(mx=none∧m=cap')∨∃y k,mx=some y∧a.eval y=.int k (m:Int)) (hhi:mx=none∨hi≠none) (h1:l≤h) (h2:h≤m) (h3:m≤cap') (w:World) :
  (Instr.sliceBounds isS len cap' (lo.map a.eval) (hi.map a.eval) (mx.map a.eval)).run P w=.ok (l,h,m) w:=by
 rcases hm with ⟨rfl,rfl⟩ | ⟨y,k,rfl,hy⟩
 ·rcases hh with ⟨rfl,rfl⟩ | ⟨y2,k2,rfl,hy2⟩
  ·rcases hl with ⟨rfl,rfl⟩ | ⟨y3,k3,rfl,hy3⟩
   ·rfl
   ·simp [Instr.sliceBounds,Result.andThen,gX hy3 h1]
  ·rcases hl with ⟨rfl,rfl⟩ | ⟨y3,k3,rfl,hy3⟩
   ·simp [Instr.sliceBounds,Result.andThen,gX hy2 h2]
   ·simp [Instr.sliceBounds,Sem.run_bind,Result.andThen,gX hy2 h2,gX hy3 h1]
 ·rcases hh with ⟨rfl,rfl⟩ | ⟨y2,k2,rfl,hy2⟩
  ·exact absurd rfl (hhi.resolve_left (by simp))
  ·rcases hl with ⟨rfl,rfl⟩ | ⟨y3,k3,rfl,hy3⟩
   ·simp [Instr.sliceBounds,Sem.run_bind,Result.andThen,gX hy h3,gX hy2 h2]
   ·simp [Instr.sliceBounds,Sem.run_bind,Result.andThen,gX hy h3,gX hy2 h2,gX hy3 h1]
theorem OH {b n c:Nat} (h:te P A b n=some c):(∃cells e st,A.heap.get b=some (.row cells e c st true))∧∀{φ:dI}{T:Nat→Prop}{w:World},je P φ T A w→T c→∀{i:ua},φ b=some i→i.es=n:=by
 unfold te at h;split at h
 ·rename_i cells e c' st hb;split at h
  ·rename_i m hm;obtain⟨_,_,_,h3⟩:=rP hm;obtain⟨h1,h2⟩:=aI h;injection h2 with h2;subst h2;refine⟨⟨_,_,_,hb⟩,fun hr hT i hφ=>?_⟩;obtain⟨j,_,_,_,e1,_,_,_,e5,_⟩:=hr.cells hb hT;obtain rfl:j=i:=by rw [hφ] at e1; injection e1 with e1; exact e1.symm
   rw [e5,h3];exact Nat.eq_of_beq_eq_true h1
  ·cases h
 ·cases h
theorem Bh (hi:cT A) (t:TypeId) (x:Operand) (lo hi' mx:Option Operand) (h:bQ P f ⟨d,.slice t x lo hi' mx,ty,pos,af,gd⟩ A=some (nx,A')):dp P f A ⟨d,.slice t x lo hi' mx,ty,pos,af,gd⟩ nx A':=by
 have hg:qm mx hi' (fy P f ⟨d,.slice t x lo hi' mx,ty,pos,af,gd⟩ t (f.eval x) lo hi' mx A)=some (nx,A'):=h;have hmx:mx=none∨hi'≠none:=by
  cases mx with
  | none=>exact .inl rfl
  | some m=>
   cases hi' with
   | none=>cases (show (none:iG)=some (nx,A') from hg)
   | some _=>exact .inr (fun hh=>by cases hh)
 have h':fy P f ⟨d,.slice t x lo hi' mx,ty,pos,af,gd⟩ t (f.eval x) lo hi' mx A=some (nx,A'):=by cases mx<;>cases hi'<;>first | exact hg | cases hg
 unfold fy at h';split at h'
 ·rename_i b off len cap hx;split at h'
  ·rename_i e hu;split at h'
   ·rename_i l hh m n el eh em hn;have key:(∃cc,te P A b n=some cc∧mC b off l hh m cap n (cE A cc)=some (nx,A'))∨(∃y,mx=some y∧∃cc,te P A b n=some cc∧sliceX b off l hh m cap n (cE A cc)=some (nx,A')):=by
     cases mx with
     | none=>
      have h2:sliceAt P b off l hh m cap n A=some (nx,A'):=h';unfold sliceAt at h2;split at h2
      ·rename_i cc hes; exact .inl ⟨cc,hes,h2⟩
      ·cases h2
     | some y=>
      have h2:kj P b off l hh m cap n A=some (nx,A'):=h';unfold kj at h2;split at h2
      ·rename_i cc hes;rcases iv h2 with ⟨_,h3⟩ | ⟨_,h3⟩
       ·exact .inl ⟨cc,hes,h3⟩
       ·exact .inr ⟨y,rfl,cc,hes,h3⟩
      ·cases h2
    clear h';rcases key with ⟨cc,hes,h'⟩ | ⟨yy,hyy,cc,hes,h'⟩
    case inr=>
     obtain⟨⟨_,_,_,hrow⟩,_⟩:=OH hes;have hcn:=(hi.lt _ _ hrow).2;unfold sliceX at h';obtain⟨hc,h1⟩:=aI h';simp only [Bool.and_eq_true] at hc;have c1:=Nat.le_of_ble_eq_true hc.1;have c2:=Nat.eq_of_beq_eq_true hc.2.1;have c3:=Nat.le_of_ble_eq_true hc.2.2;injection h1 with h1;injection h1 with h2 h3;subst h2;subst h3;refine⟨iZ hi hcn,fun φ T w a hf hrel hT _=>⟨φ,w,.refl hrel (by rw [aH]) (by rw [aH]) (by rw [aH]) rfl rfl rfl rfl,?_⟩⟩;have hp:=hf.eval hx;have r1:=eM hf el;have r2:=eM hf eh;have r3:=eM hf em;generalize hq:a.eval x=q at hp;cases hp with
     | slice _ _ _ _ cap' a' j hφ hl hcp ha hr=>
      have hm1:(mx=none∧m=cap')∨∃y k,mx=some y∧a.eval y=.int k (m:Int):=by
       rcases r3 with ⟨r3,_⟩ | ⟨y,k,e1,e2⟩
       ·rw [hyy] at r3; cases r3
       ·exact .inr ⟨y,k,e1,e2⟩
      have hb:=mu (P:=P) true r1 r2 hm1 hmx c1 (by omega:hh≤m) (by omega:m≤cap') w;have e:(execOp a.eval ⟨d,.slice t x lo hi' mx,ty,pos,af,gd⟩).run P w=.ok (.value (.slice (if m=l then some a' else some (a'.add (l * n))) (hh - l) (m - l))) w:=by
       refine ez ?_;rw [hq];simp only [Instr.sliceAt,Instr.slice,Sem.run_bind,run_underlying hu,Result.andThen,hb,fS hn];rfl
      rw [e];have hml':m - l=hh - l:=by omega
      rw [hml'];by_cases hml:m=l
      ·rw [if_pos hml];exact .val _ _ (.sliceX _ _ _ _ j hφ (.inl (by show hh - l=0; omega)))
      ·rw [if_neg hml];refine .val _ _ (.sliceX _ _ _ _ j hφ (.inr ?_));have ha':a'=⟨j.blk,j.sh + off,none⟩:=ha.resolve_left (by omega);rw [ha',fA,Nat.add_assoc];rfl
    obtain⟨⟨_,_,_,hrow⟩,hes⟩:=OH hes;have hcn:=(hi.lt _ _ hrow).2;unfold mC at h';obtain⟨hc,h1⟩:=aI h';simp only [Bool.and_eq_true] at hc;have c1:=Nat.le_of_ble_eq_true hc.1;have c2:=Nat.le_of_ble_eq_true hc.2.1;have c3:=Nat.le_of_ble_eq_true hc.2.2;injection h1 with h1;injection h1 with h2 h3;subst h2;subst h3;refine⟨iZ hi hcn,fun φ T w a hf hrel hT _=>⟨φ,w,.refl hrel (by rw [aH]) (by rw [aH]) (by rw [aH]) rfl rfl rfl rfl,?_⟩⟩;have hTc:T cc:=hT cc hcn (.inl (by rw [aH,dC]; simp));have hp:=hf.eval hx;have r1:=eM hf el;have r2:=eM hf eh;have r3:=eM hf em;generalize hq:a.eval x=q at hp;cases hp with
    | slice _ _ _ _ cap' a' j hφ hl hcp ha hr=>
     obtain⟨m',hm1,hm2,hm3⟩ : ∃m',((mx=none∧m'=cap')∨∃y k,mx=some y∧a.eval y=.int k (m':Int))∧m≤m'∧m'≤cap':=by
      rcases r3 with ⟨rfl,rfl⟩ | ⟨y,k,rfl,hy⟩
      ·exact⟨cap',.inl ⟨rfl,rfl⟩,hcp,Nat.le_refl _⟩
      ·exact⟨m,.inr ⟨y,k,rfl,hy⟩,Nat.le_refl _,by omega⟩
     have hb:=mu (P:=P) true r1 r2 hm1 hmx c1 (by omega:hh≤m') hm3 w;have e:(execOp a.eval ⟨d,.slice t x lo hi' mx,ty,pos,af,gd⟩).run P w=.ok (.value (.slice (if m'=l then some a' else some (a'.add (l * n))) (hh - l) (m' - l))) w:=by
      refine ez ?_;rw [hq];simp only [Instr.sliceAt,Instr.slice,Sem.run_bind,run_underlying hu,Result.andThen,hb,fS hn];rfl
     rw [e];have hmul:off + l * n + (m' - l) * j.es≤j.sz:=by
      have hjn:=hes hrel hTc hφ;rw [hjn] at hr ⊢;rw [Nat.add_assoc,← Nat.add_mul,Nat.add_sub_cancel' (by omega:l≤m')];exact Nat.le_trans (Nat.add_le_add_left (Nat.mul_le_mul_right _ hm3) _) hr
     by_cases hml:m'=l
     ·rw [if_pos hml];exact .val _ _ (.slice _ _ _ _ _ _ j hφ (show hh - l≤m - l by omega) (show m - l≤m' - l by omega) (.inl (by omega)) hmul)
     ·rw [if_neg hml];refine .val _ _ (.slice _ _ _ _ _ _ j hφ (show hh - l≤m - l by omega) (show m - l≤m' - l by omega) (.inr ?_) hmul);have ha':a'=⟨j.blk,j.sh + off,none⟩:=ha.resolve_left (by omega);rw [ha',fA,Nat.add_assoc];rfl
   ·cases h'
  ·cases h'
 ·rename_i hx;split at h'
  ·rename_i e hu el eh em;split at h'
   ·rename_i n hn;injection h' with h';injection h' with h2 h3;subst h2;subst h3;refine bB hi fun φ w a hf=>?_;have hp:=hf.eval hx;have r1:=eM hf el;have r2:=eM hf eh;have r3:=eM hf em;generalize hq:a.eval x=q at hp;cases hp;have hb:=mu (P:=P) true r1 r2 r3 hmx (Nat.le_refl _) (Nat.le_refl _) (Nat.le_refl _) w;have e:(execOp a.eval ⟨d,.slice t x lo hi' mx,ty,pos,af,gd⟩).run P w=.ok (.value (.slice none 0 0)) w:=by
     refine ez ?_;rw [hq];simp only [Instr.sliceAt,Instr.slice,Sem.run_bind,run_underlying hu,Result.andThen,hb,fS hn];rfl
    rw [e];exact .val _ _ .nilSlice
   ·cases h'
  ·exact fk hi _ (by intro _ _ hh; cases hh) h'
 ·rename_i s hx;split at h'
  ·rename_i hu;split at h'
   ·rename_i l hh el eh;unfold qZ at h';obtain⟨hc,h1⟩:=aI h';rw [cA] at h1;simp only [Bool.and_eq_true] at hc;have c1:=Nat.le_of_ble_eq_true hc.1;have c2:=Nat.le_of_ble_eq_true hc.2;injection h1 with h1;injection h1 with h2 h3;subst h2;subst h3;refine bB hi fun φ w a hf=>?_;have hp:=hf.eval hx;have r1:=eM hf el;have r2:=eM hf eh;generalize hq:a.eval x=q at hp;cases hp;have hsz:s.size=s.data.toList.length:=Array.length_toList.symm;have hb:=mu (P:=P) (mx:=none) (cap':=s.size) (m:=s.size) false r1 r2 (.inl ⟨rfl,rfl⟩) (.inl rfl) c1 (by omega) (Nat.le_refl _) w;rw [← hsz] at hb;have e:(execOp a.eval ⟨d,.slice t x lo hi' none,ty,pos,af,gd⟩).run P w=.ok (.value (.string (s.extract l hh))) w:=by
     refine ez ?_;rw [hq];have hb':(Instr.sliceBounds false s.size s.size (lo.map a.eval) (hi'.map a.eval) none).run P w=.ok (l,hh,s.size) w:=hb;simp only [Instr.sliceAt,Instr.slice,Sem.run_bind,run_underlying hu,Result.andThen];simp [hb',Result.andThen]
    rw [e];have he:s.extract l hh=⟨⟨(s.data.toList.drop l).take (hh - l)⟩⟩:=by
     apply ByteArray.ext;rw [ByteArray.data_extract];apply Array.ext';simp [List.extract_eq_take_drop]
    rw [he];exact .val _ _ (.string _)
   ·cases h'
  ·cases h'
 ·exact fk hi _ (by intro _ _ hh; cases hh) h'
end
theorem tj:∀(l r:List UInt8),uh l r=(l == r):=by
 intro l
 induction l with
 | nil=>intro r; cases r<;>rfl
 | cons a l ih=>
  intro r;cases r with
  | nil=>rfl
  | cons b r=>
   show (Bool.rec false (uh l r) (Nat.beq a.toNat b.toNat):Bool)=_;rw [ih r];by_cases hab:a=b
   ·subst hab;rw [Nat.beq_refl];show (l == r)=(a :: l == a :: r)
    simp
   ·have:Nat.beq a.toNat b.toNat=false:=by
     cases hq:Nat.beq a.toNat b.toNat with
     | false=>rfl
     | true=>exact absurd (UInt8.toNat_inj.1 (Nat.eq_of_beq_eq_true hq)) hab
    rw [this];show false=(a :: l == b :: r)
    simp [hab]
theorem nB (b:Bool):ri b=some (.bool b):=by cases b<;>rfl
theorem LL (a b:Nat):((a:Int) == (b:Int))=Nat.beq a b:=by
 cases h:Nat.beq a b with
 | true=>rw [Nat.eq_of_beq_eq_true h]; simp
 | false=>
  have:a≠b:=fun e=>by subst e; rw [Nat.beq_refl] at h; cases h
  simp; omega
theorem EF (a b:Nat):decide ((a:Int)≤(b:Int))=Nat.ble a b:=by
 cases h:Nat.ble a b with
 | true=>have:=Nat.le_of_ble_eq_true h; simp; omega
 | false=>
  have:¬ a≤b:=fun e=>by rw [Nat.ble_eq_true_of_le e] at h; cases h
  simp; omega
theorem Lh (a b:Nat):decide ((a:Int) < (b:Int))=Nat.ble (Nat.succ a) b:=by
 rw [← EF]; exact decide_eq_decide.2 (by omega)
theorem Co {op:BinOp}{a b:Nat}{v:Value} (h:kV op a b=some v):∀(P:Program) (w:World),(Op.intCmp op (a:Int) (b:Int)).run P w=.ok v w∧op≠.shl∧op≠.shr∧op≠.add∧op≠.sub∧op≠.mul∧op≠.quo∧op≠.rem∧op≠.and∧op≠.or∧op≠.xor∧op≠.andNot:=by
 intro P w;unfold kV at h;split at h
 all_goals first | (cases h; done) | skip
 all_goals
  rw [nB] at h;injection h with h;subst h;refine⟨?_,by decide⟩;simp only [Op.intCmp,Sem.run_pure,gt_iff_lt,ge_iff_le,bne,LL,EF,Lh]
theorem Cu {op:BinOp}{x y v:Value} (h:ui op x y=some v) (P:Program) (t:TypeId) (xo yo:Operand) (w:World):(do eqGuard op t xo yo x y; binOp op t x y:Sem Value).run P w=.ok v w:=by
 have hguard:∀(k k':IntKind) (a b:Int),(eqGuard op t xo yo (.int k a) (.int k' b)).run P w=.ok () w:=by
  intro k k' a b;unfold eqGuard;cases op<;>rfl
 have hguards:∀(a b:ByteArray),(eqGuard op t xo yo (.string a) (.string b)).run P w=.ok () w:=by
  intro a b;unfold eqGuard;cases op<;>rfl
 have hcmp:∀(k:IntKind) (a b:Nat),kV op a b=some v→(do eqGuard op t xo yo (.int k (a:Int)) (.int k (b:Int)); binOp op t (.int k (a:Int)) (.int k (b:Int)):Sem Value).run P w=.ok v w:=by
  intro k a b hc;obtain⟨h1,h2⟩:=Co hc P w;rw [Sem.run_bind,hguard];simp only [Result.andThen];obtain⟨n1,n2,n3,n4,n5,n6,n7,n8,n9,n10,n11⟩:=h2;have:binOp op t (.int k (a:Int)) (.int k (b:Int))=Op.intCmp op (a:Int) (b:Int):=by
   cases op<;>first | (simp [binOp]; done) | contradiction
  rw [this];exact h1
 unfold ui at h;split at h
 ·rename_i k a;split at h
  ·rename_i k' b;unfold ur at h;split at h
   ·split at h
    ·unfold yU at h;split at h
     ·unfold yk at h;rw [ci] at h;obtain⟨h1,h2⟩:=aI h;injection h2 with h2;subst h2;have:=Nat.le_of_ble_eq_true h1;rw [Sem.run_bind,hguard];simp only [Result.andThen];show (binOp .add t (.int .i64 ((a:Nat):Int)) (.int .i64 ((b:Nat):Int))).run P w=.ok (.int .i64 ((Nat.add a b:Nat):Int)) w;have hw:IntKind.i64.wrap ((a:Int) + (b:Int))=((Nat.add a b:Nat):Int):=by
       rw [IntWalk.i64_in _ (by have:Nat.add a b=a + b:=rfl; omega)]; rfl
      simp [binOp,Op.intArith,hw]
     ·unfold zY at h;obtain⟨h1,h2⟩:=aI h;rw [ci] at h2;obtain⟨h3,h2⟩:=aI h2;injection h2 with h2;subst h2;have h4:=Nat.le_of_ble_eq_true h1;have h5:=Nat.le_of_ble_eq_true h3;rw [Sem.run_bind,hguard];simp only [Result.andThen];show (binOp .sub t (.int .i64 ((a:Nat):Int)) (.int .i64 ((b:Nat):Int))).run P w=.ok (.int .i64 ((Nat.sub a b:Nat):Int)) w;have hs:Nat.sub a b=a - b:=rfl;have hw:IntKind.i64.wrap ((a:Int) - (b:Int))=((Nat.sub a b:Nat):Int):=by
       rw [IntWalk.i64_in _ (by omega)]; omega
      simp [binOp,Op.intArith,hw]
     ·exact hcmp _ _ _ h
    ·cases h
   ·split at h
    ·exact hcmp _ _ _ h
    ·cases h
   ·split at h
    ·exact hcmp _ _ _ h
    ·cases h
   ·cases h
  ·cases h
 ·rename_i a;split at h
  ·rename_i b;unfold ze at h;split at h
   ·rw [nB,tj] at h;injection h with h;subst h;rw [Sem.run_bind,hguards];simp [Result.andThen,binOp,Op.stringOp,ByteArray.toList_eq]
   ·rw [nB,tj] at h;injection h with h;subst h;rw [Sem.run_bind,hguards];simp [Result.andThen,binOp,Op.stringOp,ByteArray.toList_eq]
   ·cases h
  ·cases h
 ·cases h
theorem Ai {op:BinOp}{x y:Value}{t:TypeId}{xo yo:Operand}{P:Program}{w:World}{b:Bool} (hg:(eqGuard op t xo yo x y).run P w=.ok () w) (he:(Op.equal t x y).run P w=.ok b w)
  (hx:∀k n,x≠.int k n) (hf:∀k n,x≠.float k n) (hc:∀k a b,x≠.complex k a b) (hs:∀s,x≠.string s) :
  (op=.eql→(do eqGuard op t xo yo x y; binOp op t x y:Sem Value).run P w=.ok (.bool b) w)∧(op=.neq→(do eqGuard op t xo yo x y; binOp op t x y:Sem Value).run P w=.ok (.bool (!b)) w):=by
 constructor
 ·rintro rfl;rw [Sem.run_bind,hg];simp only [Result.andThen];have:binOp .eql t x y=(do pure (.bool (← Op.equal t x y)):Sem Value):=by
   cases x<;>first | rfl | exact absurd rfl (hx _ _) | exact absurd rfl (hf _ _) | exact absurd rfl (hc _ _ _) | exact absurd rfl (hs _)
  rw [this,Sem.run_bind,he];rfl
 ·rintro rfl;rw [Sem.run_bind,hg];simp only [Result.andThen];have:binOp .neq t x y=(do pure (.bool (!(← Op.equal t x y))):Sem Value):=by
   cases x<;>first | rfl | exact absurd rfl (hx _ _) | exact absurd rfl (hf _ _) | exact absurd rfl (hc _ _ _) | exact absurd rfl (hs _)
  rw [this,Sem.run_bind,he];rfl
theorem wN {P:Program}{t e:TypeId} (hu:P.underlying t=some (.pointer e)) (a:Addr) (w:World) (n:Nat):(Op.equalIn (n + 1) t (.pointer (some a)) (.pointer none)).run P w=.ok false w:=by
 rw [Op.equalIn,Sem.run_bind,run_underlying hu];rfl
theorem tG {P:Program}{t u:TypeId}{m:Array (String × TypeId)}{v:Value} (hu:P.underlying t=some (.interface m)) (w:World) (n:Nat):(Op.equalIn (n + 1) t (.iface u v) .nilIface).run P w=.ok false w:=by
 rw [Op.equalIn,Sem.run_bind,run_underlying hu];rfl
theorem mK {P:Program}{t e:TypeId} (hu:P.underlying t=some (.slice e)) (a:Addr) (l c l' c':Nat) (w:World) (n:Nat):(Op.equalIn (n + 1) t (.slice (some a) l c) (.slice none l' c')).run P w=.ok false w:=by
 rw [Op.equalIn,Sem.run_bind,run_underlying hu];rfl
theorem vm {P:Program}{t e m:TypeId} (hu:P.underlying t=some (.pointer e)) (hs:dM P e=some (m + 1)) (g o1 o2:Nat) (w:World) (n:Nat):(Op.equalIn (n + 1) t (.pointer (some ⟨g,o1,none⟩)) (.pointer (some ⟨g,o2,none⟩))).run P w=.ok (Nat.beq o1 o2) w:=by
 have hbq:(({ block:=g,off:=o1 } : Addr) == { block:=g,off:=o2 })=Nat.beq o1 o2:=by
  cases hz:Nat.beq o1 o2 with
  | true=>rw [Nat.eq_of_beq_eq_true hz]; simp
  | false=>
   have:o1≠o2:=fun e=>by subst e; rw [Nat.beq_refl] at hz; cases hz
   rw [beq_eq_false_iff_ne];intro hh;injection hh with _ hh;omega
 rw [Op.equalIn,Sem.run_bind,run_underlying hu];simp only [Result.andThen,Sem.run_bind,fS hs];simp [sameAddr,hbq]
section
variable {P:Program}{f:Fr}{A A':AS}{nx:dX}{d:Option Tmp}{ty:TypeId}{pos:String}{af:Array Edge}{gd:Option (Nat × Bool)}
theorem oN (hi:cT A) {op:BinOp}{t u:TypeId}{x y:Operand}{b:Bool} (h:AO op b A=some (nx,A'))
  (hrun:∀(φ:dI) (w:World) (a:Act),fe φ f a→(eqGuard op t x y (a.eval x) (a.eval y)).run P w=.ok () w∧(Op.equal t (a.eval x) (a.eval y)).run P w=.ok b w∧(∀k n,a.eval x≠.int k n)∧(∀k n,a.eval x≠.float k n)∧(∀k n m,a.eval x≠.complex k n m)∧(∀s,a.eval x≠.string s)) :
  dp P f A ⟨d,.binOp op t x y u,ty,pos,af,gd⟩ nx A':=by
 unfold AO at h;split at h
 ·injection h with h;injection h with h1 h2;subst h1;subst h2;refine bB hi fun φ w a hf=>?_;obtain⟨g1,g2,g3,g4,g5,g6⟩:=hrun φ w a hf;have e:(execOp a.eval ⟨d,.binOp .eql t x y u,ty,pos,af,gd⟩).run P w=.ok (.value (.bool b)) w:=ez ((Ai g1 g2 g3 g4 g5 g6).1 rfl);rw [e];exact .val _ _ (.bool _)
 ·injection h with h;injection h with h1 h2;subst h1;subst h2;refine bB hi fun φ w a hf=>?_;obtain⟨g1,g2,g3,g4,g5,g6⟩:=hrun φ w a hf;have e:(execOp a.eval ⟨d,.binOp .neq t x y u,ty,pos,af,gd⟩).run P w=.ok (.value (.bool (!b))) w:=ez ((Ai g1 g2 g3 g4 g5 g6).2 rfl);rw [e];exact .val _ _ (.bool _)
 ·cases h
theorem Hf (hi:cT A) (op:BinOp) (t u:TypeId) (x y:Operand) (h:bQ P f ⟨d,.binOp op t x y u,ty,pos,af,gd⟩ A=some (nx,A')):dp P f A ⟨d,.binOp op t x y u,ty,pos,af,gd⟩ nx A':=by
 have h':GU P f ⟨d,.binOp op t x y u,ty,pos,af,gd⟩ op t (f.eval x) (f.eval y) A=some (nx,A'):=h;unfold GU at h';split at h'
 ·rename_i va hx;split at h'
  ·rename_i vb hy;split at h'
   ·rename_i v hv;injection h' with h';injection h' with h1 h2;subst h1;subst h2;refine bB hi fun φ w a hf=>?_;have hpx:=hf.eval hx;have hpy:=hf.eval hy;have hk:=Cu hv P t x y w;have ex:a.eval x=va∧a.eval y=vb∧eR φ v v:=by
     unfold ui at hv;split at hv
     ·split at hv
      ·generalize a.eval x=q at hpx ⊢;generalize a.eval y=q2 at hpy ⊢;cases hpx;cases hpy;refine⟨rfl,rfl,?_⟩;unfold ur at hv;have hcv:∀{o:BinOp}{m n:Nat},kV o m n=some v→eR φ v v:=by
        intro o m n hh;unfold kV at hh;split at hh
        all_goals first | (cases hh; done) | (rw [nB] at hh; injection hh with hh; subst hh; exact .bool _)
       split at hv
       ·split at hv
        ·unfold yU at hv;split at hv
         ·unfold yk at hv;rw [ci] at hv;obtain⟨_,hv⟩:=aI hv;injection hv with hv;subst hv;exact .int _ _
         ·unfold zY at hv;obtain⟨_,hv⟩:=aI hv;rw [ci] at hv;obtain⟨_,hv⟩:=aI hv;injection hv with hv;subst hv;exact .int _ _
         ·exact hcv hv
        ·cases hv
       ·split at hv
        ·exact hcv hv
        ·cases hv
       ·split at hv
        ·exact hcv hv
        ·cases hv
       ·cases hv
      ·cases hv
     ·split at hv
      ·generalize a.eval x=q at hpx ⊢;generalize a.eval y=q2 at hpy ⊢;cases hpx;cases hpy;refine⟨rfl,rfl,?_⟩;unfold ze at hv;split at hv
       all_goals first | (cases hv; done) | (rw [nB] at hv; injection hv with hv; subst hv; exact .bool _)
      ·cases hv
     ·cases hv
    have e:(execOp a.eval ⟨d,.binOp op t x y u,ty,pos,af,gd⟩).run P w=.ok (.value v) w:=by
     refine ez ?_;rw [ex.1,ex.2.1];exact hk
    rw [e];exact .val _ _ ex.2.2
   ·unfold zB at h';split at h'
    ·rename_i p e hu hfb;refine oN hi h' fun φ w a hf=>?_;have hpx:=hf.eval hx;have hpy:=hf.eval hy;generalize hq:a.eval x=q at hpx;generalize hq2:a.eval y=q2 at hpy;cases hpy;cases hpx with
     | ptr bb oo i hφ=>
      refine⟨?_,?_,by intros; simp,by intros; simp,by intros; simp,by intros; simp⟩
      ·unfold eqGuard; cases op<;>rfl
      ·exact wN hu _ w 9999
    ·rename_i tt vv m hu hfb;refine oN hi h' fun φ w a hf=>?_;have hpx:=hf.eval hx;have hpy:=hf.eval hy;generalize hq:a.eval x=q at hpx;generalize hq2:a.eval y=q2 at hpy;cases hpy;cases hpx with
     | iface _ _ v' hvv=>
      refine⟨?_,?_,by intros; simp,by intros; simp,by intros; simp,by intros; simp⟩
      ·unfold eqGuard; cases op<;>rfl
      ·exact tG hu w 9999
    ·rename_i p l1 c1 l2 c2 e hu hfb;refine oN hi h' fun φ w a hf=>?_;have hpx:=hf.eval hx;have hpy:=hf.eval hy;generalize hq:a.eval x=q at hpx;generalize hq2:a.eval y=q2 at hpy;cases hpy;cases hpx with
     | slice _ _ _ _ cap' a' j hφ hl hc ha hr=>
      refine⟨?_,?_,by intros; simp,by intros; simp,by intros; simp,by intros; simp⟩
      ·unfold eqGuard; cases op<;>rfl
      ·exact mK hu _ _ _ _ _ w 9999
     | sliceX _ _ _ a' j hφ ha=>
      refine⟨?_,?_,by intros; simp,by intros; simp,by intros; simp,by intros; simp⟩
      ·unfold eqGuard; cases op<;>rfl
      ·exact mK hu _ _ _ _ _ w 9999
    ·rename_i b1 o1 b2 o2 e hu hfb;unfold yz at h';split at h'
     ·rename_i m hsz;obtain⟨hb,h1⟩:=aI h';have hb':b1=b2:=Nat.eq_of_beq_eq_true hb;subst hb';refine oN hi h1 fun φ w a hf=>?_;have hpx:=hf.eval hx;have hpy:=hf.eval hy;generalize hq:a.eval x=q at hpx;generalize hq2:a.eval y=q2 at hpy;cases hpx with
      | ptr _ _ i hφ=>
       cases hpy with
       | ptr _ _ i2 hφ2=>
        obtain rfl:i2=i:=by rw [hφ] at hφ2; injection hφ2 with hφ2; exact hφ2.symm
        refine⟨?_,?_,by intros; simp,by intros; simp,by intros; simp,by intros; simp⟩
        ·unfold eqGuard; cases op<;>rfl
        ·have he:=vm hu hsz i2.blk (i2.sh + o1) (i2.sh + o2) w 9999;have hb2:Nat.beq (i2.sh + o1) (i2.sh + o2)=Nat.beq o1 o2:=by
          cases hz:Nat.beq o1 o2 with
          | true=>rw [Nat.eq_of_beq_eq_true hz,Nat.beq_refl]
          | false=>
           cases hz2:Nat.beq (i2.sh + o1) (i2.sh + o2) with
           | false=>rfl
           | true=>
            have:=Nat.eq_of_beq_eq_true hz2;have h3:o1=o2:=by omega
            subst h3;rw [Nat.beq_refl] at hz;cases hz
         rw [hb2] at he;exact he
     ·cases h'
    ·exact fk hi _ (by intro _ _ hh; cases hh) h'
  ·cases h'
 ·cases h'
end
end Go.EvL
