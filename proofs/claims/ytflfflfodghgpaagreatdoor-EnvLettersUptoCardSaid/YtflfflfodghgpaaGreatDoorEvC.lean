/- An evaluator for closed calls, and its soundness. No statement is proved here. -/
import Derived.Test.YtflfflfodghgpaaGreatDoorEvB
import Derived.Laws.BytesArg
import Derived.Lib.Builder
import Derived.Lib.UnsafeStr
import Derived.Laws.MakeOwn
import Derived.Recover
import Derived.Below
import Derived.Maps.Own
import Derived.Sort.KeysCollected
set_option linter.unusedSimpArgs false
set_option linter.unusedVariables false
namespace Go.EvL
open Go
section
variable {P:Program}{f:Fr}{A A':AS}{nx:dC}{d:Option Tmp}{ty:TypeId}{pos:String}{af:Array Edge}{gd:Option (Nat × Bool)}
theorem wQ {φ:dz} : ∀{l l':List Value}{bs:List UInt8},fO l=some bs→bu φ l l'→∃ns:List Int,l'=ns.map (Value.int .u8)∧bs=ns.map fun n=>UInt8.ofNat n.toNat:=by
 intro l
 induction l with
 | nil=>intro l' bs h hv; cases hv; have h':some ([]:List UInt8)=some bs:=h; injection h' with h'; exact⟨[],rfl,h'.symm⟩
 | cons v l ih=>
  intro l' bs h hv;cases hv with
  | cons _ v' _ l' h1 hs=>
   have h':(match (generalizing:=false) v with | .int .u8 n=>(fO l).map (UInt8.ofNat n.toNat :: ·) | _=>none)=some bs:=h;split at h'
   ·rename_i n;cases hb:fO l with
    | none=>rw [hb] at h'; cases h'
    | some b0=>
     rw [hb] at h';have h':some (UInt8.ofNat n.toNat :: b0)=some bs:=h';injection h' with h';obtain⟨ns,e1,e2⟩:=ih hb hs;cases h1;exact⟨n :: ns,by rw [e1]; rfl,by rw [← h',e2]; rfl⟩
   ·cases h'
theorem BY {src dst e:TypeId} (hs:P.underlying src=some (.slice e)) (he:P.underlying e=some (.int .u8)) (hd:P.underlying dst=some .string) (a:Addr) (c:Nat) (w:World):(convert src dst (.slice (some a) 0 c)).run P w=.ok (.string ⟨#[]⟩) w:=by
 have hl:=run_loadCells_list (P:=P) w a [] (fun j v hj=>by simp at hj);rw [run_convert_bytes_string w src dst e _ 0 c hs he hd,run_bytesToString w a 0 c [] hl];rfl
theorem re {w:World}{b:Nat}{C:Array Value}{e:Nat}{fz:Nat × Nat} (h:w.heap[b]?=some (.cells C e fz)):w.shape? b=some (e,C.size):=by
 simp [World.shape?,h]
theorem vd {e:TypeId}{d count off:Nat}{p:TypeId→Bool} (h0:P.cellsOf e≠0) (hm:off % P.cellsOf e=0) (hc:off / P.cellsOf e < count) (hp:p e=true):rowAt P p (d + 1) e count off 1=true:=by
 unfold rowAt;rw [if_neg h0];simp only [hm,hp,Bool.or_eq_true,Bool.and_eq_true,decide_eq_true_eq];exact .inl ⟨⟨rfl,hc⟩,trivial⟩
theorem Ab {e:TypeId}{count off:Nat} (h0:P.cellsOf e≠0) (hm:off % P.cellsOf e=0) (hc:off / P.cellsOf e < count):liesAt P P.depth e count off e 1=true:=by
 have hd:P.depth=(2 * (P.types.size + Made.depth) + 1) + 1:=rfl;rw [hd];simp only [liesAt,Bool.or_eq_true];left;rw [hd];exact vd h0 hm hc (by simp [sameLayout])
theorem zZ {mB:TypeId→Bool}{d e count off:Nat}{fs:Array Field}{fl:Field} (h0:P.cellsOf e≠0) (hc:off / P.cellsOf e < count) (hu:P.underlying e=some (.struct fs)) (hst:P.stoodInHeld e=false) (hm:fl∈fs.toList) (ho:fl.offset=off % P.cellsOf e) (h1:P.cellsOf fl.type≠0) (hp:mB fl.type=true) :
  rowAt P mB (d + 1 + 1) e count off 1=true:=by
 rw [rowAt];simp only [h0,if_false,hu,hst,Bool.not_false,Bool.true_and,Bool.or_eq_true,Bool.and_eq_true,decide_eq_true_eq];refine .inr ⟨hc,?_⟩;rw [Array.any_eq_true'];refine⟨fl,by simpa using hm,?_⟩;rw [← ho,Nat.sub_self];simp only [Bool.and_eq_true,decide_eq_true_eq];refine⟨⟨Nat.le_refl _,by omega⟩,?_⟩;exact vd h1 (Nat.zero_mod _) (by rw [Nat.zero_div]; omega) hp
theorem Ak {e u off n len sh sz:Nat} (hn:P.cellsOf u=n + 1) (h:D5 P e u off n len=true) (hal:P.cellsOf e ∣ sh) (hl:sh + len≤sz):liesAt P P.depth e (sz / P.cellsOf e) (sh + off) u 1=true:=by
 unfold D5 at h;rcases (fP h).symm with ⟨hc,_⟩ | ⟨hc,h⟩
 ·simp only [Bool.and_eq_true] at hc;have q1:=Nat.eq_of_beq_eq_true hc.1;have q2:=Nat.eq_of_beq_eq_true hc.2.1;have q3:off + (n + 1)≤len:=Nat.le_of_ble_eq_true hc.2.2;subst q1;have hmod:(sh + off) % P.cellsOf e=0:=by
   rw [hn] at hal ⊢;obtain⟨y,hy⟩:=hal;rw [hy,Nat.mul_add_mod];exact q2
  have hdiv:(sh + off) / P.cellsOf e < sz / P.cellsOf e:=by
   rw [hn] at hmod ⊢;have hpos : 0 < n + 1:=by omega
   have h1:(sh + off) / (n + 1) + 1≤sz / (n + 1):=by
    rw [← Nat.add_div_right _ hpos];exact Nat.div_le_div_right (by omega)
   exact Nat.lt_of_succ_le h1
  exact Ab (by rw [hn]; omega) hmod hdiv
 ·unfold ED at h;split at h
  ·rename_i m hm;obtain⟨_,_,_,k3⟩:=ji hm;rw [Bool.and_eq_true] at h;obtain⟨h1,h2⟩:=h;have h2:(off / (m + 1) + 1) * (m + 1)≤len:=Nat.le_of_ble_eq_true h2;unfold Dy at h1;split at h1
   ·rename_i fs hu;rw [Bool.and_eq_true,List.any_eq_true] at h1;obtain⟨hst,fl,hfl,hf⟩:=h1;rw [Bool.and_eq_true] at hf;have f1:=Nat.eq_of_beq_eq_true hf.1;have f2:=Nat.eq_of_beq_eq_true hf.2;have hd:P.depth=(2 * (P.types.size + Made.depth)) + 1 + 1:=rfl;rw [hd];simp only [liesAt,Bool.or_eq_true];left;rw [hd];obtain⟨y,hy⟩:=hal;rw [k3] at hy;have hpos : 0 < m + 1:=by omega
    have hdv:(sh + off) / (m + 1)=y + off / (m + 1):=by rw [hy,Nat.mul_add_div hpos]
    have hmd:(sh + off) % (m + 1)=off % (m + 1):=by rw [hy,Nat.mul_add_mod]
    refine zZ (by rw [k3]; omega) ?_ hu (by simpa using hst) hfl ?_ (by rw [f2,hn]; omega) (by rw [f2]; simp [sameLayout])
    ·rw [k3,hdv];refine Nat.lt_of_succ_le ?_;rw [Nat.le_div_iff_mul_le hpos];generalize off / (m + 1)=qv at h2;have h3:Nat.succ (y + qv) * (m + 1)=(m + 1) * y + (qv + 1) * (m + 1):=by
      generalize m + 1=M;rw [Nat.succ_mul,Nat.add_mul,Nat.add_mul,Nat.one_mul,Nat.mul_comm y M,Nat.add_assoc]
     rw [h3,← hy];omega
    ·rw [k3,hmd];exact f1
   ·cases h1
  ·cases h
theorem H4 (hi:cE A) (src dst:TypeId) (x:Operand) (p:Option Addr) (hx:f.eval x=some (.pointer p)) (h:tA P f ⟨d,.convert src dst x,ty,pos,af,gd⟩ src dst p A=some (nx,A')):cJ P f A ⟨d,.convert src dst x,ty,pos,af,gd⟩ nx A':=by
 unfold tA at h;split at h
 ·rename_i b off;split at h
  ·rename_i t hs hd;unfold vT at h;split at h
   ·rename_i m hsz;split at h
    ·rename_i cells e c st hb;obtain⟨hlt,h⟩:=av h;injection h with h;injection h with h1 h2;subst h1;subst h2;have hcn:c < A.next:=(hi.lt _ _ hb).2;refine⟨gO hi hcn,fun φ T w a hf hr hT _=>⟨φ,w,.refl hr (by rw [ar]) (by rw [ar]) (by rw [ar]) rfl rfl rfl rfl,?_⟩⟩;have hTc:T c:=hT c hcn (.inl (by rw [ar,cN]; simp));have hv:=hf.eval hx;generalize hq:a.eval x=q at hv;cases hv with
     | ptr _ _ i hφ=>
      obtain⟨j,C,fz,e',e1,e2,e3,e4,e5,e6,e7,e8,e9,e10⟩:=hr.cells hb hTc;obtain rfl:i=j:=by rw [hφ] at e1; injection e1
      obtain⟨ti,k1,k2,k3⟩:=ji hsz;have hoff:=Nat.le_of_ble_eq_true hlt;have e:(execOp a.eval ⟨d,.convert src dst x,ty,pos,af,gd⟩).run P w=.ok (.value (.pointer (some ⟨i.blk,i.sh + off,none⟩))) w:=by
       refine dh ?_;rw [hq];exact Lib.run_to_unsafe w ⟨i.blk,i.sh + off,none⟩ hs hd k1 (by omega) (re e2) (by show i.sh + off < C.size; omega)
      rw [e];exact .val _ _ (.ptr _ _ _ hφ)
    ·cases h
   ·cases h
  ·rename_i u hs hd;unfold pD at h;split at h
   ·rename_i m hsz;split at h
    ·rename_i cells e c st hb;obtain⟨hlt,h0⟩:=av h;clear h;rw [Bool.and_eq_true] at hlt;have q4:=DC hlt.2;injection h0 with h0;injection h0 with h1 h2;subst h1;subst h2;have hcn:c < A.next:=(hi.lt _ _ hb).2;refine⟨gO hi hcn,fun φ T w a hf hr hT _=>⟨φ,w,.refl hr (by rw [ar]) (by rw [ar]) (by rw [ar]) rfl rfl rfl rfl,?_⟩⟩;have hTc:T c:=hT c hcn (.inl (by rw [ar,cN]; simp));have hv:=hf.eval hx;generalize hq:a.eval x=q at hv;cases hv with
     | ptr _ _ i hφ=>
      obtain⟨j,C,fz,e',e1,e2,e3,e4,e5,e6,e7,e8,e9,e10⟩:=hr.cells hb hTc;obtain rfl:i=j:=by rw [hφ] at e1; injection e1
      obtain⟨ti,k1,k2,k3⟩:=ji hsz;obtain⟨he',hal⟩:=e10.resolve_right q4;rw [he'] at e2;rw [e5] at hal;have e:(execOp a.eval ⟨d,.convert src dst x,ty,pos,af,gd⟩).run P w=.ok (.value (.pointer (some ⟨i.blk,i.sh + off,none⟩))) w:=by
       refine dh ?_;rw [hq];exact Lib.run_from_unsafe w ⟨i.blk,i.sh + off,none⟩ hs hd k1 (re e2) (Ak k3 hlt.1 hal e7)
      rw [e];exact .val _ _ (.ptr _ _ _ hφ)
    ·cases h
   ·cases h
  ·cases h
 ·exact dU hi _ (by intro _ _ hh; cases hh) h
theorem su (w:World) (p:Addr) (n:Nat):(w.freeze p n).heap.size=w.heap.size:=by
 unfold World.freeze;split
 ·rfl
 ·simp
theorem zM (hi:cE A) (hn:A.next≤A.next) {c:Nat} (hc:c < A.next) (k:Nat):mo A (qW (ci (ve A c k) c) c):=by
 have hf:jA c:=mB (by omega);rw [nM,ar,eO];refine⟨Nat.le_refl _,fun x hx=>by rw [cN,hx]; rfl,fun x hx=>by rw [cN,hx]; rfl,fun _ _ h _=>h,fun _ _ h _=>h,fun x hx=>?_,fun _ _=>rfl,fun x hx=>qb hx hc,fun x hx=>qb hx hc,⟨hi.lt,hi.mem,hi.memc,hi.root,hi.ml,hi.old,fun x y hx=>?_⟩⟩
 ·show (Tr.set k 40 A.fz c).get x=A.fz.get x;rw [Tr.get_set _ _ _ _ hf,if_neg];rintro rfl;rw [cN] at hx;simp at hx
 ·have hx':(Tr.set k 40 A.fz c).get x=some y:=hx;rw [Tr.get_set _ _ _ _ hf] at hx';split at hx'
  ·rename_i he; rw [he]; exact hc
  ·exact hi.fz _ _ hx'
theorem cm.freeze {φ:dz}{T:Nat→Prop}{w:World}{b:Nat}{cells:List Value}{e cls st off n k:Nat}{i:tg} (hi:cE A) (hn:A.next≤A.next) (h:iI P φ T A w) (hT:T cls) (hb:A.heap.get b=some (.row cells e cls st true)) (hφ:φ b=some i)
  (hk:∀h,A.fz.get cls=some h→h≤k) (hk2:st + off + n≤k):cm P φ T A (qW (ci (ve A cls k) cls) cls) w (w.freeze ⟨i.blk,i.sh + off,none⟩ n) φ:=by
 have hl:=(hi.lt _ _ hb).2;have hl':cls < A.next:=hl;have hf:jA cls:=mB (by omega);obtain⟨i',C,fz,e',e1,e2,e3,e4,e5,e6,e7,e8,e9,e10⟩:=h.cells hb hT;obtain rfl:i=i':=by rw [hφ] at e1; injection e1
 have hget:∀y,(w.freeze ⟨i.blk,i.sh + off,none⟩ n).heap[y]?=if y=i.blk∧n≠0 then some (.cells C e' (if fz.1 == fz.2 then (i.sh + off,i.sh + off + n) else (min fz.1 (i.sh + off),max fz.2 (i.sh + off + n)))) else w.heap[y]?:=by
  intro y;unfold World.freeze;by_cases h0:n=0
  ·simp [h0]
  ·rw [if_neg h0];show (w.heap.modify i.blk _)[y]?=_;rw [Array.getElem?_modify];by_cases hy:i.blk=y
   ·subst hy;rw [if_pos rfl,if_pos ⟨rfl,h0⟩,e2];rfl
   ·rw [if_neg hy,if_neg (fun hh=>hy hh.1.symm)]
 rw [nM,ar,eO];refine⟨fun _ _ h=>h,fun _ _=>rfl,⟨fun y j hy=>by rw [su]; exact h.blk _ _ hy,h.inj,fun y o hy hlv hTy=>?_,h.al,h.glob,h.root⟩,fun y j hy _=>⟨y,j,hy,rfl,rfl⟩,by rw [su]; exact Nat.le_refl _,fun y hy hw=>?_,?_,?_,?_⟩
 ·have hTy':T (cZ y o):=hTy.elim id fun hc=>by have:A.next≤cZ y o∧cZ y o < A.next:=hc; omega
  obtain⟨j,q,g1,g2,g3⟩:=h.obj y o hy hlv hTy';show ∃i' o',φ y=some i'∧_∧oL P φ ((Tr.set k 40 A.fz cls).get (cZ y o)) y i' o o';rw [Tr.get_set _ _ _ _ hf];by_cases hy':j.blk=i.blk∧n≠0
  ·obtain⟨hj1,hj2⟩:=hy';obtain⟨hc1,hc2⟩:=h.inj _ _ _ _ g1 hφ hj1;rw [hj1,e2] at g2;injection g2 with g2;subst g2;have hcy:cZ y o=cls:=by rw [← g3.cls,hc1,e3]
   rw [if_pos hcy];refine⟨j,_,g1,by rw [hget,if_pos ⟨hj1,hj2⟩],?_⟩;cases g3 with
   | row cells' _ c' st' _ _ q1 q2 q3 q4 q5 q6 q7 _ q8=>
    refine .row _ _ _ _ _ _ q1 q2 q3 q4 q5 q6 (.inr ⟨k,rfl,?_⟩) _ (q8.imp id (NS.mono fun h' hh=>⟨k,rfl,hk h' (by rw [← hcy]; exact hh)⟩));have hst:i.sh + off + n + st'≤k + j.sh:=by omega
    split
    ·exact hst
    ·rename_i hne;show max fz.2 (i.sh + off + n) + st'≤k + j.sh;rcases q7 with q7 | ⟨h',q7,q8⟩
     ·rw [q7] at hne; simp at hne
     ·have hcl:A.fz.get cls=some h':=by rw [← hcy]; exact q7
      have:=hk h' hcl;omega
  ·refine⟨j,q,g1,by rw [hget,if_neg hy']; exact g2,?_⟩;refine g3.mono (fun _ _ h=>h) fun h' hh=>?_;split
   ·rename_i hcy; rw [hcy] at hh; exact⟨k,rfl,hk h' hh⟩
   ·exact⟨h',hh,Nat.le_refl _⟩
 ·rw [hget,if_neg];rintro⟨rfl,_⟩;have:=hw b i hφ rfl;rw [e3] at this;have h2:(A.w ||| (1 <<< cls)).testBit cls=false:=this;rw [cN] at h2;simp at h2
 ·unfold World.freeze; split<;>rfl
 ·unfold World.freeze; split<;>rfl
 ·unfold World.freeze; split<;>rfl
theorem AV (w:World) {n:Nat} (old:Nat) (e:TypeId) (hn:n≤1073741824):n≤grownCap w n old e∧grownCap w n old e≤9223372036854775808:=by
 have h1:grownCap w n old e=n + w.tape w.drawn (.appendCap n old e) % (2 ^ 63 - n):=rfl;have h2:=Nat.mod_lt (w.tape w.drawn (.appendCap n old e)) (show 2 ^ 63 - n > 0 by omega);rw [h1];omega
theorem yp {src dst e:TypeId} (hs:P.underlying src=some .string) (hd:P.underlying dst=some (.slice e)) (he:P.underlying e=some (.int .u8)) (s:ByteArray) (hn:s.size≤1073741824) (w:World) :
  (convert src dst (.string s)).run P w=.ok (.slice (some ⟨w.heap.size,0,none⟩) s.size (grownCap w s.size 0 e)) ((w.drew.alloc (.cells ((s.data.map fun b=>Value.int .u8 b.toNat) ++ Array.replicate (grownCap w s.size 0 e - s.size) (.int .u8 0)) e)).freeze ⟨w.heap.size,grownCap w s.size 0 e,none⟩ 1):=by
 have hc:=(AV w 0 e hn).1;have hsz:((s.data.map fun b=>Value.int .u8 b.toNat) ++ Array.replicate (grownCap w s.size 0 e - s.size) (Value.int .u8 0)).size=grownCap w s.size 0 e:=by
  simp only [Array.size_append,Array.size_map,Array.size_replicate];have:s.data.size=s.size:=rfl;omega
 have e1:(choose (.appendCap s.size 0 e)).run P w=.ok (grownCap w s.size 0 e) w.drew:=rfl;have e2:∀cs,(Go.newRow e cs).run P w.drew=.ok ⟨w.heap.size,0,none⟩ (w.drew.alloc (.cells cs e)):=fun _=>rfl;have e3:∀(cs:Array Value) (n:Nat),cs.size=n→(markStringish ⟨w.heap.size,0,none⟩).run P (w.drew.alloc (.cells cs e))=.ok () ((w.drew.alloc (.cells cs e)).freeze ⟨w.heap.size,n,none⟩ 1):=fun cs n hcs=>by
  have hsh:(w.drew.alloc (.cells cs e)).shape? w.heap.size=some (e,n):=by rw [← hcs]; exact re (w:=w.drew.alloc (.cells cs e)) (lT (w:=w.drew))
  simp [markStringish,shape,freeze,Sem.run,hsh]
 simp only [convert,Sem.run_bind,run_underlying hs,run_underlying hd,run_underlying he,Result.andThen,Conv.stringToBytes,e1,e2,e3 _ _ hsz];rfl
theorem ur (hi:cE A) (hn:A'.next≤A'.next) (src dst e:TypeId) (x:Operand) (s:ByteArray) (hx:f.eval x=some (.string s)) (hs:P.underlying src=some .string) (hd:P.underlying dst=some (.slice e)) (he:P.underlying e=some (.int .u8)) (hsz:dp P e=some 1)
  (h:qF e s A=some (nx,A')):cJ P f A ⟨d,.convert src dst x,ty,pos,af,gd⟩ nx A':=by
 unfold qF at h;rw [bN] at h;obtain⟨hsm,h⟩:=av h;injection h with h;injection h with h1 h2;subst h1;obtain⟨ti,k1,k2,k3⟩:=ji hsz;have hlen:s.data.toList.length=s.size:=by simp
 have hsm:s.size≤1073741824:=by rw [← hlen]; exact Nat.le_of_ble_eq_true hsm
 have hnx:A'.next=A.next + 1:=by rw [← h2,eO,ar,nM,aV]
 subst h2;have hn':A.next + 1≤A.next + 1:=by rw [← hnx]; exact hn
 have fr1:=gk hi hn' (s.data.toList.map fun c=>Value.int .u8 (.ofNat c.toNat)) e;have fr2:=zM (c:=A.next) fr1.inv (by rw [aV]; exact hn') (by rw [aV]; omega) 18446744073709551616;refine⟨fr1.trans fr2,fun φ T w a hf hr hT hfr=>?_⟩;have hv:=hf.eval hx;generalize hq:a.eval x=q at hv;cases hv;have hrun:=yp hs hd he s hsm w;obtain⟨C,hCdef⟩ : ∃C,C=(s.data.map fun b=>Value.int .u8 b.toNat) ++ Array.replicate (grownCap w s.size 0 e - s.size) (Value.int .u8 0):=⟨_,rfl⟩
 rw [← hCdef] at hrun;obtain⟨g1,g2⟩:=AV w 0 e hsm;have hCs:C.size=grownCap w s.size 0 e:=by
  rw [hCdef];simp only [Array.size_append,Array.size_map,Array.size_replicate];have:s.data.size=s.size:=rfl;omega
 have hfr0:φ A.next=none:=hfr _ (Nat.le_refl _) (by rw [hnx]; omega);have hr':iI P φ T A w.drew:=hr.heap rfl rfl rfl;have htake:C.toList.take (s.data.toList.map fun c=>Value.int .u8 (.ofNat c.toNat)).length=s.data.toList.map fun c=>Value.int .u8 (.ofNat c.toNat):=by
  rw [hCdef,Array.toList_append,Array.toList_map,List.take_append_of_le_length (by simp)];rw [List.take_of_length_le (by simp)];rfl
 have hself:∀(l:List UInt8) (φ':dz),bu φ' (l.map fun c=>Value.int .u8 (.ofNat c.toNat)) (l.map fun c=>Value.int .u8 (.ofNat c.toNat)):=by
  intro l φ'
  induction l with
  | nil=>exact .nil
  | cons a l ih=>exact .cons _ _ _ _ (.int _ _) ih
 obtain⟨φ1,m1,m2⟩:=cm.new (P:=P) (T:=T) hi hn' hr' hfr0 (fun b=>.row (s.data.toList.map fun c=>Value.int .u8 (.ofNat c.toNat)) e b 0 true) rfl (.cells C e) 0 C.size (P.cellsOf e) 0 rfl (fun φ' _ _=>by
  refine .row _ _ _ _ _ (0,0) rfl rfl rfl (by simp) ?_ ?_ (.inl rfl) _ (.inl ⟨rfl,Nat.dvd_zero _⟩)
  ·show 0 + _≤C.size;rw [List.length_map,hCs,hlen]; omega
  ·show bu φ' _ ((C.toList.drop 0).take _);rw [List.drop_zero,htake];exact hself _ φ')
 have m2':cm P φ T A (newRow A (s.data.toList.map fun c=>Value.int .u8 (.ofNat c.toNat)) e) w (w.drew.alloc (.cells C e)) φ1:=by
  rw [eo];exact⟨m2.ext,m2.out,m2.rel,m2.img,m2.size,m2.same,m2.os,m2.tape,m2.output⟩
 have hrow:(newRow A (s.data.toList.map fun c=>Value.int .u8 (.ofNat c.toNat)) e).heap.get A.next=some (.row (s.data.toList.map fun c=>Value.int .u8 (.ofNat c.toNat)) e A.next 0 true):=by
  rw [eo,iS];show (Tr.set _ 40 A.heap A.next).get A.next=_;rw [Tr.get_set _ _ _ _ (mB (by omega)),if_pos rfl]
 have hfz:∀h',(newRow A (s.data.toList.map fun c=>Value.int .u8 (.ofNat c.toNat)) e).fz.get A.next=some h'→h'≤18446744073709551616:=fun h' hh=>by
  rw [eo,iS] at hh;have:=hi.fz _ _ (show A.fz.get A.next=some h' from hh);omega
 have m3:=cm.freeze (off:=C.size) (n:=1) fr1.inv (by rw [aV]; exact hn') m2'.rel (.inr ⟨Nat.le_refl _,by rw [aV]; omega⟩) hrow m1 hfz (by omega);have hpost:=m2'.trans fr1.next fr2 m3;rw [hCs] at hpost;refine⟨φ1,_,hpost,?_⟩;have ee:(execOp a.eval ⟨d,.convert src dst x,ty,pos,af,gd⟩).run P w=.ok (.value (.slice (some ⟨w.heap.size,0,none⟩) s.size (grownCap w s.size 0 e))) ((w.drew.alloc (.cells C e)).freeze ⟨w.heap.size,grownCap w s.size 0 e,none⟩ 1):=by
  refine dh ?_;rw [hq];exact hrun
 rw [ee,hlen];have hw:(w.drew.alloc (.cells C e)).freeze ⟨w.heap.size,0 + grownCap w s.size 0 e,none⟩ 1=(w.drew.alloc (.cells C e)).freeze ⟨w.heap.size,grownCap w s.size 0 e,none⟩ 1:=by rw [Nat.zero_add]
 show we φ1 ((w.drew.alloc (.cells C e)).freeze ⟨w.heap.size,0 + grownCap w s.size 0 e,none⟩ 1) _ _;rw [hw];refine .val _ _ (.slice _ _ _ _ _ _ _ m1 (Nat.le_refl _) g1 (.inr rfl) ?_);show 0 + grownCap w s.size 0 e * P.cellsOf e≤C.size;rw [k3,hCs];omega
theorem C7 (hi:cE A) (hn:A'.next≤A'.next) (src dst:TypeId) (x:Operand) (h:bG P f ⟨d,.convert src dst x,ty,pos,af,gd⟩ A=some (nx,A')):cJ P f A ⟨d,.convert src dst x,ty,pos,af,gd⟩ nx A':=by
 have h':wH P f ⟨d,.convert src dst x,ty,pos,af,gd⟩ src dst (f.eval x) A=some (nx,A'):=h;unfold wH at h';split at h'
 ·rename_i b off n c hx;split at h'
  ·rename_i e hs hd;split at h'
   ·rename_i he;cases n with
    | zero=>
     have h'':some (dC.val (.string ⟨#[]⟩),A)=some (nx,A'):=h';injection h'' with h'';injection h'' with h1 h2;subst h1;subst h2;refine aX hi fun φ w a hf=>?_;have hv:=hf.eval hx;generalize hq:a.eval x=q at hv;cases hv with
     | slice _ _ _ _ cap' a' i hφ hl hc ha hr=>
      have e:(execOp a.eval ⟨d,.convert src dst x,ty,pos,af,gd⟩).run P w=.ok (.value (.string ⟨#[]⟩)) w:=by
       refine dh ?_;rw [hq];exact BY hs he hd _ _ w
      rw [e];exact .val _ _ (.string _)
    | succ n=>
     have h'':(match ld A b off (n + 1) with
      | some (xs,s)=>(match fO xs with
       | some l=>gI l fun l=>some (dC.val (.string ⟨⟨l⟩⟩),s)
       | none=>none)
      | none=>none)=some (nx,A'):=h'
     split at h''
     ·rename_i xs s hld;split at h''
      ·rename_i l hbl;rw [bO] at h'';injection h'' with h'';injection h'' with h1 h2;subst h1;subst h2;refine⟨sI hi hld,fun φ T w a hf hr hT _=>?_⟩;have hv:=hf.eval hx;generalize hq:a.eval x=q at hv;cases hv with
       | slice _ _ _ _ cap' a' i hφ hl hc ha hrr=>
        obtain rfl:a'=⟨i.blk,i.sh + off,none⟩:=ha.resolve_left (by omega);obtain⟨xs',g1,g2,g3⟩:=mM hi hld hr hT hφ;refine⟨φ,w,g3,?_⟩;obtain⟨ns,k1,k2⟩:=wQ hbl g1;have hlen:ns.length=n + 1:=by
         obtain⟨_,_,_,_,_,_,q1,_⟩:=jF hld;have q2:=g1.length;rw [k1,List.length_map] at q2;omega
        subst k1;have hlc:=run_loadCells_list (P:=P) w ⟨i.blk,i.sh + off,none⟩ (ns.map (Value.int .u8)) g2;rw [List.length_map,hlen] at hlc;have e:(execOp a.eval ⟨d,.convert src dst x,ty,pos,af,gd⟩).run P w=.ok (.value (.string ⟨⟨l⟩⟩)) w:=by
         refine dh ?_;rw [hq];rw [run_convert_bytes_string w src dst e _ _ _ hs he hd,run_bytesToString w _ _ _ ns hlc,foldl_push_bytes,k2];simp [ByteArray.empty,ByteArray.emptyWithCapacity];rfl
        rw [e];exact .val _ _ (.string _)
      ·cases h''
     ·cases h''
   ·cases h'
  ·cases h'
 ·rename_i p hx;exact H4 hi src dst x p hx h'
 ·rename_i s hx;split at h'
  ·rename_i e hd;split at h'
   ·rename_i hs he hsz;exact ur hi hn src dst e x s hx hs hd he hsz h'
   ·cases h'
  ·exact dU hi _ (by intro _ _ hh; cases hh) h'
 ·exact dU hi _ (by intro _ _ hh; cases hh) h'
theorem CU (hi:cE A) (x:Operand) (tys:Array TypeId) (h:EG P f ⟨d,.call ⟨.builtin .unsafeSliceData,#[x],tys⟩,ty,pos,af,gd⟩ (f.eval x) A=some (nx,A')):cJ P f A ⟨d,.call ⟨.builtin .unsafeSliceData,#[x],tys⟩,ty,pos,af,gd⟩ nx A':=by
 unfold EG at h;split at h
 ·rename_i bb oo n c hx;injection h with h;injection h with h1 h2;subst h1;subst h2;refine aX hi fun φ w a hf=>?_;have hv:=hf.eval hx;generalize hq:a.eval x=q at hv;cases hv with
  | slice _ _ _ _ cap' a' i hφ hl hc ha hr=>
   obtain rfl:a'=⟨i.blk,i.sh + oo,none⟩:=ha.resolve_left (by omega);have e:(execOp a.eval ⟨d,.call ⟨.builtin .unsafeSliceData,#[x],tys⟩,ty,pos,af,gd⟩).run P w=.ok (.value (.pointer (some ⟨i.blk,i.sh + oo,none⟩))) w:=by
    refine dh ?_;have hc0:cap'≠0:=by omega
    have hm:(#[x].map a.eval) = #[a.eval x]:=by simp
    rw [hm,hq];cases cap' with
    | zero=>exact absurd rfl hc0
    | succ k=>rfl
   rw [e];exact .val _ _ (.ptr _ _ _ hφ)
 ·exact dU hi _ (by intro _ _ hh; cases hh) h
end
end Go.EvL
namespace Go.EvL
open Go
section
variable {P:Program}{f:Fr}{A A':AS}{nx:dC}{d:Option Tmp}{ty:TypeId}{pos:String}{af:Array Edge}{gd:Option (Nat × Bool)}
theorem rf (w:World):∀(l:List Int) (a:Addr) (acc:ByteArray),(∀j x,l[j]?=some x→w.cell? (a.add j)=some (.int .u8 x))→
  (loadBytes a acc l.length).run P w=.ok ⟨acc.data ++ (l.map fun n=>UInt8.ofNat n.toNat).toArray⟩ w
 | [],a,acc,_=>by simp [loadBytes]
 | x :: l,a,acc,h=>by
  have h0:w.cell? a=some (.int .u8 x):=by
   have:=h 0 x rfl;simpa [Addr.add] using this
  have ih:=rf w l (a.add 1) (acc.push (UInt8.ofNat x.toNat)) (fun j y hy=>by
   have:=h (j + 1) y (by simpa using hy);have e:(a.add 1).add j=a.add (j + 1):=by
    unfold Addr.add;by_cases hj:j=0
    ·subst hj; simp
    ·simp [hj]; omega
   rw [e]; exact this)
  simp only [List.length_cons,loadBytes,Sem.run_bind,run_load,h0,Result.andThen];refine Eq.trans ih ?_;congr 1;apply ByteArray.ext;simp [ByteArray.push]
theorem AQ {e:TypeId} (hc:P.cellsOf e=1) (count off n:Nat) (hn:off + n≤count):liesAt P P.depth e count off e n=true:=by
 have hd:P.depth=(2 * (P.types.size + Made.depth) + 1) + 1:=rfl;rw [hd];simp only [liesAt,Bool.or_eq_true];left;rw [hd];simp [rowAt,hc,hn,sameLayout,Nat.mod_one]
theorem HJ (w:World) (pt it ty e:TypeId) (hp:P.underlying pt=some (.pointer e)) (hc:P.cellsOf e=1) (g off cells:Nat) (hsh:w.shape? g=some (e,cells)) (l:List Int) (h0:l≠[]) (hn:off + l.length≤cells) (h63:l.length≤9223372036854775807)
  (hcell:∀j x,l[j]?=some x→w.cell? ((⟨g,off,none⟩ : Addr).add j)=some (.int .u8 x)) :
  (Builtin.unsafeString_ #[pt,it] ty #[.pointer (some ⟨g,off,none⟩),.int .i64 l.length]).run P w=.ok (.string ⟨(l.map fun n=>UInt8.ofNat n.toNat).toArray⟩) (w.freeze ⟨g,off,none⟩ l.length):=by
 have hl:l.length≠0:=by simpa using h0
 have hlb:=rf (P:=P) w l ⟨g,off,none⟩ .empty hcell;have hlies:=AQ (P:=P) hc (cells / P.cellsOf e) off l.length (by rw [hc]; simpa using hn);have h63':¬ (9223372036854775807:Int) < (l.length:Int):=by omega
 have hdef:Builtin.unsafeString_ #[pt,it] ty #[.pointer (some ⟨g,off,none⟩),.int .i64 l.length] =
   (do
    let n ← asInt (.int .i64 l.length)
    if n < 0 then runtimePanic (.error "unsafe.String: len out of range")
    if n > IntKind.i64.max then unsupported (.unsafePointer "String: a length above the largest int")
    if n=0 then pure (.string .empty)
    else if ← variablesAt ⟨g,off,none⟩ (← elemOf pt) n.toNat then do
     let s ← loadBytes ⟨g,off,none⟩ .empty n.toNat
     freeze ⟨g,off,none⟩ n.toNat
     pure (.string s)
    else unsupported (.unsafePointer "String: not so many bytes at ptr")):=rfl
 rw [hdef];have hmax:IntKind.i64.max=9223372036854775807:=rfl;have hneg:¬ (l.length:Int) < 0:=by omega
 simp [asInt,asIntOf,hmax,h63',hneg,hl,variablesAt,hsh,elemOf,run_underlying hp,hlies,hlb]
theorem Cr (hi:cE A) (hn:A'.next≤A'.next) (x y:Operand) (tys:Array TypeId) (h:Eg P f ⟨d,.call ⟨.builtin .unsafeString,#[x,y],tys⟩,ty,pos,af,gd⟩ tys.toList (f.eval x) (f.eval y) A=some (nx,A')) :
  cJ P f A ⟨d,.call ⟨.builtin .unsafeString,#[x,y],tys⟩,ty,pos,af,gd⟩ nx A':=by
 unfold Eg at h;split at h
 case h_2=>exact dU hi _ (by intro _ _ hh; cases hh) h
 rename_i b off n hx hy;unfold ym at h;split at h
 case h_2=>cases h
 rename_i cells e cls st pt it hb htys;split at h
 case h_2=>cases h
 rename_i e' hp hsz;obtain⟨hc,h0⟩:=av h;clear h;simp only [Bool.and_eq_true] at hc;have c1:=Nat.eq_of_beq_eq_true hc.1;have c2:=Nat.le_of_ble_eq_true hc.2.1;have hsmall:=DC hc.2.2;subst c1;unfold CN at h0;split at h0
 case h_2=>cases h0
 rename_i l hl;rw [bO] at h0;obtain⟨hlen,h3⟩:=av h0;clear h0;have hlen:=Nat.eq_of_beq_eq_true hlen;injection h3 with h3;injection h3 with h1 h2;subst h1;have hnx:A'.next=A.next:=by rw [← h2,eO,ar,nM]
 subst h2;have hcn:cls < A.next:=(hi.lt _ _ hb).2;have hle:A.next≤A.next:=by rw [← hnx]; exact hn
 have htys':tys = #[pt,it]:=by cases tys; cases htys; rfl
 refine⟨zM hi hle hcn _,fun φ T w a hf hr hT _=>?_⟩;have hTc:T cls:=hT cls hcn (.inl (by rw [eO,ar,cN]; simp));have hvx:=hf.eval hx;have hvy:=hf.eval hy;generalize hqx:a.eval x=qx at hvx;generalize hqy:a.eval y=qy at hvy;cases hvy;cases hvx with
 | ptr _ _ i hφ=>
  obtain⟨j,C,fz,e',e1,e2,e3,e4,e5,e6,e7,e8,e9,e10⟩:=hr.cells hb hTc;obtain⟨he',_⟩:=e10.resolve_right hsmall;rw [he'] at e2;obtain rfl:i=j:=by rw [hφ] at e1; injection e1
  obtain⟨ns,k1,k2⟩:=wQ hl ((e8.drop off).take (n + 1));obtain⟨_,_,_,q3⟩:=ji hsz;have hnl:ns.length=n + 1:=by rw [← hlen,k2,List.length_map]
  have hl1:ns.length=min (n + 1) (cells.length - off):=by
   have:=congrArg List.length k1;simp only [List.length_take,List.length_drop,List.length_map,Array.length_toList] at this;omega
  have hoff:off + (n + 1)≤cells.length:=by omega
  have hcell:∀jj xx,ns[jj]?=some xx→w.cell? ((⟨i.blk,i.sh + off,none⟩ : Addr).add jj)=some (.int .u8 xx):=by
   intro jj xx hjj;have hjl:jj < n + 1:=by
    rw [← hnl];exact (List.getElem?_eq_some_iff.1 hjj).1
   have h3:(((C.toList.drop i.sh).take cells.length).drop off).take (n + 1)=ns.map (Value.int .u8):=k1;have h4:((((C.toList.drop i.sh).take cells.length).drop off).take (n + 1))[jj]?=some (.int .u8 xx):=by rw [h3]; simp [hjj]
   rw [List.getElem?_take,if_pos hjl,List.getElem?_drop,List.getElem?_take,if_pos (by omega),List.getElem?_drop] at h4;rw [eK,Lib.cell_of_heap e2];rw [show i.sh + off + jj=i.sh + (off + jj) by omega];simpa using h4
  have hrun:=HJ w pt it ty e hp q3 i.blk (i.sh + off) C.size (re e2) ns (by intro hh; rw [hh] at hnl; simp at hnl) (by omega) (by omega) hcell;rw [hnl] at hrun;refine⟨φ,w.freeze ⟨i.blk,i.sh + off,none⟩ (n + 1),cm.freeze hi hle hr hTc hb hφ (fun h' hh=>by rw [hh]; exact Nat.le_max_left _ _) (Nat.le_max_right _ _),?_⟩;have e:(execOp a.eval ⟨d,.call ⟨.builtin .unsafeString,#[x,y],tys⟩,ty,pos,af,gd⟩).run P w=.ok (.value (.string ⟨(ns.map fun n=>UInt8.ofNat n.toNat).toArray⟩)) (w.freeze ⟨i.blk,i.sh + off,none⟩ (n + 1)):=by
   refine dh ?_;have hm:(#[x,y].map a.eval) = #[a.eval x,a.eval y]:=by simp
   rw [hm,hqx,hqy,htys'];exact hrun
  rw [e,← k2];exact .val _ _ (.string _)
theorem FL {φ:dz}{g:Nat→Value} (h:∀k,eT φ (g k) (g k)):∀l:List Nat,bu φ (l.map g) (l.map g):=by
 intro l
 induction l with
 | nil=>exact .nil
 | cons a l ih=>exact .cons _ _ _ _ (h a) ih
theorem MM (z:Array Value) (n:Nat) (h:n=0∨z.size≠0):(mz z.toList z.size n).toArray=madeCells z n:=by
 unfold mz madeCells;apply Array.ext
 ·simp
 ·intro k h1 h2;have hk:k < n:=by simpa using h1
  have hz : 0 < z.size:=by rcases h with h | h<;>omega
  have hlt:k % z.size < z.size:=Nat.mod_lt _ hz;simp only [List.getElem_toArray,List.getElem_map,List.getElem_range,Array.getElem_map,Array.getElem_range];rw [getElem!_pos z (k % z.size) hlt];have:Nat.mod k z.size=k % z.size:=rfl;rw [this];simp [List.getD,hlt]
theorem Ce (hi:cE A) (hn:A'.next≤A'.next) (t:TypeId) (l c:Operand) (h:bG P f ⟨d,.makeSlice t l c,ty,pos,af,gd⟩ A=some (nx,A')):cJ P f A ⟨d,.makeSlice t l c,ty,pos,af,gd⟩ nx A':=by
 have h':ux P t (f.eval l) (f.eval c) A=some (nx,A'):=h;unfold ux at h';split at h'
 case h_2=>cases h'
 rename_i e n m ht hl hc;split at h'
 case h_2=>cases h'
 rename_i i hin;split at h'
 case h_2=>cases h'
 rename_i z hz;unfold xF at h';obtain⟨hb,h'⟩:=av h';simp only [Bool.and_eq_true] at hb;have b1:=Nat.le_of_ble_eq_true hb.1;have b2:i.bytes * m≤281474976710656:=Nat.le_of_ble_eq_true hb.2.1;have b3:=Nat.le_of_ble_eq_true hb.2.2.1;have b4:=hb.2.2.2.1;have b5:z.cells.size=i.size:=by rw [← Array.length_toList]; exact Nat.eq_of_beq_eq_true hb.2.2.2.2
 injection h' with h';injection h' with h1 h2;subst h1;subst h2;rw [aV] at hn;refine⟨gk hi hn _ _,fun φ T w a hf hr _ hfr=>?_⟩;have hself:=gU (dc φ 50 z b4);have hcells:bu φ (mz z.cells.toList i.size (Nat.mul m i.size)) (mz z.cells.toList i.size (Nat.mul m i.size)):=by
  refine FL (fun k=>?_) _;cases hk:z.cells.toList[Nat.mod k i.size]? with
  | none=>rw [List.getD_eq_getElem?_getD,hk]; exact iF φ
  | some v=>
   obtain⟨v',g1,g2⟩:=bu.get _ hself hk;rw [hk] at g1;injection g1 with g1;subst g1;rw [List.getD_eq_getElem?_getD,hk];exact g2
 obtain⟨φ',e1,e2⟩:=ju hi (by rw [aV]; exact hn) hr hfr hcells;refine⟨φ',_,e2,?_⟩;obtain⟨vl,hl1,hl2⟩ : ∃v,f.eval l=some v∧j6 v=some n:=by
  cases hh:f.eval l with
  | none=>rw [hh] at hl; cases hl
  | some v=>rw [hh] at hl; exact⟨v,rfl,hl⟩
 obtain⟨vc,hc1,hc2⟩ : ∃v,f.eval c=some v∧j6 v=some m:=by
  cases hh:f.eval c with
  | none=>rw [hh] at hc; cases hc
  | some v=>rw [hh] at hc; exact⟨v,rfl,hc⟩
 obtain⟨kl,rfl⟩:=jb hl2;obtain⟨kc,rfl⟩:=jb hc2;have r1:=hf.eval hl1;have r2:=hf.eval hc1;generalize hq1:a.eval l=q1 at r1;generalize hq2:a.eval c=q2 at r2;cases r1;cases r2;have hcm:(mz z.cells.toList i.size (Nat.mul m i.size)).toArray=madeCells z.cells (m * i.size):=by
  rw [← b5];refine MM _ _ ?_;by_cases h0:z.cells.size=0
  ·left; rw [h0]; rfl
  ·exact .inr h0
 have hb2:(i.bytes:Int) * (m:Int)≤281474976710656:=by
  have h:((i.bytes * m:Nat):Int)≤281474976710656:=by omega
  rwa [Int.natCast_mul] at h
 have hrun:=run_make (P:=P) w t e i z ht hin hz kl kc (n:Int) (m:Int) (by omega) (by omega) hb2 (by omega);simp only [Int.toNat_natCast] at hrun;have hes:P.cellsOf e=i.size:=by simp [Program.cellsOf,hin]
 have ee:(execOp a.eval ⟨d,.makeSlice t l c,ty,pos,af,gd⟩).run P w=.ok (.value (.slice (some ⟨w.heap.size,0,none⟩) n m)) (w.alloc (.cells (mz z.cells.toList i.size (Nat.mul m i.size)).toArray e)):=by
  refine dh ?_;rw [hq1,hq2,hcm];exact hrun
 rw [ee];refine .val _ _ (.slice _ _ _ _ _ _ _ e1 b1 (Nat.le_refl _) (.inr (by simp)) ?_);show 0 + m * P.cellsOf e≤(mz z.cells.toList i.size (Nat.mul m i.size)).length;rw [hes];unfold mz;simp
end
end Go.EvL
namespace Go.EvL
open Go
section
variable {P:Program}{f:Fr}{A A':AS}{nx:dC}{d:Option Tmp}{ty:TypeId}{pos:String}{af:Array Edge}{gd:Option (Nat × Bool)}
theorem CM {α:Type}{xs:Array α}{x:α} (h:xs.toList=[x]):xs = #[x]:=by cases xs; cases h; rfl
theorem jU {α:Type}{xs:Array α}{x y:α} (h:xs.toList=[x,y]):xs = #[x,y]:=by cases xs; cases h; rfl
theorem wg (hi:cE A) (hn:A'.next≤A'.next) (b:Builtin) (args:Array Operand) (tys:Array TypeId) (h:ll P f ⟨d,.call ⟨.builtin b,args,tys⟩,ty,pos,af,gd⟩ b args.toList tys.toList A=some (nx,A')) :
  cJ P f A ⟨d,.call ⟨.builtin b,args,tys⟩,ty,pos,af,gd⟩ nx A':=by
 unfold ll at h;split at h
 ·exact Gj hi args tys h
 ·split at h
  ·rename_i x y t u h1 h2;obtain rfl:=jU h1;obtain rfl:=jU h2;exact xJ hi hn x y t u h
  ·cases h
 ·split at h
  ·rename_i x y t u h1 h2;obtain rfl:=jU h1;obtain rfl:=jU h2;exact Cg hi hn x y t u h
  ·cases h
 ·injection h with h;injection h with h1 h2;subst h1;subst h2;refine aX hi fun φ w a hf=>?_;exact .recover
 ·split at h
  ·rename_i x h1;obtain rfl:=CM h1;exact CU hi x tys h
  ·cases h
 ·split at h
  ·rename_i x y h1;obtain rfl:=jU h1;exact Cr hi hn x y tys h
  ·cases h
 ·exact dU hi _ (by intro _ _ hh; cases hh) h
theorem Dg (hE:yG P) (hi:cE A) (hn:A'.next≤A'.next) (c:Call) (h:bG P f ⟨d,.call c,ty,pos,af,gd⟩ A=some (nx,A')):cJ P f A ⟨d,.call c,ty,pos,af,gd⟩ nx A':=by
 obtain⟨cal,args,tys⟩:=c;cases cal with
 | value x=>exact sY hE hi x args tys (show Bf P (f.eval x) (oR f args.toList) A=_ from h)
 | builtin b=>exact wg hi hn b args tys (show ll P f _ b args.toList tys.toList A=_ from h)
 | invoke=>cases h
end
theorem Ey {P:Program} (hE:yG P) (hS:QW P):cP P:=by
 intro f o A nx A' hi hn h;obtain⟨d,op,ty,pos,af,gd⟩:=o;cases op with
 | move x=>exact BU hi x h
 | assign x=>exact yu hi x h
 | pick c a b=>exact Dq hi c a b h
 | alloc e=>exact Aj hi hn e h
 | box e x=>exact Hb hi hn e x h
 | build t ps=>exact Aw hS hi t ps h
 | buildSlice t n ps=>exact rF hi hn t n ps h
 | insert=>cases h
 | load t a=>exact Di hi t a h
 | store t a x=>exact AM hi hn t a x h
 | ready=>cases h
 | waits=>cases h
 | nilCheck x=>exact uD hi x h
 | binOp op t x y u=>exact GV hi op t u x y h
 | unOp=>exact dU hi _ (by intro _ _ hh; cases hh) (show eM P f _ A=_ from h)
 | convert a b x=>exact C7 hi hn a b x h
 | sliceToArrayPointer=>cases h
 | makeInterface t x=>exact zy hi t x h
 | makeFunc fn a b=>exact CQ hi fn a b h
 | makeMap t r=>exact wo hi hn t r h
 | makeChan=>cases h
 | makeSlice t l c=>exact Ce hi hn t l c h
 | slice t x lo hi' mx=>exact Ap hi t x lo hi' mx h
 | fieldAddr t x i=>exact t6 hi t x i h
 | field t x i=>exact zz hi t x i h
 | indexAddr t x i=>exact tr hi t x i h
 | index t x i=>exact zV hi t x i h
 | lookup t x k ok=>exact zu hi t x k ok h
 | mapUpdate t m k x=>exact tl hi hn t m k x h
 | mapEntry=>cases h
 | entryStore=>cases h
 | range t x=>exact Bm hi hn t x h
 | next it b=>exact BH hi hn it b h
 | entry=>cases h
 | typeAssert x t a ok=>exact zr hi x t a ok h
 | extract t i=>exact wB hi t i h
 | call c=>exact Dg hE hi hn c h
 | go=>cases h
 | defer c=>exact zQ hi c h
 | panic x=>exact AP hi x h
 | send=>cases h
 | recv=>cases h
 | select=>cases h
end Go.EvL
namespace Go.EvL
open Go
section
variable {P:Program}{call:dS}
theorem eX (s:AS):(cS s).next=s.next:=by cases s; rfl
theorem jr (s s':AS):(iO s s').next=s'.next:=by cases s'; unfold iO; simp only [bN]
theorem nH (ops:Array Oper) (j:Nat) (bs:Tr Nat) (acc:List Fp) (f:Fr) (A:AS):jg P call ops [] j bs acc f A=.on f A:=rfl
theorem lM (ops:Array Oper) (o:Oper) (l:List Oper) (j:Nat) (bs:Tr Nat) (acc:List Fp) (f:Fr) (A:AS) :
  jg P call ops (o :: l) j bs acc f A=lE o (o.looksAt ops) f A j bs acc (i8 P call ops.toList (i3 (o.looksAt ops) f) o (cS A)) (jg P call ops l):=by
 show gI (o.looksAt ops) (fun ls=>lE o ls f A j bs acc (i8 P call ops.toList (i3 ls f) o (cS A)) (jg P call ops l))=_;rw [bO]
theorem kT {o:Oper}{l:List Tmp}{f:Fr}{A:AS}{j:Nat}{bs:Tr Nat}{acc:List Fp}{r:St}{k:Rn} (h:lE o l f A j bs acc r k≠.no) :
  ∃g B f',r=.on g B∧jh f o.dst g=some f'∧lm j o.after.toList=true∧j < 100000∧mN l=true∧
   mh (iU bs o.after.toList) (eJ f'.n B.r (bK l)) (eJ f'.n B.w (bK o.dst.toList)) acc=true∧
   lE o l f A j bs acc r k=k (j + 1) (Tr.set (iU bs o.after.toList) 40 bs j) (⟨j,eJ f'.n B.r (bK l),eJ f'.n B.w (bK o.dst.toList)⟩ :: acc) f' (iO A B):=by
 unfold lE at h ⊢;cases r with
 | no=>exact absurd rfl h
 | up v g B=>exact absurd rfl h
 | on g B=>
  simp only at h ⊢;cases hp:jh f o.dst g with
  | none=>rw [hp] at h; exact absurd rfl h
  | some f'=>
   rw [hp] at h;simp only at h ⊢;unfold Ia at h ⊢;simp only [bN,cQ] at h ⊢;cases hb:(lm j o.after.toList && (Nat.ble (Nat.succ j) 100000 && (mN l && mh (iU bs o.after.toList) (eJ f'.n B.r (bK l)) (eJ f'.n B.w (bK o.dst.toList)) acc))) with
   | false=>rw [hb] at h; exact absurd rfl h
   | true=>
    have hb':=hb;simp only [Bool.and_eq_true] at hb';exact⟨g,B,f',rfl,hp,hb'.1,Nat.le_of_ble_eq_true hb'.2.1,hb'.2.2.1,hb'.2.2.2,rfl⟩
theorem ui (ops:Array Oper):∀(l:List Oper) (j:Nat) (bs:Tr Nat) (acc:List Fp) (f:Fr) (A:AS) (v:Value) (f':Fr) (A':AS),jg P call ops l j bs acc f A≠.up v f' A':=by
 intro l
 induction l with
 | nil=>intro j bs acc f A v f' A' h; rw [nH] at h; cases h
 | cons o l ih=>
  intro j bs acc f A v f' A' h;rw [lM] at h;obtain⟨g,B,f1,_,_,_,_,_,_,he⟩:=kT (by rw [h]; exact fun hh=>by cases hh);rw [he] at h;exact ih _ _ _ _ _ _ _ _ h
theorem yr (hO:gX P) (hM:dF call) {ops:Array Oper} : ∀(l:List Oper) {f f':Fr}{A A':AS}{j:Nat}{bs:Tr Nat}{acc:List Fp},jg P call ops l j bs acc f A=.on f' A'→A.next≤A'.next:=by
 intro l
 induction l with
 | nil=>intro f f' A A' j bs acc h; rw [nH] at h; injection h with _ h2; rw [h2]; exact Nat.le_refl _
 | cons o l ih=>
  intro f f' A A' j bs acc h;rw [lM] at h;obtain⟨g,B,f1,hs,_,_,_,_,_,he⟩:=kT (by rw [h]; exact fun hh=>by cases hh);have h1:=lB hO hM (v:=undef) (.inl hs);rw [he] at h;have h2:=ih h;rw [jr] at h2;rw [eX] at h1;omega
theorem Ag (hO:gX P) (hM:dF call):lC P call:=by
 intro ops f A x f' A' h;rcases nP h with ⟨h1,_⟩ | ⟨v,h1,_⟩
 ·exact yr hO hM _ h1
 ·exact absurd h1 (ui _ _ _ _ _ _ _ _ _ _)
structure G8 where
 f:Fr
 s:AS
 g:Fr
 B:AS
 bs:Tr Nat
 acc:List Fp
def RG (P:Program) (call:dS) (ops:Array Oper) (f:Fr) (A:AS) (g:Fr) (B:AS) (o:Oper):Prop:=
 i8 P call ops.toList f o A=.on g B∨(lN P ops o f A g B∧(jJ ops.toList f o.guard=some false∨∀cs b,o.op≠.select cs b))
structure Q2 (P:Program) (call:dS) (ops:Array Oper) (X:Nat→G8) (j:Nat) (o:Oper):Prop where
 step:RG P call ops (i3 (o.looksAt ops) (X j).f) (cS (X j).s) (X j).g (X j).B o
 put:jh (X j).f o.dst (X j).g=some (X (j + 1)).f
 s:(X (j + 1)).s=iO (X j).s (X j).B
 low:lm j o.after.toList=true
 few:j < 100000
 looks:mN (o.looksAt ops)=true
 bs:(X (j + 1)).bs=Tr.set (iU (X j).bs o.after.toList) 40 (X j).bs j
 acc:(X (j + 1)).acc=⟨j,eJ (X (j + 1)).f.n (X j).B.r (bK (o.looksAt ops)),eJ (X (j + 1)).f.n (X j).B.w (bK o.dst.toList)⟩ :: (X j).acc
 clear:mh (iU (X j).bs o.after.toList) (eJ (X (j + 1)).f.n (X j).B.r (bK (o.looksAt ops))) (eJ (X (j + 1)).f.n (X j).B.w (bK o.dst.toList)) (X j).acc=true
theorem Te {ops:Array Oper} : ∀(l:List Oper) (j:Nat) (bs:Tr Nat) (acc:List Fp) (f f':Fr) (A A':AS),jg P call ops l j bs acc f A=.on f' A'→
  ∃X:Nat→G8,(X j).f=f∧(X j).s=A∧(X j).bs=bs∧(X j).acc=acc∧(X (j + l.length)).f=f'∧(X (j + l.length)).s=A'∧∀i o,l[i]?=some o→Q2 P call ops X (j + i) o:=by
 intro l
 induction l with
 | nil=>
  intro j bs acc f f' A A' h;rw [nH] at h;injection h with h1 h2;exact⟨fun _=>⟨f,A,f,A,bs,acc⟩,rfl,rfl,rfl,rfl,h1,h2,fun i o hh=>by simp at hh⟩
 | cons o l ih=>
  intro j bs acc f f' A A' h;rw [lM] at h;obtain⟨g,B,f1,hs,hp,hl,hf,hlo,hc,he⟩:=kT (by rw [h]; exact fun hh=>by cases hh);rw [he] at h;obtain⟨X,e1,e2,e3,e4,e5,e6,e7⟩:=ih _ _ _ _ _ _ _ h;obtain⟨Y,hYj,hY⟩ : ∃Y:Nat→G8,Y j=⟨f,A,g,B,bs,acc⟩∧∀i,Y (j + 1 + i)=X (j + 1 + i):=
   ⟨fun n=>if n=j then ⟨f,A,g,B,bs,acc⟩ else X n,if_pos rfl,fun i=>if_neg (by omega)⟩
  refine⟨Y,by rw [hYj],by rw [hYj],by rw [hYj],by rw [hYj],?_,?_,fun i o' hi=>?_⟩
  ·rw [List.length_cons,show j + (l.length + 1)=j + 1 + l.length by omega,hY]; exact e5
  ·rw [List.length_cons,show j + (l.length + 1)=j + 1 + l.length by omega,hY]; exact e6
  ·cases i with
   | zero=>
    simp at hi;subst hi;have h0:Y (j + 1)=X (j + 1):=hY 0;refine⟨.inl ?_,?_,?_,hl,hf,hlo,?_,?_,?_⟩<;>simp only [Nat.add_zero,hYj,h0,e1,e2,e3,e4]<;>assumption
   | succ i=>
    have hg:=e7 i o' (by simpa using hi);have h0:=hY i;have h1:=hY (i + 1);rw [show j + (i + 1)=j + 1 + i by omega];obtain⟨a1,a2,a3,a4,a5,a9,a6,a7,a8⟩:=hg;rw [show j + 1 + (i + 1)=j + 1 + i + 1 by omega] at h1;refine⟨?_,?_,?_,a4,a5,a9,?_,?_,?_⟩<;>simp only [h0,h1]<;>assumption
end
end Go.EvL
namespace Go.EvL
open Go
section
variable {P:Program}{call:dS}
theorem Ay {x:Option Fr}{s A':AS}{f':Fr} (h:kP x s=.on f' A'):s=A':=(jN h).2
theorem rA (ops:List Oper) (o:Oper) (l:List Oper) (f:Fr) (A:AS) (u:Option Value):qH P call ops (o :: l) f A u=Mo P call ops o f A u (qH P call ops l):=rfl
theorem lO (hO:gX P) (hM:dF call) {ops:List Oper} : ∀(l:List Oper) {f:Fr}{A:AS}{u:Option Value}{q:Dd},qH P call ops l f A u=some q→A.next≤q.s.next:=by
 intro l
 induction l with
 | nil=>
  intro f A u q h;have h':some (⟨f,A,u⟩ : Dd)=some q:=h;injection h' with h';rw [← h'];exact Nat.le_refl _
 | cons o l ih=>
  intro f A u q h;rw [rA] at h;unfold Mo at h;split at h
  ·rename_i s hev;have h1:=hO _ _ _ _ _ hev;split at h
   ·unfold QX at h;split at h
    ·rename_i g s' hon;have:=Ay hon;subst this;have:=ih h;omega
    ·cases h
   ·cases h
  ·unfold QX at h;split at h
   ·rename_i g s' hst;have h1:=lB hO hM (v:=undef) (.inl hst);have:=ih h;omega
   ·cases h
theorem xa (hO:gX P) (hM:dF call) (hD:lC P call):oG P call:=by
 intro d A u A' u' h;unfold gM at h;split at h
 ·split at h
  ·obtain⟨_,h⟩:=av h;unfold yJ at h;split at h
   ·split at h
    ·rename_i g s v hr;have h1:=lO hO hM _ hr;unfold Oc at h;split at h
     ·rename_i f0 s0 he;have h2:=gj hO hM hD _ _ _ _ _ _ he;split at h
      ·injection h with h;injection h with h3 _;subst h3;exact Nat.le_trans h1 h2
      ·cases h
     ·rename_i f0 s0 he;have h2:=gj hO hM hD _ _ _ _ _ _ he;split at h
      ·injection h with h;injection h with h3 _;subst h3;exact Nat.le_trans h1 h2
      ·cases h
     ·cases h
    ·cases h
   ·cases h
  ·cases h
 ·cases h
end
end Go.EvL
namespace Go.EvL
open Go
section
variable {P:Program}{call:dS}{ops:Array Oper}{X:Nat→G8}
theorem cT (s:AS):cS s=⟨s.heap,s.next,s.mem,s.fz,0,0⟩:=by cases s; rfl
theorem iy (s s':AS):iO s s'=⟨s'.heap,s'.next,s'.mem,s'.fz,s'.r ||| s.r,s'.w ||| s.w⟩:=by
 cases s'; unfold iO; simp only [bN]; rfl
theorem Ix {A B:AS} (h:cE A) (h1:B.heap=A.heap) (h2:B.next=A.next) (h3:B.mem=A.mem) (h4:B.fz=A.fz):cE B:=by
 obtain⟨hp,n,m,z,r,w⟩:=A;obtain⟨hp',n',m',z',r',w'⟩:=B;simp only at h1 h2 h3 h4;subst h1; subst h2; subst h3; subst h4;exact⟨h.lt,h.mem,h.memc,h.root,h.ml,h.old,h.fz⟩
theorem rE {A:AS} (h:cE A):cE (cS A):=by rw [cT]; exact Ix h rfl rfl rfl rfl
theorem zj {A B:AS} (h:mo (cS A) B):mo A (iO A B):=by
 rw [cT] at h;rw [iy];refine⟨h.next,fun c hc=>?_,fun c hc=>?_,fun b o hb hw=>?_,fun b o hb hw=>?_,fun c hc=>?_,fun c hc=>?_,fun c hc=>?_,fun c hc=>?_,Ix h.inv rfl rfl rfl rfl⟩
 ·show (B.r ||| A.r).testBit c=true; rw [Nat.testBit_or,hc,Bool.or_true]
 ·show (B.w ||| A.w).testBit c=true; rw [Nat.testBit_or,hc,Bool.or_true]
 ·have hw':(B.w ||| A.w).testBit _=false:=hw;rw [Nat.testBit_or,Bool.or_eq_false_iff] at hw';exact h.old b o hb hw'.1
 ·have hw':(B.w ||| A.w).testBit _=false:=hw;rw [Nat.testBit_or,Bool.or_eq_false_iff] at hw';exact h.new b o hb hw'.1
 ·have hw':(B.w ||| A.w).testBit _=false:=hc;rw [Nat.testBit_or,Bool.or_eq_false_iff] at hw';exact h.fz c hw'.1
 ·have hw':(B.w ||| A.w).testBit _=false:=hc;rw [Nat.testBit_or,Bool.or_eq_false_iff] at hw';exact h.mem c hw'.1
 ·have hw':(B.r ||| A.r).testBit _=true:=hc;rw [Nat.testBit_or,Bool.or_eq_true] at hw';rcases hw' with hw' | hw'
  ·rcases h.rb c hw' with h1 | h1
   ·simp at h1
   ·exact .inr h1
  ·exact .inl hw'
 ·have hw':(B.w ||| A.w).testBit _=true:=hc;rw [Nat.testBit_or,Bool.or_eq_true] at hw';rcases hw' with hw' | hw'
  ·rcases h.wb c hw' with h1 | h1
   ·simp at h1
   ·exact .inr h1
  ·exact .inl hw'
theorem lH {l:List Tmp}{t:Nat} (h:t∈l):(bK l).testBit t=true:=by
 induction l with
 | nil=>cases h
 | cons x l ih=>
  show (Nat.lor (bK l) (1 <<< x)).testBit t=true;have e:Nat.lor (bK l) (1 <<< x)=bK l ||| (1 <<< x):=rfl
  rw [e,cN];rcases List.mem_cons.1 h with rfl | h
  ·simp
  ·rw [ih h]; rfl
theorem mY {n c l x:Nat} (h:c.testBit x=true):(eJ n c l).testBit (n + x)=true:=by
 show ((c <<< n) ||| l).testBit (n + x)=true;rw [Nat.testBit_or,Nat.testBit_shiftLeft];simp [h]
theorem lj {n c l x:Nat} (h:l.testBit x=true):(eJ n c l).testBit x=true:=by
 show ((c <<< n) ||| l).testBit x=true;rw [Nat.testBit_or,h,Bool.or_true]
theorem HE {a b x:Nat} (ha:a.testBit x=true) (hb:b.testBit x=true):Nat.beq (Nat.land a b) 0=false:=by
 have e:Nat.land a b=a &&& b:=rfl;cases hz:Nat.beq (Nat.land a b) 0 with
 | false=>rfl
 | true=>
  have h0:=Nat.eq_of_beq_eq_true hz;rw [e] at h0;have:(a &&& b).testBit x=true:=by rw [Nat.testBit_and,ha,hb]; rfl
  rw [h0] at this;simp at this
theorem Jz {r w r' w' x:Nat} (h:(w.testBit x=true∧(r'.testBit x=true∨w'.testBit x=true))∨(w'.testBit x=true∧r.testBit x=true)):vI r w r' w'=false:=by
 unfold vI;rcases h with ⟨h1,h2⟩ | ⟨h1,h2⟩
 ·rw [HE (x:=x) h1 (by show (r' ||| w').testBit x=true; rw [Nat.testBit_or]; rcases h2 with h2 | h2<;>simp [h2])]; rfl
 ·rw [HE h1 h2,Bool.and_false]
theorem F9 {bs:Tr Nat}{l:List Edge}{i:Nat} (h:(iU bs l).testBit i=true):∃e∈l,Region.binds .any e=true∧(i=e.on∨((bs.get e.on).getD 0).testBit i=true):=by
 induction l with
 | nil=>exact absurd h (by show (Nat.testBit 0 i)≠true; simp)
 | cons e l ih=>
  have h':(Bool.rec (iU bs l) (Nat.lor (iU bs l) (Nat.lor (Nat.shiftLeft 1 e.on) ((bs.get e.on).getD 0))) (Region.binds .any e):Nat).testBit i=true:=h;cases hb:Region.binds .any e with
  | false=>
   rw [hb] at h';obtain⟨e',h1,h2⟩:=ih h';exact⟨e',List.mem_cons_of_mem _ h1,h2⟩
  | true=>
   rw [hb] at h';have h'':(iU bs l ||| ((1 <<< e.on) ||| ((bs.get e.on).getD 0))).testBit i=true:=h';rw [Nat.testBit_or,Nat.testBit_or,Bool.or_eq_true,Bool.or_eq_true] at h'';rcases h'' with h1 | h1 | h1
   ·obtain⟨e',h1,h2⟩:=ih h1;exact⟨e',List.mem_cons_of_mem _ h1,h2⟩
   ·rw [Nat.one_shiftLeft,Nat.testBit_two_pow] at h1;exact⟨e,List.mem_cons_self,hb,.inl (by simpa using (of_decide_eq_true h1).symm)⟩
   ·exact⟨e,List.mem_cons_self,hb,.inr h1⟩
structure pd (P:Program) (call:dS) (ops:Array Oper) (X:Nat→G8):Prop where
 bs:(X 0).bs=.nil
 acc:(X 0).acc=[]
 good:∀i o,ops[i]?=some o→Q2 P call ops X i o
theorem lc {i:Nat} (h:i < ops.size):∃o,ops[i]?=some o:=⟨ops[i],by simp [h]⟩
theorem vR {i:Nat}{o:Oper} (h:ops[i]?=some o):i < ops.size:=(Array.getElem?_eq_some_iff.1 h).1
theorem pd.bsAt (W:pd P call ops X):∀j,j≤ops.size→∀m,((X j).bs.get m).isSome=true→∃o,ops[m]?=some o∧m < j∧(X j).bs.get m=some (iU (X m).bs o.after.toList):=by
 intro j
 induction j with
 | zero=>intro _ m h; rw [W.bs] at h; simp [Tr.get_nil] at h
 | succ j ih=>
  intro hj m h;obtain⟨o,ho⟩:=lc (ops:=ops) (show j < ops.size by omega);have g:=W.good j o ho;have hf:jA j:=trivial;rw [g.bs,Tr.get_set _ _ _ _ hf] at h ⊢;split at h
  ·rename_i he; subst he; rw [if_pos rfl]; exact⟨o,ho,by omega,rfl⟩
  ·rename_i he;rw [if_neg he];obtain⟨o',h1,h2,h3⟩:=ih (by omega) m h;exact⟨o',h1,by omega,h3⟩
def Closed (ops:Array Oper) (L:Nat→Prop):Prop:=∀j o,ops[j]?=some o→L j→∀e∈o.after,Region.binds .any e=true→L e.on
theorem pd.before (W:pd P call ops X) {L:Nat→Prop} (hL:Closed ops L):∀j o,ops[j]?=some o→L j→∀i,(iU (X j).bs o.after.toList).testBit i=true→L i:=by
 intro j
 induction j using Nat.strongRecOn with
 | _ j ih=>
  intro o ho hj i hi;obtain⟨e,h1,h2,h3⟩:=F9 hi;have he:=hL j o ho hj e (by simpa using h1) h2;rcases h3 with rfl | h3
  ·exact he
  ·cases hg:(X j).bs.get e.on with
   | none=>rw [hg] at h3; simp at h3
   | some b=>
    obtain⟨o',k1,k2,k3⟩:=W.bsAt j (Nat.le_of_lt (vR ho)) e.on (by rw [hg]; rfl);rw [k3] at h3;exact ih e.on k2 o' k1 he i h3
theorem pd.accAt (W:pd P call ops X):∀j,j≤ops.size→∀i o,i < j→ops[i]?=some o→(⟨i,eJ (X (i + 1)).f.n (X i).B.r (bK (o.looksAt ops)),eJ (X (i + 1)).f.n (X i).B.w (bK o.dst.toList)⟩ : Fp)∈(X j).acc:=by
 intro j
 induction j with
 | zero=>intro _ i o h; omega
 | succ j ih=>
  intro hj i o hi ho;obtain⟨o',ho'⟩:=lc (ops:=ops) (show j < ops.size by omega);rw [(W.good j o' ho').acc];by_cases he:i=j
  ·subst he;rw [ho] at ho'; injection ho' with ho'; subst ho';exact List.mem_cons_self
  ·exact List.mem_cons_of_mem _ (ih (by omega) i o (by omega) ho)
theorem xl {f f' g:Fr}{d:Option Tmp} (h:jh f d g=some f'):f'.n=f.n∧f'.defers=f.defers∧g.defers=[]:=by
 unfold jh at h;split at h
 ·rename_i hg;refine⟨?_,?_,hg⟩
  ·rcases xK h with ⟨_,rfl⟩ | ⟨t,_,_,rfl⟩<;>rfl
  ·rcases xK h with ⟨_,rfl⟩ | ⟨t,_,_,rfl⟩<;>rfl
 ·cases h
theorem tY {f f' g:Fr}{d:Option Tmp} (hf:f.n≤1000000) (h:jh f d g=some f') (t:Nat):(d=some t→t < f.n∧f'.tmps.get t=some ((g.tmps.get t).getD undef))∧(d≠some t→f'.tmps.get t=f.tmps.get t):=by
 unfold jh at h;split at h
 ·rcases xK h with ⟨rfl,rfl⟩ | ⟨t',rfl,hlt,rfl⟩
  ·exact⟨fun h=>absurd h (by simp),fun _=>rfl⟩
  ·have hfit:jA t':=trivial;refine⟨fun h=>?_,fun h=>?_⟩
   ·injection h with h; subst h;refine⟨hlt,?_⟩;show (Tr.set _ 40 f.tmps t').get t'=_;rw [Tr.get_set _ _ _ _ hfit,if_pos rfl]
   ·show (Tr.set _ 40 f.tmps t').get t=_;rw [Tr.get_set _ _ _ _ hfit,if_neg (fun e=>h (by rw [e]))]
 ·cases h
theorem pd.n (W:pd P call ops X):∀j,j≤ops.size→(X j).f.n=(X 0).f.n∧(X j).f.defers=(X 0).f.defers:=by
 intro j
 induction j with
 | zero=>intro _; exact⟨rfl,rfl⟩
 | succ j ih=>
  intro hj;obtain⟨o,ho⟩:=lc (ops:=ops) (show j < ops.size by omega);obtain⟨h1,h2,_⟩:=xl (W.good j o ho).put;obtain⟨k1,k2⟩:=ih (by omega);exact⟨h1.trans k1,h2.trans k2⟩
theorem pd.clash (W:pd P call ops X) {i j:Nat}{o o':Oper} (hij:i < j) (ho:ops[i]?=some o) (ho':ops[j]?=some o') {x:Nat}
  (h:((eJ (X (i + 1)).f.n (X i).B.w (bK o.dst.toList)).testBit x=true∧((eJ (X (j + 1)).f.n (X j).B.r (bK (o'.looksAt ops))).testBit x=true∨(eJ (X (j + 1)).f.n (X j).B.w (bK o'.dst.toList)).testBit x=true))∨
   ((eJ (X (j + 1)).f.n (X j).B.w (bK o'.dst.toList)).testBit x=true∧(eJ (X (i + 1)).f.n (X i).B.r (bK (o.looksAt ops))).testBit x=true)) :
  (iU (X j).bs o'.after.toList).testBit i=true:=by
 have hc:=(W.good j o' ho').clear;unfold mh at hc;rw [List.all_eq_true] at hc;have:=hc _ (W.accAt j (Nat.le_of_lt (vR ho')) i o hij ho);rw [Jz h,Bool.false_or] at this;exact this
theorem pd.cls (W:pd P call ops X) {L:Nat→Prop} (hL:Closed ops L) {i j:Nat} (hij:i < j) (hj:j < ops.size) (hLj:L j) {c:Nat}
  (h:((X i).B.w.testBit c=true∧((X j).B.r.testBit c=true∨(X j).B.w.testBit c=true))∨((X j).B.w.testBit c=true∧(X i).B.r.testBit c=true)):L i:=by
 obtain⟨o,ho⟩:=lc (ops:=ops) (show i < ops.size by omega);obtain⟨o',ho'⟩:=lc hj;have hn:(X (j + 1)).f.n=(X (i + 1)).f.n:=(W.n (j + 1) (by omega)).1.trans (W.n (i + 1) (by omega)).1.symm;refine W.before hL j o' ho' hLj i (W.clash hij ho ho' (x:=(X (i + 1)).f.n + c) ?_);rw [hn];rcases h with ⟨h1,h2⟩ | ⟨h1,h2⟩
 ·exact .inl ⟨mY h1,h2.imp mY mY⟩
 ·exact .inr ⟨mY h1,mY h2⟩
theorem pd.slot (W:pd P call ops X) {L:Nat→Prop} (hL:Closed ops L) {i j:Nat}{o o':Oper} (hij:i < j) (ho:ops[i]?=some o) (ho':ops[j]?=some o') (hLj:L j) {t:Nat}
  (h:(o.dst=some t∧(t∈o'.looksAt ops∨o'.dst=some t))∨(o'.dst=some t∧t∈o.looksAt ops)):L i:=by
 have hd:∀{o:Oper},o.dst=some t→(bK o.dst.toList).testBit t=true:=fun h=>lH (by rw [h]; simp);refine W.before hL j o' ho' hLj i (W.clash hij ho ho' (x:=t) ?_);rcases h with ⟨h1,h2⟩ | ⟨h1,h2⟩
 ·exact .inl ⟨lj (hd h1),h2.imp (fun h=>lj (lH h)) (fun h=>lj (hd h))⟩
 ·exact .inr ⟨lj (hd h1),lj (lH h2)⟩
end
end Go.EvL
namespace Go.EvL
open Go
section
variable {P:Program}{call:dS}{ops:Array Oper}{X:Nat→G8}
structure ku (P:Program) (ops:Array Oper) (X:Nat→G8):Prop where
 fr:∀i,i < ops.size→mo (cS (X i).s) (X i).B
 on:∀i o,ops[i]?=some o→lN P ops o (i3 (o.looksAt ops) (X i).f) (cS (X i).s) (X i).g (X i).B
theorem ku.fr' (W:pd P call ops X) (H:ku P ops X) {i:Nat} (hi:i < ops.size):mo (X i).s (X (i + 1)).s:=by
 obtain⟨o,ho⟩:=lc hi;rw [(W.good i o ho).s];exact zj (H.fr i hi)
theorem ku.le (W:pd P call ops X) (H:ku P ops X) {i:Nat} : ∀{j:Nat},i≤j→j≤ops.size→(X i).s.next≤(X j).s.next:=by
 intro j
 induction j with
 | zero=>intro hij _; rw [show i=0 by omega]; exact Nat.le_refl _
 | succ j ih=>
  intro hij hj;by_cases he:i=j + 1
  ·rw [he]; exact Nat.le_refl _
  ·exact Nat.le_trans (ih (by omega) (by omega)) (H.fr' W (show j < ops.size by omega)).next
theorem ku.heap (W:pd P call ops X) {i:Nat} (hi:i < ops.size):(X (i + 1)).s.heap=(X i).B.heap∧(X (i + 1)).s.fz=(X i).B.fz∧(X (i + 1)).s.next=(X i).B.next∧(X (i + 1)).s.w=(X i).B.w ||| (X i).s.w∧(X (i + 1)).s.r=(X i).B.r ||| (X i).s.r:=by
 obtain⟨o,ho⟩:=lc hi;rw [(W.good i o ho).s,iy];exact⟨rfl,rfl,rfl,rfl,rfl⟩
theorem ku.agree (W:pd P call ops X) (H:ku P ops X) {c i:Nat} : ∀{k:Nat},i≤k→k≤ops.size→(∀m,i≤m→m < k→(X m).B.w.testBit c=false)→(X k).s.fz.get c=(X i).s.fz.get c∧∀b o,(X k).s.heap.get b=some o→cZ b o=c→(X i).s.heap.get b=some o:=by
 intro k
 induction k with
 | zero=>intro hik _ _; rw [show i=0 by omega]; exact⟨rfl,fun _ _ h _=>h⟩
 | succ k ih=>
  intro hik hk hw;by_cases he:i=k + 1
  ·rw [he]; exact⟨rfl,fun _ _ h _=>h⟩
  ·obtain⟨h1,h2⟩:=ih (by omega) (by omega) fun m a b=>hw m a (by omega);have hf:=H.fr k (by omega);obtain⟨e1,e2,e3,_⟩:=ku.heap W (show k < ops.size by omega);rw [cT] at hf;have hwk:=hw k (by omega) (by omega);refine⟨by rw [e2,hf.fz c hwk]; exact h1,fun b o hb hc=>h2 b o ?_ hc⟩;rw [e1] at hb;exact hf.new b o hb (by rw [hc]; exact hwk)
theorem ku.bits (W:pd P call ops X) {i:Nat} (_hi:i < ops.size) {c:Nat} : ∀{k:Nat},i < k→k≤ops.size→((X i).B.w.testBit c=true→(X k).s.w.testBit c=true)∧((X i).B.r.testBit c=true→(X k).s.r.testBit c=true):=by
 intro k
 induction k with
 | zero=>intro h; omega
 | succ k ih=>
  intro hik hk;obtain⟨_,_,_,e4,e5⟩:=ku.heap W (show k < ops.size by omega);rw [e4,e5];by_cases he:i=k
  ·subst he;exact⟨fun h=>by rw [Nat.testBit_or,h]; rfl,fun h=>by rw [Nat.testBit_or,h]; rfl⟩
  ·obtain⟨h1,h2⟩:=ih (by omega) (by omega);exact⟨fun h=>by rw [Nat.testBit_or,h1 h,Bool.or_true],fun h=>by rw [Nat.testBit_or,h2 h,Bool.or_true]⟩
def O1 (ops:Array Oper) (i t:Nat):Prop:=∃o,ops[i]?=some o∧o.dst=some t
theorem pd.slotAt (W:pd P call ops X) (hn:(X 0).f.n≤1000000) {t i:Nat} : ∀{k:Nat},i≤k→k≤ops.size→(∀m,i≤m→m < k→¬ O1 ops m t)→(X k).f.tmps.get t=(X i).f.tmps.get t:=by
 intro k
 induction k with
 | zero=>intro hik _ _; rw [show i=0 by omega]
 | succ k ih=>
  intro hik hk hw;by_cases he:i=k + 1
  ·rw [he]
  ·obtain⟨o,ho⟩:=lc (ops:=ops) (show k < ops.size by omega);have h1:=ih (by omega) (by omega) fun m a b=>hw m a (by omega);have h2:=(tY (by rw [(W.n k (by omega)).1]; exact hn) (W.good k o ho).put t).2 (fun hd=>hw k (by omega) (by omega) ⟨o,ho,hd⟩);rw [h2]; exact h1
structure Ho (P:Program) (ops:Array Oper) (X:Nat→G8) (φ₀:dz) (T:Nat→Prop) (w₀:World) (L:Nat→Prop) (φ:dz) (a:Act) (w:World):Prop where
 ext:BB φ₀ φ
 out:∀b,φ b=φ₀ b∨∃i,i < ops.size∧L i∧(X i).s.next≤b∧b < (X (i + 1)).s.next
 blk:∀b i,φ b=some i→i.blk < w.heap.size
 inj:∀b₁ b₂ i₁ i₂,φ b₁=some i₁→φ b₂=some i₂→i₁.blk=i₂.blk→i₁.cls=i₂.cls∧i₁.sh + i₂.st=i₂.sh + i₁.st
 al:∀b i,φ b=some i→True
 glob:Kg P φ
 root:∀b i,φ b=some i→i.cls=b→i.sh=0
 obj:∀c,(T c∨(X 0).s.next≤c)→∀k,k≤ops.size→(∀i,i < k→(X i).B.w.testBit c=true→L i)→(∀i,k≤i→i < ops.size→(X i).B.w.testBit c=true→¬ L i)→
  ∀b o,(X k).s.heap.get b=some o→Qf o=true→cZ b o=c→∃i o',φ b=some i∧w.heap[i.blk]?=some o'∧oL P φ ((X k).s.fz.get c) b i o o'
 img:∀b i,φ b=some i→i.blk < w₀.heap.size→∃b₀ i₀,φ₀ b₀=some i₀∧i₀.blk=i.blk∧i₀.cls=i.cls
 size:w₀.heap.size≤w.heap.size
 same:∀k,k < w₀.heap.size→(∀b i,φ₀ b=some i→i.blk=k→(X ops.size).s.w.testBit i.cls=false)→w.heap[k]?=w₀.heap[k]?
 os:w.os=w₀.os
 tape:w.tape=w₀.tape
 output:w.output=w₀.output
 sz:a.tmps.size=(X 0).f.n
 tmps:∀t k,k≤ops.size→(∀i,i < k→O1 ops i t→L i)→(∀i,k≤i→i < ops.size→O1 ops i t→¬ L i)→eT φ (((X k).f.tmps.get t).getD undef) (a.tmps.getD t undef)
 defers:qY φ (X 0).f.defers a.defers
theorem Ho.start (W:pd P call ops X) (H:ku P ops X) (hI:cE (X 0).s) {φ:dz}{T:Nat→Prop}{w:World}{a:Act}{k:Nat} (hf:fh φ (X 0).f a) (hr:iI P φ T (X 0).s w) :
  Ho P ops X φ T w (fun _=>False) φ a { w with drawn:=k } where
 ext:=fun _ _ h=>h
 out:=fun _=>.inl rfl
 blk:=hr.blk
 inj:=hr.inj
 al:=hr.al
 glob:=hr.glob
 root:=hr.root
 obj:=fun c hc k hk h1 _ b o hb hl hcl=>by
  have hz:∀m,0≤m→m < k→(X m).B.w.testBit c=false:=fun m _ hm=>by
   cases hh:(X m).B.w.testBit c with
   | false=>rfl
   | true=>exact absurd hh (fun hh=>h1 m hm hh)
  obtain⟨e1,e2⟩:=H.agree W (Nat.zero_le k) hk hz;have hb0:=e2 b o hb hcl;have hlt:=(hI.lt _ _ hb0).2;obtain⟨i,o',g1,g2,g3⟩:=hr.obj b o hb0 hl (by rw [hcl]; exact hc.resolve_right (by omega));exact⟨i,o',g1,g2,by rw [e1]; rw [hcl] at g3; exact g3⟩
 img:=fun b i hb _=>⟨b,i,hb,rfl,rfl⟩
 size:=Nat.le_refl _
 same:=fun _ _ _=>rfl
 os:=rfl
 tape:=rfl
 output:=rfl
 sz:=hf.size
 tmps:=fun t k hk h1 _=>by
  rw [W.slotAt hf.few (Nat.zero_le k) hk fun m _ hm hd=>h1 m hm hd];exact hf.tmps t
 defers:=hf.defers
theorem Ho.finish (W:pd P call ops X) (H:ku P ops X) {φ₀ φ:dz}{T:Nat→Prop}{w₀ w:World}{a:Act}{L:Nat→Prop} (hn:(X 0).f.n≤1000000) (hL:∀i,i < ops.size→L i) (h:Ho P ops X φ₀ T w₀ L φ a w) :
  cm P φ₀ T (X 0).s (X ops.size).s w₀ w φ∧fh φ (X ops.size).f a:=by
 refine⟨⟨h.ext,fun b hb=>?_,⟨h.blk,h.inj,fun b o hb hl hT=>?_,h.al,h.glob,h.root⟩,h.img,h.size,h.same,h.os,h.tape,h.output⟩,?_,?_,?_,?_⟩
 ·rcases h.out b with h1 | ⟨i,h1,_,h3,h4⟩
  ·exact h1
  ·have:=H.le W (Nat.zero_le i) (Nat.le_of_lt h1);have:=H.le W (show i + 1≤ops.size by omega) (Nat.le_refl _);omega
 ·exact h.obj _ (hT.imp id fun hh=>hh.1) ops.size (Nat.le_refl _) (fun i hi _=>hL i hi) (fun i h1 h2=>by omega) b o hb hl rfl
 ·rw [(W.n ops.size (Nat.le_refl _)).1]; exact h.sz
 ·rw [(W.n ops.size (Nat.le_refl _)).1]; exact hn
 ·intro t; exact h.tmps t ops.size (Nat.le_refl _) (fun i hi _=>hL i hi) (fun i h1 h2=>by omega)
 ·rw [(W.n ops.size (Nat.le_refl _)).2]; exact h.defers
end
end Go.EvL
namespace Go.EvL
open Go
section
variable {P:Program}{call:dS}{ops:Array Oper}{X:Nat→G8}
def fc (l:List Tmp) (a:Act):Act:=⟨Array.ofFn (n:=a.tmps.size) fun i=>if i.val∈l then a.tmps.getD i.val undef else undef,[]⟩
theorem nG (l:List Tmp) (a:Act) (t:Nat):(fc l a).tmps.getD t undef=if t∈l then a.tmps.getD t undef else undef:=by
 unfold fc;by_cases h:t < a.tmps.size
 ·rw [Array.getD_eq_getD_getElem?,Array.getElem?_ofFn,dif_pos h]; rfl
 ·have h2:a.tmps.getD t undef=undef:=by rw [Array.getD_eq_getD_getElem?,Array.getElem?_eq_none (Nat.le_of_not_lt h)]; rfl
  rw [Array.getD_eq_getD_getElem?,Array.getElem?_ofFn,dif_neg h,h2];simp
theorem md (l:List Tmp) (a:Act):(fc l a).tmps.size=a.tmps.size:=by unfold fc; simp
theorem wI (t:Tr Value) (l:List Tmp) (hl:∀x∈l,jA x∨t.get x=none) (x:Nat):(my t l).get x=if x∈l then t.get x else none:=by
 induction l with
 | nil=>show (Tr.nil:Tr Value).get x=_; rw [Tr.get_nil]; simp
 | cons y l ih=>
  have ih':=ih fun x hx=>hl x (List.mem_cons_of_mem _ hx);show (Option.rec (my t l) (fun v=>dA (my t l) fun ih=>Tr.set v 40 ih y) (t.get y):Tr Value).get x=_;cases hg:t.get y with
  | none=>
   show (my t l).get x=_;rw [ih'];by_cases hx:x=y
   ·subst hx; rw [hg]; simp
   ·simp [hx]
  | some v=>
   show (dA (my t l) fun ih=>Tr.set v 40 ih y).get x=_;have hf:jA y:=(hl y List.mem_cons_self).resolve_right (by rw [hg]; simp);rw [cQ,Tr.get_set _ _ _ _ hf,ih'];by_cases hx:x=y
   ·subst hx; rw [if_pos rfl,hg]; simp
   ·rw [if_neg hx]; simp [hx]
theorem GH (l:List Tmp) (f:Fr):i3 l f=⟨my f.tmps l,f.n,[]⟩:=by cases f; unfold i3; simp only [cQ]
theorem IP {φ:dz}{f:Fr}{a:Act}{l:List Tmp} (hs:a.tmps.size=f.n) (hn:f.n≤1000000) (hfit:∀x∈l,jA x∨f.tmps.get x=none) (h:∀t∈l,eT φ ((f.tmps.get t).getD undef) (a.tmps.getD t undef)):fh φ (i3 l f) (fc l a):=by
 rw [GH];refine⟨by rw [md]; exact hs,hn,fun t=>?_,.nil⟩;show eT φ (((my f.tmps l).get t).getD undef) _;rw [wI _ _ hfit,nG];by_cases ht:t∈l
 ·rw [if_pos ht,if_pos ht]; exact h t ht
 ·rw [if_neg ht,if_neg ht]; exact iF φ
theorem Fg {o:Oper}{a:Act}{x:Operand} (hx:x∈o.op.operands):(fc (o.looksAt ops) a).eval x=a.eval x:=by
 cases x with
 | tmp t=>
  show (fc (o.looksAt ops) a).tmps.getD t undef=a.tmps.getD t undef;have hm:t∈o.looksAt ops:=List.mem_append_left _ (List.mem_filterMap.2 ⟨Operand.tmp t,by simpa using hx,rfl⟩);rw [nG,if_pos hm]
 | const v=>rfl
 | global g=>rfl
 | func g=>rfl
theorem C5 {o:Oper}{a:Act}{j:Nat}{b:Bool} (hg:o.guard=some (j,b)):yielded ops (fc (o.looksAt ops) a).tmps j=yielded ops a.tmps j:=by
 unfold yielded;cases ht:(ops[j]?).bind (·.dst) with
 | none=>rfl
 | some t=>
  have hm:t∈o.looksAt ops:=List.mem_append_right _ (by rw [hg]; simp [ht]);rw [Option.bind_some,Option.bind_some];have h1:=nG (o.looksAt ops) a t;rw [if_pos hm] at h1;have h2:=md (o.looksAt ops) a;have h3:(fc (o.looksAt ops) a).tmps[t]?=a.tmps[t]?:=by
   by_cases hlt:t < a.tmps.size
   ·have hlt':t < (fc (o.looksAt ops) a).tmps.size:=by rw [h2]; exact hlt
    rw [Array.getD_eq_getD_getElem?,Array.getD_eq_getD_getElem?,Array.getElem?_eq_getElem hlt,Array.getElem?_eq_getElem hlt'] at h1;rw [Array.getElem?_eq_getElem hlt,Array.getElem?_eq_getElem hlt'];exact congrArg some h1
   ·rw [Array.getElem?_eq_none (Nat.le_of_not_lt hlt),Array.getElem?_eq_none (by rw [h2]; exact Nat.le_of_not_lt hlt)]
  rw [h3]
theorem sX (o:Oper) (a:Act):Region.wanted o (yielded ops (fc (o.looksAt ops) a).tmps)=Region.wanted o (yielded ops a.tmps):=by
 unfold Region.wanted;cases hg:o.guard with
 | none=>rfl
 | some p=>obtain⟨j,b⟩:=p; simp only [C5 hg]
theorem B5 {f g:Fr}{o:Oper}{A B:AS}{l:List Oper} (h:i8 P call l f o A=.on g B):jJ l f o.guard=some false∨∀cs b,o.op≠.select cs b:=by
 unfold i8 at h;split at h
 ·refine .inr fun cs b he=>?_;have hn:bG P f o A=none:=by unfold bG; rw [he]
  rw [hn] at h;cases h
 ·rename_i hw; exact .inl hw
 ·cases h
theorem FF {o:Oper}{a:Act}{w:World}{K K':Act→World→Prop}{Q:Exit→Act→World→Prop} (hs:Region.wanted o (yielded ops a.tmps)=false∨∀cs b,o.op≠.select cs b)
  (hv:∀v w',K' ((fc (o.looksAt ops) a).put o.dst v) w'→K (a.put o.dst v) w')
  (hd:∀d w',¬ K' (({ fc (o.looksAt ops) a with defers:=[d] } : Act).put o.dst undef) w')
  (h:kQ P ops (fun _ _ _=>False) o K' (fc (o.looksAt ops) a) w):kQ P ops Q o K a w:=by
 unfold kQ at h ⊢;rw [sX] at h;split
 ·rename_i hw;rw [if_pos hw] at h;have hs':=hs.resolve_left (by rw [hw]; simp);have he:execOp a.eval o=execOp (fc (o.looksAt ops) a).eval o:=execOp_congr o hs' fun x hx=>(Fg hx).symm;unfold Oper.wp at h ⊢;rw [he];generalize (execOp (fc (o.looksAt ops) a).eval o).run P w=r at h ⊢;cases r with
  | ok n w'=>
   cases n<;>simp only [Oper.upon] at h ⊢
   case value v=>exact hv v w' h
   case skip=>exact hv undef w' h
   case defer d=>exact absurd h (hd d w')
   case enter g args=>
    refine Calls.mono h fun e w'' he=>?_;cases e with
    | returned v=>exact hv v w'' he
    | panicked c=>exact he.elim
    | outgrown=>obtain⟨_,_,he⟩:=he; exact he.elim
   case row row args=>exact Rows.mono h fun v w'' he=>hv v w'' he
  | halt x w'=>cases x<;>simp only [Oper.upon] at h ⊢
 ·rename_i hw;rw [if_neg hw] at h;exact hv undef w h
theorem Ef {a:Act}{d:Option Tmp}{v:Value} (t:Nat):(a.put d v).tmps.getD t undef=if d=some t∧t < a.tmps.size then v else a.tmps.getD t undef:=by
 cases d with
 | none=>simp [Act.put]
 | some x=>
  show (a.tmps.setIfInBounds x v).getD t undef=_;simp only [Array.getD_eq_getD_getElem?,Array.getElem?_setIfInBounds,Option.some.injEq];by_cases hx:x=t
  ·subst hx;by_cases hlt:x < a.tmps.size
   ·simp [hlt]
   ·simp [hlt]
  ·simp [hx]
theorem Ji {a:Act}{d:Option Tmp}{v:Value} : (a.put d v).tmps.size=a.tmps.size:=by cases d<;>simp [Act.put]
theorem DL {a:Act}{d:Option Tmp}{v:Value} : (a.put d v).defers=a.defers:=by cases d<;>rfl
end
end Go.EvL
namespace Go.EvL
open Go
section
variable {P:Program}{call:dS}{ops:Array Oper}{X:Nat→G8}
theorem vM {L:Nat→Prop} (hL:Closed ops L) {i:Nat}{o:Oper} (ho:ops[i]?=some o) (hr:∀e∈o.after,Region.binds .any e=true→L e.on):Closed ops fun j=>L j∨j=i:=by
 intro j o' ho' hj e he hb;rcases hj with hj | rfl
 ·exact .inl (hL j o' ho' hj e he hb)
 ·rw [ho] at ho'; injection ho' with ho'; subst ho'; exact .inl (hr e he hb)
theorem Ho.step (W:pd P call ops X) (H:ku P ops X) {φ₀ φ:dz}{T:Nat→Prop}{w₀ w:World}{a:Act}{L:Nat→Prop} (hn:(X 0).f.n≤1000000)
  (hT:iH (X 0).s (X ops.size).s T) (hfr:iQ (X 0).s (X ops.size).s φ₀)
  (hL:Closed ops L) {i:Nat}{o:Oper} (ho:ops[i]?=some o) (hLi:¬ L i) (hr:∀e∈o.after,Region.binds .any e=true→L e.on) (M:Ho P ops X φ₀ T w₀ L φ a w)
  {K:Act→World→Prop}{Q:Exit→Act→World→Prop} (hK:∀φ' a' w',Ho P ops X φ₀ T w₀ (fun j=>L j∨j=i) φ' a' w'→K a' w'):kQ P ops Q o K a w:=by
 have hi:=vR ho;have hL':=vM hL ho hr;have g:=W.good i o ho;have hs:=H.on i o ho;have hni:(X i).f.n≤1000000:=by rw [(W.n i (Nat.le_of_lt hi)).1]; exact hn
 obtain⟨e1,e2,e3,_,_⟩:=ku.heap W hi;have bef:∀{c j:Nat},j < i→((X i).B.r.testBit c=true∨(X i).B.w.testBit c=true)→(X j).B.w.testBit c=true→L j:=fun {c j} hj hc hw=>
  (W.cls hL' hj hi (.inr rfl) (.inl ⟨hw,hc⟩)).resolve_right (by omega)
 have beh:∀{c j:Nat},i < j→j < ops.size→((X i).B.r.testBit c=true∨(X i).B.w.testBit c=true)→(X j).B.w.testBit c=true→¬ L j:=fun {c j} hij hj hc hw hLj=>
  hLi (W.cls hL hij hj hLj (hc.elim (fun h=>.inr ⟨hw,h⟩) fun h=>.inl ⟨h,.inr hw⟩))
 have befS:∀{t j:Nat},j < i→(t∈o.looksAt ops∨o.dst=some t)→O1 ops j t→L j:=fun {t j} hj ht hd=>by
  obtain⟨o',ho',hd⟩:=hd;exact (W.slot hL' hj ho' ho (.inr rfl) (.inl ⟨hd,ht⟩)).resolve_right (by omega)
 have behS:∀{t j:Nat},i < j→j < ops.size→(t∈o.looksAt ops∨o.dst=some t)→O1 ops j t→¬ L j:=fun {t j} hij hj ht hd hLj=>by
  obtain⟨o',ho',hd⟩:=hd;exact hLi (W.slot hL hij ho ho' hLj (ht.elim (fun h=>.inr ⟨hd,h⟩) fun h=>.inl ⟨h,.inr hd⟩))
 have hrel:iI P φ (fun c=>((X i).B.r.testBit c=true∨(X i).B.w.testBit c=true)∧c < (X i).s.next) (cS (X i).s) w:=by
  refine⟨M.blk,M.inj,fun b x hb hl hc=>?_,M.al,M.glob,M.root⟩;rw [cT] at hb ⊢;refine M.obj _ ?_ i (Nat.le_of_lt hi) (fun j hj hw=>bef hj hc.1 hw) (fun j hij hj hw=>?_) b x hb hl rfl
  ·by_cases h0:(X 0).s.next≤cZ b x
   ·exact .inr h0
   ·have hbits:=ku.bits W hi (c:=cZ b x) hi (Nat.le_refl _);exact .inl (hT _ (by omega) (hc.1.imp hbits.2 hbits.1))
  ·by_cases he:j=i
   ·rw [he]; exact hLi
   ·exact beh (by omega) hj hc.1 hw
 have hfoot:iH (cS (X i).s) (X i).B (fun c=>((X i).B.r.testBit c=true∨(X i).B.w.testBit c=true)∧c < (X i).s.next):=by
  intro c hc hb;rw [eX] at hc;exact⟨hb,hc⟩
 have hfresh:iQ (cS (X i).s) (X i).B φ:=by
  intro b h1 h2;rw [eX] at h1;rw [← e3] at h2;have l1:=H.le W (Nat.zero_le i) (Nat.le_of_lt hi);have l2:=H.le W (show i + 1≤ops.size by omega) (Nat.le_refl _);rcases M.out b with h | ⟨j,hj,hLj,h3,h4⟩
  ·rw [h]; exact hfr b (by omega) (by omega)
  ·exfalso;rcases Nat.lt_trichotomy i j with hij | hij | hij
   ·have:=H.le W (show i + 1≤j by omega) (by omega); omega
   ·rw [hij] at hLi; exact hLi hLj
   ·have:=H.le W (show j + 1≤i by omega) (by omega); omega
 have hframe:fh φ (i3 (o.looksAt ops) (X i).f) (fc (o.looksAt ops) a):=by
  refine IP (by rw [M.sz,(W.n i (Nat.le_of_lt hi)).1]) hni (fun x hx=>.inl ?_) fun t ht=>M.tmps t i (Nat.le_of_lt hi) (fun j hj hd=>befS hj (.inl ht) hd) fun j hij hj hd=>?_
  ·trivial
  ·by_cases he:j=i
   ·rw [he]; exact hLi
   ·exact behS (by omega) hj (.inl ht) hd
 have hsel:Region.wanted o (yielded ops a.tmps)=false∨∀cs b,o.op≠.select cs b:=by
  rcases g.step.elim B5 And.right with h | h
  ·left;rw [← sX];exact ga hframe h
  ·exact .inr h
 have hgd:(X i).g.defers=[]:=(xl g.put).2.2;refine FF (K':=fun a'' w''=>∃φ',cm P φ (fun c=>((X i).B.r.testBit c=true∨(X i).B.w.testBit c=true)∧c < (X i).s.next) (cS (X i).s) (X i).B w w'' φ'∧fh φ' (X i).g a'') hsel ?_ ?_
  (hs.run φ _ w _ hframe hrel hfoot hfresh _ _ fun φ' w' a' hp hf=>⟨φ',hp,hf⟩)
 ·rintro v w' ⟨φ',hp,hf⟩;refine hK φ' _ w' ⟨?_,?_,hp.rel.blk,hp.rel.inj,hp.rel.al,hp.rel.glob,hp.rel.root,?_,?_,?_,?_,?_,?_,?_,?_,?_,?_⟩
  ·exact fun b j hb=>hp.ext b j (M.ext b j hb)
  ·intro b;by_cases hb:b < (X i).s.next∨(X i).B.next≤b
   ·rw [hp.out b (by rw [eX]; exact hb)];rcases M.out b with h | ⟨j,h1,h2,h3⟩
    ·exact .inl h
    ·exact .inr ⟨j,h1,.inl h2,h3⟩
   ·exact .inr ⟨i,hi,.inr rfl,by omega,by rw [e3]; omega⟩
  ·intro c hc k hk h1 h2 b x hb hl hcl;by_cases hw:(X i).B.w.testBit c=true
   ·
    have hik:i < k:=by
     rcases Nat.lt_or_ge i k with h | h
     ·exact h
     ·exact absurd (.inr rfl) (h2 i h hi hw)
    have hz:∀m,i + 1≤m→m < k→(X m).B.w.testBit c=false:=fun m hm hmk=>by
     cases hh:(X m).B.w.testBit c with
     | false=>rfl
     | true=>exact absurd ((h1 m hmk hh).resolve_right (by omega)) (beh (by omega) (by omega) (.inr hw) hh)
    obtain⟨a1,a2⟩:=H.agree W (show i + 1≤k by omega) hk hz;have hb1:=a2 b x hb hcl;rw [e1] at hb1;rw [a1,e2];have hcn:c < (X i).B.next:=by
     rcases (H.fr i hi).wb c hw with h | h
     ·rw [cT] at h; simp at h
     ·exact h
    have:=hp.rel.obj b x hb1 hl (by
     rw [hcl,eX];by_cases hlt:c < (X i).s.next
     ·exact .inl ⟨.inr hw,hlt⟩
     ·exact .inr ⟨by omega,hcn⟩)
    rw [hcl] at this;exact this
   ·have hw':(X i).B.w.testBit c=false:=by simpa using hw
    obtain⟨j,x',g1,g2,g3⟩:=M.obj c hc k hk (fun m hm hh=>(h1 m hm hh).resolve_right (fun he=>hw (he ▸ hh))) (fun m a1 a2 hh hl=>h2 m a1 a2 hh (.inl hl)) b x hb hl hcl;refine⟨j,x',hp.ext _ _ g1,?_,g3.mono hp.ext fun h hh=>⟨h,hh,Nat.le_refl _⟩⟩;rw [hp.same j.blk (M.blk _ _ g1) fun b' i' hb' he=>?_]
    ·exact g2
    ·rw [(M.inj _ _ _ _ hb' g1 he).1,g3.cls,hcl]; exact hw'
  ·intro b j hb hlt;obtain⟨b1,j1,g1,g2,g3⟩:=hp.img b j hb (Nat.lt_of_lt_of_le hlt M.size);obtain⟨b0,j0,k1,k2,k3⟩:=M.img b1 j1 g1 (by rw [g2]; exact hlt);exact⟨b0,j0,k1,k2.trans g2,k3.trans g3⟩
  ·exact Nat.le_trans M.size hp.size
  ·intro k hk hw;rw [hp.same k (Nat.lt_of_lt_of_le hk M.size) fun b j hb he=>?_]
   ·exact M.same k hk hw
   ·obtain⟨b0,j0,k1,k2,k3⟩:=M.img b j hb (by rw [he]; exact hk);have:=hw b0 j0 k1 (k2.trans he);rw [k3] at this;exact rM (ku.bits W hi hi (Nat.le_refl _)).1 this
  ·exact hp.os.trans M.os
  ·exact hp.tape.trans M.tape
  ·exact hp.output.trans M.output
  ·rw [Ji]; exact M.sz
  ·intro t k hk h1 h2;rw [Ef];by_cases hd:o.dst=some t
   ·have hD:O1 ops i t:=⟨o,ho,hd⟩
    have hik:i < k:=by
     rcases Nat.lt_or_ge i k with h | h
     ·exact h
     ·exact absurd (.inr rfl) (h2 i h hi hD)
    have hz:∀m,i + 1≤m→m < k→¬ O1 ops m t:=fun m hm hmk hh=>
     behS (by omega) (by omega) (.inr hd) hh ((h1 m hmk hh).resolve_right (by omega))
    rw [W.slotAt hn (show i + 1≤k by omega) hk hz];obtain⟨hlt,hget⟩:=(tY hni g.put t).1 hd;rw [(W.n i (Nat.le_of_lt hi)).1] at hlt;rw [hget,if_pos ⟨hd,by rw [M.sz]; exact hlt⟩];have:=hf.tmps t;rw [Ef,if_pos ⟨hd,by rw [md,M.sz]; exact hlt⟩] at this;exact this
   ·rw [if_neg (fun h=>hd h.1)];have hnD:¬ O1 ops i t:=fun ⟨o',h3,h4⟩=>by rw [ho] at h3; injection h3 with h3; subst h3; exact hd h4
    exact (M.tmps t k hk (fun m hm hh=>(h1 m hm hh).resolve_right (fun he=>hnD (he ▸ hh))) (fun m a1 a2 hh hl=>h2 m a1 a2 hh (.inl hl))).mono hp.ext
  ·rw [DL]; exact M.defers.mono hp.ext
 ·rintro d w' ⟨φ',_,hf⟩;have:=hf.defers;rw [hgd,DL] at this;cases this
end
end Go.EvL
namespace Go.EvL
open Go
section
variable {P:Program}{call:dS}{ops:Array Oper}{X:Nat→G8}
def ES (p:Nat→Bool):Nat→Nat
 | 0=>0
 | n + 1=>ES p n + if p n then 1 else 0
theorem G2 {p q:Nat→Bool} : ∀n,(∀j,j < n→q j=p j)→ES q n=ES p n:=by
 intro n
 induction n with
 | zero=>intro _; rfl
 | succ n ih=>intro h; simp only [ES]; rw [ih fun j hj=>h j (by omega),h n (by omega)]
theorem I7 {p q:Nat→Bool}{i:Nat} (hp:p i=true) (hq:q i=false) (h:∀j,j≠i→q j=p j):∀n,i < n→ES q n + 1=ES p n:=by
 intro n
 induction n with
 | zero=>intro h; omega
 | succ n ih=>
  intro hi;simp only [ES];by_cases he:i=n
  ·subst he;rw [G2 i fun j hj=>h j (by omega),hp,hq];simp
  ·rw [h n (fun e=>he e.symm)];have:=ih (by omega);omega
theorem HF {p:Nat→Bool} : ∀n,ES p n=0→∀j,j < n→p j=false:=by
 intro n
 induction n with
 | zero=>intro _ j hj; omega
 | succ n ih=>
  intro h j hj;simp only [ES] at h;by_cases he:j=n
  ·subst he;cases hp:p j with
   | false=>rfl
   | true=>rw [hp] at h; simp at h
  ·exact ih (by omega) j (by omega)
def On (listed:Array Bool) (i:Nat):Prop:=listed.getD i false=true
theorem HN {listed:Array Bool}{i:Nat} (hi:i < listed.size) (j:Nat):On (listed.setIfInBounds i true) j↔On listed j∨j=i:=by
 unfold On;simp only [Array.getD_eq_getD_getElem?,Array.getElem?_setIfInBounds];by_cases h:i=j
 ·subst h; simp [hi]
 ·simp [h]; exact fun e=>absurd e.symm h
theorem Ct {listed:Array Bool}{i:Nat} (hi:i < listed.size):listed.getD i true=false↔¬ On listed i:=by
 unfold On;simp only [Array.getD_eq_getD_getElem?,Array.getElem?_eq_getElem hi,Option.getD_some];cases listed[i]<;>simp
theorem Qb (W:pd P call ops X) {listed:Array Bool} (hs:listed.size=ops.size) (hr:Region.ready .any ops listed=[]):∀i,i < ops.size→On listed i:=by
 intro i
 induction i using Nat.strongRecOn with
 | _ i ih=>
  intro hi;obtain⟨o,ho⟩:=lc hi;by_cases hon:On listed i
  ·exact hon
  ·exfalso;have:i∈Region.ready .any ops listed:=by
    rw [mem_ready];refine⟨(Ct (by omega)).2 hon,o,ho,fun e he hb=>?_⟩;have hl:=(W.good i o ho).low;unfold lm at hl;rw [List.all_eq_true] at hl;have:=hl e (by simpa using he);rw [hb] at this;have hlt:e.on < i:=Nat.le_of_ble_eq_true (by simpa using this);exact ih e.on hlt (by omega)
   rw [hr] at this;cases this
theorem zS (W:pd P call ops X) (H:ku P ops X) {φ₀:dz}{T:Nat→Prop}{w₀:World} (hn:(X 0).f.n≤1000000) (hT:iH (X 0).s (X ops.size).s T) (hfr:iQ (X 0).s (X ops.size).s φ₀) {Q:Exit→Act→World→Prop}
  (hQ:∀φ' w' a',cm P φ₀ T (X 0).s (X ops.size).s w₀ w' φ'→fh φ' (X ops.size).f a'→Q .normal a' w') :
  ∀(fuel:Nat) (listed:Array Bool) (φ:dz) (a:Act) (w:World) (L:Nat→Prop),listed.size=ops.size→(∀j,L j↔On listed j)→Closed ops L→ES (fun j=>!listed.getD j false) ops.size≤fuel→Ho P ops X φ₀ T w₀ L φ a w→
   wpAny P .any ops Q fuel listed a w:=by
 intro fuel;have done:∀(listed:Array Bool) (φ:dz) (a:Act) (w:World) (L:Nat→Prop),(∀j,L j↔On listed j)→(∀i,i < ops.size→On listed i)→Ho P ops X φ₀ T w₀ L φ a w→Q .normal a w:=fun listed φ a w L hLo hall M=>by
  obtain⟨h1,h2⟩:=Ho.finish W H hn (fun i hi=>(hLo i).2 (hall i hi)) M;exact hQ φ w a h1 h2
 induction fuel with
 | zero=>
  intro listed φ a w L hs hLo _ hc M;have hall:∀i,i < ops.size→On listed i:=fun i hi=>by
   have:=HF _ (Nat.le_zero.1 hc) i hi;simpa [On] using this
  refine⟨?_,done listed φ a w L hLo hall M⟩;cases hr:Region.ready .any ops listed with
  | nil=>rfl
  | cons i l=>
   have hm:i∈Region.ready .any ops listed:=by rw [hr]; exact List.mem_cons_self
   obtain⟨h0,o,ho,_⟩:=mem_ready.1 hm;exact absurd (hall i (vR ho)) ((Ct (by rw [hs]; exact vR ho)).1 h0)
 | succ fuel ih=>
  intro listed φ a w L hs hLo hcl hc M;refine⟨fun hr=>done listed φ a w L hLo (Qb W hs hr) M,fun i hm=>?_⟩;obtain⟨h0,o,ho,hall⟩:=mem_ready.1 hm;have hi:=vR ho;have hnot:=(Ct (by rw [hs]; exact hi)).1 h0;have hr:∀e∈o.after,Region.binds .any e=true→L e.on:=fun e he hb=>(hLo _).2 (hall e he hb);have key:kQ P ops Q o (wpAny P .any ops Q fuel (listed.setIfInBounds i true)) a w:=by
   refine M.step W H hn hT hfr hcl ho (fun h=>hnot ((hLo i).1 h)) hr fun φ' a' w' M'=>?_;refine ih (listed.setIfInBounds i true) φ' a' w' (fun j=>L j∨j=i) (by simp [hs]) (fun j=>?_) (vM hcl ho hr) ?_ M'
   ·rw [HN (by rw [hs]; exact hi),hLo]
   ·have:=I7 (p:=fun j=>!listed.getD j false) (q:=fun j=>!(listed.setIfInBounds i true).getD j false) (i:=i) (by simpa [On] using hnot)
     (by have:=(HN (listed:=listed) (by rw [hs]; exact hi) i).2 (.inr rfl); unfold On at this; simp only [this]; rfl)
     (fun j hj=>by simp only [getD_set_ne false (Ne.symm hj)]) ops.size hi
    omega
  unfold wpOp;rw [ho];unfold kQ at key;split at key
  ·rename_i hw; simp only [hw,if_true]; exact .inl key
  ·rename_i hw; simp only [hw]; exact key
theorem pd.path (hO:cP P) (hOm:gX P) (hC:ja P call) (hM:dF call) (W:pd P call ops X) (hI:cE (X 0).s) (hn:(X ops.size).s.next≤(X ops.size).s.next):ku P ops X:=by
 have hmono:∀i,i < ops.size→(X i).s.next≤(X (i + 1)).s.next:=fun i hi=>by
  obtain⟨o,ho⟩:=lc hi;have:(cS (X i).s).next≤(X i).B.next:=(W.good i o ho).step.elim (fun h=>lB hOm hM (v:=undef) (.inl h)) fun h=>h.1.fr.next;rw [eX] at this;rw [(W.good i o ho).s,jr];exact this
 have hle:∀k i,i + k≤ops.size→(X i).s.next≤(X (i + k)).s.next:=by
  intro k
  induction k with
  | zero=>intro i _; exact Nat.le_refl _
  | succ k ih=>intro i h; exact Nat.le_trans (ih i (by omega)) (hmono (i + k) (by omega))
 have key:∀i,i≤ops.size→cE (X i).s:=by
  intro i
  induction i with
  | zero=>intro _; exact hI
  | succ i ih=>
   intro hi;obtain⟨o,ho⟩:=lc (show i < ops.size by omega);have g:=W.good i o ho;have hb:(X i).B.next≤(X i).B.next:=by
    have h1:=hle (ops.size - (i + 1)) (i + 1) (by omega);rw [show i + 1 + (ops.size - (i + 1))=ops.size by omega,g.s,jr] at h1;omega
   have hs:=g.step.elim (fun h=>od hO hC hM (rE (ih (by omega))) hb h) And.left;rw [g.s];exact (zj hs.fr).inv
 have hon:∀i o,ops[i]?=some o→lN P ops o (i3 (o.looksAt ops) (X i).f) (cS (X i).s) (X i).g (X i).B:=fun i o ho=>by
  have hi:=vR ho;have g:=W.good i o ho;have hb:(X i).B.next≤(X i).B.next:=by
   have h1:=hle (ops.size - (i + 1)) (i + 1) (by omega);rw [show i + 1 + (ops.size - (i + 1))=ops.size by omega,g.s,jr] at h1;omega
  exact g.step.elim (fun h=>od hO hC hM (rE (key i (Nat.le_of_lt hi))) hb h) And.left
 exact⟨fun i hi=>by obtain⟨o,ho⟩:=lc hi; exact (hon i o ho).fr,hon⟩
theorem ku.all (W:pd P call ops X) (H:ku P ops X) (hI:cE (X 0).s):∀i,i≤ops.size→mo (X 0).s (X i).s:=by
 intro i
 induction i with
 | zero=>intro _; exact .refl hI
 | succ i ih=>intro hi; exact (ih (by omega)).trans (H.fr' W (by omega))
theorem Sg (hm:P.follows .mixedOrders=true) (W:pd P call ops X) (H:ku P ops X) (hI:cE (X 0).s) (id:Nat):nz P (.region id ops true) (X 0).f (X 0).s .normal (X ops.size).f (X ops.size).s:=by
 refine⟨H.all W hI _ (Nat.le_refl _),fun φ T w a hf hr hT hfr Q hQ=>?_⟩;refine wp_region_any hm (zS W H hf.few hT hfr (w₀:=w) (fun φ' w' a' hp hf'=>hQ φ' w' a' _ hp hf' .normal) ops.size _ φ a _ (fun _=>False) (by simp) (fun j=>?_) (fun _ _ _ hh=>hh.elim) ?_ (Ho.start W H hI hf hr))
 ·unfold On;refine⟨fun h=>h.elim,fun h=>?_⟩;simp only [Array.getD_eq_getD_getElem?,Array.getElem?_replicate] at h;split at h<;>simp at h
 ·have:∀(p:Nat→Bool) n,ES p n≤n:=by
   intro p n
   induction n with
   | zero=>exact Nat.le_refl _
   | succ n ih=>simp only [ES]; split<;>omega
  exact this _ _
theorem HD (hm:P.follows .mixedOrders=true) (hO:cP P) (hOm:gX P) (hC:ja P call) (hM:dF call):yQ P call:=by
 intro id ops f A x f' A' hI hn h;rcases nP h with ⟨h1,rfl⟩ | ⟨v,h1,_⟩
 ·obtain⟨X,e1,e2,e3,e4,e5,e6,e7⟩:=Te _ _ _ _ _ _ _ _ h1;simp only [Nat.zero_add,Array.length_toList] at e5 e6 e7;have W:pd P call ops X:=⟨e3,e4,fun i o ho=>e7 i o (by simpa using ho)⟩
  subst e1; subst e2; subst e5; subst e6;have H:=W.path hO hOm hC hM hI hn;refine⟨H.all W hI _ (Nat.le_refl _),fun φ T w a hf hr hT hfr Q hQ=>?_⟩;refine wp_region_any hm (zS W H hf.few hT hfr (w₀:=w) (fun φ' w' a' hp hf'=>hQ φ' w' a' _ hp hf' .normal) ops.size _ φ a _ (fun _=>False) (by simp) (fun j=>?_) (fun _ _ _ hh=>hh.elim) ?_ (Ho.start W H hI hf hr))
  ·unfold On;refine⟨fun h=>h.elim,fun h=>?_⟩;simp only [Array.getD_eq_getD_getElem?,Array.getElem?_replicate] at h;split at h<;>simp at h
  ·have:∀(p:Nat→Bool) n,ES p n≤n:=by
    intro p n
    induction n with
    | zero=>exact Nat.le_refl _
    | succ n ih=>simp only [ES]; split<;>omega
   exact this _ _
 ·exact absurd h1 (ui _ _ _ _ _ _ _ _ _ _)
end
end Go.EvL
namespace Go.EvL
open Go
section
variable {P:Program}{call:dS}
inductive Hn (φ:dz):Option Value→FrameMode→Prop
 | ret:Hn φ none .returning
 | panic (v v':Value) (h:eT φ v v'):Hn φ (some v) (.panicking [{ v:=v',recovered:=false }])
 | done (v':Value):Hn φ none (.panicking [{ v:=v',recovered:=true }])
theorem Hn.mono {φ φ':dz} (he:BB φ φ') {u:Option Value}{m:FrameMode} (h:Hn φ u m):Hn φ' u m:=by
 cases h with
 | ret=>exact .ret
 | panic v v' h=>exact .panic v v' (h.mono he)
 | done v'=>exact .done v'
theorem te.inn {φ:dz}{u:Option Value}{m:FrameMode} (h:te φ u m):Hn φ u m:=by
 cases h with
 | ret=>exact .ret
 | panic v v' h=>exact .panic v v' h
theorem Hn.settle {φ:dz}{u:Option Value}{m:FrameMode} (h:Hn φ u m):te φ u (settle m):=by
 cases h with
 | ret=>exact .ret
 | panic v v' h=>exact .panic v v' h
 | done v'=>exact .ret
def Oa (P:Program) (ops:Array Oper) (Q:Exit→Act→List Frame→World→Prop) (o:Oper) (K:Act→List Frame→World→Prop) (a:Act) (cs:List Frame) (w:World):Prop:=
 if Region.wanted o (yielded ops a.tmps) then
  match (execOp a.eval o).run P w with
  | .ok .recover w'=>
   match recoverD cs with
   | some (v,cs')=>K (a.put o.dst v) cs' w'
   | none=>K (a.put o.dst .nilIface) cs w'
  | r=>o.upon P a (fun a' w'=>K a' cs w') (fun e a' w'=>Q e a' cs w') r
 else K (a.put o.dst undef) cs w
def mm (P:Program) (ops:Array Oper) (Q:Exit→Act→List Frame→World→Prop):List Oper→Act→List Frame→World→Prop
 | [],a,cs,w=>Q .normal a cs w
 | o :: l,a,cs,w=>Oa P ops Q o (mm P ops Q l) a cs w
theorem Fe {o:Oper}{a:Act}{K K':Act→World→Prop}{Q:Exit→Act→World→Prop} (h:∀a w,K a w→K' a w) {r:Result Next} (hh:o.upon P a K Q r):o.upon P a K' Q r:=by
 cases r with
 | ok n w'=>
  cases n<;>simp only [Oper.upon] at hh ⊢<;>
   first
    | exact h _ _ hh
    | exact Calls.mono hh (fun e w'' he=>by cases e<;>first | exact h _ _ he | exact he)
    | exact Rows.mono hh (fun _ _ he=>h _ _ he)
 | halt x w'=>cases x<;>simp only [Oper.upon] at hh ⊢<;>exact hh
theorem w9 {ops:Array Oper}{Q:Exit→Act→List Frame→World→Prop} : ∀(l:List Oper) (k:Nat) (a:Act) (cs:List Frame) (w:World),ops.toList.drop k=l→mm P ops Q l a cs w→wpOpsS P ops Q (List.range' k l.length) a cs w:=by
 intro l
 induction l with
 | nil=>intro k a cs w _ h; exact h
 | cons o l ih=>
  intro k a cs w hd h;have hk:ops[k]?=some o:=by
   have:(ops.toList.drop k)[0]?=some o:=by rw [hd]; rfl
   simpa using this
  have hd':ops.toList.drop (k + 1)=l:=by rw [← List.drop_drop (i:=1) (j:=k),hd]; rfl
  have ih':=fun a cs w=>ih (k + 1) a cs w hd';rw [List.length_cons,List.range'_succ];unfold mm Oa at h;simp only [wpOpsS,hk];split
  ·rename_i hw;rw [if_pos hw] at h;split
   ·rename_i w' hr;rw [hr] at h;simp only at h;split
    ·rename_i v cs' hrec; rw [hrec] at h; exact ih' _ _ _ h
    ·rename_i hrec; rw [hrec] at h; exact ih' _ _ _ h
   ·rename_i r hne;generalize hr:(execOp a.eval o).run P w=r' at h hne ⊢;split at h
    ·exact absurd rfl (hne _)
    ·exact Fe (fun a' w'=>ih' a' cs w') h
  ·rename_i hw;rw [if_neg hw] at h;exact ih' _ _ _ h
theorem Ov {ops:Array Oper}{Q:Exit→Act→List Frame→World→Prop}{o:Oper}{K:Act→List Frame→World→Prop}{a:Act}{cs:List Frame}{w:World} (h:kQ P ops (fun e a' w'=>Q e a' cs w') o (fun a' w'=>K a' cs w') a w):Oa P ops Q o K a cs w:=by
 unfold kQ at h;unfold Oa;split at h
 ·rename_i hw;rw [if_pos hw];unfold Oper.wp at h;generalize (execOp a.eval o).run P w=r at h ⊢;split
  ·exact h.elim
  ·exact h
 ·rename_i hw;rw [if_neg hw];exact h
theorem wz (hO:cP P) (hOm:gX P) (hC:ja P call) (hM:dF call) {ops:Array Oper} : ∀(l:List Oper) {f:Fr}{A:AS}{u:Option Value}{q:Dd},cE A→q.s.next≤q.s.next→qH P call ops.toList l f A u=some q→mo A q.s∧
  ∀(φ:dz) (T:Nat→Prop) (w:World) (a:Act) (c₀:Frame) (cs:List Frame) (m:FrameMode),fh φ f a→Hn φ u m→iI P φ T A w→iH A q.s T→iQ A q.s φ→∀(Q:Exit→Act→List Frame→World→Prop),
   (∀φ' w' a' m',cm P φ T A q.s w w' φ'→fh φ' q.f a'→Hn φ' q.u m'→Q .normal a' ({ c₀ with mode:=m' } :: cs) w')→mm P ops Q l a ({ c₀ with mode:=m } :: cs) w:=by
 intro l
 induction l with
 | nil=>
  intro f A u q hi hn h;have h':some (⟨f,A,u⟩ : Dd)=some q:=h;injection h' with h';subst h';exact⟨.refl hi,fun φ T w a c₀ cs m hf hu hr _ _ Q hQ=>hQ φ w a m (.refl hr rfl rfl rfl rfl rfl rfl rfl) hf hu⟩
 | cons o l ih=>
  intro f A u q hi hn h;rw [rA] at h;unfold Mo at h;split at h
  ·rename_i s hev;split at h
   ·rename_i hg;unfold QX at h;split at h
    ·rename_i g s' hon;obtain⟨hput,rfl⟩:=jN hon;have hle:=lO hOm hM l h;have hs:=hO f o A _ _ hi (Nat.le_refl _) hev;obtain⟨f2,r2⟩:=ih hs.fr.inv hn h;refine⟨hs.fr.trans f2,fun φ T w a c₀ cs m hf hu hr hT hfr Q hQ=>?_⟩;obtain⟨φ1,w1,hp,hnr⟩:=hs.run φ T w a hf hr (hT.left f2) (dX hfr f2.next);show Oa P ops Q o (mm P ops Q l) a _ w;unfold Oa;rw [show Region.wanted o (yielded ops a.tmps)=true by unfold Region.wanted; rw [hg],if_pos rfl];generalize hres:(execOp a.eval o).run P w=res at hnr;cases hnr;simp only;have go:∀v' m',eT φ1 (u.getD .nilIface) v'→Hn φ1 none m'→mm P ops Q l (a.put o.dst v') ({ c₀ with mode:=m' } :: cs) w1:=fun v' m' hv hm=>
      r2 φ1 _ w1 _ c₀ cs m' ((hf.mono hp.ext).put hput hv) hm hp.rel (dJ hT) (dx hfr hs.fr.next hp) Q fun φ2 w2 a2 m2 hp2 hf2 hm2=>hQ φ2 w2 a2 m2 (hp.trans hs.fr.next f2 hp2) hf2 hm2
     cases hu with
     | ret=>exact go _ _ .nilIface .ret
     | panic v v' hv=>exact go _ _ (hv.mono hp.ext) (.done v')
     | done v'=>exact go _ _ .nilIface (.done v')
    ·cases h
   ·cases h
  ·unfold QX at h;split at h
   ·rename_i g s' hst;have hle:=lO hOm hM l h;have hs:=od hO hC hM hi (Nat.le_refl _) hst;obtain⟨f2,r2⟩:=ih hs.fr.inv hn h;refine⟨hs.fr.trans f2,fun φ T w a c₀ cs m hf hu hr hT hfr Q hQ=>?_⟩;show Oa P ops Q o (mm P ops Q l) a _ w;refine Ov (hs.run φ T w a hf hr (hT.left f2) (dX hfr f2.next) _ _ fun φ1 w1 a1 hp hf1=>?_);exact r2 φ1 _ w1 a1 c₀ cs m hf1 (hu.mono hp.ext) hp.rel (dJ hT) (dx hfr hs.fr.next hp) Q fun φ2 w2 a2 m2 hp2 hf2 hm2=>hQ φ2 w2 a2 m2 (hp.trans hs.fr.next f2 hp2) hf2 hm2
   ·cases h
theorem Dt (hE:yG P) (hO:cP P) (hOm:gX P) (hC:ja P call) (hM:dF call) (hD:yQ P call) (hDm:lC P call):yb P call:=by
 intro d A u A' u' hi hn h;unfold gM at h;split at h
 case h_2=>cases h
 rename_i g cap htgt;split at h
 case h_2=>cases h
 rename_i fn hfn;obtain⟨hb,h⟩:=av h;simp only [Bool.and_eq_true] at hb;have b1:=Nat.le_of_ble_eq_true hb.1;have b2:=Nat.le_of_ble_eq_true hb.2.1;have b3:fn.results.toList=[]:=by simpa using hb.2.2
 unfold yJ at h;split at h
 case h_2=>cases h
 rename_i rid ops c hbody;split at h
 case h_2=>cases h
 rename_i f1 B v1 hrun;have key:∃x f2,dR P call c f1 B=some (x,f2,A')∧(x=.normal∨x=.ret)∧f2.defers=[]∧v1=u':=by
  unfold Oc at h;split at h
  ·rename_i f2 s2 he;split at h
   ·rename_i hd; injection h with h; injection h with h1 h2; subst h1; exact⟨_,f2,he,.inl rfl,hd,h2⟩
   ·cases h
  ·rename_i f2 s2 he;split at h
   ·rename_i hd; injection h with h; injection h with h1 h2; subst h1; exact⟨_,f2,he,.inr rfl,hd,h2⟩
   ·cases h
  ·cases h
 obtain⟨x,f2,he,hx,hd2,rfl⟩:=key;have m2:=gj hOm hM hDm c _ _ _ _ _ he;obtain⟨fr1,r1⟩:=wz hO hOm hC hM ops.toList hi (Nat.le_refl _) hrun;have s2:=nF hO hOm hC hM hD hDm c _ _ _ _ _ fr1.inv hn he;refine⟨fr1.trans s2.fr,fun φ T w d' m hdr hu hr hT hfr=>?_⟩;cases hdr with
 | mk g' cap0 cap' args0 args' hc ha=>
  have htgt':Target.fn (.func g') cap0=.fn (.func g) cap:=htgt;injection htgt' with e1 e2;injection e1 with e1;subst e1;subst e2;refine⟨.func g',cap',g',args' ++ cap',rfl,?_,?_⟩
  ·have:=xB hE hfn hbody (args' ++ cap') w;exact this
  ·refine callsD_of_wpS hfn hbody fun c₀ cs hm=>wpS_seq (wpS_region ?_);have hargs:bu φ (args0 ++ cap0).toList (args' ++ cap').toList:=by rw [Array.toList_append,Array.toList_append]; exact ha.append hc
   have hc0:c₀ = { c₀ with mode:=m }:=by rw [← hm]
   rw [List.range_eq_range',← Array.length_toList];refine w9 ops.toList 0 _ _ w rfl ?_;rw [hc0];refine r1 φ T w _ c₀ cs m (ry hargs b1 b2) hu.inn hr (hT.left s2.fr) (dX hfr s2.fr.next) _ fun φ1 w1 a1 m1 hp hf1 hu1=>?_;refine wpS_of_wp (s2.run φ1 _ w1 a1 hf1 hp.rel (dJ hT) (dx hfr fr1.next hp) _ fun φ2 w2 a2 e hp2 hf2 hx2=>?_);have hdef:a2.defers=[]:=by
    have:=hf2.defers;rw [hd2] at this;cases hh:a2.defers with
    | nil=>rfl
    | cons y l=>rw [hh] at this; cases this
   have hres:(results fn a2.tmps).run P w2=.ok (yg []) w2:=by
    refine sG ?_;rw [b3];rfl
   have hend:bodyPostS P fn { c₀ with mode:=m } cs (fun e m' w'=>∃v φ',e=.returned v∧cm P φ T A A' w w' φ'∧te φ' v1 (settle m')) .ret a2 ({ c₀ with mode:=m1 } :: cs) w2:=
    ⟨hdef,m1,rfl,_,hres,_,φ2,rfl,hp.trans fr1.next s2.fr hp2,(hu1.mono hp2.ext).settle⟩
   rcases hx with rfl | rfl
   ·cases hx2; exact hend
   ·cases hx2; exact hend
end
end Go.EvL
namespace Go.EvL
open Go
open Go.RowKit
structure qV where
 g:Nat
 cells:List Value
 e:Nat
noncomputable def kV (l:List qV):Tr fM:=List.rec (motive:=fun _=>Tr fM) .nil (fun x _ ih=>dA ih fun ih=>gI x.cells fun cs=>Tr.set (.row cs x.e x.g 0 true) 40 ih x.g) l
noncomputable def pG (l:List qV):Tr Nat:=List.rec (motive:=fun _=>Tr Nat) .nil (fun x _ ih=>dA ih fun ih=>eS x.cells.length fun n=>Tr.set n 40 ih x.g) l
noncomputable def oh (P:Program) (l:List qV):AS:=eS P.globals.size fun n=>dA (kV l) fun h=>dA (pG l) fun z=>⟨h,n,.nil,z,0,0⟩
noncomputable def Bo (N:Nat) (r:Option (i5 × AS)):Bool:=match r with
 | some (.ret (.bool true),A')=>Nat.beq (Nat.mod A'.w (Nat.shiftLeft 1 N)) 0 && Nat.ble A'.next 274877906944
 | _=>false
noncomputable def uE (P:Program) (orc:Hw) (l:List qV) (n:Nat) (g:FuncId):Bool:=Bo P.globals.size (kY P orc n g #[] (oh P l))
section
variable {P:Program}
theorem Oy (hE:yG P) (hS:QW P) (hm:P.follows .mixedOrders=true) {orc:Hw} (hQ:zE P orc) (n:Nat):ja P (kY P orc n):=
 (vm (fun call hC hM=>by
  have hO:=Ey hE hS;have hOm:=Dn P;have hD:=HD hm hO hOm hC hM;have hDm:=Ag (P:=P) (call:=call) hOm hM;exact⟨hD,hDm,Dt hE hO hOm hC hM hD hDm,xa hOm hM hDm⟩) (Ey hE hS) (Dn P) hQ n).1
theorem pC (l:List qV):oh P l=⟨kV l,P.globals.size,.nil,pG l,0,0⟩:=by
 unfold oh; simp only [bN,cQ]
theorem wm (x:qV) (l:List qV):kV (x :: l)=Tr.set (.row x.cells x.e x.g 0 true) 40 (kV l) x.g:=by
 show (dA (kV l) fun ih=>gI x.cells fun cs=>Tr.set (.row cs x.e x.g 0 true) 40 ih x.g)=_;rw [cQ,bO]
theorem sQ (x:qV) (l:List qV):pG (x :: l)=Tr.set x.cells.length 40 (pG l) x.g:=by
 show (dA (pG l) fun ih=>eS x.cells.length fun n=>Tr.set n 40 ih x.g)=_;rw [cQ,bN]
theorem ru (l:List qV) (hl:∀x∈l,jA x.g) (b:Nat) (o:fM) (h:(kV l).get b=some o):∃x∈l,b=x.g∧o=.row x.cells x.e x.g 0 true∧(pG l).get b=some x.cells.length:=by
 induction l with
 | nil=>exact absurd h (by show (Tr.nil:Tr fM).get b≠_; rw [Tr.get_nil]; simp)
 | cons x l ih=>
  rw [wm,Tr.get_set _ _ _ _ (hl x List.mem_cons_self)] at h;rw [sQ,Tr.get_set _ _ _ _ (hl x List.mem_cons_self)];split at h
  ·rename_i he;injection h with h;exact⟨x,List.mem_cons_self,he,h.symm,if_pos he⟩
  ·rename_i he;obtain⟨y,h1,h2,h3,h4⟩:=ih (fun y hy=>hl y (List.mem_cons_of_mem _ hy)) h;exact⟨y,List.mem_cons_of_mem _ h1,h2,h3,by rw [if_neg he]; exact h4⟩
theorem C9 (l:List qV) (hl:∀x∈l,jA x.g) (b k:Nat) (h:(pG l).get b=some k):∃x∈l,b=x.g:=by
 induction l with
 | nil=>exact absurd h (by show (Tr.nil:Tr Nat).get b≠_; rw [Tr.get_nil]; simp)
 | cons x l ih=>
  rw [sQ,Tr.get_set _ _ _ _ (hl x List.mem_cons_self)] at h;split at h
  ·rename_i he; exact⟨x,List.mem_cons_self,he⟩
  ·obtain⟨y,h1,h2⟩:=ih (fun y hy=>hl y (List.mem_cons_of_mem _ hy)) h;exact⟨y,List.mem_cons_of_mem _ h1,h2⟩
def Fq (P:Program) (w:World) (b:Nat):Nat:=match w.heap[b]? with | some (.cells _ e _)=>P.cellsOf e | _=>0
def qM (w:World) (b:Nat):Nat:=match w.heap[b]? with | some (.cells C _ _)=>C.size | _=>0
def zH (P:Program) (w:World):dz:=fun b=>if b < P.globals.size then some ⟨b,0,qM w b,Fq P w b,b,0⟩ else none
theorem FH (l:List qV) (hN:P.globals.size≤P.globals.size) (hl:∀x∈l,x.g < P.globals.size):cE (oh P l):=by
 have hfit:∀x∈l,jA x.g:=fun x hx=>mB (by have:=hl x hx; omega);rw [pC];refine⟨fun b o hb=>?_,fun b cells e c st hb=>?_,fun c l' x cells e c' st ok hm=>?_,fun b cells e c st ok hb=>?_,fun c l' x hm=>?_,fun c l' hm=>?_,fun c k hk=>?_⟩
 ·obtain⟨x,h1,rfl,rfl,_⟩:=ru l hfit b o hb;exact⟨hl x h1,hl x h1⟩
 ·obtain⟨x,h1,rfl,h3,_⟩:=ru l hfit b _ hb;injection h3 with _ _ h3;subst h3;show x.g∈((Tr.nil:Tr (List Nat)).get x.g).getD [x.g];rw [Tr.get_nil];simp
 ·exact absurd hm (by show (Tr.nil:Tr (List Nat)).get c≠_; rw [Tr.get_nil]; simp)
 ·obtain⟨x,h1,rfl,h3,_⟩:=ru l hfit b _ hb;injection h3 with _ _ h3;subst h3;exact⟨_,_,_,_,hb⟩
 ·exact absurd hm (by show (Tr.nil:Tr (List Nat)).get c≠_; rw [Tr.get_nil]; simp)
 ·exact absurd hm (by show (Tr.nil:Tr (List Nat)).get c≠_; rw [Tr.get_nil]; simp)
 ·obtain⟨x,h1,h2⟩:=C9 l hfit c k hk;rw [h2]; exact hl x h1
theorem Fa (l:List qV) (hN:P.globals.size≤P.globals.size) (hl:∀x∈l,x.g < P.globals.size∧x.cells.all (plain 50)=true) {w:World} (hw:P.globals.size≤w.heap.size)
  (hlaid:∀x∈l,∃fz,w.heap[x.g]?=some (.cells x.cells.toArray x.e fz)∧fz.2≤x.cells.length):iI P (zH P w) (fun _=>True) (oh P l) w:=by
 have hfit:∀x∈l,jA x.g:=fun x hx=>mB (by have:=(hl x hx).1; omega);rw [pC];have hphi:∀b i,zH P w b=some i→b < P.globals.size∧i=⟨b,0,qM w b,Fq P w b,b,0⟩:=fun b i h=>by
  unfold zH at h;split at h
  ·rename_i hb; injection h with h; exact⟨hb,h.symm⟩
  ·cases h
 refine⟨fun b i hb=>?_,fun b₁ b₂ i₁ i₂ h₁ h₂ he=>?_,fun b o hb _ _=>?_,fun b i hb=>?_,fun g hg=>?_,fun b i hb _=>by obtain⟨_,rfl⟩:=hphi b i hb; rfl⟩
 ·obtain⟨h1,rfl⟩:=hphi b i hb; exact Nat.lt_of_lt_of_le h1 hw
 ·obtain⟨_,rfl⟩:=hphi _ _ h₁;obtain⟨_,rfl⟩:=hphi _ _ h₂;exact⟨he,rfl⟩
 ·obtain⟨x,h1,rfl,rfl,h4⟩:=ru l hfit b o hb;obtain⟨fz,g1,g2⟩:=hlaid x h1;refine⟨⟨x.g,0,qM w x.g,Fq P w x.g,x.g,0⟩,_,by unfold zH; rw [if_pos (hl x h1).1],g1,?_⟩;refine .row _ _ _ _ _ _ rfl rfl (by simp [Fq,g1]) (by simp [qM,g1]) (by simp) ?_ (.inr ⟨x.cells.length,h4,by simpa using g2⟩) _ (.inl ⟨rfl,Nat.dvd_zero _⟩);have:(x.cells.toArray.toList.drop 0).take x.cells.length=x.cells:=by simp
  show bu _ _ ((x.cells.toArray.toList.drop 0).take x.cells.length);rw [this];exact nS (dc _ 50) _ (hl x h1).2
 ·trivial
 ·exact⟨_,by unfold zH; rw [if_pos hg],rfl,rfl⟩
theorem xN (hE:yG P) (hS:QW P) (hm:P.follows .mixedOrders=true) {orc:Hw} (hQ:zE P orc) (hN:P.globals.size≤P.globals.size) (l:List qV) (hl:∀x∈l,x.g < P.globals.size∧x.cells.all (plain 50)=true) {n:Nat}{g:FuncId} (h:uE P orc l n g=true)
  (w:World) (hw:P.globals.size≤w.heap.size) (hlaid:∀x∈l,∃fz,w.heap[x.g]?=some (.cells x.cells.toArray x.e fz)∧fz.2≤x.cells.length) :
  Calls P g #[] w fun e w'=>e=.returned (.bool true)∧Below w.heap.size w w':=by
 unfold uE Bo at h;split at h
 ·rename_i A' hev;simp only [Bool.and_eq_true] at h;have h1:=Nat.eq_of_beq_eq_true h.1;have hs:=Oy hE hS hm hQ n g #[] (oh P l) _ A' (FH l hN fun x hx=>(hl x hx).1) (Nat.le_refl _) hev;refine (hs.run (zH P w) (fun _=>True) w #[] .nil (Fa l hN hl hw hlaid) (fun _ _ _=>trivial) fun b hb _=>?_).mono ?_
  ·rw [pC] at hb;unfold zH;rw [if_neg (by have:P.globals.size≤b:=hb; omega)]
  ·rintro e w' ⟨φ',hp,he⟩;refine⟨?_,hp.os,hp.tape,hp.output,hp.size,fun k hk=>hp.same k hk fun b i hb hi=>?_⟩
   ·cases he with
    | ret _ v' hv=>cases hv; rfl
   ·unfold zH at hb;split at hb
    ·rename_i hlt;injection hb with hb;subst hb;show A'.w.testBit b=false;have h3:A'.w % 2 ^ P.globals.size=0:=by
      have e1:Nat.shiftLeft 1 P.globals.size=2 ^ P.globals.size:=Nat.one_shiftLeft _;rw [← e1]; exact h1
     have h4:(A'.w % 2 ^ P.globals.size).testBit b=(decide (b < P.globals.size) && A'.w.testBit b):=Nat.testBit_mod_two_pow _ _ _;rw [h3] at h4;simp [hlt] at h4;exact h4
    ·cases hb
 ·cases h
noncomputable def J8 (n:Nat) (l:List Func):Nat→Bool:=List.rec (motive:=fun _=>Nat→Bool) (fun _=>true) (fun fn _ ih k=>(!(fn.body.isNone && fn.name == "internal/abi.NoEscape") || Nat.beq k n) && ih (Nat.add k 1)) l
theorem Io {n:Nat} : ∀(l:List Func) (k:Nat),J8 n l k=true→∀(i:Nat) (fn:Func),l[i]?=some fn→fn.body=none→(fn.name == "internal/abi.NoEscape")=true→k + i=n:=by
 intro l
 induction l with
 | nil=>intro k _ i fn h; simp at h
 | cons x l ih=>
  intro k h i fn hi hb hn;have h':((!(x.body.isNone && x.name == "internal/abi.NoEscape") || Nat.beq k n) && J8 n l (k + 1))=true:=h;rw [Bool.and_eq_true] at h';cases i with
  | zero=>
   simp at hi;subst hi;have h1:=h'.1;rw [hb,hn] at h1;exact Nat.eq_of_beq_eq_true (by simpa using h1)
  | succ i=>
   have:=ih (k + 1) h'.2 i fn (by simpa using hi) hb hn;omega
theorem env_of (n:Nat) (h1:(P.funcs.toList.all fun fn=>!(fn.name == "runtime.NumGoroutine"))=true) (h2:J8 n P.funcs.toList 0=true) (h3:∀v w,(callFunc n #[v]).run P w=.ok (.value v) w):yG P where
 num:=fun g fn hg=>by
  rw [List.all_eq_true] at h1;have:=h1 fn (by simpa using Array.mem_of_getElem? hg);simpa using this
 noesc:=fun g fn hg hb hn v w=>by
  have:=Io _ 0 h2 g fn (by simpa using hg) hb hn;rw [Nat.zero_add] at this;subst this;exact h3 v w
noncomputable def O6 (P:Program):Bool:=(List.range P.types.size).all fun t=>match P.underlying t with
 | some (.struct fs)=>fs.toList.all fun fl=>(dp P fl.type).isSome
 | _=>true
theorem PO (h:O6 P=true):QW P where
 fields:=fun t fs ht hu fl hfl=>by
  unfold O6 at h;rw [List.all_eq_true] at h;have:=h t (by simpa using ht);rw [hu] at this;simp only [List.all_eq_true] at this;exact Option.isSome_iff_exists.1 (this fl hfl)
end
end Go.EvL
namespace Go.EvL
open Go
open Go.RowKit
end Go.EvL
namespace Go.EvL
open Go
open Go.RowKit
structure uQ (P:Program) (orc:Hw):Prop where
 keys:∀g it t,orc.keys g=some (it,t)→∀(mb:Option Nat) (W:World),Calls P g #[.map mb] W fun e w'=>e=.returned (.func (.func it) #[] #[.pointer (some ⟨W.heap.size,0,none⟩)])∧w'=W.alloc (.cells #[.map mb] t)
 one:∀g t,orc.sorted g=some t→P.cellsOf t=1
 none_:∀g t,orc.sorted g=some t→∀it,orc.iter it=true→∀(p b clock:Nat) (W:World),W.cell? ⟨p,0,none⟩=some (.map (some b))→W.heap[b]?=some (.map #[] clock)→
  Calls P g #[.func (.func it) #[] #[.pointer (some ⟨p,0,none⟩)]] W fun e w'=>e=.returned (.slice none 0 0)∧Below W.heap.size W w'
 some_:∀g t,orc.sorted g=some t→∀it,orc.iter it=true→∀(p b clock:Nat) (W:World) (k:ByteArray) (v:Value) (born:Nat),W.cell? ⟨p,0,none⟩=some (.map (some b))→W.heap[b]?=some (.map #[⟨.string k,v,born⟩] clock)→born < clock→k.size≤1048576→
  Calls P g #[.func (.func it) #[] #[.pointer (some ⟨p,0,none⟩)]] W fun e w'=>∃(gb cap:Nat) (C:Array Value),e=.returned (.slice (some ⟨gb,0,none⟩) 1 cap)∧W.heap.size≤gb∧w'.heap[gb]?=some (.cells C t (0,0))∧1≤cap∧C.size=cap∧C.toList.take 1=[.string k]∧Below W.heap.size W w'
 two_:∀g t,orc.sorted g=some t→∀it,orc.iter it=true→∀(p b clock:Nat) (W:World) (k:ByteArray) (v:Value) (born:Nat) (k2:ByteArray) (v2:Value) (born2:Nat),W.cell? ⟨p,0,none⟩=some (.map (some b))→W.heap[b]?=some (.map #[⟨.string k,v,born⟩,⟨.string k2,v2,born2⟩] clock)→
  born < born2→born2 < clock→k.size≤1048576→k2.size≤1048576→(gQ k.data.toList k2.data.toList || gQ k2.data.toList k.data.toList)=true→
  Calls P g #[.func (.func it) #[] #[.pointer (some ⟨p,0,none⟩)]] W fun e w'=>∃(gb cap:Nat) (C:Array Value),e=.returned (.slice (some ⟨gb,0,none⟩) 2 cap)∧W.heap.size≤gb∧w'.heap[gb]?=some (.cells C t (0,0))∧2≤cap∧C.size=cap∧C.toList.take 2=fZ k k2∧Below W.heap.size W w'
 look:∀g off f,orc.look g=some (off,f)→∀n e v ok,f n e=some (v,ok)→∀(b o vb vo vc:Nat) (W:World),P.globals.size≤W.heap.size→W.cell? ⟨b,o + off,none⟩=some (.slice (some ⟨vb,vo,none⟩) 1 vc)→W.cell? ⟨vb,vo,none⟩=some (.string e)→
  Calls P g #[.pointer (some ⟨b,o,none⟩),.string n] W fun r w'=>r=.returned (.tuple #[.string v,.bool ok])∧Below W.heap.size W w'
 tab:∀g args v,orc.tab g args=some v→args.all (plain 50)=true∧plain 50 v=true∧∀(W:World),P.globals.size≤W.heap.size→Calls P g args.toArray W fun e w'=>e=.returned v∧Below W.heap.size W w'
theorem cm.fresh {P:Program}{φ:dz}{T:Nat→Prop}{A:AS}{w w':World}{cells:List Value}{e gb:Nat}{C:Array Value} (hi:cE A) (hn:A.next + 1≤A.next + 1) (h:iI P φ T A w) (hfr:φ A.next=none) (hb:Below w.heap.size w w') (hgb:w.heap.size≤gb)
  (hC:w'.heap[gb]?=some (.cells C e (0,0))) (hl:cells.length≤C.size) (hv:bu φ cells (C.toList.take cells.length)) :
  ∃φ',φ' A.next=some ⟨gb,0,C.size,P.cellsOf e,A.next,0⟩∧cm P φ T A (newRow A cells e) w w' φ':=by
 have hf:jA A.next:=mB (by omega);have hgl:gb < w'.heap.size:=(Array.getElem?_eq_some_iff.1 hC).1;have hext:BB φ fun b=>if b=A.next then some ⟨gb,0,C.size,P.cellsOf e,A.next,0⟩ else φ b:=by
  intro b i hb;show (if b=A.next then _ else _)=_;rw [if_neg (by rintro rfl; rw [hfr] at hb; cases hb)];exact hb
 have hold:∀b i,φ b=some i→i.blk < w.heap.size:=h.blk;refine⟨fun b=>if b=A.next then some ⟨gb,0,C.size,P.cellsOf e,A.next,0⟩ else φ b,if_pos rfl,?_⟩;rw [eo,iS];refine⟨hext,fun b hb'=>?_,⟨fun b i hb'=>?_,fun b₁ b₂ i₁ i₂ h₁ h₂ he=>?_,fun b x hb' hlv hT=>?_,fun b i hb'=>?_,h.glob.mono hext,fun b i hb' hcl=>?_⟩,fun b i hb' hlt=>?_,hb.size,fun k hk _=>hb.block k hk,hb.os,hb.tape,hb.output⟩
 ·have hb2:b < A.next∨A.next + 1≤b:=hb';show (if b=A.next then _ else _)=_;rw [if_neg (by omega)]
 ·split at hb'
  ·injection hb' with hb'; subst hb'; exact hgl
  ·exact Nat.lt_of_lt_of_le (hold _ _ hb') hb.size
 ·split at h₁<;>split at h₂
  ·injection h₁ with h₁; injection h₂ with h₂; subst h₁; subst h₂; exact⟨rfl,rfl⟩
  ·injection h₁ with h₁; subst h₁; have:=hold _ _ h₂; simp only at he; omega
  ·injection h₂ with h₂; subst h₂; have:=hold _ _ h₁; simp only at he; omega
  ·exact h.inj _ _ _ _ h₁ h₂ he
 ·have hb2:(Tr.set (fM.row cells e A.next 0 true) 40 A.heap A.next).get b=some x:=hb';rw [Tr.get_set _ _ _ _ hf] at hb2;split at hb2
  ·rename_i he; subst he;injection hb2 with hb2; subst hb2;refine⟨_,_,if_pos rfl,hC,?_⟩;refine .row _ _ _ _ _ (0,0) rfl rfl rfl (by simp) (by simpa using hl) ?_ (.inl rfl) _ (.inl ⟨rfl,Nat.dvd_zero _⟩);show bu _ _ ((C.toList.drop 0).take _);rw [List.drop_zero];exact hv.mono hext
  ·have hlt:=(hi.lt _ _ hb2).2;have hT':T (cZ b x):=by
    rcases hT with hT | ⟨h1,_⟩
    ·exact hT
    ·omega
   obtain⟨i,y,e1,e2,e3⟩:=h.obj b x hb2 hlv hT';exact⟨i,y,hext _ _ e1,by rw [hb.block _ (hold _ _ e1)]; exact e2,e3.mono hext fun h hh=>⟨h,hh,Nat.le_refl _⟩⟩
 ·split at hb'
  ·trivial
  ·exact h.al _ _ hb'
 ·split at hb'
  ·injection hb' with hb'; subst hb'; rfl
  ·exact h.root _ _ hb' hcl
 ·split at hb'
  ·injection hb' with hb'; subst hb'; simp only at hlt; omega
  ·exact⟨b,i,hb',rfl,rfl⟩
theorem cm.below {P:Program}{φ:dz}{T:Nat→Prop}{A A':AS}{w w':World} (h:iI P φ T A w) (h1:A'.heap=A.heap) (h2:A'.fz=A.fz) (h4:A'.next=A.next) (hb:Below w.heap.size w w'):cm P φ T A A' w w' φ where
 ext:=fun _ _ h=>h
 out:=fun _ _=>rfl
 rel:=⟨fun b i hb'=>Nat.lt_of_lt_of_le (h.blk _ _ hb') hb.size,h.inj,fun b o hb' hl hT=>by
  rw [h1] at hb';rw [h2];obtain⟨i,o',e1,e2,e3⟩:=h.obj b o hb' hl (hT.elim id fun hc=>by omega);exact⟨i,o',e1,by rw [hb.block _ (h.blk _ _ e1)]; exact e2,e3⟩,h.al,h.glob,h.root⟩
 img:=fun b i hb _=>⟨b,i,hb,rfl,rfl⟩
 size:=hb.size
 same:=fun k hk _=>hb.block k hk
 os:=hb.os
 tape:=hb.tape
 output:=hb.output
section
variable {P:Program}{orc:Hw}
theorem jo {α:Type}{xs:Array α}{x:α} (h:xs.toList=[x]):xs = #[x]:=by cases xs; cases h; rfl
theorem Ch {g it t:Nat}{args:Array Value}{A A':AS}{r:i5} (hk:∀(mb:Option Nat) (W:World),Calls P g #[.map mb] W fun e w'=>e=.returned (.func (.func it) #[] #[.pointer (some ⟨W.heap.size,0,none⟩)])∧w'=W.alloc (.cells #[.map mb] t))
  (h:yl it t args.toList A=some (r,A')):A.next≤A'.next∧(cE A→A'.next≤A'.next→ep P g args A r A'):=by
 unfold yl at h;split at h
 ·rename_i b hargs;have hargs:=jo hargs;subst hargs;injection h with h;injection h with h1 h2;subst h1;subst h2;rw [aV];refine⟨by omega,fun hi hn=>⟨gk hi hn _ _,fun φ T w args' hv hr _ hfr=>?_⟩⟩;generalize hq:args'.toList=l at hv;cases hv with
  | cons _ v' _ l' hv hs=>
   cases hs;have hargs':=jo hq;subst hargs';cases hv with
   | map _ i hφ=>
    have hc:bu φ [Value.map (some b)] [Value.map (some i.blk)]:=.cons _ _ _ _ (.map b i hφ) .nil;obtain⟨φ',e1,e2⟩:=ju hi (by rw [aV]; exact hn) hr hfr hc;refine (hk (some i.blk) w).mono ?_;rintro e w' ⟨rfl,rfl⟩;refine⟨φ',e2,.ret _ _ (.func _ _ _ _ _ .nil (.cons _ _ _ _ (.ptr _ 0 _ e1) .nil))⟩
 ·cases h
theorem Fc (hC:uQ P orc) {g t:Nat} (hg:orc.sorted g=some t) {args:Array Value}{A A':AS}{r:i5} (h:sf orc t args.toList A=some (r,A')):A.next≤A'.next∧(cE A→A'.next≤A'.next→ep P g args A r A'):=by
 unfold sf at h;split at h
 case h_2=>cases h
 rename_i it first cap hargs;have hargs:=jo hargs;subst hargs;split at h
 case h_2=>cases h
 rename_i p hfirst hcap;obtain⟨hit,h⟩:=av h;unfold Ar at h;split at h
 case h_2=>cases h
 rename_i b e c st hp;obtain⟨hcp,h0⟩:=av h;clear h;have hcp:=Nat.eq_of_beq_eq_true hcp;subst hcp;unfold zJ at h0;split at h0
 case h_2=>cases h0
 rename_i es clock hb;have hlog:∀(hi:cE A),mo A (ci (ci A c) b):=fun hi=>by
  have h1:=gO hi (hi.lt _ _ hp).2;exact h1.trans (gO h1.inv (by rw [ar]; exact (hi.lt _ _ hb).1))
 have e1:(ci (ci A c) b).heap=A.heap:=by rw [ar,ar]
 have e2:(ci (ci A c) b).fz=A.fz:=by rw [ar,ar]
 have e3:(ci (ci A c) b).next=A.next:=by rw [ar,ar]
 have look:∀(hi:cE A) {A':AS} (_:mo (ci (ci A c) b) A') {φ:dz}{T:Nat→Prop}{w:World}{args':Array Value},bu φ (#[Value.func (.func it) first cap]:Array Value).toList args'.toList→iI P φ T A w→iH A A' T→
   ∃(i j:tg) (es':Array MapEntry),args' = #[.func (.func it) #[] #[.pointer (some ⟨i.blk,0,none⟩)]]∧w.cell? ⟨i.blk,0,none⟩=some (.map (some j.blk))∧w.heap[j.blk]?=some (.map es' clock)∧qG φ es es'.toList:=by
  intro hi A' fr φ T w args' hv hr hT;have hTc:T c:=hT c (hi.lt _ _ hp).2 (.inl (fr.r c (by rw [ar,ar,cN,cN]; simp)));have hTb:T b:=hT b (hi.lt _ _ hb).1 (.inl (fr.r b (by rw [ar,cN]; simp)));generalize hq:args'.toList=l at hv;cases hv with
  | cons _ v' _ l' hv hs=>
   cases hs;have hargs':=jo hq;subst hargs';cases hv with
   | func _ _ _ xs' ys' hx hy=>
    rw [hfirst] at hx;rw [hcap] at hy;generalize hxx:xs'.toList=X at hx;generalize hyy:ys'.toList=Y at hy;cases hx;cases hy with
    | cons _ u _ _ hu hu2=>
     cases hu2;have hys:=jo hyy;subst hys;have hxs:xs' = #[]:=by cases xs'; cases hxx; rfl
     subst hxs;cases hu with
     | ptr _ _ i hφ=>
      obtain⟨i',C,fz,_,k1,k2,k3,k4,k5,k6,k7,k8,k9,k10⟩:=hr.cells hp hTc;obtain rfl:i=i':=by rw [hφ] at k1; injection k1
      have hsh:i.sh=0:=hr.root _ _ hφ k3;obtain⟨j,o',m1,m2,m3⟩:=hr.obj b _ hb rfl hTb;cases m3 with
      | map _ _ es' _ he=>
       refine⟨i,j,es',by rw [hsh],?_,m2,he⟩;rw [hsh,List.drop_zero] at k8;rw [Lib.cell_of_heap k2];generalize hD:C.toList.take 1=D at k8;cases k8 with
       | cons _ x _ _ hx hx2=>
        cases hx2;cases hx with
        | map _ j' hj'=>
         rw [m1] at hj';injection hj' with hj';subst hj';have:(C.toList.take 1)[0]?=some (.map (some j.blk)):=by rw [hD]; rfl
         rw [List.getElem?_take] at this;simpa using this
 unfold xA at h0;split at h0
 ·injection h0 with h0;injection h0 with h1 h2;subst h1;subst h2;refine⟨by rw [e3]; exact Nat.le_refl _,fun hi hn=>⟨hlog hi,fun φ T w args' hv hr hT hfr=>?_⟩⟩;obtain⟨i,j,es',rfl,q1,q2,q3⟩:=look hi (.refl (hlog hi).inv) hv hr hT;have hes:es' = #[]:=by
   generalize hq:es'.toList=l at q3;cases q3;cases es';cases hq;rfl
  subst hes;refine (hC.none_ g t hg it hit i.blk j.blk clock w q1 q2).mono ?_;rintro e w' ⟨rfl,hbw⟩;exact⟨φ,cm.below hr e1 e2 e3 hbw,.ret _ _ .nilSlice⟩
 ·rename_i k v born;obtain⟨hc,h5⟩:=av h0;clear h0;simp only [Bool.and_eq_true] at hc;have c1:=Nat.le_of_ble_eq_true hc.1;have c2:=Nat.le_of_ble_eq_true hc.2;injection h5 with h5;injection h5 with h1 h2;subst h1;subst h2;rw [aV,e3];refine⟨by omega,fun hi hn=>?_⟩;have fr2:=gk (hlog hi).inv (by rw [e3]; exact hn) [Value.string k] t;refine⟨(hlog hi).trans fr2,fun φ T w args' hv hr hT hfr=>?_⟩;obtain⟨i,j,es',rfl,q1,q2,q3⟩:=look hi fr2 hv hr hT;have hes:∃v',es' = #[⟨.string k,v',born⟩]:=by
   generalize hq:es'.toList=l at q3;cases q3 with
   | cons _ _ v' _ _ l' hk hv hl=>
    cases hl;exact⟨v',by cases es'; cases hq; rfl⟩
  obtain⟨v',rfl⟩:=hes;refine (hC.some_ g t hg it hit i.blk j.blk clock w k v' born q1 q2 c1 c2).mono ?_;rintro e w' ⟨gb,cap,C,rfl,g1,g2,g3,g4,g5,g6⟩;have hr':iI P φ T (ci (ci A c) b) w:=hr.heap e1 e2 rfl;have hfr':φ (ci (ci A c) b).next=none:=by rw [e3]; exact hfr _ (Nat.le_refl _) (by rw [aV,e3]; omega)
  obtain⟨φ',m1,m2⟩:=cm.fresh (e:=t) (cells:=[Value.string k]) (hlog hi).inv (by rw [e3]; exact hn) hr' hfr' g6 g1 g2 (by rw [g4]; exact g3) (by
   show bu φ [Value.string k] (C.toList.take 1);rw [g5];exact .cons _ _ _ _ (.string k) .nil)
  rw [e3] at m1;refine⟨φ',?_,.ret _ _ ?_⟩
  ·refine⟨m2.ext,fun x hx=>m2.out x (by rw [e3]; exact hx),m2.rel.sub fun x hx=>?_,m2.img,m2.size,m2.same,m2.os,m2.tape,m2.output⟩;rw [e3];exact hx
  ·have:=VR.slice (φ:=φ') A.next 0 1 1 cap ⟨gb,0,none⟩ _ m1 (Nat.le_refl _) g3 (.inr rfl) (by show 0 + cap * P.cellsOf t≤C.size; rw [hC.one g t hg,g4]; omega);exact this
 ·rename_i k v born k2 v2 born2;obtain⟨hc,h5⟩:=av h0;clear h0;simp only [Bool.and_eq_true] at hc;have c1:=Nat.le_of_ble_eq_true hc.1;have c2:=Nat.le_of_ble_eq_true hc.2.1;have c3:=Nat.le_of_ble_eq_true hc.2.2.1;have c4:=Nat.le_of_ble_eq_true hc.2.2.2.1;have c5:=hc.2.2.2.2;injection h5 with h5;injection h5 with h1 h2;subst h1;subst h2;rw [aV,e3];refine⟨by omega,fun hi hn=>?_⟩;have fr2:=gk (hlog hi).inv (by rw [e3]; exact hn) (fZ k k2) t;refine⟨(hlog hi).trans fr2,fun φ T w args' hv hr hT hfr=>?_⟩;obtain⟨i,j,es',rfl,q1,q2,q3⟩:=look hi fr2 hv hr hT;have hes:∃v' v2',es' = #[⟨.string k,v',born⟩,⟨.string k2,v2',born2⟩]:=by
   generalize hq:es'.toList=l at q3;cases q3 with
   | cons _ _ v' _ _ l' hk hv hl=>
    cases hl with
    | cons _ _ v2' _ _ l2 hk2 hv2 hl2=>
     cases hl2;exact⟨v',v2',by cases es'; cases hq; rfl⟩
  obtain⟨v',v2',rfl⟩:=hes;refine (hC.two_ g t hg it hit i.blk j.blk clock w k v' born k2 v2' born2 q1 q2 c1 c2 c3 c4 c5).mono ?_;rintro e w' ⟨gb,cap,C,rfl,g1,g2,g3,g4,g5,g6⟩;have hr':iI P φ T (ci (ci A c) b) w:=hr.heap e1 e2 rfl;have hfr':φ (ci (ci A c) b).next=none:=by rw [e3]; exact hfr _ (Nat.le_refl _) (by rw [aV,e3]; omega)
  have hl2:(fZ k k2).length=2:=by unfold fZ; cases gQ k.data.toList k2.data.toList<;>rfl
  have hself:bu φ (fZ k k2) (fZ k k2):=by
   unfold fZ;cases gQ k.data.toList k2.data.toList
   ·exact .cons _ _ _ _ (.string _) (.cons _ _ _ _ (.string _) .nil)
   ·exact .cons _ _ _ _ (.string _) (.cons _ _ _ _ (.string _) .nil)
  obtain⟨φ',m1,m2⟩:=cm.fresh (e:=t) (cells:=fZ k k2) (hlog hi).inv (by rw [e3]; exact hn) hr' hfr' g6 g1 g2 (by rw [g4,hl2]; exact g3) (by
   rw [hl2,g5];exact hself)
  rw [e3] at m1;refine⟨φ',?_,.ret _ _ ?_⟩
  ·refine⟨m2.ext,fun x hx=>m2.out x (by rw [e3]; exact hx),m2.rel.sub fun x hx=>?_,m2.img,m2.size,m2.same,m2.os,m2.tape,m2.output⟩;rw [e3];exact hx
  ·have:=VR.slice (φ:=φ') A.next 0 2 2 cap ⟨gb,0,none⟩ _ m1 (Nat.le_refl _) g3 (.inr rfl) (by show 0 + cap * P.cellsOf t≤C.size; rw [hC.one g t hg,g4]; omega);exact this
 ·cases h0
theorem sa {φ:dz}{T:Nat→Prop}{A:AS}{w:World} (hr:iI P φ T A w):P.globals.size≤w.heap.size:=by
 rcases Nat.eq_zero_or_pos P.globals.size with h | h
 ·omega
 ·obtain⟨i,e1,e2,_⟩:=hr.glob (P.globals.size - 1) (by omega);have:=hr.blk _ _ e1;omega
theorem Np (hC:uQ P orc) {g off:Nat}{f:ByteArray→ByteArray→Option (ByteArray × Bool)} (hg:orc.look g=some (off,f)) {args:Array Value}{A A':AS}{r:i5} (h:yR off f args.toList A=some (r,A')):A.next≤A'.next∧(cE A→A'.next≤A'.next→ep P g args A r A'):=by
 unfold yR at h;split at h
 case h_2=>cases h
 rename_i b o n hargs;have hargs:args = #[.pointer (some ⟨b,o,none⟩),.string n]:=by cases args; cases hargs; rfl
 subst hargs;unfold Jm at h;split at h
 case h_2=>cases h
 rename_i vb vo len cap s1 hl1;obtain⟨hlen,h2⟩:=av h;clear h;have hlen:=Nat.eq_of_beq_eq_true hlen;subst hlen;unfold EM at h2;split at h2
 case h_2=>cases h2
 rename_i e s2 hl2;split at h2
 case h_2=>cases h2
 rename_i v ok hv;injection h2 with h2;injection h2 with h3 h4;subst h3;subst h4;have e1:s1.next=A.next∧s1.heap=A.heap∧s1.fz=A.fz:=by obtain⟨_,_,_,_,_,_,_,rfl⟩:=jF hl1; rw [ar]; exact⟨rfl,rfl,rfl⟩
 have e2:s2.next=s1.next∧s2.heap=s1.heap∧s2.fz=s1.fz:=by obtain⟨_,_,_,_,_,_,_,rfl⟩:=jF hl2; rw [ar]; exact⟨rfl,rfl,rfl⟩
 refine⟨by omega,fun hi hn=>?_⟩;have fr1:=sI hi hl1;have fr2:=sI fr1.inv hl2;refine⟨fr1.trans fr2,fun φ T w args' hva hr hT hfr=>?_⟩;generalize hq:args'.toList=l at hva;cases hva with
 | cons _ v' _ l' hva hs=>
  cases hs with
  | cons _ u' _ l'' hu hs=>
   cases hs;cases hu;cases hva with
   | ptr _ _ i hφ=>
    have hargs':args' = #[.pointer (some ⟨i.blk,i.sh + o,none⟩),.string n]:=by cases args'; cases hq; rfl
    subst hargs';have hT1:iH A s1 T:=fun c hc h=>hT c hc (h.elim (fun h=>.inl (fr2.r c h)) fun h=>.inr (fr2.w c h));obtain⟨xs',g1,g2,_⟩:=mM hi hl1 hr hT1 hφ;cases g1 with
    | cons _ u _ _ hu g1=>
     cases g1;cases hu with
     | slice _ _ _ _ cap' a' j hj c1 c2 c3 c4=>
      have ha:a'=⟨j.blk,j.sh + vo,none⟩:=by rcases c3 with c3 | c3; omega; exact c3
      subst ha;have hr1:iI P φ T s1 w:=hr.heap e1.2.1 e1.2.2 rfl;have hT2:iH s1 s2 T:=fun c hc h=>by
       refine hT c (by rw [← e1.1]; exact hc) ?_;rcases h with h | h
       ·exact .inl h
       ·exact .inr h
      obtain⟨ys',k1,k2,_⟩:=mM fr1.inv hl2 hr1 hT2 hj;cases k1 with
      | cons _ z _ _ hz k1=>
       cases k1;cases hz;have q1:=g2 0 _ rfl;have q2:=k2 0 _ rfl;rw [eK] at q1 q2;refine (hC.look g off f hg n e v ok hv i.blk (i.sh + o) j.blk (j.sh + vo) cap' w (sa hr) (by rw [Nat.add_assoc]; exact q1) q2).mono ?_;rintro r w' ⟨rfl,hb⟩;exact⟨φ,cm.below hr (by rw [e2.2.1,e1.2.1]) (by rw [e2.2.2,e1.2.2]) (by rw [e2.1,e1.1]) hb,.ret _ _ (.tuple _ _ (.cons _ _ _ _ (.string v) (.cons _ _ _ _ (.bool ok) .nil)))⟩
theorem tab_ok (hC:uQ P orc) {g:Nat}{args:Array Value}{A:AS}{v:Value} (hg:orc.tab g args.toList=some v):A.next≤A.next∧(cE A→A.next≤A.next→ep P g args A (.ret v) A):=by
 obtain⟨h1,h2,h3⟩:=hC.tab g _ v hg;refine⟨Nat.le_refl _,fun hi _=>⟨.refl hi,fun φ T w args' hargs hr _ _=>?_⟩⟩;have:args'.toList=args.toList:=tB (gE φ 50) _ _ h1 hargs;have:args'=args.toList.toArray:=by rw [← this]
 rw [this];refine (h3 w (sa hr)).mono ?_;rintro e w' ⟨rfl,hb⟩;exact⟨φ,cm.below hr rfl rfl rfl hb,.ret _ _ (dc φ 50 _ h2)⟩
theorem Se (hC:uQ P orc):zE P orc:=by
 intro g args A r A' h;unfold tu at h;split at h
 ·rename_i v hv;injection h with h;injection h with h;injection h with h1 h2;subst h1; subst h2;exact tab_ok hC hv
 split at h
 ·rename_i it t hk;injection h with h;exact Ch (hC.keys g it t hk) h
 ·split at h
  ·rename_i t hs;injection h with h;exact Fc hC hs h
  ·split at h
   ·rename_i off f hl;injection h with h;exact Np hC hl h
   ·cases h
end
end Go.EvL
