/- An evaluator for closed calls, and its soundness. No statement is proved here. -/
import Derived.Test.YtioblbopbilmaaaGreatDoorEvB
import Derived.Laws.BytesArg
import Derived.Lib.Builder
import Derived.Lib.UnsafeStr
import Derived.Laws.MakeOwn
import Derived.Recover
import Derived.Below
import Derived.Maps.Own
import Derived.Sort.KeysCollected
set_option linter.unusedSimpArgs false
set_option linter.unusedVariables false
set_option linter.defProp false
namespace Go.EvL
open Go
section
variable {P:Program}{f:Fr}{A A':AS}{nx:cu}{d:Option Tmp}{ty:TypeId}{pos:String}{af:Array Edge}{gd:Option (Nat × Bool)}
theorem uC {φ:cK} : ∀{l l':List Value}{bs:List UInt8},dc l=some bs→b8 φ l l'→∃ns:List Int,l'=ns.map (Value.int .u8)∧bs=ns.map fun n=>UInt8.ofNat n.toNat:=by
 intro l
 induction l with
 | nil=>intro l' bs h hv; cases hv; have h':some ([]:List UInt8)=some bs:=h; injection h' with h'; exact⟨[],rfl,h'.symm⟩
 | cons v l ih=>
  intro l' bs h hv;cases hv with
  | cons _ v' _ l' h1 hs=>
   have h':(match (generalizing:=false) v with | .int .u8 n=>(dc l).map (UInt8.ofNat n.toNat :: ·) | _=>none)=some bs:=h;split at h'
   ·rename_i n;cases hb:dc l with
    | none=>rw [hb] at h'; cases h'
    | some b0=>
     rw [hb] at h';have h':some (UInt8.ofNat n.toNat :: b0)=some bs:=h';injection h' with h';obtain⟨ns,e1,e2⟩:=ih hb hs;cases h1;exact⟨n :: ns,by rw [e1]; rfl,by rw [← h',e2]; rfl⟩
   ·cases h'
theorem AP {src dst e:TypeId} (hs:P.underlying src=some (.slice e)) (he:P.underlying e=some (.int .u8)) (hd:P.underlying dst=some .string) (a:Addr) (c:Nat) (w:World):(convert src dst (.slice (some a) 0 c)).run P w=.ok (.string ⟨#[]⟩) w:=by
 have hl:=run_loadCells_list (P:=P) w a [] (fun j v hj=>by simp at hj);rw [run_convert_bytes_string w src dst e _ 0 c hs he hd,run_bytesToString w a 0 c [] hl];rfl
theorem oP {w:World}{b:Nat}{C:Array Value}{e:Nat}{fz:Nat × Nat} (h:w.heap[b]?=some (.cells C e fz)):w.shape? b=some (e,C.size):=by
 simp [World.shape?,h]
theorem sa {e:TypeId}{d count off:Nat}{p:TypeId→Bool} (h0:P.cellsOf e≠0) (hm:off % P.cellsOf e=0) (hc:off / P.cellsOf e < count) (hp:p e=true):rowAt P p (d + 1) e count off 1=true:=by
 unfold rowAt;rw [if_neg h0];simp only [hm,hp,Bool.or_eq_true,Bool.and_eq_true,decide_eq_true_eq];exact .inl ⟨⟨rfl,hc⟩,trivial⟩
theorem yz {e:TypeId}{count off:Nat} (h0:P.cellsOf e≠0) (hm:off % P.cellsOf e=0) (hc:off / P.cellsOf e < count):liesAt P P.depth e count off e 1=true:=by
 have hd:P.depth=(2 * (P.types.size + Made.depth) + 1) + 1:=rfl;rw [hd];simp only [liesAt,Bool.or_eq_true];left;rw [hd];exact sa h0 hm hc (by simp [sameLayout])
theorem xE {lT:TypeId→Bool}{d e count off:Nat}{fs:Array Field}{fl:Field} (h0:P.cellsOf e≠0) (hc:off / P.cellsOf e < count) (hu:P.underlying e=some (.struct fs)) (hst:P.stoodInHeld e=false) (hm:fl∈fs.toList) (ho:fl.offset=off % P.cellsOf e) (h1:P.cellsOf fl.type≠0) (hp:lT fl.type=true) :
  rowAt P lT (d + 1 + 1) e count off 1=true:=by
 rw [rowAt];simp only [h0,if_false,hu,hst,Bool.not_false,Bool.true_and,Bool.or_eq_true,Bool.and_eq_true,decide_eq_true_eq];refine .inr ⟨hc,?_⟩;rw [Array.any_eq_true'];refine⟨fl,by simpa using hm,?_⟩;rw [← ho,Nat.sub_self];simp only [Bool.and_eq_true,decide_eq_true_eq];refine⟨⟨Nat.le_refl _,by omega⟩,?_⟩;exact sa h1 (Nat.zero_mod _) (by rw [Nat.zero_div]; omega) hp
theorem yb {e u off n len sh sz:Nat} (hn:P.cellsOf u=n + 1) (h:pE P e u off n len=true) (hal:P.cellsOf e ∣ sh) (hl:sh + len≤sz):liesAt P P.depth e (sz / P.cellsOf e) (sh + off) u 1=true:=by
 unfold pE at h;rcases (eo h).symm with ⟨hc,_⟩ | ⟨hc,h⟩
 ·simp only [Bool.and_eq_true] at hc;have q1:=Nat.eq_of_beq_eq_true hc.1;have q2:=Nat.eq_of_beq_eq_true hc.2.1;have q3:off + (n + 1)≤len:=Nat.le_of_ble_eq_true hc.2.2;subst q1;have hmod:(sh + off) % P.cellsOf e=0:=by
   rw [hn] at hal ⊢;obtain⟨y,hy⟩:=hal;rw [hy,Nat.mul_add_mod];exact q2
  have hdiv:(sh + off) / P.cellsOf e < sz / P.cellsOf e:=by
   rw [hn] at hmod ⊢;have hpos : 0 < n + 1:=by omega
   have h1:(sh + off) / (n + 1) + 1≤sz / (n + 1):=by
    rw [← Nat.add_div_right _ hpos];exact Nat.div_le_div_right (by omega)
   exact Nat.lt_of_succ_le h1
  exact yz (by rw [hn]; omega) hmod hdiv
 ·unfold C2 at h;split at h
  ·rename_i m hm;obtain⟨_,_,_,k3⟩:=hH hm;rw [Bool.and_eq_true] at h;obtain⟨h1,h2⟩:=h;have h2:(off / (m + 1) + 1) * (m + 1)≤len:=Nat.le_of_ble_eq_true h2;unfold CC at h1;split at h1
   ·rename_i fs hu;rw [Bool.and_eq_true,List.any_eq_true] at h1;obtain⟨hst,fl,hfl,hf⟩:=h1;rw [Bool.and_eq_true] at hf;have f1:=Nat.eq_of_beq_eq_true hf.1;have f2:=Nat.eq_of_beq_eq_true hf.2;have hd:P.depth=(2 * (P.types.size + Made.depth)) + 1 + 1:=rfl;rw [hd];simp only [liesAt,Bool.or_eq_true];left;rw [hd];obtain⟨y,hy⟩:=hal;rw [k3] at hy;have hpos : 0 < m + 1:=by omega
    have hdv:(sh + off) / (m + 1)=y + off / (m + 1):=by rw [hy,Nat.mul_add_div hpos]
    have hmd:(sh + off) % (m + 1)=off % (m + 1):=by rw [hy,Nat.mul_add_mod]
    refine xE (by rw [k3]; omega) ?_ hu (by simpa using hst) hfl ?_ (by rw [f2,hn]; omega) (by rw [f2]; simp [sameLayout])
    ·rw [k3,hdv];refine Nat.lt_of_succ_le ?_;rw [Nat.le_div_iff_mul_le hpos];generalize off / (m + 1)=qv at h2;have h3:Nat.succ (y + qv) * (m + 1)=(m + 1) * y + (qv + 1) * (m + 1):=by
      generalize m + 1=M;rw [Nat.succ_mul,Nat.add_mul,Nat.add_mul,Nat.one_mul,Nat.mul_comm y M,Nat.add_assoc]
     rw [h3,← hy];omega
    ·rw [k3,hmd];exact f1
   ·cases h1
  ·cases h
theorem Du (hi:bE A) (src dst:TypeId) (x:Operand) (p:Option Addr) (hx:f.eval x=some (.pointer p)) (h:mI P f ⟨d,.convert src dst x,ty,pos,af,gd⟩ src dst p A=some (nx,A')):bQ P f A ⟨d,.convert src dst x,ty,pos,af,gd⟩ nx A':=by
 unfold mI at h;split at h
 ·rename_i b off;split at h
  ·rename_i t hs hd;unfold nU at h;split at h
   ·rename_i m hsz;split at h
    ·rename_i cells e c st hb;obtain⟨hlt,h⟩:=aC h;injection h with h;injection h with h1 h2;subst h1;subst h2;have hcn:c < A.next:=(hi.lt _ _ hb).2;refine⟨fd hi hcn,fun φ T w a hf hr hT _=>⟨φ,w,.refl hr (by rw [aB]) (by rw [aB]) (by rw [aB]) rfl rfl rfl rfl,?_⟩⟩;have hTc:T c:=hT c hcn (.inl (by rw [aB,cg]; simp));have hv:=hf.eval hx;generalize hq:a.eval x=q at hv;cases hv with
     | ptr _ _ i hφ=>
      obtain⟨j,C,fz,e',e1,e2,e3,e4,e5,e6,e7,e8,e9,e10⟩:=hr.cells hb hTc;obtain rfl:i=j:=by rw [hφ] at e1; injection e1
      obtain⟨ti,k1,k2,k3⟩:=hH hsz;have hoff:=Nat.le_of_ble_eq_true hlt;have e:(execOp a.eval ⟨d,.convert src dst x,ty,pos,af,gd⟩).run P w=.ok (.value (.pointer (some ⟨i.blk,i.sh + off,none⟩))) w:=by
       refine bT ?_;rw [hq];exact Lib.run_to_unsafe w ⟨i.blk,i.sh + off,none⟩ hs hd k1 (by omega) (oP e2) (by show i.sh + off < C.size; omega)
      rw [e];exact .val _ _ (.ptr _ _ _ hφ)
    ·cases h
   ·cases h
  ·rename_i u hs hd;unfold kK at h;split at h
   ·rename_i m hsz;split at h
    ·rename_i cells e c st hb;obtain⟨hlt,h0⟩:=aC h;clear h;rw [Bool.and_eq_true] at hlt;have q4:=Cv hlt.2;injection h0 with h0;injection h0 with h1 h2;subst h1;subst h2;have hcn:c < A.next:=(hi.lt _ _ hb).2;refine⟨fd hi hcn,fun φ T w a hf hr hT _=>⟨φ,w,.refl hr (by rw [aB]) (by rw [aB]) (by rw [aB]) rfl rfl rfl rfl,?_⟩⟩;have hTc:T c:=hT c hcn (.inl (by rw [aB,cg]; simp));have hv:=hf.eval hx;generalize hq:a.eval x=q at hv;cases hv with
     | ptr _ _ i hφ=>
      obtain⟨j,C,fz,e',e1,e2,e3,e4,e5,e6,e7,e8,e9,e10⟩:=hr.cells hb hTc;obtain rfl:i=j:=by rw [hφ] at e1; injection e1
      obtain⟨ti,k1,k2,k3⟩:=hH hsz;obtain⟨he',hal⟩:=e10.resolve_right q4;rw [he'] at e2;rw [e5] at hal;have e:(execOp a.eval ⟨d,.convert src dst x,ty,pos,af,gd⟩).run P w=.ok (.value (.pointer (some ⟨i.blk,i.sh + off,none⟩))) w:=by
       refine bT ?_;rw [hq];exact Lib.run_from_unsafe w ⟨i.blk,i.sh + off,none⟩ hs hd k1 (oP e2) (yb k3 hlt.1 hal e7)
      rw [e];exact .val _ _ (.ptr _ _ _ hφ)
    ·cases h
   ·cases h
  ·cases h
 ·exact cY hi _ (by intro _ _ hh; cases hh) h
theorem qS (w:World) (p:Addr) (n:Nat):(w.freeze p n).heap.size=w.heap.size:=by
 unfold World.freeze;split
 ·rfl
 ·simp
theorem yF (hi:bE A) (hn:A.next≤A.next) {c:Nat} (hc:c < A.next) (k:Nat):kW A (lF (bO (nb A c k) c) c):=by
 have hf:ir c:=lT (by omega);rw [jR,aB,dq];refine⟨Nat.le_refl _,fun x hx=>by rw [cg,hx]; rfl,fun x hx=>by rw [cg,hx]; rfl,fun _ _ h _=>h,fun _ _ h _=>h,fun x hx=>?_,fun _ _=>rfl,fun x hx=>nk hx hc,fun x hx=>nk hx hc,⟨hi.lt,hi.mem,hi.memc,hi.root,hi.ml,hi.old,fun x y hx=>?_⟩⟩
 ·show (Tr.set k 40 A.fz c).get x=A.fz.get x;rw [Tr.get_set _ _ _ _ hf,if_neg];rintro rfl;rw [cg] at hx;simp at hx
 ·have hx':(Tr.set k 40 A.fz c).get x=some y:=hx;rw [Tr.get_set _ _ _ _ hf] at hx';split at hx'
  ·rename_i he; rw [he]; exact hc
  ·exact hi.fz _ _ hx'
theorem bG.freeze {φ:cK}{T:Nat→Prop}{w:World}{b:Nat}{cells:List Value}{e cls st off n k:Nat}{i:tI} (hi:bE A) (hn:A.next≤A.next) (h:gz P φ T A w) (hT:T cls) (hb:A.heap.get b=some (.row cells e cls st true)) (hφ:φ b=some i)
  (hk:∀h,A.fz.get cls=some h→h≤k) (hk2:st + off + n≤k):bG P φ T A (lF (bO (nb A cls k) cls) cls) w (w.freeze ⟨i.blk,i.sh + off,none⟩ n) φ:=by
 have hl:=(hi.lt _ _ hb).2;have hl':cls < A.next:=hl;have hf:ir cls:=lT (by omega);obtain⟨i',C,fz,e',e1,e2,e3,e4,e5,e6,e7,e8,e9,e10⟩:=h.cells hb hT;obtain rfl:i=i':=by rw [hφ] at e1; injection e1
 have hget:∀y,(w.freeze ⟨i.blk,i.sh + off,none⟩ n).heap[y]?=if y=i.blk∧n≠0 then some (.cells C e' (if fz.1 == fz.2 then (i.sh + off,i.sh + off + n) else (min fz.1 (i.sh + off),max fz.2 (i.sh + off + n)))) else w.heap[y]?:=by
  intro y;unfold World.freeze;by_cases h0:n=0
  ·simp [h0]
  ·rw [if_neg h0];show (w.heap.modify i.blk _)[y]?=_;rw [Array.getElem?_modify];by_cases hy:i.blk=y
   ·subst hy;rw [if_pos rfl,if_pos ⟨rfl,h0⟩,e2];rfl
   ·rw [if_neg hy,if_neg (fun hh=>hy hh.1.symm)]
 rw [jR,aB,dq];refine⟨fun _ _ h=>h,fun _ _=>rfl,⟨fun y j hy=>by rw [qS]; exact h.blk _ _ hy,h.inj,fun y o hy hlv hTy=>?_,h.al,h.glob,h.root⟩,fun y j hy _=>⟨y,j,hy,rfl,rfl⟩,by rw [qS]; exact Nat.le_refl _,fun y hy hw=>?_,?_,?_,?_⟩
 ·have hTy':T (cm y o):=hTy.elim id fun hc=>by have:A.next≤cm y o∧cm y o < A.next:=hc; omega
  obtain⟨j,q,g1,g2,g3⟩:=h.obj y o hy hlv hTy';show ∃i' o',φ y=some i'∧_∧mU P φ ((Tr.set k 40 A.fz cls).get (cm y o)) y i' o o';rw [Tr.get_set _ _ _ _ hf];by_cases hy':j.blk=i.blk∧n≠0
  ·obtain⟨hj1,hj2⟩:=hy';obtain⟨hc1,hc2⟩:=h.inj _ _ _ _ g1 hφ hj1;rw [hj1,e2] at g2;injection g2 with g2;subst g2;have hcy:cm y o=cls:=by rw [← g3.cls,hc1,e3]
   rw [if_pos hcy];refine⟨j,_,g1,by rw [hget,if_pos ⟨hj1,hj2⟩],?_⟩;cases g3 with
   | row cells' _ c' st' _ _ q1 q2 q3 q4 q5 q6 q7 _ q8=>
    refine .row _ _ _ _ _ _ q1 q2 q3 q4 q5 q6 (.inr ⟨k,rfl,?_⟩) _ (q8.imp id (M6.mono fun h' hh=>⟨k,rfl,hk h' (by rw [← hcy]; exact hh)⟩));have hst:i.sh + off + n + st'≤k + j.sh:=by omega
    split
    ·exact hst
    ·rename_i hne;show max fz.2 (i.sh + off + n) + st'≤k + j.sh;rcases q7 with q7 | ⟨h',q7,q8⟩
     ·rw [q7] at hne; simp at hne
     ·have hcl:A.fz.get cls=some h':=by rw [← hcy]; exact q7
      have:=hk h' hcl;omega
  ·refine⟨j,q,g1,by rw [hget,if_neg hy']; exact g2,?_⟩;refine g3.mono (fun _ _ h=>h) fun h' hh=>?_;split
   ·rename_i hcy; rw [hcy] at hh; exact⟨k,rfl,hk h' hh⟩
   ·exact⟨h',hh,Nat.le_refl _⟩
 ·rw [hget,if_neg];rintro⟨rfl,_⟩;have:=hw b i hφ rfl;rw [e3] at this;have h2:(A.w ||| (1 <<< cls)).testBit cls=false:=this;rw [cg] at h2;simp at h2
 ·unfold World.freeze; split<;>rfl
 ·unfold World.freeze; split<;>rfl
 ·unfold World.freeze; split<;>rfl
theorem xO (w:World) {n:Nat} (old:Nat) (e:TypeId) (hn:n≤1073741824):n≤grownCap w n old e∧grownCap w n old e≤9223372036854775808:=by
 have h1:grownCap w n old e=n + w.tape w.drawn (.appendCap n old e) % (2 ^ 63 - n):=rfl;have h2:=Nat.mod_lt (w.tape w.drawn (.appendCap n old e)) (show 2 ^ 63 - n > 0 by omega);rw [h1];omega
theorem vI {src dst e:TypeId} (hs:P.underlying src=some .string) (hd:P.underlying dst=some (.slice e)) (he:P.underlying e=some (.int .u8)) (s:ByteArray) (hn:s.size≤1073741824) (w:World) :
  (convert src dst (.string s)).run P w=.ok (.slice (some ⟨w.heap.size,0,none⟩) s.size (grownCap w s.size 0 e)) ((w.drew.alloc (.cells ((s.data.map fun b=>Value.int .u8 b.toNat) ++ Array.replicate (grownCap w s.size 0 e - s.size) (.int .u8 0)) e)).freeze ⟨w.heap.size,grownCap w s.size 0 e,none⟩ 1):=by
 have hc:=(xO w 0 e hn).1;have hsz:((s.data.map fun b=>Value.int .u8 b.toNat) ++ Array.replicate (grownCap w s.size 0 e - s.size) (Value.int .u8 0)).size=grownCap w s.size 0 e:=by
  simp only [Array.size_append,Array.size_map,Array.size_replicate];have:s.data.size=s.size:=rfl;omega
 have e1:(choose (.appendCap s.size 0 e)).run P w=.ok (grownCap w s.size 0 e) w.drew:=rfl;have e2:∀cs,(Go.newRow e cs).run P w.drew=.ok ⟨w.heap.size,0,none⟩ (w.drew.alloc (.cells cs e)):=fun _=>rfl;have e3:∀(cs:Array Value) (n:Nat),cs.size=n→(markStringish ⟨w.heap.size,0,none⟩).run P (w.drew.alloc (.cells cs e))=.ok () ((w.drew.alloc (.cells cs e)).freeze ⟨w.heap.size,n,none⟩ 1):=fun cs n hcs=>by
  have hsh:(w.drew.alloc (.cells cs e)).shape? w.heap.size=some (e,n):=by rw [← hcs]; exact oP (w:=w.drew.alloc (.cells cs e)) (kB (w:=w.drew))
  simp [markStringish,shape,freeze,Sem.run,hsh]
 simp only [convert,Sem.run_bind,run_underlying hs,run_underlying hd,run_underlying he,Result.andThen,Conv.stringToBytes,e1,e2,e3 _ _ hsz];rfl
theorem u1 (hi:bE A) (hn:A'.next≤A'.next) (src dst e:TypeId) (x:Operand) (s:ByteArray) (hx:f.eval x=some (.string s)) (hs:P.underlying src=some .string) (hd:P.underlying dst=some (.slice e)) (he:P.underlying e=some (.int .u8)) (hsz:bP P e=some 1)
  (h:om e s A=some (nx,A')):bQ P f A ⟨d,.convert src dst x,ty,pos,af,gd⟩ nx A':=by
 unfold om at h;rw [bp] at h;obtain⟨hsm,h⟩:=aC h;injection h with h;injection h with h1 h2;subst h1;obtain⟨ti,k1,k2,k3⟩:=hH hsz;have hlen:s.data.toList.length=s.size:=by simp
 have hsm:s.size≤1073741824:=by rw [← hlen]; exact Nat.le_of_ble_eq_true hsm
 have hnx:A'.next=A.next + 1:=by rw [← h2,dq,aB,jR,aY]
 subst h2;have hn':A.next + 1≤A.next + 1:=by rw [← hnx]; exact hn
 have fr1:=gC hi hn' (s.data.toList.map fun c=>Value.int .u8 (.ofNat c.toNat)) e;have fr2:=yF (c:=A.next) fr1.inv (by rw [aY]; exact hn') (by rw [aY]; omega) 18446744073709551616;refine⟨fr1.trans fr2,fun φ T w a hf hr hT hfr=>?_⟩;have hv:=hf.eval hx;generalize hq:a.eval x=q at hv;cases hv;have hrun:=vI hs hd he s hsm w;obtain⟨C,hCdef⟩ : ∃C,C=(s.data.map fun b=>Value.int .u8 b.toNat) ++ Array.replicate (grownCap w s.size 0 e - s.size) (Value.int .u8 0):=⟨_,rfl⟩
 rw [← hCdef] at hrun;obtain⟨g1,g2⟩:=xO w 0 e hsm;have hCs:C.size=grownCap w s.size 0 e:=by
  rw [hCdef];simp only [Array.size_append,Array.size_map,Array.size_replicate];have:s.data.size=s.size:=rfl;omega
 have hfr0:φ A.next=none:=hfr _ (Nat.le_refl _) (by rw [hnx]; omega);have hr':gz P φ T A w.drew:=hr.heap rfl rfl rfl;have htake:C.toList.take (s.data.toList.map fun c=>Value.int .u8 (.ofNat c.toNat)).length=s.data.toList.map fun c=>Value.int .u8 (.ofNat c.toNat):=by
  rw [hCdef,Array.toList_append,Array.toList_map,List.take_append_of_le_length (by simp)];rw [List.take_of_length_le (by simp)];rfl
 have hself:∀(l:List UInt8) (φ':cK),b8 φ' (l.map fun c=>Value.int .u8 (.ofNat c.toNat)) (l.map fun c=>Value.int .u8 (.ofNat c.toNat)):=by
  intro l φ'
  induction l with
  | nil=>exact .nil
  | cons a l ih=>exact .cons _ _ _ _ (.int _ _) ih
 obtain⟨φ1,m1,m2⟩:=bG.new (P:=P) (T:=T) hi hn' hr' hfr0 (fun b=>.row (s.data.toList.map fun c=>Value.int .u8 (.ofNat c.toNat)) e b 0 true) rfl (.cells C e) 0 C.size (P.cellsOf e) 0 rfl (fun φ' _ _=>by
  refine .row _ _ _ _ _ (0,0) rfl rfl rfl (by simp) ?_ ?_ (.inl rfl) _ (.inl ⟨rfl,Nat.dvd_zero _⟩)
  ·show 0 + _≤C.size;rw [List.length_map,hCs,hlen]; omega
  ·show b8 φ' _ ((C.toList.drop 0).take _);rw [List.drop_zero,htake];exact hself _ φ')
 have m2':bG P φ T A (newRow A (s.data.toList.map fun c=>Value.int .u8 (.ofNat c.toNat)) e) w (w.drew.alloc (.cells C e)) φ1:=by
  rw [dk];exact⟨m2.ext,m2.out,m2.rel,m2.img,m2.size,m2.same,m2.os,m2.tape,m2.output⟩
 have hrow:(newRow A (s.data.toList.map fun c=>Value.int .u8 (.ofNat c.toNat)) e).heap.get A.next=some (.row (s.data.toList.map fun c=>Value.int .u8 (.ofNat c.toNat)) e A.next 0 true):=by
  rw [dk,gb];show (Tr.set _ 40 A.heap A.next).get A.next=_;rw [Tr.get_set _ _ _ _ (lT (by omega)),if_pos rfl]
 have hfz:∀h',(newRow A (s.data.toList.map fun c=>Value.int .u8 (.ofNat c.toNat)) e).fz.get A.next=some h'→h'≤18446744073709551616:=fun h' hh=>by
  rw [dk,gb] at hh;have:=hi.fz _ _ (show A.fz.get A.next=some h' from hh);omega
 have m3:=bG.freeze (off:=C.size) (n:=1) fr1.inv (by rw [aY]; exact hn') m2'.rel (.inr ⟨Nat.le_refl _,by rw [aY]; omega⟩) hrow m1 hfz (by omega);have hpost:=m2'.trans fr1.next fr2 m3;rw [hCs] at hpost;refine⟨φ1,_,hpost,?_⟩;have ee:(execOp a.eval ⟨d,.convert src dst x,ty,pos,af,gd⟩).run P w=.ok (.value (.slice (some ⟨w.heap.size,0,none⟩) s.size (grownCap w s.size 0 e))) ((w.drew.alloc (.cells C e)).freeze ⟨w.heap.size,grownCap w s.size 0 e,none⟩ 1):=by
  refine bT ?_;rw [hq];exact hrun
 rw [ee,hlen];have hw:(w.drew.alloc (.cells C e)).freeze ⟨w.heap.size,0 + grownCap w s.size 0 e,none⟩ 1=(w.drew.alloc (.cells C e)).freeze ⟨w.heap.size,grownCap w s.size 0 e,none⟩ 1:=by rw [Nat.zero_add]
 show NRel φ1 ((w.drew.alloc (.cells C e)).freeze ⟨w.heap.size,0 + grownCap w s.size 0 e,none⟩ 1) _ _;rw [hw];refine .val _ _ (.slice _ _ _ _ _ _ _ m1 (Nat.le_refl _) g1 (.inr rfl) ?_);show 0 + grownCap w s.size 0 e * P.cellsOf e≤C.size;rw [k3,hCs];omega
theorem Bt (hi:bE A) (hn:A'.next≤A'.next) (src dst:TypeId) (x:Operand) (h:aU P f ⟨d,.convert src dst x,ty,pos,af,gd⟩ A=some (nx,A')):bQ P f A ⟨d,.convert src dst x,ty,pos,af,gd⟩ nx A':=by
 have h':l7 P f ⟨d,.convert src dst x,ty,pos,af,gd⟩ src dst (f.eval x) A=some (nx,A'):=h;unfold l7 at h';split at h'
 ·rename_i b off n c hx;split at h'
  ·rename_i e hs hd;split at h'
   ·rename_i he;cases n with
    | zero=>
     have h'':some (cu.val (.string ⟨#[]⟩),A)=some (nx,A'):=h';injection h'' with h'';injection h'' with h1 h2;subst h1;subst h2;refine aM hi fun φ w a hf=>?_;have hv:=hf.eval hx;generalize hq:a.eval x=q at hv;cases hv with
     | slice _ _ _ _ cap' a' i hφ hl hc ha hr=>
      have e:(execOp a.eval ⟨d,.convert src dst x,ty,pos,af,gd⟩).run P w=.ok (.value (.string ⟨#[]⟩)) w:=by
       refine bT ?_;rw [hq];exact AP hs he hd _ _ w
      rw [e];exact .val _ _ (.string _)
    | succ n=>
     have h'':(match ld A b off (n + 1) with
      | some (xs,s)=>(match dc xs with
       | some l=>eW l fun l=>some (cu.val (.string ⟨⟨l⟩⟩),s)
       | none=>none)
      | none=>none)=some (nx,A'):=h'
     split at h''
     ·rename_i xs s hld;split at h''
      ·rename_i l hbl;rw [bg] at h'';injection h'' with h'';injection h'' with h1 h2;subst h1;subst h2;refine⟨v7 hi hld,fun φ T w a hf hr hT _=>?_⟩;have hv:=hf.eval hx;generalize hq:a.eval x=q at hv;cases hv with
       | slice _ _ _ _ cap' a' i hφ hl hc ha hrr=>
        obtain rfl:a'=⟨i.blk,i.sh + off,none⟩:=ha.resolve_left (by omega);obtain⟨xs',g1,g2,g3⟩:=qd hi hld hr hT hφ;refine⟨φ,w,g3,?_⟩;obtain⟨ns,k1,k2⟩:=uC hbl g1;have hlen:ns.length=n + 1:=by
         obtain⟨_,_,_,_,_,_,q1,_⟩:=kU hld;have q2:=g1.length;rw [k1,List.length_map] at q2;omega
        subst k1;have hlc:=run_loadCells_list (P:=P) w ⟨i.blk,i.sh + off,none⟩ (ns.map (Value.int .u8)) g2;rw [List.length_map,hlen] at hlc;have e:(execOp a.eval ⟨d,.convert src dst x,ty,pos,af,gd⟩).run P w=.ok (.value (.string ⟨⟨l⟩⟩)) w:=by
         refine bT ?_;rw [hq];rw [run_convert_bytes_string w src dst e _ _ _ hs he hd,run_bytesToString w _ _ _ ns hlc,foldl_push_bytes,k2];simp [ByteArray.empty,ByteArray.emptyWithCapacity];rfl
        rw [e];exact .val _ _ (.string _)
      ·cases h''
     ·cases h''
   ·cases h'
  ·cases h'
 ·rename_i p hx;exact Du hi src dst x p hx h'
 ·rename_i s hx;split at h'
  ·rename_i e hd;split at h'
   ·rename_i hs he hsz;exact u1 hi hn src dst e x s hx hs hd he hsz h'
   ·cases h'
  ·exact cY hi _ (by intro _ _ hh; cases hh) h'
 ·exact cY hi _ (by intro _ _ hh; cases hh) h'
theorem A5 (hi:bE A) (x:Operand) (tys:Array TypeId) (h:xw P f ⟨d,.call ⟨.builtin .unsafeSliceData,#[x],tys⟩,ty,pos,af,gd⟩ (f.eval x) A=some (nx,A')):bQ P f A ⟨d,.call ⟨.builtin .unsafeSliceData,#[x],tys⟩,ty,pos,af,gd⟩ nx A':=by
 unfold xw at h;split at h
 ·rename_i bb oo n c hx;injection h with h;injection h with h1 h2;subst h1;subst h2;refine aM hi fun φ w a hf=>?_;have hv:=hf.eval hx;generalize hq:a.eval x=q at hv;cases hv with
  | slice _ _ _ _ cap' a' i hφ hl hc ha hr=>
   obtain rfl:a'=⟨i.blk,i.sh + oo,none⟩:=ha.resolve_left (by omega);have e:(execOp a.eval ⟨d,.call ⟨.builtin .unsafeSliceData,#[x],tys⟩,ty,pos,af,gd⟩).run P w=.ok (.value (.pointer (some ⟨i.blk,i.sh + oo,none⟩))) w:=by
    refine bT ?_;have hc0:cap'≠0:=by omega
    have hm:(#[x].map a.eval) = #[a.eval x]:=by simp
    rw [hm,hq];cases cap' with
    | zero=>exact absurd rfl hc0
    | succ k=>rfl
   rw [e];exact .val _ _ (.ptr _ _ _ hφ)
 ·exact cY hi _ (by intro _ _ hh; cases hh) h
end
section
variable {P:Program}{f:Fr}{A A':AS}{nx:cu}{d:Option Tmp}{ty:TypeId}{pos:String}{af:Array Edge}{gd:Option (Nat × Bool)}
theorem oh (w:World):∀(l:List Int) (a:Addr) (acc:ByteArray),(∀j x,l[j]?=some x→w.cell? (a.add j)=some (.int .u8 x))→
  (loadBytes a acc l.length).run P w=.ok ⟨acc.data ++ (l.map fun n=>UInt8.ofNat n.toNat).toArray⟩ w
 | [],a,acc,_=>by simp [loadBytes]
 | x :: l,a,acc,h=>by
  have h0:w.cell? a=some (.int .u8 x):=by
   have:=h 0 x rfl;simpa [Addr.add] using this
  have ih:=oh w l (a.add 1) (acc.push (UInt8.ofNat x.toNat)) (fun j y hy=>by
   have:=h (j + 1) y (by simpa using hy);have e:(a.add 1).add j=a.add (j + 1):=by
    unfold Addr.add;by_cases hj:j=0
    ·subst hj; simp
    ·simp [hj]; omega
   rw [e]; exact this)
  simp only [List.length_cons,loadBytes,Sem.run_bind,run_load,h0,Result.andThen];refine Eq.trans ih ?_;congr 1;apply ByteArray.ext;simp [ByteArray.push]
theorem yN {e:TypeId} (hc:P.cellsOf e=1) (count off n:Nat) (hn:off + n≤count):liesAt P P.depth e count off e n=true:=by
 have hd:P.depth=(2 * (P.types.size + Made.depth) + 1) + 1:=rfl;rw [hd];simp only [liesAt,Bool.or_eq_true];left;rw [hd];simp [rowAt,hc,hn,sameLayout,Nat.mod_one]
theorem HG (w:World) (pt it ty e:TypeId) (hp:P.underlying pt=some (.pointer e)) (hc:P.cellsOf e=1) (g off cells:Nat) (hsh:w.shape? g=some (e,cells)) (l:List Int) (h0:l≠[]) (hn:off + l.length≤cells) (h63:l.length≤9223372036854775807)
  (hcell:∀j x,l[j]?=some x→w.cell? ((⟨g,off,none⟩ : Addr).add j)=some (.int .u8 x)) :
  (Builtin.unsafeString_ #[pt,it] ty #[.pointer (some ⟨g,off,none⟩),.int .i64 l.length]).run P w=.ok (.string ⟨(l.map fun n=>UInt8.ofNat n.toNat).toArray⟩) (w.freeze ⟨g,off,none⟩ l.length):=by
 have hl:l.length≠0:=by simpa using h0
 have hlb:=oh (P:=P) w l ⟨g,off,none⟩ .empty hcell;have hlies:=yN (P:=P) hc (cells / P.cellsOf e) off l.length (by rw [hc]; simpa using hn);have h63':¬ (9223372036854775807:Int) < (l.length:Int):=by omega
 have hdef:Builtin.unsafeString_ #[pt,it] ty #[.pointer (some ⟨g,off,none⟩),.int .i64 l.length] =
   (do
    let n ← asInt (.int .i64 l.length)
    if n < 0 then runtimePanic (.error "unsafe.String: len out of range")
    if n > IntKind.i64.max then unsupported (.unsafePointer "String: a length above the largest int")
    if n=0 then pure (.string .empty)
    else if ← variablesAt ⟨g,off,none⟩ (← elemOf pt) n.toNat then do
     let s ← loadBytes ⟨g,off,none⟩ .empty n.toNat
     freeze ⟨g,off,none⟩ n.toNat
     pure (.string s)
    else unsupported (.unsafePointer "String: not so many bytes at ptr")):=rfl
 rw [hdef];have hmax:IntKind.i64.max=9223372036854775807:=rfl;have hneg:¬ (l.length:Int) < 0:=by omega
 simp [asInt,asIntOf,hmax,h63',hneg,hl,variablesAt,hsh,elemOf,run_underlying hp,hlies,hlb]
theorem AT (hi:bE A) (hn:A'.next≤A'.next) (x y:Operand) (tys:Array TypeId) (h:yt P f ⟨d,.call ⟨.builtin .unsafeString,#[x,y],tys⟩,ty,pos,af,gd⟩ tys.toList (f.eval x) (f.eval y) A=some (nx,A')) :
  bQ P f A ⟨d,.call ⟨.builtin .unsafeString,#[x,y],tys⟩,ty,pos,af,gd⟩ nx A':=by
 unfold yt at h;split at h
 case h_2=>exact cY hi _ (by intro _ _ hh; cases hh) h
 rename_i b off n hx hy;unfold oW at h;split at h
 case h_2=>cases h
 rename_i cells e cls st pt it hb htys;split at h
 case h_2=>cases h
 rename_i e' hp hsz;obtain⟨hc,h0⟩:=aC h;clear h;simp only [Bool.and_eq_true] at hc;have c1:=Nat.eq_of_beq_eq_true hc.1;have c2:=Nat.le_of_ble_eq_true hc.2.1;have hsmall:=Cv hc.2.2;subst c1;unfold tL at h0;split at h0
 case h_2=>cases h0
 rename_i l hl;rw [bg] at h0;obtain⟨hlen,h3⟩:=aC h0;clear h0;have hlen:=Nat.eq_of_beq_eq_true hlen;injection h3 with h3;injection h3 with h1 h2;subst h1;have hnx:A'.next=A.next:=by rw [← h2,dq,aB,jR]
 subst h2;have hcn:cls < A.next:=(hi.lt _ _ hb).2;have hle:A.next≤A.next:=by rw [← hnx]; exact hn
 have htys':tys = #[pt,it]:=by cases tys; cases htys; rfl
 refine⟨yF hi hle hcn _,fun φ T w a hf hr hT _=>?_⟩;have hTc:T cls:=hT cls hcn (.inl (by rw [dq,aB,cg]; simp));have hvx:=hf.eval hx;have hvy:=hf.eval hy;generalize hqx:a.eval x=qx at hvx;generalize hqy:a.eval y=qy at hvy;cases hvy;cases hvx with
 | ptr _ _ i hφ=>
  obtain⟨j,C,fz,e',e1,e2,e3,e4,e5,e6,e7,e8,e9,e10⟩:=hr.cells hb hTc;obtain⟨he',_⟩:=e10.resolve_right hsmall;rw [he'] at e2;obtain rfl:i=j:=by rw [hφ] at e1; injection e1
  obtain⟨ns,k1,k2⟩:=uC hl ((e8.drop off).take (n + 1));obtain⟨_,_,_,q3⟩:=hH hsz;have hnl:ns.length=n + 1:=by rw [← hlen,k2,List.length_map]
  have hl1:ns.length=min (n + 1) (cells.length - off):=by
   have:=congrArg List.length k1;simp only [List.length_take,List.length_drop,List.length_map,Array.length_toList] at this;omega
  have hoff:off + (n + 1)≤cells.length:=by omega
  have hcell:∀jj xx,ns[jj]?=some xx→w.cell? ((⟨i.blk,i.sh + off,none⟩ : Addr).add jj)=some (.int .u8 xx):=by
   intro jj xx hjj;have hjl:jj < n + 1:=by
    rw [← hnl];exact (List.getElem?_eq_some_iff.1 hjj).1
   have h3:(((C.toList.drop i.sh).take cells.length).drop off).take (n + 1)=ns.map (Value.int .u8):=k1;have h4:((((C.toList.drop i.sh).take cells.length).drop off).take (n + 1))[jj]?=some (.int .u8 xx):=by rw [h3]; simp [hjj]
   rw [List.getElem?_take,if_pos hjl,List.getElem?_drop,List.getElem?_take,if_pos (by omega),List.getElem?_drop] at h4;rw [eB,Lib.cell_of_heap e2];rw [show i.sh + off + jj=i.sh + (off + jj) by omega];simpa using h4
  have hrun:=HG w pt it ty e hp q3 i.blk (i.sh + off) C.size (oP e2) ns (by intro hh; rw [hh] at hnl; simp at hnl) (by omega) (by omega) hcell;rw [hnl] at hrun;refine⟨φ,w.freeze ⟨i.blk,i.sh + off,none⟩ (n + 1),bG.freeze hi hle hr hTc hb hφ (fun h' hh=>by rw [hh]; exact Nat.le_max_left _ _) (Nat.le_max_right _ _),?_⟩;have e:(execOp a.eval ⟨d,.call ⟨.builtin .unsafeString,#[x,y],tys⟩,ty,pos,af,gd⟩).run P w=.ok (.value (.string ⟨(ns.map fun n=>UInt8.ofNat n.toNat).toArray⟩)) (w.freeze ⟨i.blk,i.sh + off,none⟩ (n + 1)):=by
   refine bT ?_;have hm:(#[x,y].map a.eval) = #[a.eval x,a.eval y]:=by simp
   rw [hm,hqx,hqy,htys'];exact hrun
  rw [e,← k2];exact .val _ _ (.string _)
theorem DL {φ:cK}{g:Nat→Value} (h:∀k,dE φ (g k) (g k)):∀l:List Nat,b8 φ (l.map g) (l.map g):=by
 intro l
 induction l with
 | nil=>exact .nil
 | cons a l ih=>exact .cons _ _ _ _ (h a) ih
theorem Lo (z:Array Value) (n:Nat) (h:n=0∨z.size≠0):(lq z.toList z.size n).toArray=madeCells z n:=by
 unfold lq madeCells;apply Array.ext
 ·simp
 ·intro k h1 h2;have hk:k < n:=by simpa using h1
  have hz : 0 < z.size:=by rcases h with h | h<;>omega
  have hlt:k % z.size < z.size:=Nat.mod_lt _ hz;simp only [List.getElem_toArray,List.getElem_map,List.getElem_range,Array.getElem_map,Array.getElem_range];rw [getElem!_pos z (k % z.size) hlt];have:Nat.mod k z.size=k % z.size:=rfl;rw [this];simp [List.getD,hlt]
theorem zY (hi:bE A) (hn:A'.next≤A'.next) (t:TypeId) (l c:Operand) (h:aU P f ⟨d,.makeSlice t l c,ty,pos,af,gd⟩ A=some (nx,A')):bQ P f A ⟨d,.makeSlice t l c,ty,pos,af,gd⟩ nx A':=by
 have h':rQ P t (f.eval l) (f.eval c) A=some (nx,A'):=h;unfold rQ at h';split at h'
 case h_2=>cases h'
 rename_i e n m ht hl hc;split at h'
 case h_2=>cases h'
 rename_i i hin;split at h'
 case h_2=>cases h'
 rename_i z hz;unfold vE at h';obtain⟨hb,h'⟩:=aC h';simp only [Bool.and_eq_true] at hb;have b1:=Nat.le_of_ble_eq_true hb.1;have b2:i.bytes * m≤281474976710656:=Nat.le_of_ble_eq_true hb.2.1;have b3:=Nat.le_of_ble_eq_true hb.2.2.1;have b4:=hb.2.2.2.1;have b5:z.cells.size=i.size:=by rw [← Array.length_toList]; exact Nat.eq_of_beq_eq_true hb.2.2.2.2
 injection h' with h';injection h' with h1 h2;subst h1;subst h2;rw [aY] at hn;refine⟨gC hi hn _ _,fun φ T w a hf hr _ hfr=>?_⟩;have hself:=fa (cy φ 50 z b4);have hcells:b8 φ (lq z.cells.toList i.size (Nat.mul m i.size)) (lq z.cells.toList i.size (Nat.mul m i.size)):=by
  refine DL (fun k=>?_) _;cases hk:z.cells.toList[Nat.mod k i.size]? with
  | none=>rw [List.getD_eq_getElem?_getD,hk]; exact fM φ
  | some v=>
   obtain⟨v',g1,g2⟩:=b8.get _ hself hk;rw [hk] at g1;injection g1 with g1;subst g1;rw [List.getD_eq_getElem?_getD,hk];exact g2
 obtain⟨φ',e1,e2⟩:=jt hi (by rw [aY]; exact hn) hr hfr hcells;refine⟨φ',_,e2,?_⟩;obtain⟨vl,hl1,hl2⟩ : ∃v,f.eval l=some v∧gG v=some n:=by
  cases hh:f.eval l with
  | none=>rw [hh] at hl; cases hl
  | some v=>rw [hh] at hl; exact⟨v,rfl,hl⟩
 obtain⟨vc,hc1,hc2⟩ : ∃v,f.eval c=some v∧gG v=some m:=by
  cases hh:f.eval c with
  | none=>rw [hh] at hc; cases hc
  | some v=>rw [hh] at hc; exact⟨v,rfl,hc⟩
 obtain⟨kl,rfl⟩:=gH hl2;obtain⟨kc,rfl⟩:=gH hc2;have r1:=hf.eval hl1;have r2:=hf.eval hc1;generalize hq1:a.eval l=q1 at r1;generalize hq2:a.eval c=q2 at r2;cases r1;cases r2;have hcm:(lq z.cells.toList i.size (Nat.mul m i.size)).toArray=madeCells z.cells (m * i.size):=by
  rw [← b5];refine Lo _ _ ?_;by_cases h0:z.cells.size=0
  ·left; rw [h0]; rfl
  ·exact .inr h0
 have hb2:(i.bytes:Int) * (m:Int)≤281474976710656:=by
  have h:((i.bytes * m:Nat):Int)≤281474976710656:=by omega
  rwa [Int.natCast_mul] at h
 have hrun:=run_make (P:=P) w t e i z ht hin hz kl kc (n:Int) (m:Int) (by omega) (by omega) hb2 (by omega);simp only [Int.toNat_natCast] at hrun;have hes:P.cellsOf e=i.size:=by simp [Program.cellsOf,hin]
 have ee:(execOp a.eval ⟨d,.makeSlice t l c,ty,pos,af,gd⟩).run P w=.ok (.value (.slice (some ⟨w.heap.size,0,none⟩) n m)) (w.alloc (.cells (lq z.cells.toList i.size (Nat.mul m i.size)).toArray e)):=by
  refine bT ?_;rw [hq1,hq2,hcm];exact hrun
 rw [ee];refine .val _ _ (.slice _ _ _ _ _ _ _ e1 b1 (Nat.le_refl _) (.inr (by simp)) ?_);show 0 + m * P.cellsOf e≤(lq z.cells.toList i.size (Nat.mul m i.size)).length;rw [hes];unfold lq;simp
end
section
variable {P:Program}{f:Fr}{A A':AS}{nx:cu}{d:Option Tmp}{ty:TypeId}{pos:String}{af:Array Edge}{gd:Option (Nat × Bool)}
theorem zJ {α:Type}{xs:Array α}{x:α} (h:xs.toList=[x]):xs = #[x]:=by cases xs; cases h; rfl
theorem iV {α:Type}{xs:Array α}{x y:α} (h:xs.toList=[x,y]):xs = #[x,y]:=by cases xs; cases h; rfl
theorem uq (hi:bE A) (hn:A'.next≤A'.next) (b:Builtin) (args:Array Operand) (tys:Array TypeId) (h:jU P f ⟨d,.call ⟨.builtin b,args,tys⟩,ty,pos,af,gd⟩ b args.toList tys.toList A=some (nx,A')) :
  bQ P f A ⟨d,.call ⟨.builtin b,args,tys⟩,ty,pos,af,gd⟩ nx A':=by
 unfold jU at h;split at h
 ·exact EG hi args tys h
 ·split at h
  ·rename_i x y t u h1 h2;obtain rfl:=iV h1;obtain rfl:=iV h2;exact wz hi hn x y t u h
  ·cases h
 ·split at h
  ·rename_i x y t u h1 h2;obtain rfl:=iV h1;obtain rfl:=iV h2;exact BF hi hn x y t u h
  ·cases h
 ·injection h with h;injection h with h1 h2;subst h1;subst h2;refine aM hi fun φ w a hf=>?_;exact .recover
 ·split at h
  ·rename_i x h1;obtain rfl:=zJ h1;exact A5 hi x tys h
  ·cases h
 ·split at h
  ·rename_i x y h1;obtain rfl:=iV h1;exact AT hi hn x y tys h
  ·cases h
 ·exact cY hi _ (by intro _ _ hh; cases hh) h
theorem zK (hE:lW P) (hi:bE A) (hn:A'.next≤A'.next) (c:Call) (h:aU P f ⟨d,.call c,ty,pos,af,gd⟩ A=some (nx,A')):bQ P f A ⟨d,.call c,ty,pos,af,gd⟩ nx A':=by
 obtain⟨cal,args,tys⟩:=c;cases cal with
 | value x=>exact jg hE hi x args tys (show tf P (f.eval x) (iq f args.toList) A=_ from h)
 | builtin b=>exact uq hi hn b args tys (show jU P f _ b args.toList tys.toList A=_ from h)
 | invoke=>cases h
end
theorem yX {P:Program} (hE:lW P) (hS:Qk P):be P:=by
 intro f o A nx A' hi hn h;obtain⟨d,op,ty,pos,af,gd⟩:=o;cases op with
 | move x=>exact AN hi x h
 | assign x=>exact vY hi x h
 | pick c a b=>exact AA hi c a b h
 | alloc e=>exact xP hi hn e h
 | box e x=>exact DY hi hn e x h
 | build t ps=>exact yC hS hi t ps h
 | buildSlice t n ps=>exact qb hi hn t n ps h
 | insert=>cases h
 | load t a=>exact zR hi t a h
 | store t a x=>exact xT hi hn t a x h
 | ready=>cases h
 | waits=>cases h
 | nilCheck x=>exact s8 hi x h
 | binOp op t x y u=>exact Di hi op t u x y h
 | unOp=>exact cY hi _ (by intro _ _ hh; cases hh) (show dA P f _ A=_ from h)
 | convert a b x=>exact Bt hi hn a b x h
 | sliceToArrayPointer=>cases h
 | makeInterface t x=>exact zb hi t x h
 | makeFunc fn a b=>exact B8 hi fn a b h
 | makeMap t r=>exact uA hi hn t r h
 | makeChan=>cases h
 | makeSlice t l c=>exact zY hi hn t l c h
 | slice t x lo hi' mx=>exact zk hi t x lo hi' mx h
 | fieldAddr t x i=>exact rk hi t x i h
 | field t x i=>exact y5 hi t x i h
 | indexAddr t x i=>exact qZ hi t x i h
 | index t x i=>exact zx hi t x i h
 | lookup t x k ok=>exact wk hi t x k ok h
 | mapUpdate t m k x=>exact ri hi hn t m k x h
 | mapEntry=>cases h
 | entryStore=>cases h
 | range t x=>exact yV hi hn t x h
 | next it b=>exact zH hi hn it b h
 | entry=>cases h
 | typeAssert x t a ok=>exact vG hi x t a ok h
 | extract t i=>exact ui hi t i h
 | call c=>exact zK hE hi hn c h
 | go=>cases h
 | defer c=>exact xf hi c h
 | panic x=>exact xq hi x h
 | send=>cases h
 | recv=>cases h
 | select=>cases h
section
variable {P:Program}{call:cV}
theorem dK (s:AS):(bY s).next=s.next:=by cases s; rfl
theorem i6 (s s':AS):(g8 s s').next=s'.next:=by cases s'; unfold g8; simp only [bp]
theorem lC (ops:Array Oper) (j:Nat) (bs:Tr Nat) (acc:List Fp) (f:Fr) (A:AS):gW P call ops [] j bs acc f A=.on f A:=rfl
theorem kO (ops:Array Oper) (o:Oper) (l:List Oper) (j:Nat) (bs:Tr Nat) (acc:List Fp) (f:Fr) (A:AS) :
  gW P call ops (o :: l) j bs acc f A=ko o (o.looksAt ops) f A j bs acc (fp P call ops.toList (fk (o.looksAt ops) f) o (bY A)) (gW P call ops l):=by
 show eW (o.looksAt ops) (fun ls=>ko o ls f A j bs acc (fp P call ops.toList (fk ls f) o (bY A)) (gW P call ops l))=_;rw [bg]
theorem jy {o:Oper}{l:List Tmp}{f:Fr}{A:AS}{j:Nat}{bs:Tr Nat}{acc:List Fp}{r:St}{k:QT} (h:ko o l f A j bs acc r k≠.no) :
  ∃g B f',r=.on g B∧gU f o.dst g=some f'∧fy j o.after.toList=true∧j < 100000∧lz l=true∧
   kE (du bs o.after.toList) (dC f'.n B.r (bj l)) (dC f'.n B.w (bj o.dst.toList)) acc=true∧
   ko o l f A j bs acc r k=k (j + 1) (Tr.set (du bs o.after.toList) 40 bs j) (⟨j,dC f'.n B.r (bj l),dC f'.n B.w (bj o.dst.toList)⟩ :: acc) f' (g8 A B):=by
 unfold ko at h ⊢;cases r with
 | no=>exact absurd rfl h
 | up v g B=>exact absurd rfl h
 | on g B=>
  simp only at h ⊢;cases hp:gU f o.dst g with
  | none=>rw [hp] at h; exact absurd rfl h
  | some f'=>
   rw [hp] at h;simp only at h ⊢;unfold FB at h ⊢;simp only [bp,bX] at h ⊢;cases hb:(fy j o.after.toList && (Nat.ble (Nat.succ j) 100000 && (lz l && kE (du bs o.after.toList) (dC f'.n B.r (bj l)) (dC f'.n B.w (bj o.dst.toList)) acc))) with
   | false=>rw [hb] at h; exact absurd rfl h
   | true=>
    have hb':=hb;simp only [Bool.and_eq_true] at hb';exact⟨g,B,f',rfl,hp,hb'.1,Nat.le_of_ble_eq_true hb'.2.1,hb'.2.2.1,hb'.2.2.2,rfl⟩
theorem sI (ops:Array Oper):∀(l:List Oper) (j:Nat) (bs:Tr Nat) (acc:List Fp) (f:Fr) (A:AS) (v:Value) (f':Fr) (A':AS),gW P call ops l j bs acc f A≠.up v f' A':=by
 intro l
 induction l with
 | nil=>intro j bs acc f A v f' A' h; rw [lC] at h; cases h
 | cons o l ih=>
  intro j bs acc f A v f' A' h;rw [kO] at h;obtain⟨g,B,f1,_,_,_,_,_,_,he⟩:=jy (by rw [h]; exact fun hh=>by cases hh);rw [he] at h;exact ih _ _ _ _ _ _ _ _ h
theorem vU (hO:fm P) (hM:cM call) {ops:Array Oper} : ∀(l:List Oper) {f f':Fr}{A A':AS}{j:Nat}{bs:Tr Nat}{acc:List Fp},gW P call ops l j bs acc f A=.on f' A'→A.next≤A'.next:=by
 intro l
 induction l with
 | nil=>intro f f' A A' j bs acc h; rw [lC] at h; injection h with _ h2; rw [h2]; exact Nat.le_refl _
 | cons o l ih=>
  intro f f' A A' j bs acc h;rw [kO] at h;obtain⟨g,B,f1,hs,_,_,_,_,_,he⟩:=jy (by rw [h]; exact fun hh=>by cases hh);have h1:=km hO hM (v:=undef) (.inl hs);rw [he] at h;have h2:=ih h;rw [i6] at h2;rw [dK] at h1;omega
theorem yg (hO:fm P) (hM:cM call):jX P call:=by
 intro ops f A x f' A' h;rcases mJ h with ⟨h1,_⟩ | ⟨v,h1,_⟩
 ·exact vU hO hM _ h1
 ·exact absurd h1 (sI _ _ _ _ _ _ _ _ _ _)
structure EI where
 f:Fr
 s:AS
 g:Fr
 B:AS
 bs:Tr Nat
 acc:List Fp
def Sp (P:Program) (call:cV) (ops:Array Oper) (f:Fr) (A:AS) (g:Fr) (B:AS) (o:Oper):Prop:=
 fp P call ops.toList f o A=.on g B∨(jJ P ops o f A g B∧(fV ops.toList f o.guard=some false∨∀cs b,o.op≠.select cs b))
structure Px (P:Program) (call:cV) (ops:Array Oper) (X:Nat→EI) (j:Nat) (o:Oper):Prop where
 step:Sp P call ops (fk (o.looksAt ops) (X j).f) (bY (X j).s) (X j).g (X j).B o
 put:gU (X j).f o.dst (X j).g=some (X (j + 1)).f
 s:(X (j + 1)).s=g8 (X j).s (X j).B
 low:fy j o.after.toList=true
 few:j < 100000
 looks:lz (o.looksAt ops)=true
 bs:(X (j + 1)).bs=Tr.set (du (X j).bs o.after.toList) 40 (X j).bs j
 acc:(X (j + 1)).acc=⟨j,dC (X (j + 1)).f.n (X j).B.r (bj (o.looksAt ops)),dC (X (j + 1)).f.n (X j).B.w (bj o.dst.toList)⟩ :: (X j).acc
 clear:kE (du (X j).bs o.after.toList) (dC (X (j + 1)).f.n (X j).B.r (bj (o.looksAt ops))) (dC (X (j + 1)).f.n (X j).B.w (bj o.dst.toList)) (X j).acc=true
theorem RL {ops:Array Oper} : ∀(l:List Oper) (j:Nat) (bs:Tr Nat) (acc:List Fp) (f f':Fr) (A A':AS),gW P call ops l j bs acc f A=.on f' A'→
  ∃X:Nat→EI,(X j).f=f∧(X j).s=A∧(X j).bs=bs∧(X j).acc=acc∧(X (j + l.length)).f=f'∧(X (j + l.length)).s=A'∧∀i o,l[i]?=some o→Px P call ops X (j + i) o:=by
 intro l
 induction l with
 | nil=>
  intro j bs acc f f' A A' h;rw [lC] at h;injection h with h1 h2;exact⟨fun _=>⟨f,A,f,A,bs,acc⟩,rfl,rfl,rfl,rfl,h1,h2,fun i o hh=>by simp at hh⟩
 | cons o l ih=>
  intro j bs acc f f' A A' h;rw [kO] at h;obtain⟨g,B,f1,hs,hp,hl,hf,hlo,hc,he⟩:=jy (by rw [h]; exact fun hh=>by cases hh);rw [he] at h;obtain⟨X,e1,e2,e3,e4,e5,e6,e7⟩:=ih _ _ _ _ _ _ _ h;obtain⟨Y,hYj,hY⟩ : ∃Y:Nat→EI,Y j=⟨f,A,g,B,bs,acc⟩∧∀i,Y (j + 1 + i)=X (j + 1 + i):=
   ⟨fun n=>if n=j then ⟨f,A,g,B,bs,acc⟩ else X n,if_pos rfl,fun i=>if_neg (by omega)⟩
  refine⟨Y,by rw [hYj],by rw [hYj],by rw [hYj],by rw [hYj],?_,?_,fun i o' hi=>?_⟩
  ·rw [List.length_cons,show j + (l.length + 1)=j + 1 + l.length by omega,hY]; exact e5
  ·rw [List.length_cons,show j + (l.length + 1)=j + 1 + l.length by omega,hY]; exact e6
  ·cases i with
   | zero=>
    simp at hi;subst hi;have h0:Y (j + 1)=X (j + 1):=hY 0;refine⟨.inl ?_,?_,?_,hl,hf,hlo,?_,?_,?_⟩<;>simp only [Nat.add_zero,hYj,h0,e1,e2,e3,e4]<;>assumption
   | succ i=>
    have hg:=e7 i o' (by simpa using hi);have h0:=hY i;have h1:=hY (i + 1);rw [show j + (i + 1)=j + 1 + i by omega];obtain⟨a1,a2,a3,a4,a5,a9,a6,a7,a8⟩:=hg;rw [show j + 1 + (i + 1)=j + 1 + i + 1 by omega] at h1;refine⟨?_,?_,?_,a4,a5,a9,?_,?_,?_⟩<;>simp only [h0,h1]<;>assumption
end
section
variable {P:Program}{call:cV}
theorem xM {x:Option Fr}{s A':AS}{f':Fr} (h:jB x s=.on f' A'):s=A':=(iF h).2
theorem oH (ops:List Oper) (o:Oper) (l:List Oper) (f:Fr) (A:AS) (u:Option Value):ow P call ops (o :: l) f A u=JL P call ops o f A u (ow P call ops l):=rfl
theorem ky (hO:fm P) (hM:cM call) {ops:List Oper} : ∀(l:List Oper) {f:Fr}{A:AS}{u:Option Value}{q:Dd},ow P call ops l f A u=some q→A.next≤q.s.next:=by
 intro l
 induction l with
 | nil=>
  intro f A u q h;have h':some (⟨f,A,u⟩ : Dd)=some q:=h;injection h' with h';rw [← h'];exact Nat.le_refl _
 | cons o l ih=>
  intro f A u q h;rw [oH] at h;unfold JL at h;split at h
  ·rename_i s hev;have h1:=hO _ _ _ _ _ hev;split at h
   ·unfold Qi at h;split at h
    ·rename_i g s' hon;have:=xM hon;subst this;have:=ih h;omega
    ·cases h
   ·cases h
  ·unfold Qi at h;split at h
   ·rename_i g s' hst;have h1:=km hO hM (v:=undef) (.inl hst);have:=ih h;omega
   ·cases h
theorem v4 (hO:fm P) (hM:cM call) (hD:jX P call):mQ P call:=by
 intro d A u A' u' h;unfold f8 at h;split at h
 ·split at h
  ·obtain⟨_,h⟩:=aC h;unfold wx at h;split at h
   ·split at h
    ·rename_i g s v hr;have h1:=ky hO hM _ hr;unfold O1 at h;split at h
     ·rename_i f0 s0 he;have h2:=eL hO hM hD _ _ _ _ _ _ he;split at h
      ·injection h with h;injection h with h3 _;subst h3;exact Nat.le_trans h1 h2
      ·cases h
     ·rename_i f0 s0 he;have h2:=eL hO hM hD _ _ _ _ _ _ he;split at h
      ·injection h with h;injection h with h3 _;subst h3;exact Nat.le_trans h1 h2
      ·cases h
     ·cases h
    ·cases h
   ·cases h
  ·cases h
 ·cases h
end
section
variable {P:Program}{call:cV}{ops:Array Oper}{X:Nat→EI}
theorem bZ (s:AS):bY s=⟨s.heap,s.next,s.mem,s.fz,0,0⟩:=by cases s; rfl
theorem fL (s s':AS):g8 s s'=⟨s'.heap,s'.next,s'.mem,s'.fz,s'.r ||| s.r,s'.w ||| s.w⟩:=by
 cases s'; unfold g8; simp only [bp]; rfl
theorem I6 {A B:AS} (h:bE A) (h1:B.heap=A.heap) (h2:B.next=A.next) (h3:B.mem=A.mem) (h4:B.fz=A.fz):bE B:=by
 obtain⟨hp,n,m,z,r,w⟩:=A;obtain⟨hp',n',m',z',r',w'⟩:=B;simp only at h1 h2 h3 h4;subst h1; subst h2; subst h3; subst h4;exact⟨h.lt,h.mem,h.memc,h.root,h.ml,h.old,h.fz⟩
theorem qa {A:AS} (h:bE A):bE (bY A):=by rw [bZ]; exact I6 h rfl rfl rfl rfl
theorem wG {A B:AS} (h:kW (bY A) B):kW A (g8 A B):=by
 rw [bZ] at h;rw [fL];refine⟨h.next,fun c hc=>?_,fun c hc=>?_,fun b o hb hw=>?_,fun b o hb hw=>?_,fun c hc=>?_,fun c hc=>?_,fun c hc=>?_,fun c hc=>?_,I6 h.inv rfl rfl rfl rfl⟩
 ·show (B.r ||| A.r).testBit c=true; rw [Nat.testBit_or,hc,Bool.or_true]
 ·show (B.w ||| A.w).testBit c=true; rw [Nat.testBit_or,hc,Bool.or_true]
 ·have hw':(B.w ||| A.w).testBit _=false:=hw;rw [Nat.testBit_or,Bool.or_eq_false_iff] at hw';exact h.old b o hb hw'.1
 ·have hw':(B.w ||| A.w).testBit _=false:=hw;rw [Nat.testBit_or,Bool.or_eq_false_iff] at hw';exact h.new b o hb hw'.1
 ·have hw':(B.w ||| A.w).testBit _=false:=hc;rw [Nat.testBit_or,Bool.or_eq_false_iff] at hw';exact h.fz c hw'.1
 ·have hw':(B.w ||| A.w).testBit _=false:=hc;rw [Nat.testBit_or,Bool.or_eq_false_iff] at hw';exact h.mem c hw'.1
 ·have hw':(B.r ||| A.r).testBit _=true:=hc;rw [Nat.testBit_or,Bool.or_eq_true] at hw';rcases hw' with hw' | hw'
  ·rcases h.rb c hw' with h1 | h1
   ·simp at h1
   ·exact .inr h1
  ·exact .inl hw'
 ·have hw':(B.w ||| A.w).testBit _=true:=hc;rw [Nat.testBit_or,Bool.or_eq_true] at hw';rcases hw' with hw' | hw'
  ·rcases h.wb c hw' with h1 | h1
   ·simp at h1
   ·exact .inr h1
  ·exact .inl hw'
theorem kT {l:List Tmp}{t:Nat} (h:t∈l):(bj l).testBit t=true:=by
 induction l with
 | nil=>cases h
 | cons x l ih=>
  show (Nat.lor (bj l) (1 <<< x)).testBit t=true;have e:Nat.lor (bj l) (1 <<< x)=bj l ||| (1 <<< x):=rfl
  rw [e,cg];rcases List.mem_cons.1 h with rfl | h
  ·simp
  ·rw [ih h]; rfl
theorem me {n c l x:Nat} (h:c.testBit x=true):(dC n c l).testBit (n + x)=true:=by
 show ((c <<< n) ||| l).testBit (n + x)=true;rw [Nat.testBit_or,Nat.testBit_shiftLeft];simp [h]
theorem kh {n c l x:Nat} (h:l.testBit x=true):(dC n c l).testBit x=true:=by
 show ((c <<< n) ||| l).testBit x=true;rw [Nat.testBit_or,h,Bool.or_true]
theorem G4 {a b x:Nat} (ha:a.testBit x=true) (hb:b.testBit x=true):Nat.beq (Nat.land a b) 0=false:=by
 have e:Nat.land a b=a &&& b:=rfl;cases hz:Nat.beq (Nat.land a b) 0 with
 | false=>rfl
 | true=>
  have h0:=Nat.eq_of_beq_eq_true hz;rw [e] at h0;have:(a &&& b).testBit x=true:=by rw [Nat.testBit_and,ha,hb]; rfl
  rw [h0] at this;simp at this
theorem I5 {r w r' w' x:Nat} (h:(w.testBit x=true∧(r'.testBit x=true∨w'.testBit x=true))∨(w'.testBit x=true∧r.testBit x=true)):tC r w r' w'=false:=by
 unfold tC;rcases h with ⟨h1,h2⟩ | ⟨h1,h2⟩
 ·rw [G4 (x:=x) h1 (by show (r' ||| w').testBit x=true; rw [Nat.testBit_or]; rcases h2 with h2 | h2<;>simp [h2])]; rfl
 ·rw [G4 h1 h2,Bool.and_false]
theorem mM {bs:Tr Nat}{l:List Edge}{i:Nat} (h:(du bs l).testBit i=true):∃e∈l,Region.binds .any e=true∧(i=e.on∨((bs.get e.on).getD 0).testBit i=true):=by
 induction l with
 | nil=>exact absurd h (by show (Nat.testBit 0 i)≠true; simp)
 | cons e l ih=>
  have h':(Bool.rec (du bs l) (Nat.lor (du bs l) (Nat.lor (Nat.shiftLeft 1 e.on) ((bs.get e.on).getD 0))) (Region.binds .any e):Nat).testBit i=true:=h;cases hb:Region.binds .any e with
  | false=>
   rw [hb] at h';obtain⟨e',h1,h2⟩:=ih h';exact⟨e',List.mem_cons_of_mem _ h1,h2⟩
  | true=>
   rw [hb] at h';have h'':(du bs l ||| ((1 <<< e.on) ||| ((bs.get e.on).getD 0))).testBit i=true:=h';rw [Nat.testBit_or,Nat.testBit_or,Bool.or_eq_true,Bool.or_eq_true] at h'';rcases h'' with h1 | h1 | h1
   ·obtain⟨e',h1,h2⟩:=ih h1;exact⟨e',List.mem_cons_of_mem _ h1,h2⟩
   ·rw [Nat.one_shiftLeft,Nat.testBit_two_pow] at h1;exact⟨e,List.mem_cons_self,hb,.inl (by simpa using (of_decide_eq_true h1).symm)⟩
   ·exact⟨e,List.mem_cons_self,hb,.inr h1⟩
structure mT (P:Program) (call:cV) (ops:Array Oper) (X:Nat→EI):Prop where
 bs:(X 0).bs=.nil
 acc:(X 0).acc=[]
 good:∀i o,ops[i]?=some o→Px P call ops X i o
theorem j6 {i:Nat} (h:i < ops.size):∃o,ops[i]?=some o:=⟨ops[i],by simp [h]⟩
theorem jO {i:Nat}{o:Oper} (h:ops[i]?=some o):i < ops.size:=(Array.getElem?_eq_some_iff.1 h).1
theorem mT.bsAt (W:mT P call ops X):∀j,j≤ops.size→∀m,((X j).bs.get m).isSome=true→∃o,ops[m]?=some o∧m < j∧(X j).bs.get m=some (du (X m).bs o.after.toList):=by
 intro j
 induction j with
 | zero=>intro _ m h; rw [W.bs] at h; simp [Tr.get_nil] at h
 | succ j ih=>
  intro hj m h;obtain⟨o,ho⟩:=j6 (ops:=ops) (show j < ops.size by omega);have g:=W.good j o ho;have hf:ir j:=trivial;rw [g.bs,Tr.get_set _ _ _ _ hf] at h ⊢;split at h
  ·rename_i he; subst he; rw [if_pos rfl]; exact⟨o,ho,by omega,rfl⟩
  ·rename_i he;rw [if_neg he];obtain⟨o',h1,h2,h3⟩:=ih (by omega) m h;exact⟨o',h1,by omega,h3⟩
def iK (ops:Array Oper) (L:Nat→Prop):Prop:=∀j o,ops[j]?=some o→L j→∀e∈o.after,Region.binds .any e=true→L e.on
theorem mT.before (W:mT P call ops X) {L:Nat→Prop} (hL:iK ops L):∀j o,ops[j]?=some o→L j→∀i,(du (X j).bs o.after.toList).testBit i=true→L i:=by
 intro j
 induction j using Nat.strongRecOn with
 | _ j ih=>
  intro o ho hj i hi;obtain⟨e,h1,h2,h3⟩:=mM hi;have he:=hL j o ho hj e (by simpa using h1) h2;rcases h3 with rfl | h3
  ·exact he
  ·cases hg:(X j).bs.get e.on with
   | none=>rw [hg] at h3; simp at h3
   | some b=>
    obtain⟨o',k1,k2,k3⟩:=W.bsAt j (Nat.le_of_lt (jO ho)) e.on (by rw [hg]; rfl);rw [k3] at h3;exact ih e.on k2 o' k1 he i h3
theorem mT.accAt (W:mT P call ops X):∀j,j≤ops.size→∀i o,i < j→ops[i]?=some o→(⟨i,dC (X (i + 1)).f.n (X i).B.r (bj (o.looksAt ops)),dC (X (i + 1)).f.n (X i).B.w (bj o.dst.toList)⟩ : Fp)∈(X j).acc:=by
 intro j
 induction j with
 | zero=>intro _ i o h; omega
 | succ j ih=>
  intro hj i o hi ho;obtain⟨o',ho'⟩:=j6 (ops:=ops) (show j < ops.size by omega);rw [(W.good j o' ho').acc];by_cases he:i=j
  ·subst he;rw [ho] at ho'; injection ho' with ho'; subst ho';exact List.mem_cons_self
  ·exact List.mem_cons_of_mem _ (ih (by omega) i o (by omega) ho)
theorem uQ {f f' g:Fr}{d:Option Tmp} (h:gU f d g=some f'):f'.n=f.n∧f'.defers=f.defers∧g.defers=[]:=by
 unfold gU at h;split at h
 ·rename_i hg;refine⟨?_,?_,hg⟩
  ·rcases vX h with ⟨_,rfl⟩ | ⟨t,_,_,rfl⟩<;>rfl
  ·rcases vX h with ⟨_,rfl⟩ | ⟨t,_,_,rfl⟩<;>rfl
 ·cases h
theorem sK {f f' g:Fr}{d:Option Tmp} (hf:f.n≤1000000) (h:gU f d g=some f') (t:Nat):(d=some t→t < f.n∧f'.tmps.get t=some ((g.tmps.get t).getD undef))∧(d≠some t→f'.tmps.get t=f.tmps.get t):=by
 unfold gU at h;split at h
 ·rcases vX h with ⟨rfl,rfl⟩ | ⟨t',rfl,hlt,rfl⟩
  ·exact⟨fun h=>absurd h (by simp),fun _=>rfl⟩
  ·have hfit:ir t':=trivial;refine⟨fun h=>?_,fun h=>?_⟩
   ·injection h with h; subst h;refine⟨hlt,?_⟩;show (Tr.set _ 40 f.tmps t').get t'=_;rw [Tr.get_set _ _ _ _ hfit,if_pos rfl]
   ·show (Tr.set _ 40 f.tmps t').get t=_;rw [Tr.get_set _ _ _ _ hfit,if_neg (fun e=>h (by rw [e]))]
 ·cases h
theorem mT.n (W:mT P call ops X):∀j,j≤ops.size→(X j).f.n=(X 0).f.n∧(X j).f.defers=(X 0).f.defers:=by
 intro j
 induction j with
 | zero=>intro _; exact⟨rfl,rfl⟩
 | succ j ih=>
  intro hj;obtain⟨o,ho⟩:=j6 (ops:=ops) (show j < ops.size by omega);obtain⟨h1,h2,_⟩:=uQ (W.good j o ho).put;obtain⟨k1,k2⟩:=ih (by omega);exact⟨h1.trans k1,h2.trans k2⟩
theorem mT.clash (W:mT P call ops X) {i j:Nat}{o o':Oper} (hij:i < j) (ho:ops[i]?=some o) (ho':ops[j]?=some o') {x:Nat}
  (h:((dC (X (i + 1)).f.n (X i).B.w (bj o.dst.toList)).testBit x=true∧((dC (X (j + 1)).f.n (X j).B.r (bj (o'.looksAt ops))).testBit x=true∨(dC (X (j + 1)).f.n (X j).B.w (bj o'.dst.toList)).testBit x=true))∨
   ((dC (X (j + 1)).f.n (X j).B.w (bj o'.dst.toList)).testBit x=true∧(dC (X (i + 1)).f.n (X i).B.r (bj (o.looksAt ops))).testBit x=true)) :
  (du (X j).bs o'.after.toList).testBit i=true:=by
 have hc:=(W.good j o' ho').clear;unfold kE at hc;rw [List.all_eq_true] at hc;have:=hc _ (W.accAt j (Nat.le_of_lt (jO ho')) i o hij ho);rw [I5 h,Bool.false_or] at this;exact this
theorem mT.cls (W:mT P call ops X) {L:Nat→Prop} (hL:iK ops L) {i j:Nat} (hij:i < j) (hj:j < ops.size) (hLj:L j) {c:Nat}
  (h:((X i).B.w.testBit c=true∧((X j).B.r.testBit c=true∨(X j).B.w.testBit c=true))∨((X j).B.w.testBit c=true∧(X i).B.r.testBit c=true)):L i:=by
 obtain⟨o,ho⟩:=j6 (ops:=ops) (show i < ops.size by omega);obtain⟨o',ho'⟩:=j6 hj;have hn:(X (j + 1)).f.n=(X (i + 1)).f.n:=(W.n (j + 1) (by omega)).1.trans (W.n (i + 1) (by omega)).1.symm;refine W.before hL j o' ho' hLj i (W.clash hij ho ho' (x:=(X (i + 1)).f.n + c) ?_);rw [hn];rcases h with ⟨h1,h2⟩ | ⟨h1,h2⟩
 ·exact .inl ⟨me h1,h2.imp me me⟩
 ·exact .inr ⟨me h1,me h2⟩
theorem mT.slot (W:mT P call ops X) {L:Nat→Prop} (hL:iK ops L) {i j:Nat}{o o':Oper} (hij:i < j) (ho:ops[i]?=some o) (ho':ops[j]?=some o') (hLj:L j) {t:Nat}
  (h:(o.dst=some t∧(t∈o'.looksAt ops∨o'.dst=some t))∨(o'.dst=some t∧t∈o.looksAt ops)):L i:=by
 have hd:∀{o:Oper},o.dst=some t→(bj o.dst.toList).testBit t=true:=fun h=>kT (by rw [h]; simp);refine W.before hL j o' ho' hLj i (W.clash hij ho ho' (x:=t) ?_);rcases h with ⟨h1,h2⟩ | ⟨h1,h2⟩
 ·exact .inl ⟨kh (hd h1),h2.imp (fun h=>kh (kT h)) (fun h=>kh (hd h))⟩
 ·exact .inr ⟨kh (hd h1),kh (kT h2)⟩
end
section
variable {P:Program}{call:cV}{ops:Array Oper}{X:Nat→EI}
structure iZ (P:Program) (ops:Array Oper) (X:Nat→EI):Prop where
 fr:∀i,i < ops.size→kW (bY (X i).s) (X i).B
 on:∀i o,ops[i]?=some o→jJ P ops o (fk (o.looksAt ops) (X i).f) (bY (X i).s) (X i).g (X i).B
theorem iZ.fr' (W:mT P call ops X) (H:iZ P ops X) {i:Nat} (hi:i < ops.size):kW (X i).s (X (i + 1)).s:=by
 obtain⟨o,ho⟩:=j6 hi;rw [(W.good i o ho).s];exact wG (H.fr i hi)
theorem iZ.le (W:mT P call ops X) (H:iZ P ops X) {i:Nat} : ∀{j:Nat},i≤j→j≤ops.size→(X i).s.next≤(X j).s.next:=by
 intro j
 induction j with
 | zero=>intro hij _; rw [show i=0 by omega]; exact Nat.le_refl _
 | succ j ih=>
  intro hij hj;by_cases he:i=j + 1
  ·rw [he]; exact Nat.le_refl _
  ·exact Nat.le_trans (ih (by omega) (by omega)) (H.fr' W (show j < ops.size by omega)).next
theorem iZ.heap (W:mT P call ops X) {i:Nat} (hi:i < ops.size):(X (i + 1)).s.heap=(X i).B.heap∧(X (i + 1)).s.fz=(X i).B.fz∧(X (i + 1)).s.next=(X i).B.next∧(X (i + 1)).s.w=(X i).B.w ||| (X i).s.w∧(X (i + 1)).s.r=(X i).B.r ||| (X i).s.r:=by
 obtain⟨o,ho⟩:=j6 hi;rw [(W.good i o ho).s,fL];exact⟨rfl,rfl,rfl,rfl,rfl⟩
theorem iZ.agree (W:mT P call ops X) (H:iZ P ops X) {c i:Nat} : ∀{k:Nat},i≤k→k≤ops.size→(∀m,i≤m→m < k→(X m).B.w.testBit c=false)→(X k).s.fz.get c=(X i).s.fz.get c∧∀b o,(X k).s.heap.get b=some o→cm b o=c→(X i).s.heap.get b=some o:=by
 intro k
 induction k with
 | zero=>intro hik _ _; rw [show i=0 by omega]; exact⟨rfl,fun _ _ h _=>h⟩
 | succ k ih=>
  intro hik hk hw;by_cases he:i=k + 1
  ·rw [he]; exact⟨rfl,fun _ _ h _=>h⟩
  ·obtain⟨h1,h2⟩:=ih (by omega) (by omega) fun m a b=>hw m a (by omega);have hf:=H.fr k (by omega);obtain⟨e1,e2,e3,_⟩:=iZ.heap W (show k < ops.size by omega);rw [bZ] at hf;have hwk:=hw k (by omega) (by omega);refine⟨by rw [e2,hf.fz c hwk]; exact h1,fun b o hb hc=>h2 b o ?_ hc⟩;rw [e1] at hb;exact hf.new b o hb (by rw [hc]; exact hwk)
theorem iZ.bits (W:mT P call ops X) {i:Nat} (_hi:i < ops.size) {c:Nat} : ∀{k:Nat},i < k→k≤ops.size→((X i).B.w.testBit c=true→(X k).s.w.testBit c=true)∧((X i).B.r.testBit c=true→(X k).s.r.testBit c=true):=by
 intro k
 induction k with
 | zero=>intro h; omega
 | succ k ih=>
  intro hik hk;obtain⟨_,_,_,e4,e5⟩:=iZ.heap W (show k < ops.size by omega);rw [e4,e5];by_cases he:i=k
  ·subst he;exact⟨fun h=>by rw [Nat.testBit_or,h]; rfl,fun h=>by rw [Nat.testBit_or,h]; rfl⟩
  ·obtain⟨h1,h2⟩:=ih (by omega) (by omega);exact⟨fun h=>by rw [Nat.testBit_or,h1 h,Bool.or_true],fun h=>by rw [Nat.testBit_or,h2 h,Bool.or_true]⟩
def LS (ops:Array Oper) (i t:Nat):Prop:=∃o,ops[i]?=some o∧o.dst=some t
theorem mT.slotAt (W:mT P call ops X) (hn:(X 0).f.n≤1000000) {t i:Nat} : ∀{k:Nat},i≤k→k≤ops.size→(∀m,i≤m→m < k→¬ LS ops m t)→(X k).f.tmps.get t=(X i).f.tmps.get t:=by
 intro k
 induction k with
 | zero=>intro hik _ _; rw [show i=0 by omega]
 | succ k ih=>
  intro hik hk hw;by_cases he:i=k + 1
  ·rw [he]
  ·obtain⟨o,ho⟩:=j6 (ops:=ops) (show k < ops.size by omega);have h1:=ih (by omega) (by omega) fun m a b=>hw m a (by omega);have h2:=(sK (by rw [(W.n k (by omega)).1]; exact hn) (W.good k o ho).put t).2 (fun hd=>hw k (by omega) (by omega) ⟨o,ho,hd⟩);rw [h2]; exact h1
structure DO (P:Program) (ops:Array Oper) (X:Nat→EI) (φ₀:cK) (T:Nat→Prop) (w₀:World) (L:Nat→Prop) (φ:cK) (a:Act) (w:World):Prop where
 ext:El φ₀ φ
 out:∀b,φ b=φ₀ b∨∃i,i < ops.size∧L i∧(X i).s.next≤b∧b < (X (i + 1)).s.next
 blk:∀b i,φ b=some i→i.blk < w.heap.size
 inj:∀b₁ b₂ i₁ i₂,φ b₁=some i₁→φ b₂=some i₂→i₁.blk=i₂.blk→i₁.cls=i₂.cls∧i₁.sh + i₂.st=i₂.sh + i₁.st
 al:∀b i,φ b=some i→True
 glob:H8 P φ
 root:∀b i,φ b=some i→i.cls=b→i.sh=0
 obj:∀c,(T c∨(X 0).s.next≤c)→∀k,k≤ops.size→(∀i,i < k→(X i).B.w.testBit c=true→L i)→(∀i,k≤i→i < ops.size→(X i).B.w.testBit c=true→¬ L i)→
  ∀b o,(X k).s.heap.get b=some o→O5 o=true→cm b o=c→∃i o',φ b=some i∧w.heap[i.blk]?=some o'∧mU P φ ((X k).s.fz.get c) b i o o'
 img:∀b i,φ b=some i→i.blk < w₀.heap.size→∃b₀ i₀,φ₀ b₀=some i₀∧i₀.blk=i.blk∧i₀.cls=i.cls
 size:w₀.heap.size≤w.heap.size
 same:∀k,k < w₀.heap.size→(∀b i,φ₀ b=some i→i.blk=k→(X ops.size).s.w.testBit i.cls=false)→w.heap[k]?=w₀.heap[k]?
 os:w.os=w₀.os
 tape:w.tape=w₀.tape
 output:w.output=w₀.output
 sz:a.tmps.size=(X 0).f.n
 tmps:∀t k,k≤ops.size→(∀i,i < k→LS ops i t→L i)→(∀i,k≤i→i < ops.size→LS ops i t→¬ L i)→dE φ (((X k).f.tmps.get t).getD undef) (a.tmps.getD t undef)
 defers:oM φ (X 0).f.defers a.defers
theorem DO.start (W:mT P call ops X) (H:iZ P ops X) (hI:bE (X 0).s) {φ:cK}{T:Nat→Prop}{w:World}{a:Act}{k:Nat} (hf:dm φ (X 0).f a) (hr:gz P φ T (X 0).s w) :
  DO P ops X φ T w (fun _=>False) φ a { w with drawn:=k } where
 ext:=fun _ _ h=>h
 out:=fun _=>.inl rfl
 blk:=hr.blk
 inj:=hr.inj
 al:=hr.al
 glob:=hr.glob
 root:=hr.root
 obj:=fun c hc k hk h1 _ b o hb hl hcl=>by
  have hz:∀m,0≤m→m < k→(X m).B.w.testBit c=false:=fun m _ hm=>by
   cases hh:(X m).B.w.testBit c with
   | false=>rfl
   | true=>exact absurd hh (fun hh=>h1 m hm hh)
  obtain⟨e1,e2⟩:=H.agree W (Nat.zero_le k) hk hz;have hb0:=e2 b o hb hcl;have hlt:=(hI.lt _ _ hb0).2;obtain⟨i,o',g1,g2,g3⟩:=hr.obj b o hb0 hl (by rw [hcl]; exact hc.resolve_right (by omega));exact⟨i,o',g1,g2,by rw [e1]; rw [hcl] at g3; exact g3⟩
 img:=fun b i hb _=>⟨b,i,hb,rfl,rfl⟩
 size:=Nat.le_refl _
 same:=fun _ _ _=>rfl
 os:=rfl
 tape:=rfl
 output:=rfl
 sz:=hf.size
 tmps:=fun t k hk h1 _=>by
  rw [W.slotAt hf.few (Nat.zero_le k) hk fun m _ hm hd=>h1 m hm hd];exact hf.tmps t
 defers:=hf.defers
theorem DO.finish (W:mT P call ops X) (H:iZ P ops X) {φ₀ φ:cK}{T:Nat→Prop}{w₀ w:World}{a:Act}{L:Nat→Prop} (hn:(X 0).f.n≤1000000) (hL:∀i,i < ops.size→L i) (h:DO P ops X φ₀ T w₀ L φ a w) :
  bG P φ₀ T (X 0).s (X ops.size).s w₀ w φ∧dm φ (X ops.size).f a:=by
 refine⟨⟨h.ext,fun b hb=>?_,⟨h.blk,h.inj,fun b o hb hl hT=>?_,h.al,h.glob,h.root⟩,h.img,h.size,h.same,h.os,h.tape,h.output⟩,?_,?_,?_,?_⟩
 ·rcases h.out b with h1 | ⟨i,h1,_,h3,h4⟩
  ·exact h1
  ·have:=H.le W (Nat.zero_le i) (Nat.le_of_lt h1);have:=H.le W (show i + 1≤ops.size by omega) (Nat.le_refl _);omega
 ·exact h.obj _ (hT.imp id fun hh=>hh.1) ops.size (Nat.le_refl _) (fun i hi _=>hL i hi) (fun i h1 h2=>by omega) b o hb hl rfl
 ·rw [(W.n ops.size (Nat.le_refl _)).1]; exact h.sz
 ·rw [(W.n ops.size (Nat.le_refl _)).1]; exact hn
 ·intro t; exact h.tmps t ops.size (Nat.le_refl _) (fun i hi _=>hL i hi) (fun i h1 h2=>by omega)
 ·rw [(W.n ops.size (Nat.le_refl _)).2]; exact h.defers
end
section
variable {P:Program}{call:cV}{ops:Array Oper}{X:Nat→EI}
def dL (l:List Tmp) (a:Act):Act:=⟨Array.ofFn (n:=a.tmps.size) fun i=>if i.val∈l then a.tmps.getD i.val undef else undef,[]⟩
theorem mh (l:List Tmp) (a:Act) (t:Nat):(dL l a).tmps.getD t undef=if t∈l then a.tmps.getD t undef else undef:=by
 unfold dL;by_cases h:t < a.tmps.size
 ·rw [Array.getD_eq_getD_getElem?,Array.getElem?_ofFn,dif_pos h]; rfl
 ·have h2:a.tmps.getD t undef=undef:=by rw [Array.getD_eq_getD_getElem?,Array.getElem?_eq_none (Nat.le_of_not_lt h)]; rfl
  rw [Array.getD_eq_getD_getElem?,Array.getElem?_ofFn,dif_neg h,h2];simp
theorem ku (l:List Tmp) (a:Act):(dL l a).tmps.size=a.tmps.size:=by unfold dL; simp
theorem uZ (t:Tr Value) (l:List Tmp) (hl:∀x∈l,ir x∨t.get x=none) (x:Nat):(l8 t l).get x=if x∈l then t.get x else none:=by
 induction l with
 | nil=>show (Tr.nil:Tr Value).get x=_; rw [Tr.get_nil]; simp
 | cons y l ih=>
  have ih':=ih fun x hx=>hl x (List.mem_cons_of_mem _ hx);show (Option.rec (l8 t l) (fun v=>cG (l8 t l) fun ih=>Tr.set v 40 ih y) (t.get y):Tr Value).get x=_;cases hg:t.get y with
  | none=>
   show (l8 t l).get x=_;rw [ih'];by_cases hx:x=y
   ·subst hx; rw [hg]; simp
   ·simp [hx]
  | some v=>
   show (cG (l8 t l) fun ih=>Tr.set v 40 ih y).get x=_;have hf:ir y:=(hl y List.mem_cons_self).resolve_right (by rw [hg]; simp);rw [bX,Tr.get_set _ _ _ _ hf,ih'];by_cases hx:x=y
   ·subst hx; rw [if_pos rfl,hg]; simp
   ·rw [if_neg hx]; simp [hx]
theorem E8 (l:List Tmp) (f:Fr):fk l f=⟨l8 f.tmps l,f.n,[]⟩:=by cases f; unfold fk; simp only [bX]
theorem GY {φ:cK}{f:Fr}{a:Act}{l:List Tmp} (hs:a.tmps.size=f.n) (hn:f.n≤1000000) (hfit:∀x∈l,ir x∨f.tmps.get x=none) (h:∀t∈l,dE φ ((f.tmps.get t).getD undef) (a.tmps.getD t undef)):dm φ (fk l f) (dL l a):=by
 rw [E8];refine⟨by rw [ku]; exact hs,hn,fun t=>?_,.nil⟩;show dE φ (((l8 f.tmps l).get t).getD undef) _;rw [uZ _ _ hfit,mh];by_cases ht:t∈l
 ·rw [if_pos ht,if_pos ht]; exact h t ht
 ·rw [if_neg ht,if_neg ht]; exact fM φ
theorem Dw {o:Oper}{a:Act}{x:Operand} (hx:x∈o.op.operands):(dL (o.looksAt ops) a).eval x=a.eval x:=by
 cases x with
 | tmp t=>
  show (dL (o.looksAt ops) a).tmps.getD t undef=a.tmps.getD t undef;have hm:t∈o.looksAt ops:=List.mem_append_left _ (List.mem_filterMap.2 ⟨Operand.tmp t,by simpa using hx,rfl⟩);rw [mh,if_pos hm]
 | const v=>rfl
 | global g=>rfl
 | func g=>rfl
theorem Aj {o:Oper}{a:Act}{j:Nat}{b:Bool} (hg:o.guard=some (j,b)):yielded ops (dL (o.looksAt ops) a).tmps j=yielded ops a.tmps j:=by
 unfold yielded;cases ht:(ops[j]?).bind (·.dst) with
 | none=>rfl
 | some t=>
  have hm:t∈o.looksAt ops:=List.mem_append_right _ (by rw [hg]; simp [ht]);rw [Option.bind_some,Option.bind_some];have h1:=mh (o.looksAt ops) a t;rw [if_pos hm] at h1;have h2:=ku (o.looksAt ops) a;have h3:(dL (o.looksAt ops) a).tmps[t]?=a.tmps[t]?:=by
   by_cases hlt:t < a.tmps.size
   ·have hlt':t < (dL (o.looksAt ops) a).tmps.size:=by rw [h2]; exact hlt
    rw [Array.getD_eq_getD_getElem?,Array.getD_eq_getD_getElem?,Array.getElem?_eq_getElem hlt,Array.getElem?_eq_getElem hlt'] at h1;rw [Array.getElem?_eq_getElem hlt,Array.getElem?_eq_getElem hlt'];exact congrArg some h1
   ·rw [Array.getElem?_eq_none (Nat.le_of_not_lt hlt),Array.getElem?_eq_none (by rw [h2]; exact Nat.le_of_not_lt hlt)]
  rw [h3]
theorem qz (o:Oper) (a:Act):Region.wanted o (yielded ops (dL (o.looksAt ops) a).tmps)=Region.wanted o (yielded ops a.tmps):=by
 unfold Region.wanted;cases hg:o.guard with
 | none=>rfl
 | some p=>obtain⟨j,b⟩:=p; simp only [Aj hg]
theorem ze {f g:Fr}{o:Oper}{A B:AS}{l:List Oper} (h:fp P call l f o A=.on g B):fV l f o.guard=some false∨∀cs b,o.op≠.select cs b:=by
 unfold fp at h;split at h
 ·refine .inr fun cs b he=>?_;have hn:aU P f o A=none:=by unfold aU; rw [he]
  rw [hn] at h;cases h
 ·rename_i hw; exact .inl hw
 ·cases h
theorem DU {o:Oper}{a:Act}{w:World}{K K':Act→World→Prop}{Q:Exit→Act→World→Prop} (hs:Region.wanted o (yielded ops a.tmps)=false∨∀cs b,o.op≠.select cs b)
  (hv:∀v w',K' ((dL (o.looksAt ops) a).put o.dst v) w'→K (a.put o.dst v) w')
  (hd:∀d w',¬ K' (({ dL (o.looksAt ops) a with defers:=[d] } : Act).put o.dst undef) w')
  (h:gQ P ops (fun _ _ _=>False) o K' (dL (o.looksAt ops) a) w):gQ P ops Q o K a w:=by
 unfold gQ at h ⊢;rw [qz] at h;split
 ·rename_i hw;rw [if_pos hw] at h;have hs':=hs.resolve_left (by rw [hw]; simp);have he:execOp a.eval o=execOp (dL (o.looksAt ops) a).eval o:=execOp_congr o hs' fun x hx=>(Dw hx).symm;unfold Oper.wp at h ⊢;rw [he];generalize (execOp (dL (o.looksAt ops) a).eval o).run P w=r at h ⊢;cases r with
  | ok n w'=>
   cases n<;>simp only [Oper.upon] at h ⊢
   case value v=>exact hv v w' h
   case skip=>exact hv undef w' h
   case defer d=>exact absurd h (hd d w')
   case enter g args=>
    refine Calls.mono h fun e w'' he=>?_;cases e with
    | returned v=>exact hv v w'' he
    | panicked c=>exact he.elim
    | outgrown=>obtain⟨_,_,he⟩:=he; exact he.elim
   case row row args=>exact Rows.mono h fun v w'' he=>hv v w'' he
  | halt x w'=>cases x<;>simp only [Oper.upon] at h ⊢
 ·rename_i hw;rw [if_neg hw] at h;exact hv undef w h
theorem Cl {a:Act}{d:Option Tmp}{v:Value} (t:Nat):(a.put d v).tmps.getD t undef=if d=some t∧t < a.tmps.size then v else a.tmps.getD t undef:=by
 cases d with
 | none=>simp [Act.put]
 | some x=>
  show (a.tmps.setIfInBounds x v).getD t undef=_;simp only [Array.getD_eq_getD_getElem?,Array.getElem?_setIfInBounds,Option.some.injEq];by_cases hx:x=t
  ·subst hx;by_cases hlt:x < a.tmps.size
   ·simp [hlt]
   ·simp [hlt]
  ·simp [hx]
theorem Fv {a:Act}{d:Option Tmp}{v:Value} : (a.put d v).tmps.size=a.tmps.size:=by cases d<;>simp [Act.put]
theorem CQ {a:Act}{d:Option Tmp}{v:Value} : (a.put d v).defers=a.defers:=by cases d<;>rfl
end
section
variable {P:Program}{call:cV}{ops:Array Oper}{X:Nat→EI}
theorem u4 {L:Nat→Prop} (hL:iK ops L) {i:Nat}{o:Oper} (ho:ops[i]?=some o) (hr:∀e∈o.after,Region.binds .any e=true→L e.on):iK ops fun j=>L j∨j=i:=by
 intro j o' ho' hj e he hb;rcases hj with hj | rfl
 ·exact .inl (hL j o' ho' hj e he hb)
 ·rw [ho] at ho'; injection ho' with ho'; subst ho'; exact .inl (hr e he hb)
theorem DO.step (W:mT P call ops X) (H:iZ P ops X) {φ₀ φ:cK}{T:Nat→Prop}{w₀ w:World}{a:Act}{L:Nat→Prop} (hn:(X 0).f.n≤1000000)
  (hT:fU (X 0).s (X ops.size).s T) (hfr:fu (X 0).s (X ops.size).s φ₀)
  (hL:iK ops L) {i:Nat}{o:Oper} (ho:ops[i]?=some o) (hLi:¬ L i) (hr:∀e∈o.after,Region.binds .any e=true→L e.on) (M:DO P ops X φ₀ T w₀ L φ a w)
  {K:Act→World→Prop}{Q:Exit→Act→World→Prop} (hK:∀φ' a' w',DO P ops X φ₀ T w₀ (fun j=>L j∨j=i) φ' a' w'→K a' w'):gQ P ops Q o K a w:=by
 have hi:=jO ho;have hL':=u4 hL ho hr;have g:=W.good i o ho;have hs:=H.on i o ho;have hni:(X i).f.n≤1000000:=by rw [(W.n i (Nat.le_of_lt hi)).1]; exact hn
 obtain⟨e1,e2,e3,_,_⟩:=iZ.heap W hi;have bef:∀{c j:Nat},j < i→((X i).B.r.testBit c=true∨(X i).B.w.testBit c=true)→(X j).B.w.testBit c=true→L j:=fun {c j} hj hc hw=>
  (W.cls hL' hj hi (.inr rfl) (.inl ⟨hw,hc⟩)).resolve_right (by omega)
 have beh:∀{c j:Nat},i < j→j < ops.size→((X i).B.r.testBit c=true∨(X i).B.w.testBit c=true)→(X j).B.w.testBit c=true→¬ L j:=fun {c j} hij hj hc hw hLj=>
  hLi (W.cls hL hij hj hLj (hc.elim (fun h=>.inr ⟨hw,h⟩) fun h=>.inl ⟨h,.inr hw⟩))
 have befS:∀{t j:Nat},j < i→(t∈o.looksAt ops∨o.dst=some t)→LS ops j t→L j:=fun {t j} hj ht hd=>by
  obtain⟨o',ho',hd⟩:=hd;exact (W.slot hL' hj ho' ho (.inr rfl) (.inl ⟨hd,ht⟩)).resolve_right (by omega)
 have behS:∀{t j:Nat},i < j→j < ops.size→(t∈o.looksAt ops∨o.dst=some t)→LS ops j t→¬ L j:=fun {t j} hij hj ht hd hLj=>by
  obtain⟨o',ho',hd⟩:=hd;exact hLi (W.slot hL hij ho ho' hLj (ht.elim (fun h=>.inr ⟨hd,h⟩) fun h=>.inl ⟨h,.inr hd⟩))
 have hrel:gz P φ (fun c=>((X i).B.r.testBit c=true∨(X i).B.w.testBit c=true)∧c < (X i).s.next) (bY (X i).s) w:=by
  refine⟨M.blk,M.inj,fun b x hb hl hc=>?_,M.al,M.glob,M.root⟩;rw [bZ] at hb ⊢;refine M.obj _ ?_ i (Nat.le_of_lt hi) (fun j hj hw=>bef hj hc.1 hw) (fun j hij hj hw=>?_) b x hb hl rfl
  ·by_cases h0:(X 0).s.next≤cm b x
   ·exact .inr h0
   ·have hbits:=iZ.bits W hi (c:=cm b x) hi (Nat.le_refl _);exact .inl (hT _ (by omega) (hc.1.imp hbits.2 hbits.1))
  ·by_cases he:j=i
   ·rw [he]; exact hLi
   ·exact beh (by omega) hj hc.1 hw
 have hfoot:fU (bY (X i).s) (X i).B (fun c=>((X i).B.r.testBit c=true∨(X i).B.w.testBit c=true)∧c < (X i).s.next):=by
  intro c hc hb;rw [dK] at hc;exact⟨hb,hc⟩
 have hfresh:fu (bY (X i).s) (X i).B φ:=by
  intro b h1 h2;rw [dK] at h1;rw [← e3] at h2;have l1:=H.le W (Nat.zero_le i) (Nat.le_of_lt hi);have l2:=H.le W (show i + 1≤ops.size by omega) (Nat.le_refl _);rcases M.out b with h | ⟨j,hj,hLj,h3,h4⟩
  ·rw [h]; exact hfr b (by omega) (by omega)
  ·exfalso;rcases Nat.lt_trichotomy i j with hij | hij | hij
   ·have:=H.le W (show i + 1≤j by omega) (by omega); omega
   ·rw [hij] at hLi; exact hLi hLj
   ·have:=H.le W (show j + 1≤i by omega) (by omega); omega
 have hframe:dm φ (fk (o.looksAt ops) (X i).f) (dL (o.looksAt ops) a):=by
  refine GY (by rw [M.sz,(W.n i (Nat.le_of_lt hi)).1]) hni (fun x hx=>.inl ?_) fun t ht=>M.tmps t i (Nat.le_of_lt hi) (fun j hj hd=>befS hj (.inl ht) hd) fun j hij hj hd=>?_
  ·trivial
  ·by_cases he:j=i
   ·rw [he]; exact hLi
   ·exact behS (by omega) hj (.inl ht) hd
 have hsel:Region.wanted o (yielded ops a.tmps)=false∨∀cs b,o.op≠.select cs b:=by
  rcases g.step.elim ze And.right with h | h
  ·left;rw [← qz];exact dJ hframe h
  ·exact .inr h
 have hgd:(X i).g.defers=[]:=(uQ g.put).2.2;refine DU (K':=fun a'' w''=>∃φ',bG P φ (fun c=>((X i).B.r.testBit c=true∨(X i).B.w.testBit c=true)∧c < (X i).s.next) (bY (X i).s) (X i).B w w'' φ'∧dm φ' (X i).g a'') hsel ?_ ?_
  (hs.run φ _ w _ hframe hrel hfoot hfresh _ _ fun φ' w' a' hp hf=>⟨φ',hp,hf⟩)
 ·rintro v w' ⟨φ',hp,hf⟩;refine hK φ' _ w' ⟨?_,?_,hp.rel.blk,hp.rel.inj,hp.rel.al,hp.rel.glob,hp.rel.root,?_,?_,?_,?_,?_,?_,?_,?_,?_,?_⟩
  ·exact fun b j hb=>hp.ext b j (M.ext b j hb)
  ·intro b;by_cases hb:b < (X i).s.next∨(X i).B.next≤b
   ·rw [hp.out b (by rw [dK]; exact hb)];rcases M.out b with h | ⟨j,h1,h2,h3⟩
    ·exact .inl h
    ·exact .inr ⟨j,h1,.inl h2,h3⟩
   ·exact .inr ⟨i,hi,.inr rfl,by omega,by rw [e3]; omega⟩
  ·intro c hc k hk h1 h2 b x hb hl hcl;by_cases hw:(X i).B.w.testBit c=true
   ·
    have hik:i < k:=by
     rcases Nat.lt_or_ge i k with h | h
     ·exact h
     ·exact absurd (.inr rfl) (h2 i h hi hw)
    have hz:∀m,i + 1≤m→m < k→(X m).B.w.testBit c=false:=fun m hm hmk=>by
     cases hh:(X m).B.w.testBit c with
     | false=>rfl
     | true=>exact absurd ((h1 m hmk hh).resolve_right (by omega)) (beh (by omega) (by omega) (.inr hw) hh)
    obtain⟨a1,a2⟩:=H.agree W (show i + 1≤k by omega) hk hz;have hb1:=a2 b x hb hcl;rw [e1] at hb1;rw [a1,e2];have hcn:c < (X i).B.next:=by
     rcases (H.fr i hi).wb c hw with h | h
     ·rw [bZ] at h; simp at h
     ·exact h
    have:=hp.rel.obj b x hb1 hl (by
     rw [hcl,dK];by_cases hlt:c < (X i).s.next
     ·exact .inl ⟨.inr hw,hlt⟩
     ·exact .inr ⟨by omega,hcn⟩)
    rw [hcl] at this;exact this
   ·have hw':(X i).B.w.testBit c=false:=by simpa using hw
    obtain⟨j,x',g1,g2,g3⟩:=M.obj c hc k hk (fun m hm hh=>(h1 m hm hh).resolve_right (fun he=>hw (he ▸ hh))) (fun m a1 a2 hh hl=>h2 m a1 a2 hh (.inl hl)) b x hb hl hcl;refine⟨j,x',hp.ext _ _ g1,?_,g3.mono hp.ext fun h hh=>⟨h,hh,Nat.le_refl _⟩⟩;rw [hp.same j.blk (M.blk _ _ g1) fun b' i' hb' he=>?_]
    ·exact g2
    ·rw [(M.inj _ _ _ _ hb' g1 he).1,g3.cls,hcl]; exact hw'
  ·intro b j hb hlt;obtain⟨b1,j1,g1,g2,g3⟩:=hp.img b j hb (Nat.lt_of_lt_of_le hlt M.size);obtain⟨b0,j0,k1,k2,k3⟩:=M.img b1 j1 g1 (by rw [g2]; exact hlt);exact⟨b0,j0,k1,k2.trans g2,k3.trans g3⟩
  ·exact Nat.le_trans M.size hp.size
  ·intro k hk hw;rw [hp.same k (Nat.lt_of_lt_of_le hk M.size) fun b j hb he=>?_]
   ·exact M.same k hk hw
   ·obtain⟨b0,j0,k1,k2,k3⟩:=M.img b j hb (by rw [he]; exact hk);have:=hw b0 j0 k1 (k2.trans he);rw [k3] at this;exact pK (iZ.bits W hi hi (Nat.le_refl _)).1 this
  ·exact hp.os.trans M.os
  ·exact hp.tape.trans M.tape
  ·exact hp.output.trans M.output
  ·rw [Fv]; exact M.sz
  ·intro t k hk h1 h2;rw [Cl];by_cases hd:o.dst=some t
   ·have hD:LS ops i t:=⟨o,ho,hd⟩
    have hik:i < k:=by
     rcases Nat.lt_or_ge i k with h | h
     ·exact h
     ·exact absurd (.inr rfl) (h2 i h hi hD)
    have hz:∀m,i + 1≤m→m < k→¬ LS ops m t:=fun m hm hmk hh=>
     behS (by omega) (by omega) (.inr hd) hh ((h1 m hmk hh).resolve_right (by omega))
    rw [W.slotAt hn (show i + 1≤k by omega) hk hz];obtain⟨hlt,hget⟩:=(sK hni g.put t).1 hd;rw [(W.n i (Nat.le_of_lt hi)).1] at hlt;rw [hget,if_pos ⟨hd,by rw [M.sz]; exact hlt⟩];have:=hf.tmps t;rw [Cl,if_pos ⟨hd,by rw [ku,M.sz]; exact hlt⟩] at this;exact this
   ·rw [if_neg (fun h=>hd h.1)];have hnD:¬ LS ops i t:=fun ⟨o',h3,h4⟩=>by rw [ho] at h3; injection h3 with h3; subst h3; exact hd h4
    exact (M.tmps t k hk (fun m hm hh=>(h1 m hm hh).resolve_right (fun he=>hnD (he ▸ hh))) (fun m a1 a2 hh hl=>h2 m a1 a2 hh (.inl hl))).mono hp.ext
  ·rw [CQ]; exact M.defers.mono hp.ext
 ·rintro d w' ⟨φ',_,hf⟩;have:=hf.defers;rw [hgd,CQ] at this;cases this
end
section
variable {P:Program}{call:cV}{ops:Array Oper}{X:Nat→EI}
def zD (p:Nat→Bool):Nat→Nat
 | 0=>0
 | n + 1=>zD p n + if p n then 1 else 0
theorem Dj {p q:Nat→Bool} : ∀n,(∀j,j < n→q j=p j)→zD q n=zD p n:=by
 intro n
 induction n with
 | zero=>intro _; rfl
 | succ n ih=>intro h; simp only [zD]; rw [ih fun j hj=>h j (by omega),h n (by omega)]
theorem FC {p q:Nat→Bool}{i:Nat} (hp:p i=true) (hq:q i=false) (h:∀j,j≠i→q j=p j):∀n,i < n→zD q n + 1=zD p n:=by
 intro n
 induction n with
 | zero=>intro h; omega
 | succ n ih=>
  intro hi;simp only [zD];by_cases he:i=n
  ·subst he;rw [Dj i fun j hj=>h j (by omega),hp,hq];simp
  ·rw [h n (fun e=>he e.symm)];have:=ih (by omega);omega
theorem Ia {p:Nat→Bool} : ∀n,zD p n=0→∀j,j < n→p j=false:=by
 intro n
 induction n with
 | zero=>intro _ j hj; omega
 | succ n ih=>
  intro h j hj;simp only [zD] at h;by_cases he:j=n
  ·subst he;cases hp:p j with
   | false=>rfl
   | true=>rw [hp] at h; simp at h
  ·exact ih (by omega) j (by omega)
def On (listed:Array Bool) (i:Nat):Prop:=listed.getD i false=true
theorem qh {listed:Array Bool}{i:Nat} (hi:i < listed.size) (j:Nat):On (listed.setIfInBounds i true) j↔On listed j∨j=i:=by
 unfold On;simp only [Array.getD_eq_getD_getElem?,Array.getElem?_setIfInBounds];by_cases h:i=j
 ·subst h; simp [hi]
 ·simp [h]; exact fun e=>absurd e.symm h
theorem nP {listed:Array Bool}{i:Nat} (hi:i < listed.size):listed.getD i true=false↔¬ On listed i:=by
 unfold On;simp only [Array.getD_eq_getD_getElem?,Array.getElem?_eq_getElem hi,Option.getD_some];cases listed[i]<;>simp
theorem Qe (W:mT P call ops X) {listed:Array Bool} (hs:listed.size=ops.size) (hr:Region.ready .any ops listed=[]):∀i,i < ops.size→On listed i:=by
 intro i
 induction i using Nat.strongRecOn with
 | _ i ih=>
  intro hi;obtain⟨o,ho⟩:=j6 hi;by_cases hon:On listed i
  ·exact hon
  ·exfalso;have:i∈Region.ready .any ops listed:=by
    rw [mem_ready];refine⟨(nP (by omega)).2 hon,o,ho,fun e he hb=>?_⟩;have hl:=(W.good i o ho).low;unfold fy at hl;rw [List.all_eq_true] at hl;have:=hl e (by simpa using he);rw [hb] at this;have hlt:e.on < i:=Nat.le_of_ble_eq_true (by simpa using this);exact ih e.on hlt (by omega)
   rw [hr] at this;cases this
theorem si (W:mT P call ops X) (H:iZ P ops X) {φ₀:cK}{T:Nat→Prop}{w₀:World} (hn:(X 0).f.n≤1000000) (hT:fU (X 0).s (X ops.size).s T) (hfr:fu (X 0).s (X ops.size).s φ₀) {Q:Exit→Act→World→Prop}
  (hQ:∀φ' w' a',bG P φ₀ T (X 0).s (X ops.size).s w₀ w' φ'→dm φ' (X ops.size).f a'→Q .normal a' w') :
  ∀(fuel:Nat) (listed:Array Bool) (φ:cK) (a:Act) (w:World) (L:Nat→Prop),listed.size=ops.size→(∀j,L j↔On listed j)→iK ops L→zD (fun j=>!listed.getD j false) ops.size≤fuel→DO P ops X φ₀ T w₀ L φ a w→
   wpAny P .any ops Q fuel listed a w:=by
 intro fuel;have done:∀(listed:Array Bool) (φ:cK) (a:Act) (w:World) (L:Nat→Prop),(∀j,L j↔On listed j)→(∀i,i < ops.size→On listed i)→DO P ops X φ₀ T w₀ L φ a w→Q .normal a w:=fun listed φ a w L hLo hall M=>by
  obtain⟨h1,h2⟩:=DO.finish W H hn (fun i hi=>(hLo i).2 (hall i hi)) M;exact hQ φ w a h1 h2
 induction fuel with
 | zero=>
  intro listed φ a w L hs hLo _ hc M;have hall:∀i,i < ops.size→On listed i:=fun i hi=>by
   have:=Ia _ (Nat.le_zero.1 hc) i hi;simpa [On] using this
  refine⟨?_,done listed φ a w L hLo hall M⟩;cases hr:Region.ready .any ops listed with
  | nil=>rfl
  | cons i l=>
   have hm:i∈Region.ready .any ops listed:=by rw [hr]; exact List.mem_cons_self
   obtain⟨h0,o,ho,_⟩:=mem_ready.1 hm;exact absurd (hall i (jO ho)) ((nP (by rw [hs]; exact jO ho)).1 h0)
 | succ fuel ih=>
  intro listed φ a w L hs hLo hcl hc M;refine⟨fun hr=>done listed φ a w L hLo (Qe W hs hr) M,fun i hm=>?_⟩;obtain⟨h0,o,ho,hall⟩:=mem_ready.1 hm;have hi:=jO ho;have hnot:=(nP (by rw [hs]; exact hi)).1 h0;have hr:∀e∈o.after,Region.binds .any e=true→L e.on:=fun e he hb=>(hLo _).2 (hall e he hb);have key:gQ P ops Q o (wpAny P .any ops Q fuel (listed.setIfInBounds i true)) a w:=by
   refine M.step W H hn hT hfr hcl ho (fun h=>hnot ((hLo i).1 h)) hr fun φ' a' w' M'=>?_;refine ih (listed.setIfInBounds i true) φ' a' w' (fun j=>L j∨j=i) (by simp [hs]) (fun j=>?_) (u4 hcl ho hr) ?_ M'
   ·rw [qh (by rw [hs]; exact hi),hLo]
   ·have:=FC (p:=fun j=>!listed.getD j false) (q:=fun j=>!(listed.setIfInBounds i true).getD j false) (i:=i) (by simpa [On] using hnot)
     (by have:=(qh (listed:=listed) (by rw [hs]; exact hi) i).2 (.inr rfl); unfold On at this; simp only [this]; rfl)
     (fun j hj=>by simp only [getD_set_ne false (Ne.symm hj)]) ops.size hi
    omega
  unfold wpOp;rw [ho];unfold gQ at key;split at key
  ·rename_i hw; simp only [hw,if_true]; exact .inl key
  ·rename_i hw; simp only [hw]; exact key
theorem mT.path (hO:be P) (hOm:fm P) (hC:gB P call) (hM:cM call) (W:mT P call ops X) (hI:bE (X 0).s) (hn:(X ops.size).s.next≤(X ops.size).s.next):iZ P ops X:=by
 have hmono:∀i,i < ops.size→(X i).s.next≤(X (i + 1)).s.next:=fun i hi=>by
  obtain⟨o,ho⟩:=j6 hi;have:(bY (X i).s).next≤(X i).B.next:=(W.good i o ho).step.elim (fun h=>km hOm hM (v:=undef) (.inl h)) fun h=>h.1.fr.next;rw [dK] at this;rw [(W.good i o ho).s,i6];exact this
 have hle:∀k i,i + k≤ops.size→(X i).s.next≤(X (i + k)).s.next:=by
  intro k
  induction k with
  | zero=>intro i _; exact Nat.le_refl _
  | succ k ih=>intro i h; exact Nat.le_trans (ih i (by omega)) (hmono (i + k) (by omega))
 have key:∀i,i≤ops.size→bE (X i).s:=by
  intro i
  induction i with
  | zero=>intro _; exact hI
  | succ i ih=>
   intro hi;obtain⟨o,ho⟩:=j6 (show i < ops.size by omega);have g:=W.good i o ho;have hb:(X i).B.next≤(X i).B.next:=by
    have h1:=hle (ops.size - (i + 1)) (i + 1) (by omega);rw [show i + 1 + (ops.size - (i + 1))=ops.size by omega,g.s,i6] at h1;omega
   have hs:=g.step.elim (fun h=>kZ hO hC hM (qa (ih (by omega))) hb h) And.left;rw [g.s];exact (wG hs.fr).inv
 have hon:∀i o,ops[i]?=some o→jJ P ops o (fk (o.looksAt ops) (X i).f) (bY (X i).s) (X i).g (X i).B:=fun i o ho=>by
  have hi:=jO ho;have g:=W.good i o ho;have hb:(X i).B.next≤(X i).B.next:=by
   have h1:=hle (ops.size - (i + 1)) (i + 1) (by omega);rw [show i + 1 + (ops.size - (i + 1))=ops.size by omega,g.s,i6] at h1;omega
  exact g.step.elim (fun h=>kZ hO hC hM (qa (key i (Nat.le_of_lt hi))) hb h) And.left
 exact⟨fun i hi=>by obtain⟨o,ho⟩:=j6 hi; exact (hon i o ho).fr,hon⟩
theorem iZ.all (W:mT P call ops X) (H:iZ P ops X) (hI:bE (X 0).s):∀i,i≤ops.size→kW (X 0).s (X i).s:=by
 intro i
 induction i with
 | zero=>intro _; exact .refl hI
 | succ i ih=>intro hi; exact (ih (by omega)).trans (H.fr' W (by omega))
theorem TY (hm:P.follows .mixedOrders=true) (W:mT P call ops X) (H:iZ P ops X) (hI:bE (X 0).s) (id:Nat):gE P (.region id ops true) (X 0).f (X 0).s .normal (X ops.size).f (X ops.size).s:=by
 refine⟨H.all W hI _ (Nat.le_refl _),fun φ T w a hf hr hT hfr Q hQ=>?_⟩;refine wp_region_any hm (si W H hf.few hT hfr (w₀:=w) (fun φ' w' a' hp hf'=>hQ φ' w' a' _ hp hf' .normal) ops.size _ φ a _ (fun _=>False) (by simp) (fun j=>?_) (fun _ _ _ hh=>hh.elim) ?_ (DO.start W H hI hf hr))
 ·unfold On;refine⟨fun h=>h.elim,fun h=>?_⟩;simp only [Array.getD_eq_getD_getElem?,Array.getElem?_replicate] at h;split at h<;>simp at h
 ·have:∀(p:Nat→Bool) n,zD p n≤n:=by
   intro p n
   induction n with
   | zero=>exact Nat.le_refl _
   | succ n ih=>simp only [zD]; split<;>omega
  exact this _ _
theorem F6 (hm:P.follows .mixedOrders=true) (hO:be P) (hOm:fm P) (hC:gB P call) (hM:cM call):wH P call:=by
 intro id ops f A x f' A' hI hn h;rcases mJ h with ⟨h1,rfl⟩ | ⟨v,h1,_⟩
 ·obtain⟨X,e1,e2,e3,e4,e5,e6,e7⟩:=RL _ _ _ _ _ _ _ _ h1;simp only [Nat.zero_add,Array.length_toList] at e5 e6 e7;have W:mT P call ops X:=⟨e3,e4,fun i o ho=>e7 i o (by simpa using ho)⟩
  subst e1; subst e2; subst e5; subst e6;have H:=W.path hO hOm hC hM hI hn;refine⟨H.all W hI _ (Nat.le_refl _),fun φ T w a hf hr hT hfr Q hQ=>?_⟩;refine wp_region_any hm (si W H hf.few hT hfr (w₀:=w) (fun φ' w' a' hp hf'=>hQ φ' w' a' _ hp hf' .normal) ops.size _ φ a _ (fun _=>False) (by simp) (fun j=>?_) (fun _ _ _ hh=>hh.elim) ?_ (DO.start W H hI hf hr))
  ·unfold On;refine⟨fun h=>h.elim,fun h=>?_⟩;simp only [Array.getD_eq_getD_getElem?,Array.getElem?_replicate] at h;split at h<;>simp at h
  ·have:∀(p:Nat→Bool) n,zD p n≤n:=by
    intro p n
    induction n with
    | zero=>exact Nat.le_refl _
    | succ n ih=>simp only [zD]; split<;>omega
   exact this _ _
 ·exact absurd h1 (sI _ _ _ _ _ _ _ _ _ _)
end
section
variable {P:Program}{call:cV}
inductive zz (φ:cK):Option Value→FrameMode→Prop
 | ret:zz φ none .returning
 | panic (v v':Value) (h:dE φ v v'):zz φ (some v) (.panicking [{ v:=v',recovered:=false }])
 | done (v':Value):zz φ none (.panicking [{ v:=v',recovered:=true }])
theorem zz.mono {φ φ':cK} (he:El φ φ') {u:Option Value}{m:FrameMode} (h:zz φ u m):zz φ' u m:=by
 cases h with
 | ret=>exact .ret
 | panic v v' h=>exact .panic v v' (h.mono he)
 | done v'=>exact .done v'
theorem nC.inn {φ:cK}{u:Option Value}{m:FrameMode} (h:nC φ u m):zz φ u m:=by
 cases h with
 | ret=>exact .ret
 | panic v v' h=>exact .panic v v' h
theorem zz.settle {φ:cK}{u:Option Value}{m:FrameMode} (h:zz φ u m):nC φ u (settle m):=by
 cases h with
 | ret=>exact .ret
 | panic v v' h=>exact .panic v v' h
 | done v'=>exact .ret
def JJ (P:Program) (ops:Array Oper) (Q:Exit→Act→List Frame→World→Prop) (o:Oper) (K:Act→List Frame→World→Prop) (a:Act) (cs:List Frame) (w:World):Prop:=
 if Region.wanted o (yielded ops a.tmps) then
  match (execOp a.eval o).run P w with
  | .ok .recover w'=>
   match recoverD cs with
   | some (v,cs')=>K (a.put o.dst v) cs' w'
   | none=>K (a.put o.dst .nilIface) cs w'
  | r=>o.upon P a (fun a' w'=>K a' cs w') (fun e a' w'=>Q e a' cs w') r
 else K (a.put o.dst undef) cs w
def gm (P:Program) (ops:Array Oper) (Q:Exit→Act→List Frame→World→Prop):List Oper→Act→List Frame→World→Prop
 | [],a,cs,w=>Q .normal a cs w
 | o :: l,a,cs,w=>JJ P ops Q o (gm P ops Q l) a cs w
theorem Ep {o:Oper}{a:Act}{K K':Act→World→Prop}{Q:Exit→Act→World→Prop} (h:∀a w,K a w→K' a w) {r:Result Next} (hh:o.upon P a K Q r):o.upon P a K' Q r:=by
 cases r with
 | ok n w'=>
  cases n<;>simp only [Oper.upon] at hh ⊢<;>
   first
    | exact h _ _ hh
    | exact Calls.mono hh (fun e w'' he=>by cases e<;>first | exact h _ _ he | exact he)
    | exact Rows.mono hh (fun _ _ he=>h _ _ he)
 | halt x w'=>cases x<;>simp only [Oper.upon] at hh ⊢<;>exact hh
theorem lO {ops:Array Oper}{Q:Exit→Act→List Frame→World→Prop} : ∀(l:List Oper) (k:Nat) (a:Act) (cs:List Frame) (w:World),ops.toList.drop k=l→gm P ops Q l a cs w→wpOpsS P ops Q (List.range' k l.length) a cs w:=by
 intro l
 induction l with
 | nil=>intro k a cs w _ h; exact h
 | cons o l ih=>
  intro k a cs w hd h;have hk:ops[k]?=some o:=by
   have:(ops.toList.drop k)[0]?=some o:=by rw [hd]; rfl
   simpa using this
  have hd':ops.toList.drop (k + 1)=l:=by rw [← List.drop_drop (i:=1) (j:=k),hd]; rfl
  have ih':=fun a cs w=>ih (k + 1) a cs w hd';rw [List.length_cons,List.range'_succ];unfold gm JJ at h;simp only [wpOpsS,hk];split
  ·rename_i hw;rw [if_pos hw] at h;split
   ·rename_i w' hr;rw [hr] at h;simp only at h;split
    ·rename_i v cs' hrec; rw [hrec] at h; exact ih' _ _ _ h
    ·rename_i hrec; rw [hrec] at h; exact ih' _ _ _ h
   ·rename_i r hne;generalize hr:(execOp a.eval o).run P w=r' at h hne ⊢;split at h
    ·exact absurd rfl (hne _)
    ·exact Ep (fun a' w'=>ih' a' cs w') h
  ·rename_i hw;rw [if_neg hw] at h;exact ih' _ _ _ h
theorem Hy {ops:Array Oper}{Q:Exit→Act→List Frame→World→Prop}{o:Oper}{K:Act→List Frame→World→Prop}{a:Act}{cs:List Frame}{w:World} (h:gQ P ops (fun e a' w'=>Q e a' cs w') o (fun a' w'=>K a' cs w') a w):JJ P ops Q o K a cs w:=by
 unfold gQ at h;unfold JJ;split at h
 ·rename_i hw;rw [if_pos hw];unfold Oper.wp at h;generalize (execOp a.eval o).run P w=r at h ⊢;split
  ·exact h.elim
  ·exact h
 ·rename_i hw;rw [if_neg hw];exact h
theorem uu (hO:be P) (hOm:fm P) (hC:gB P call) (hM:cM call) {ops:Array Oper} : ∀(l:List Oper) {f:Fr}{A:AS}{u:Option Value}{q:Dd},bE A→q.s.next≤q.s.next→ow P call ops.toList l f A u=some q→kW A q.s∧
  ∀(φ:cK) (T:Nat→Prop) (w:World) (a:Act) (c₀:Frame) (cs:List Frame) (m:FrameMode),dm φ f a→zz φ u m→gz P φ T A w→fU A q.s T→fu A q.s φ→∀(Q:Exit→Act→List Frame→World→Prop),
   (∀φ' w' a' m',bG P φ T A q.s w w' φ'→dm φ' q.f a'→zz φ' q.u m'→Q .normal a' ({ c₀ with mode:=m' } :: cs) w')→gm P ops Q l a ({ c₀ with mode:=m } :: cs) w:=by
 intro l
 induction l with
 | nil=>
  intro f A u q hi hn h;have h':some (⟨f,A,u⟩ : Dd)=some q:=h;injection h' with h';subst h';exact⟨.refl hi,fun φ T w a c₀ cs m hf hu hr _ _ Q hQ=>hQ φ w a m (.refl hr rfl rfl rfl rfl rfl rfl rfl) hf hu⟩
 | cons o l ih=>
  intro f A u q hi hn h;rw [oH] at h;unfold JL at h;split at h
  ·rename_i s hev;split at h
   ·rename_i hg;unfold Qi at h;split at h
    ·rename_i g s' hon;obtain⟨hput,rfl⟩:=iF hon;have hle:=ky hOm hM l h;have hs:=hO f o A _ _ hi (Nat.le_refl _) hev;obtain⟨f2,r2⟩:=ih hs.fr.inv hn h;refine⟨hs.fr.trans f2,fun φ T w a c₀ cs m hf hu hr hT hfr Q hQ=>?_⟩;obtain⟨φ1,w1,hp,hnr⟩:=hs.run φ T w a hf hr (hT.left f2) (bz hfr f2.next);show JJ P ops Q o (gm P ops Q l) a _ w;unfold JJ;rw [show Region.wanted o (yielded ops a.tmps)=true by unfold Region.wanted; rw [hg],if_pos rfl];generalize hres:(execOp a.eval o).run P w=res at hnr;cases hnr;simp only;have go:∀v' m',dE φ1 (u.getD .nilIface) v'→zz φ1 none m'→gm P ops Q l (a.put o.dst v') ({ c₀ with mode:=m' } :: cs) w1:=fun v' m' hv hm=>
      r2 φ1 _ w1 _ c₀ cs m' ((hf.mono hp.ext).put hput hv) hm hp.rel (bh hT) (ba hfr hs.fr.next hp) Q fun φ2 w2 a2 m2 hp2 hf2 hm2=>hQ φ2 w2 a2 m2 (hp.trans hs.fr.next f2 hp2) hf2 hm2
     cases hu with
     | ret=>exact go _ _ .nilIface .ret
     | panic v v' hv=>exact go _ _ (hv.mono hp.ext) (.done v')
     | done v'=>exact go _ _ .nilIface (.done v')
    ·cases h
   ·cases h
  ·unfold Qi at h;split at h
   ·rename_i g s' hst;have hle:=ky hOm hM l h;have hs:=kZ hO hC hM hi (Nat.le_refl _) hst;obtain⟨f2,r2⟩:=ih hs.fr.inv hn h;refine⟨hs.fr.trans f2,fun φ T w a c₀ cs m hf hu hr hT hfr Q hQ=>?_⟩;show JJ P ops Q o (gm P ops Q l) a _ w;refine Hy (hs.run φ T w a hf hr (hT.left f2) (bz hfr f2.next) _ _ fun φ1 w1 a1 hp hf1=>?_);exact r2 φ1 _ w1 a1 c₀ cs m hf1 (hu.mono hp.ext) hp.rel (bh hT) (ba hfr hs.fr.next hp) Q fun φ2 w2 a2 m2 hp2 hf2 hm2=>hQ φ2 w2 a2 m2 (hp.trans hs.fr.next f2 hp2) hf2 hm2
   ·cases h
theorem C9 (hE:lW P) (hO:be P) (hOm:fm P) (hC:gB P call) (hM:cM call) (hD:wH P call) (hDm:jX P call):vo P call:=by
 intro d A u A' u' hi hn h;unfold f8 at h;split at h
 case h_2=>cases h
 rename_i g cap htgt;split at h
 case h_2=>cases h
 rename_i fn hfn;obtain⟨hb,h⟩:=aC h;simp only [Bool.and_eq_true] at hb;have b1:=Nat.le_of_ble_eq_true hb.1;have b2:=Nat.le_of_ble_eq_true hb.2.1;have b3:fn.results.toList=[]:=by simpa using hb.2.2
 unfold wx at h;split at h
 case h_2=>cases h
 rename_i rid ops c hbody;split at h
 case h_2=>cases h
 rename_i f1 B v1 hrun;have key:∃x f2,cU P call c f1 B=some (x,f2,A')∧(x=.normal∨x=.ret)∧f2.defers=[]∧v1=u':=by
  unfold O1 at h;split at h
  ·rename_i f2 s2 he;split at h
   ·rename_i hd; injection h with h; injection h with h1 h2; subst h1; exact⟨_,f2,he,.inl rfl,hd,h2⟩
   ·cases h
  ·rename_i f2 s2 he;split at h
   ·rename_i hd; injection h with h; injection h with h1 h2; subst h1; exact⟨_,f2,he,.inr rfl,hd,h2⟩
   ·cases h
  ·cases h
 obtain⟨x,f2,he,hx,hd2,rfl⟩:=key;have m2:=eL hOm hM hDm c _ _ _ _ _ he;obtain⟨fr1,r1⟩:=uu hO hOm hC hM ops.toList hi (Nat.le_refl _) hrun;have s2:=mn hO hOm hC hM hD hDm c _ _ _ _ _ fr1.inv hn he;refine⟨fr1.trans s2.fr,fun φ T w d' m hdr hu hr hT hfr=>?_⟩;cases hdr with
 | mk g' cap0 cap' args0 args' hc ha=>
  have htgt':Target.fn (.func g') cap0=.fn (.func g) cap:=htgt;injection htgt' with e1 e2;injection e1 with e1;subst e1;subst e2;refine⟨.func g',cap',g',args' ++ cap',rfl,?_,?_⟩
  ·have:=pR hE hfn hbody (args' ++ cap') w;exact this
  ·refine callsD_of_wpS hfn hbody fun c₀ cs hm=>wpS_seq (wpS_region ?_);have hargs:b8 φ (args0 ++ cap0).toList (args' ++ cap').toList:=by rw [Array.toList_append,Array.toList_append]; exact ha.append hc
   have hc0:c₀ = { c₀ with mode:=m }:=by rw [← hm]
   rw [List.range_eq_range',← Array.length_toList];refine lO ops.toList 0 _ _ w rfl ?_;rw [hc0];refine r1 φ T w _ c₀ cs m (iS hargs b1 b2) hu.inn hr (hT.left s2.fr) (bz hfr s2.fr.next) _ fun φ1 w1 a1 m1 hp hf1 hu1=>?_;refine wpS_of_wp (s2.run φ1 _ w1 a1 hf1 hp.rel (bh hT) (ba hfr fr1.next hp) _ fun φ2 w2 a2 e hp2 hf2 hx2=>?_);have hdef:a2.defers=[]:=by
    have:=hf2.defers;rw [hd2] at this;cases hh:a2.defers with
    | nil=>rfl
    | cons y l=>rw [hh] at this; cases this
   have hres:(results fn a2.tmps).run P w2=.ok (pF []) w2:=by
    refine ja ?_;rw [b3];rfl
   have hend:bodyPostS P fn { c₀ with mode:=m } cs (fun e m' w'=>∃v φ',e=.returned v∧bG P φ T A A' w w' φ'∧nC φ' v1 (settle m')) .ret a2 ({ c₀ with mode:=m1 } :: cs) w2:=
    ⟨hdef,m1,rfl,_,hres,_,φ2,rfl,hp.trans fr1.next s2.fr hp2,(hu1.mono hp2.ext).settle⟩
   rcases hx with rfl | rfl
   ·cases hx2; exact hend
   ·cases hx2; exact hend
end
open Go.RowKit
structure oS where
 g:Nat
 cells:List Value
 e:Nat
noncomputable def kj (l:List oS):Tr eD:=List.rec (motive:=fun _=>Tr eD) .nil (fun x _ ih=>cG ih fun ih=>eW x.cells fun cs=>Tr.set (.row cs x.e x.g 0 true) 40 ih x.g) l
noncomputable def nQ (l:List oS):Tr Nat:=List.rec (motive:=fun _=>Tr Nat) .nil (fun x _ ih=>cG ih fun ih=>dH x.cells.length fun n=>Tr.set n 40 ih x.g) l
noncomputable def gX (P:Program) (l:List oS):AS:=dH P.globals.size fun n=>cG (kj l) fun h=>cG (nQ l) fun z=>⟨h,n,.nil,z,0,0⟩
noncomputable def zm (N:Nat) (r:Option (fR × AS)):Bool:=match r with
 | some (.ret (.bool true),A')=>Nat.beq (Nat.mod A'.w (Nat.shiftLeft 1 N)) 0 && Nat.ble A'.next 274877906944
 | _=>false
noncomputable def t8 (P:Program) (orc:IE) (l:List oS) (n:Nat) (g:FuncId):Bool:=zm P.globals.size (jW P orc n g #[] (gX P l))
section
variable {P:Program}
theorem ME (hE:lW P) (hS:Qk P) (hm:P.follows .mixedOrders=true) {orc:IE} (hQ:Ct P orc) (n:Nat):gB P (jW P orc n):=
 (su (fun call hC hM=>by
  have hO:=yX hE hS;have hOm:=Aq P;have hD:=F6 hm hO hOm hC hM;have hDm:=yg (P:=P) (call:=call) hOm hM;exact⟨hD,hDm,C9 hE hO hOm hC hM hD hDm,v4 hOm hM hDm⟩) (yX hE hS) (Aq P) hQ n).1
theorem Jy (P:Program):Ct P LZ:=fun g args A r A' h=>by cases h
theorem fD (l:List oS):gX P l=⟨kj l,P.globals.size,.nil,nQ l,0,0⟩:=by
 unfold gX; simp only [bp,bX]
theorem ue (x:oS) (l:List oS):kj (x :: l)=Tr.set (.row x.cells x.e x.g 0 true) 40 (kj l) x.g:=by
 show (cG (kj l) fun ih=>eW x.cells fun cs=>Tr.set (.row cs x.e x.g 0 true) 40 ih x.g)=_;rw [bX,bg]
theorem qJ (x:oS) (l:List oS):nQ (x :: l)=Tr.set x.cells.length 40 (nQ l) x.g:=by
 show (cG (nQ l) fun ih=>dH x.cells.length fun n=>Tr.set n 40 ih x.g)=_;rw [bX,bp]
theorem oU (l:List oS) (hl:∀x∈l,ir x.g) (b:Nat) (o:eD) (h:(kj l).get b=some o):∃x∈l,b=x.g∧o=.row x.cells x.e x.g 0 true∧(nQ l).get b=some x.cells.length:=by
 induction l with
 | nil=>exact absurd h (by show (Tr.nil:Tr eD).get b≠_; rw [Tr.get_nil]; simp)
 | cons x l ih=>
  rw [ue,Tr.get_set _ _ _ _ (hl x List.mem_cons_self)] at h;rw [qJ,Tr.get_set _ _ _ _ (hl x List.mem_cons_self)];split at h
  ·rename_i he;injection h with h;exact⟨x,List.mem_cons_self,he,h.symm,if_pos he⟩
  ·rename_i he;obtain⟨y,h1,h2,h3,h4⟩:=ih (fun y hy=>hl y (List.mem_cons_of_mem _ hy)) h;exact⟨y,List.mem_cons_of_mem _ h1,h2,h3,by rw [if_neg he]; exact h4⟩
theorem A6 (l:List oS) (hl:∀x∈l,ir x.g) (b k:Nat) (h:(nQ l).get b=some k):∃x∈l,b=x.g:=by
 induction l with
 | nil=>exact absurd h (by show (Tr.nil:Tr Nat).get b≠_; rw [Tr.get_nil]; simp)
 | cons x l ih=>
  rw [qJ,Tr.get_set _ _ _ _ (hl x List.mem_cons_self)] at h;split at h
  ·rename_i he; exact⟨x,List.mem_cons_self,he⟩
  ·obtain⟨y,h1,h2⟩:=ih (fun y hy=>hl y (List.mem_cons_of_mem _ hy)) h;exact⟨y,List.mem_cons_of_mem _ h1,h2⟩
def Lj (P:Program) (w:World) (b:Nat):Nat:=match w.heap[b]? with | some (.cells _ e _)=>P.cellsOf e | _=>0
def Ld (w:World) (b:Nat):Nat:=match w.heap[b]? with | some (.cells C _ _)=>C.size | _=>0
def r6 (P:Program) (w:World):cK:=fun b=>if b < P.globals.size then some ⟨b,0,Ld w b,Lj P w b,b,0⟩ else none
theorem v8 (l:List oS) (hN:P.globals.size≤P.globals.size) (hl:∀x∈l,x.g < P.globals.size):bE (gX P l):=by
 have hfit:∀x∈l,ir x.g:=fun x hx=>lT (by have:=hl x hx; omega);rw [fD];refine⟨fun b o hb=>?_,fun b cells e c st hb=>?_,fun c l' x cells e c' st ok hm=>?_,fun b cells e c st ok hb=>?_,fun c l' x hm=>?_,fun c l' hm=>?_,fun c k hk=>?_⟩
 ·obtain⟨x,h1,rfl,rfl,_⟩:=oU l hfit b o hb;exact⟨hl x h1,hl x h1⟩
 ·obtain⟨x,h1,rfl,h3,_⟩:=oU l hfit b _ hb;injection h3 with _ _ h3;subst h3;show x.g∈((Tr.nil:Tr (List Nat)).get x.g).getD [x.g];rw [Tr.get_nil];simp
 ·exact absurd hm (by show (Tr.nil:Tr (List Nat)).get c≠_; rw [Tr.get_nil]; simp)
 ·obtain⟨x,h1,rfl,h3,_⟩:=oU l hfit b _ hb;injection h3 with _ _ h3;subst h3;exact⟨_,_,_,_,hb⟩
 ·exact absurd hm (by show (Tr.nil:Tr (List Nat)).get c≠_; rw [Tr.get_nil]; simp)
 ·exact absurd hm (by show (Tr.nil:Tr (List Nat)).get c≠_; rw [Tr.get_nil]; simp)
 ·obtain⟨x,h1,h2⟩:=A6 l hfit c k hk;rw [h2]; exact hl x h1
noncomputable def It (n:Nat) (l:List Func):Nat→Bool:=List.rec (motive:=fun _=>Nat→Bool) (fun _=>true) (fun fn _ ih k=>(!(fn.body.isNone && fn.name == "internal/abi.NoEscape") || Nat.beq k n) && ih (Nat.add k 1)) l
theorem FL {n:Nat} : ∀(l:List Func) (k:Nat),It n l k=true→∀(i:Nat) (fn:Func),l[i]?=some fn→fn.body=none→(fn.name == "internal/abi.NoEscape")=true→k + i=n:=by
 intro l
 induction l with
 | nil=>intro k _ i fn h; simp at h
 | cons x l ih=>
  intro k h i fn hi hb hn;have h':((!(x.body.isNone && x.name == "internal/abi.NoEscape") || Nat.beq k n) && It n l (k + 1))=true:=h;rw [Bool.and_eq_true] at h';cases i with
  | zero=>
   simp at hi;subst hi;have h1:=h'.1;rw [hb,hn] at h1;exact Nat.eq_of_beq_eq_true (by simpa using h1)
  | succ i=>
   have:=ih (k + 1) h'.2 i fn (by simpa using hi) hb hn;omega
theorem Mj (n:Nat) (h1:(P.funcs.toList.all fun fn=>!(fn.name == "runtime.NumGoroutine"))=true) (h2:It n P.funcs.toList 0=true) (h3:∀v w,(callFunc n #[v]).run P w=.ok (.value v) w):lW P where
 num:=fun g fn hg=>by
  rw [List.all_eq_true] at h1;have:=h1 fn (by simpa using Array.mem_of_getElem? hg);simpa using this
 noesc:=fun g fn hg hb hn v w=>by
  have:=FL _ 0 h2 g fn (by simpa using hg) hb hn;rw [Nat.zero_add] at this;subst this;exact h3 v w
noncomputable def LF (P:Program):Bool:=(List.range P.types.size).all fun t=>match P.underlying t with
 | some (.struct fs)=>fs.toList.all fun fl=>(bP P fl.type).isSome
 | _=>true
theorem PT (h:LF P=true):Qk P where
 fields:=fun t fs ht hu fl hfl=>by
  unfold LF at h;rw [List.all_eq_true] at h;have:=h t (by simpa using ht);rw [hu] at this;simp only [List.all_eq_true] at this;exact Option.isSome_iff_exists.1 (this fl hfl)
end
open Go.RowKit
open Go.RowKit
theorem bG.below {P:Program}{φ:cK}{T:Nat→Prop}{A A':AS}{w w':World} (h:gz P φ T A w) (h1:A'.heap=A.heap) (h2:A'.fz=A.fz) (h4:A'.next=A.next) (hb:Below w.heap.size w w'):bG P φ T A A' w w' φ where
 ext:=fun _ _ h=>h
 out:=fun _ _=>rfl
 rel:=⟨fun b i hb'=>Nat.lt_of_lt_of_le (h.blk _ _ hb') hb.size,h.inj,fun b o hb' hl hT=>by
  rw [h1] at hb';rw [h2];obtain⟨i,o',e1,e2,e3⟩:=h.obj b o hb' hl (hT.elim id fun hc=>by omega);exact⟨i,o',e1,by rw [hb.block _ (h.blk _ _ e1)]; exact e2,e3⟩,h.al,h.glob,h.root⟩
 img:=fun b i hb _=>⟨b,i,hb,rfl,rfl⟩
 size:=hb.size
 same:=fun k hk _=>hb.block k hk
 os:=hb.os
 tape:=hb.tape
 output:=hb.output
section
variable {P:Program}{orc:IE}
theorem Dx {φ:cK}{T:Nat→Prop}{A:AS}{w:World} (hr:gz P φ T A w):P.globals.size≤w.heap.size:=by
 rcases Nat.eq_zero_or_pos P.globals.size with h | h
 ·omega
 ·obtain⟨i,e1,e2,_⟩:=hr.glob (P.globals.size - 1) (by omega);have:=hr.blk _ _ e1;omega
end
end Go.EvL
