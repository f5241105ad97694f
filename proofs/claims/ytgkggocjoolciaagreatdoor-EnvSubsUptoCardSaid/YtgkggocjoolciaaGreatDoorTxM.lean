/- What functions of the program and of the reference compute, on values. No statement is proved here. -/
import Derived.Test.YtgkggocjoolciaaGreatDoorTxL
import Derived.Test.YtgkggocjoolciaaGreatDoorTxK
import Derived.KernelRfl
import Derived.Test.YtgkggocjoolciaaGreatDoorTxA
import Derived.Test.YtgkggocjoolciaaGreatDoorTxC
set_option linter.all false
namespace Go.Proofs.YtgkggocjoolciaaGreatDoor
open Go Go.EvL Go.PE Go.Mir
variable {ext:aq}
def wO (o st pi la:Int) (path:Bool) (gi go le:Int):Int:=
 if decide (o < 0) || decide (o > 255) then 1 else if ((decide (st < 0) || decide (st > 255)) || decide (pi < 0)) || decide (la < 0) then 2 else if !path then 10 else if (decide (gi < 1) || decide (go < 0)) || decide (le < 0) then 2 else 0
theorem Gc {x:cY}{path:Bool} (hp:∀s,Pc ext 63 [.sc (.string x.cwd)] (.sc (.bool path)) s) (s:PS):Pc ext 28 [.agg x.cells] (.sc (.int .i64 (wO x.opts x.stat x.pid x.last path x.gi x.go x.lev))) s:=by
 obtain⟨nm,vs,ps,fs,als,ts,o,st,pi,la',cw,gi,go,le,tk⟩:=x;simp only [cY.cells] at hp ⊢;refine mq DN 2 ?_;unfold DN wO;cases c1:decide (o < 0) with
 | true=>
  exact aX c1
 | false=>
 cases c2:decide (o > 255) with
 | true=>
  exact l9 c1 c2
 | false=>
 cases c3:decide (st < 0) with
 | true=>
  exact lR c1 c2 c3
 | false=>
 cases c4:decide (st > 255) with
 | true=>
  exact nI c1 c2 c3 c4
 | false=>
 cases c5:decide (pi < 0) with
 | true=>
  exact tg c1 c2 c3 c4 c5
 | false=>
 cases c6:decide (la' < 0) with
 | true=>
  exact jK c1 c2 c3 c4 c5 c6
 | false=>
 cases c7:path with
 | false=>
  rw [c7] at hp;exact tD c1 c2 c3 c4 c5 c6 hp
 | true=>
 rw [c7] at hp;cases c8:decide (gi < 1) with
 | true=>
  exact vY c1 c2 c3 c4 c5 c6 c8 hp
 | false=>
 cases c9:decide (go < 0) with
 | true=>
  exact wF c1 c2 c3 c4 c5 c6 c8 c9 hp
 | false=>
 cases c10:decide (le < 0) with
 | true=>
  exact rG c1 c2 c3 c4 c5 c6 c8 c9 c10 hp
 | false=>
  exact rG c1 c2 c3 c4 c5 c6 c8 c9 c10 hp
def DV (nm:ByteArray) (zv zp zf za zt zn:Int):Int:=
 if decide (4096 < nm.data.toList.length) then 3 else if zv != 0 then zv else if zp != 0 then zp else if zf != 0 then zf else if za != 0 then za else if zt != 0 then zt else zn
theorem Sc {x:cY}{zv zp zf za zt zn:Int} (hv:∀s,Pc ext 23 [x.vars] (.sc (.int .i64 zv)) s) (hp:∀s,Pc ext 24 [x.params] (.sc (.int .i64 zp)) s) (hf:∀s,Pc ext 25 [x.funcs] (.sc (.int .i64 zf)) s) (ha:∀s,Pc ext 26 [x.aliases] (.sc (.int .i64 za)) s) (ht:∀s,Pc ext 27 [x.traps] (.sc (.int .i64 zt)) s) (hn:∀s,Pc ext 28 [.agg x.cells] (.sc (.int .i64 zn)) s)
  (cv:az x.vars=[x.vars]) (cp:az x.params=[x.params]) (cf:az x.funcs=[x.funcs]) (ca:az x.aliases=[x.aliases]) (ct:az x.traps=[x.traps]) (s:PS):Pc ext 9 [.agg x.cells] (.sc (.int .i64 (DV x.name zv zp zf za zt zn))) s:=by
 obtain⟨nm,vs,ps,fs,als,ts,o,st,pi,la',cw,gi,go,le,tk⟩:=x;simp only [cY.cells] at hn ⊢;simp only at hv hp hf ha ht cv cp cf ca ct;refine mq p9 2 ?_;unfold p9 DV;cases c1:decide (4096 < nm.data.toList.length) with
 | true=>
  exact aX c1
 | false=>
 cases c2:(zv != 0) with
 | true=>
  exact lR c1 c2 hv
 | false=>
 cases c3:(zp != 0) with
 | true=>
  exact tg c1 c2 c3 hv hp
 | false=>
 cases c4:(zf != 0) with
 | true=>
  exact tD c1 c2 c3 c4 hv hp hf
 | false=>
 cases c5:(za != 0) with
 | true=>
  exact wF c1 c2 c3 c4 c5 hv hp hf ha
 | false=>
 cases c6:(zt != 0) with
 | true=>
  exact nq c1 c2 c3 c4 c5 c6 hv hp hf ha ht tv
 | false=>
  exact nq c1 c2 c3 c4 c5 c6 hv hp hf ha ht hn
theorem RO {x:cY}{b:PS→Bool}{z:Int} (hs:∀s,Pc ext 13 [.agg x.cells] (.sc (.bool (b s))) s) (hv:∀s,Pc ext 9 [.agg x.cells] (.sc (.int .i64 z)) s) (s:PS):∃c:Bool,Pc ext 4 [.agg x.cells] (.sc (.bool (c && (z == 0)))) s:=by
 refine⟨b ((⟨s.h,s.n,s.n⟩ : PS).new ⟨x.cells,0,30⟩),?_⟩;simp only [cY.cells] at hs hv ⊢;refine mq p4 2 ?_;unfold p4;generalize hs1:((⟨s.h,s.n,s.n⟩ : PS).new ⟨[.sc (.string x.name),x.vars,x.params,x.funcs,x.aliases,x.traps,.sc (.int .i64 x.opts),.sc (.int .i64 x.stat),.sc (.int .i64 x.pid),.sc (.int .i64 x.last),.sc (.string x.cwd),.sc (.int .i64 x.gi),.sc (.int .i64 x.go),.sc (.int .i64 x.lev),.sc (.bool x.talks)],0,30⟩)=s1;have q1:s1.h s.n=⟨[.sc (.string x.name),x.vars,x.params,x.funcs,x.aliases,x.traps,.sc (.int .i64 x.opts),.sc (.int .i64 x.stat),.sc (.int .i64 x.pid),.sc (.int .i64 x.last),.sc (.string x.cwd),.sc (.int .i64 x.gi),.sc (.int .i64 x.go),.sc (.int .i64 x.lev),.sc (.bool x.talks)],0,30⟩:=by
  rw [← hs1];exact if_pos rfl
 have q2:s.n≤s1.w:=by rw [← hs1]; exact Nat.le_refl _
 have h1:=hs s1;cases c1:b s1 with
 | false=>
  rw [c1] at h1;refine P7 hs1 q1 h1 ?_;exact q2
 | true=>
  rw [c1] at h1;refine xz hs1 q1 h1 hv ?_;exact q2
theorem kz {n:Nat}{s:PS}{p:PV} (h:cP p=true):fx n s p=some p:=by
 cases p with
 | fn g a b=>
  simp only [cP,Bool.and_eq_true,List.isEmpty_iff] at h;obtain⟨rfl,rfl⟩:=h;rfl
 | sc v=>rfl
 | lit _ _ _=>rfl
 | litp _=>rfl
 | litx _ _ _=>rfl
 | _=>cases h
def Bp (D d:Nat) (y x:aG):Prop:=y.name=x.name∧mS D d y.body x.body
theorem U9 (x:aG) (y:am) (h:∀s,Pc ext 58 [.agg x.body.cells] (.agg y.cells) s) (ho:y.cells.all cL=true) (hc:y.cells.all cP=true) (s:PS) :
  Pc ext 57 [.agg x.cells] (.agg (aG.cells ⟨x.name,y⟩)) s:=by
 obtain⟨n,b⟩:=x;refine qC (s.n + 1) Vj 2 10 ?_;unfold Vj;simp only [aG.cells,am.cells,List.all_cons,List.all_nil,Bool.and_eq_true,Bool.and_true] at h ho hc ⊢;obtain⟨_,_,_,_,o5,o6,o7,o8,o9⟩:=ho;obtain⟨_,_,_,_,k5,k6,k7,k8,k9⟩:=hc;refine wA h o5 o6 o7 o8 o9 @aS @dW @eD @eT ?_;refine⟨_,_,_,rfl,rfl,Nat.le_refl _,?_⟩;simp only [iT,iu,kz k5,kz k6,kz k7,kz k8,kz k9,Option.bind_some,Option.map_some]
theorem FT {D d:Nat} (x y:aG) (h:Bp D d y x):y.cells.all cL=true∧y.cells.all cP=true:=by
 obtain⟨h1,h2⟩:=sJ _ _ h.2;simp only [aG.cells,List.all_cons,h1,h2,Bool.and_true];exact⟨rfl,rfl⟩
theorem By {D d:Nat}{a:PV}{l:Option (List aG)} (ha:a=aK 71 aG.cells l) (hl:∀x∈l.getD [],bC D d x.body∧aM x.body.cells≤16777216) (hn:(l.getD []).length≤16777216) :
  ∃b,(∀s,Pc ext 56 [a,.fn 57 [] []] b s)∧gQ 71 aG.cells (Bp D d) b a:=by
 refine iH aG.len (by decide) (by decide) (by decide) Tm TU ha hn (fun x hx=>?_) FT (fun x hx=>?_)
 ·simp only [aG.cells,List.all_cons,(hl x hx).1.ones,Bool.and_true]; rfl
 ·obtain⟨y,h1,h2⟩:=Ds (ext:=ext) d x.body (hl x hx).1 (hl x hx).2;obtain⟨o1,o2⟩:=sJ _ _ h2;exact⟨⟨x.name,y⟩,U9 x y h1 o1 o2,rfl,h2⟩
theorem SR:Γ 52=some (jJ 43 5 40 [(.string ⟨#[]⟩),(.string ⟨#[]⟩),(.bool false),(.bool false),(.bool false)] false):=(rfl)
theorem TT:Γ 53=some (jJ 9 1 16 [(.string ⟨#[]⟩)] false):=(rfl)
theorem Uk:Γ 54=some (jJ 58 2 32 [(.string ⟨#[]⟩),(.string ⟨#[]⟩)] false):=(rfl)
theorem Un:Γ 55=some (jJ 46 2 24 [(.int .i64 0),(.string ⟨#[]⟩)] false):=(rfl)
theorem Ud:ei Γ 52=true:=(rfl)
theorem TQ:ei Γ 53=true:=(rfl)
theorem Sp:ei Γ 54=true:=(rfl)
theorem TK:ei Γ 55=true:=(rfl)
def cY.copy (x:cY) (lv:Option (List dw)) (lp:Option (List ByteArray)) (b:PV) (la:Option (List b9)) (lt:Option (List aT)):cY:=
 ⟨x.name,aK 43 dw.cells (dx (lv.getD [])),aK 9 fj (dx (lp.getD [])),b,aK 58 b9.cells (dx (la.getD [])),aK 46 aT.cells (dx (lt.getD [])),x.opts,x.stat,x.pid,x.last,x.cwd,x.gi,x.go,x.lev,x.talks⟩
theorem Pp {D d:Nat}{x:cY}{lv:Option (List dw)}{lp:Option (List ByteArray)}{lf:Option (List aG)}{la:Option (List b9)}{lt:Option (List aT)} (h:iq D d x lv lp lf la lt) :
  ∃lf':Option (List aG),gQ 71 aG.cells (Bp D d) (aK 71 aG.cells lf') x.funcs∧∀s,Pc ext 19 [.agg x.cells] (.agg (x.copy lv lp (aK 71 aG.cells lf') la lt).cells) s:=by
 obtain⟨b,hb,hq⟩:=By (ext:=ext) h.f h.node h.nf;obtain⟨lf',rfl⟩:=hq.sl;refine⟨lf',hq,fun s=>?_⟩;have v:=fun s=>zx (P:=Tryz.prog) (ext:=ext) (c:=dw.cells) SR (fun _=>rfl) (by decide) (y:=lv) h.nv (fun _ _=>⟨rfl,rfl⟩) s;have p:=fun s=>zx (P:=Tryz.prog) (ext:=ext) (c:=fj) TT (fun _=>rfl) (by decide) (y:=lp) h.np (fun _ _=>⟨rfl,rfl⟩) s;have a:=fun s=>zx (P:=Tryz.prog) (ext:=ext) (c:=b9.cells) Uk (fun _=>rfl) (by decide) (y:=la) h.na (fun _ _=>⟨rfl,rfl⟩) s;have t:=fun s=>zx (P:=Tryz.prog) (ext:=ext) (c:=aT.cells) Un (fun _=>rfl) (by decide) (y:=lt) h.nt (fun _ _=>⟨rfl,rfl⟩) s;have cv:=cu (e:=43) (c:=dw.cells) lv;have cp:=cu (e:=9) (c:=fj) lp;have cf:=cu (e:=71) (c:=aG.cells) lf;have ca:=cu (e:=58) (c:=b9.cells) la;have ct:=cu (e:=46) (c:=aT.cells) lt;have ov:=dr 43 dw.cells lv;have op:=dr 9 fj lp;have of:=dr 71 aG.cells lf;have oa:=dr 58 b9.cells la;have ot:=dr 46 aT.cells lt;rw [← h.v] at v cv ov;rw [← h.p] at p cp op;rw [← h.f] at cf of;rw [← h.a] at a ca oa;rw [← h.t] at t ct ot;obtain⟨nm,vs,ps,fs,als,ts,o,st,pi,la',cw,gi,go,le,tk⟩:=x;simp only at v p a t cv cp cf ca ct hb ov op of oa ot;clear h hq;refine qC (s.n + 1) pM 2 15 ?_;unfold pM;simp only [cY.cells,cY.copy];simp -implicitDefEqProofs (disch:=first | omega | (unfold cO bZ; simp<;>omega)) only [ZS,seval,ZT,ZX,v,p,a,t,hb,Ud,TQ,Sp,TK,aS,dW,eD,eT,dr,gS];exact⟨_,_,_,rfl,rfl,Nat.le_refl _,by simp only [iT,iw,iu,Option.bind_some,Option.map_some]⟩
end Go.Proofs.YtgkggocjoolciaaGreatDoor
namespace Go.PE
open Go Go.EvL
def ML (a b:Int):Int:=IntKind.i64.wrap ((BitVec.ofInt 64 a &&& BitVec.ofInt 64 b).toNat:Int)
def X5 (a b:Int):Int:=IntKind.i64.wrap ((BitVec.ofInt 64 a ||| BitVec.ofInt 64 b).toNat:Int)
def BM (a b:Int):Int:=IntKind.i64.wrap ((BitVec.ofInt 64 a &&& ~~~ BitVec.ofInt 64 b).toNat:Int)
section
variable {P:Program}{Γ:Nat→Option fJ}{ext:aq}
theorem uj (t:Nat) (x y:Operand) (a b:Int):fw P .and t x y (.sc (.int .i64 a)) (.sc (.int .i64 b))=some (.sc (.int .i64 (ML a b))):=(rfl)
theorem KB (t:Nat) (x y:Operand) (a b:Int):fw P .andNot t x y (.sc (.int .i64 a)) (.sc (.int .i64 b))=some (.sc (.int .i64 (BM a b))):=(rfl)
theorem bin_mul (t:Nat) (x y:Operand) (a b:Int):fw P .mul t x y (.sc (.int .i64 a)) (.sc (.int .i64 b))=some (.sc (.int .i64 (IntKind.i64.wrap (a * b)))):=(rfl)
end
def AH (o b:Int):Bool:=ML o b != 0
def DY (o b:Int) (on:Bool):Int:=if on then X5 (BM o b) b else BM o b
def UZ (o b:Int) (on:Bool):Int:=if on && !AH o b then IntKind.i64.wrap (o + b) else if !on && AH o b then IntKind.i64.wrap (o - b) else o
def Tx:List (UInt8 × Int):=[(97,32),(67,128),(101,1),(102,8),(109,64),(110,16),(117,2),(120,4)]
def SL:Bool:=(List.range 256).all fun n=>(Tx.all fun q=>[true,false].all fun on=>(UZ (n:Int) q.2 on == DY (n:Int) q.2 on) && decide (0≤DY (n:Int) q.2 on) && decide (DY (n:Int) q.2 on≤255) && (DY (DY (n:Int) q.2 on) q.2 on == DY (n:Int) q.2 on) &&
 Tx.all fun r=>AH (DY (n:Int) q.2 on) r.2 == (if r.2 == q.2 then on else AH (n:Int) r.2)) && ((if AH (n:Int) 64 then IntKind.i64.wrap ((n:Int) - 64) else (n:Int)) == BM (n:Int) 64 && decide (0≤BM (n:Int) 64) && decide (BM (n:Int) 64≤255))
set_option maxRecDepth 100000 in
theorem NL:SL=true:=by kernel_rfl
theorem Nf {o:Int} (h0 : 0≤o) (h1:o≤255):(if AH o 64 then IntKind.i64.wrap (o - 64) else o)=BM o 64∧0≤BM o 64∧BM o 64≤255:=by
 obtain⟨n,rfl⟩ : ∃n:Nat,o=n:=⟨o.toNat,om⟩
 have h:=NL;unfold SL at h;have h2:=(Bool.and_eq_true _ _ ▸ List.all_eq_true.1 h n (List.mem_range.2 om)).2;simp only [Bool.and_eq_true,beq_iff_eq,decide_eq_true_eq] at h2;exact⟨h2.1.1,h2.1.2,h2.2⟩
end Go.PE
namespace Go.Proofs.YtgkggocjoolciaaGreatDoor
open Go Go.EvL Go.PE Go.Mir
variable {ext:aq}
end Go.Proofs.YtgkggocjoolciaaGreatDoor
namespace Go.PE
open Go Go.EvL
end Go.PE
namespace Go.Proofs.YtgkggocjoolciaaGreatDoor
open Go Go.EvL Go.PE Go.Mir
variable {ext:aq}
structure BK (x:cY) (lv:Option (List dw)) (lp:Option (List ByteArray)) (lf:Option (List aG)) (la:Option (List b9)) (lt:Option (List aT)):Prop where
 v:x.vars=aK 43 dw.cells lv
 p:x.params=aK 9 fj lp
 f:x.funcs=aK 71 aG.cells lf
 a:x.aliases=aK 58 b9.cells la
 t:x.traps=aK 46 aT.cells lt
theorem zi {α:Type}{e:Nat}{c:α→List PV}{a:PV}{l:Option (List α)} (ha:a=aK e c l) {x:α} (hx:x∈l.getD []) {b:ByteArray} (hp : .sc (.string b)∈c x) {N:Nat} (hb:a.bulk≤N):b.data.toList.length≤N:=by
 have h1:=(du ha hx hp hb).1;exact D1 (by rw [ch,ck]; exact h1)
theorem iq.s {D d:Nat}{x:cY}{lv:Option (List dw)}{lp:Option (List ByteArray)}{lf:Option (List aG)}{la:Option (List b9)}{lt:Option (List aT)} (h:iq D d x lv lp lf la lt):BK x lv lp lf la lt:=⟨h.v,h.p,h.f,h.a,h.t⟩
theorem L8 {D d:Nat}{x:cY}{lv:Option (List dw)}{lp:Option (List ByteArray)}{lf:Option (List aG)}{la:Option (List b9)}{lt:Option (List aT)} (h:iq D d x lv lp lf la lt) (hb:aM x.cells≤16777216):∀f∈lf.getD [],mL ext f:=fun f hf=>
 OP (by
  have h1:x.funcs.bulk≤16777216:=Nat.le_trans (ga (by simp [cY.cells])) hb;have:=zi h.f hf (b:=f.name) (by simp [aG.cells]) h1;omega) fun s=>EU (h.node f hf).1 (h.node f hf).2 s
theorem Bj {o st pi la gi go le:Int}{path:Bool} (h:wO o st pi la path gi go le=0) : 0≤o∧o≤255:=by
 unfold wO at h;by_cases h1:o < 0
 ·rw [if_pos (by simp [h1])] at h; cases h
 ·by_cases h2:o > 255
  ·rw [if_pos (by simp [h2])] at h; cases h
  ·omega
theorem HC {nm:ByteArray}{zv zp zf za zt zn:Int} (h:DV nm zv zp zf za zt zn=0):zv=0∧zp=0∧zf=0∧za=0∧zt=0∧zn=0∧decide (4096 < nm.data.toList.length)=false:=by
 unfold DV at h;cases c0:decide (4096 < nm.data.toList.length) with
 | true=>rw [c0] at h; cases h
 | false=>
  rw [c0] at h;simp only [Bool.false_eq_true,if_false] at h;by_cases h1:zv=0
  ·by_cases h2:zp=0
   ·by_cases h3:zf=0
    ·by_cases h4:za=0
     ·by_cases h5:zt=0
      ·simp [h1,h2,h3,h4,h5] at h;exact⟨h1,h2,h3,h4,h5,h,rfl⟩
      ·simp [h1,h2,h3,h4,h5] at h
     ·simp [h1,h2,h3,h4] at h
    ·simp [h1,h2,h3] at h
   ·simp [h1,h2] at h
  ·simp [h1] at h
theorem aG.inj (x y:aG) (h:x.cells=y.cells):x=y:=by
 obtain⟨n,b⟩:=x;obtain⟨n',b'⟩:=y;simp only [aG.cells,List.cons.injEq] at h;obtain⟨h1,h2⟩:=h;obtain rfl:=am.inj _ _ h2;injection h1 with h1;injection h1 with h1;rw [h1]
theorem Gt {D d:Nat}{a:PV}{lf lf':Option (List aG)} (ha:a=aK 71 aG.cells lf) (hl:gQ 71 aG.cells (Bp D d) (aK 71 aG.cells lf') a):eb (Bp D d) (lf'.getD []) (lf.getD []):=by
 obtain⟨l,e,h⟩:=gQ.lists (c:=aG.cells) aG.inj aG.len hl ha;obtain rfl:=eF aG.inj aG.len e;exact h
theorem KD {D d:Nat}{l m:List aG} (h:eb (Bp D d) l m):im (nu ext) l m=true:=by
 induction h with
 | nil=>rfl
 | cons x y l m h _ ih=>
  rw [im,ih,Bool.and_true];unfold nu;rw [h.1,g9,show xG ext x.body y.body=true from gj fun s=>GZ d _ _ h.2 s];rfl
theorem Lg {D d:Nat}{x:cY}{lv:Option (List dw)}{lp:Option (List ByteArray)}{lf lf':Option (List aG)}{la:Option (List b9)}{lt:Option (List aT)} (h:iq D d x lv lp lf la lt) (hl:eb (Bp D d) (lf'.getD []) (lf.getD [])) :
  iq D d (x.copy lv lp (aK 71 aG.cells lf') la lt) (dx (lv.getD [])) (dx (lp.getD [])) lf' (dx (la.getD [])) (dx (lt.getD [])):=
 ⟨rfl,rfl,rfl,rfl,rfl,by rw [bV]; exact h.nv,by rw [bV]; exact h.np,by rw [hl.len]; exact h.nf,by rw [bV]; exact h.na,by rw [bV]; exact h.nt,fun y hy=>by
  obtain⟨z,hz,hq⟩:=hl.mem y hy;obtain⟨n1,n2⟩:=h.node z hz;obtain⟨m1,m2,_⟩:=sw (ext:=B5 5) d _ _ hq.2 n1 n2;exact⟨m1,om⟩,h.name,h.cwd⟩
theorem Nu {D d:Nat}{x:cY}{lv:Option (List dw)}{lp:Option (List ByteArray)}{lf lf':Option (List aG)}{la:Option (List b9)}{lt:Option (List aT)} (h:iq D d x lv lp lf la lt) (hb:aM x.cells≤16777216) (hl:eb (Bp D d) (lf'.getD []) (lf.getD [])) :
  (lf'.getD []).map (fun f=>(f.name,fE ext f))=(lf.getD []).map (fun f=>(f.name,fE ext f))∧∀f∈lf'.getD [],mL ext f:=by
 have hfb:x.funcs.bulk≤16777216:=Nat.le_trans (ga (by simp [cY.cells])) hb;have hnode:=h.node;have hname:∀f∈lf.getD [],f.name.data.toList.length≤16777216:=fun f hf=>zi h.f hf (b:=f.name) (by simp [aG.cells]) hfb;generalize lf'.getD []=l at *;generalize lf.getD []=m at *;clear h hb hfb
 induction hl with
 | nil=>exact⟨rfl,fun f hf=>by cases hf⟩
 | cons y z l m hq _ ih=>
  obtain⟨i1,i2⟩:=ih (fun f hf=>hnode f (List.mem_cons_of_mem _ hf)) fun f hf=>hname f (List.mem_cons_of_mem _ hf);obtain⟨n1,n2⟩:=hnode z (List.mem_cons_self ..);have n3:=hname z (List.mem_cons_self ..);obtain⟨m1,m2,_⟩:=sw (ext:=ext) d _ _ hq.2 n1 n2;have hk:y.body.kind=z.body.kind:=by
   cases d with
   | zero=>cases hq.2
   | succ d=>exact hq.2.1.1
  have he:fE ext y=fE ext z:=by unfold fE; rw [hq.1,hk,Bo hq.2 n1 n2]
  refine⟨by rw [List.map_cons,List.map_cons,i1,he,hq.1],fun f hf=>?_⟩;rcases List.mem_cons.1 hf with rfl | hf
  ·exact OP (by rw [hq.1]; omega) fun s=>EU m1 om s
  ·exact i2 f hf
theorem La {D d:Nat}{x y:cY}{lv lv':Option (List dw)}{lp lp':Option (List ByteArray)}{lf lf':Option (List aG)}{la la':Option (List b9)}{lt lt':Option (List aT)} (h:iq D d x lv lp lf la lt) (k:iq D d y lv' lp' lf' la' lt')
  (e1:x.name=y.name) (e2:lv.getD []=lv'.getD []) (e3:lp.getD []=lp'.getD []) (e4:im (nu ext) (lf.getD []) (lf'.getD [])=true) (e5:la.getD []=la'.getD []) (e6:lt.getD []=lt'.getD []) (e7:x.opts=y.opts) (e8:x.stat=y.stat) (e9:x.pid=y.pid) (e10:x.last=y.last) (e11:x.cwd=y.cwd) (e12:x.gi=y.gi) (e13:x.go=y.go) (e14:x.lev=y.lev) (e15:x.talks=y.talks) :
  ∀s,Pc ext 7 [.agg x.cells,.agg y.cells] (.sc (.bool true)) s:=by
 obtain⟨Q,e,_,h2⟩:=NA (ext:=ext) h k;have q:Q=true:=by
  rw [e,e1,e2,e3,e4,e5,e6,e7,e8,e9,e10,e11,e12,e13,e14,e15,g9,g9,iO (q:=DX) (fun a _=>by unfold DX; simp [g9]),iO (q:=kh) (fun a _=>g9 a),iO (q:=qI) (fun a _=>by unfold qI; simp [g9]),iO (q:=A3) (fun a _=>by unfold A3; simp [g9])];simp
 subst q;exact h2
def TO (x:cY):Prop:=∃lv lp lf la lt,BK x lv lp lf la lt
theorem UC:ei Γ 9=true:=(rfl)
end Go.Proofs.YtgkggocjoolciaaGreatDoor
namespace Go.PE
open Go Go.EvL
theorem gL.fr {α:Type}{e es b:Nat}{c:α→List PV}{l:List α}{v:PV}{s s':PS} (h:gL e es c b l v s) (hn:s.n≤s'.n) (hh:∀j,b≤j→j < s.n→s'.h j=s.h j):gL e es c b l v s':=by
 rcases h with h | ⟨hl,k,k1,k2,rfl,k3⟩
 ·exact .inl h
 ·exact .inr ⟨hl,k,k1,om,rfl,by rw [hh k k1 k2]; exact k3⟩
theorem gL.one {α:Type}{e es b:Nat}{c:α→List PV}{l:List α}{v:PV}{s:PS} (h:gL e es c b l v s):cL v=true:=by
 rcases h with ⟨_,rfl⟩ | ⟨_,k,_,_,rfl,_⟩<;>rfl
theorem gL.cells {α:Type}{e es b:Nat}{c:α→List PV}{l:List α}{v:PV}{s:PS} (h:gL e es c b l v s):az v=[v]:=by
 rcases h with ⟨_,rfl⟩ | ⟨_,k,_,_,rfl,_⟩<;>rfl
end Go.PE
namespace Go.Proofs.YtgkggocjoolciaaGreatDoor
open Go Go.EvL Go.PE Go.Mir
variable {ext:aq}
def FC:Option Int→List aT→Bool
 | _,[]=>true
 | p,x :: l=>!decide (x.sig < 0) && (!decide (x.sig > 20) && (!decide (16384 < x.act.data.toList.length) && ((match p with | none=>true | some g=>!decide (g ≥ x.sig)) && FC (some x.sig) l)))
def EZ (xs:List aT):Nat→Option Int
 | 0=>none
 | i + 1=>(xs[i]?).map (·.sig)
theorem Iz {p q:Option Int}{l:List aT} (h:FC q l=true) (hpq:∀g,p=some g→∃g',q=some g'∧g≤g'):FC p l=true:=by
 cases l with
 | nil=>rfl
 | cons x l=>
  simp only [FC,Bool.and_eq_true] at h ⊢;obtain⟨h1,h2,h3,h4,h5⟩:=h;refine⟨h1,h2,h3,?_,h5⟩;cases p with
  | none=>rfl
  | some g=>
   obtain⟨g',rfl,hg⟩:=hpq g rfl;simp only [Bool.not_eq_true',decide_eq_false_iff_not] at h4 ⊢;omega
theorem ww {q:aT→Bool} : ∀{l:List aT}{p:Option Int},FC p l=true→FC p (l.filter q)=true
 | [],_,_=>rfl
 | x :: l,p,h=>by
  simp only [FC,Bool.and_eq_true] at h;obtain⟨h1,h2,h3,h4,h5⟩:=h;have ih:=ww (q:=q) h5;rw [List.filter_cons];split
  ·simp only [FC,Bool.and_eq_true];exact⟨h1,h2,h3,h4,ih⟩
  ·refine Iz ih fun g hg=>⟨x.sig,rfl,?_⟩
   subst hg;simp only [Bool.not_eq_true',decide_eq_false_iff_not] at h4;omega
theorem IS {xs:List aT} (hx:xs.length < 1000000000000):∀(k i:Nat),i + k=xs.length→∃z:Int,(z=0↔FC (EZ xs i) (xs.drop i)=true)∧∀(n0:Nat) (f:aR) (s:PS),n0≤s.w→f 0=.lit 46 xs.length (xs.flatMap aT.cells)→f 3=iN i→
  Er (fun f' s'=>n0≤s'.w∧f' 2=.sc (.int .i64 z)) (LP Tryz.prog Γ ext 0 mJ r6 f s):=by
 intro k
 induction k with
 | zero=>
  intro i hk;refine⟨0,?_,fun n0 f s hn h0 h3=>?_⟩
  ·rw [List.drop_of_length_le om]; simp [FC]
  have e1:decide (i < xs.length)=false:=df;refine ad fun L hL=>?_;refine wP @mJ.eq_1 @r6.eq_1 h0 h3 e1 ?_;exact hn
 | succ k ih=>
  intro i hk;obtain⟨z,hzz,hgo⟩:=ih (i + 1) om;have hl:i < xs.length:=om;have e1:decide (i < xs.length)=true:=decide_eq_true hl;have hj:xs[i]?=some xs[i]:=List.getElem?_eq_getElem hl;have hfl:=aB (c:=aT.cells) (es:=2) (fun _=>rfl) xs;obtain⟨rr,hk3⟩:=bU (c:=aT.cells) (es:=2) (fun _=>rfl) hj;have hdr:xs.drop i=xs[i] :: xs.drop (i + 1):=List.drop_eq_getElem_cons hl;have hpv:EZ xs (i + 1)=some xs[i].sig:=by show (xs[i]?).map (·.sig)=_; rw [hj]; rfl
  rw [hpv] at hzz;rw [hdr];generalize xs[i]=x at *;obtain⟨g,a⟩:=x;simp only [aT.cells,List.cons_append,List.nil_append] at hk3;simp only [FC];simp only at hzz;cases c1:decide (g < 0) with
  | true=>
   refine⟨2,by simp,fun n0 f s hn h0 h3=>?_⟩;refine ad fun L hL=>?_;simp -implicitDefEqProofs (disch:=first | omega | (unfold cO bZ; simp<;>omega)) only [ZS,seval,mJ,r6,h0,h3,hl,hfl,hk3,au,c1];exact hn
  | false=>
  cases c2:decide (g > 20) with
  | true=>
   refine⟨2,by simp,fun n0 f s hn h0 h3=>?_⟩;refine ad fun L hL=>?_;simp -implicitDefEqProofs (disch:=first | omega | (unfold cO bZ; simp<;>omega)) only [ZS,seval,mJ,r6,h0,h3,hl,hfl,hk3,au,c1,c2];exact hn
  | false=>
  cases c3:decide (16384 < a.data.toList.length) with
  | true=>
   refine⟨3,by simp,fun n0 f s hn h0 h3=>?_⟩;refine ad fun L hL=>?_;simp -implicitDefEqProofs (disch:=first | omega | (unfold cO bZ; simp<;>omega)) only [ZS,seval,mJ,r6,h0,h3,hl,hfl,hk3,au,c1,c2,c3];exact hn
  | false=>
  cases i with
  | zero=>
   refine⟨z,by rw [hzz]; simp [EZ],fun n0 f s hn h0 h3=>?_⟩;refine ad fun L hL=>?_;simp -implicitDefEqProofs (disch:=first | omega | (unfold cO bZ; simp<;>omega)) only [ZA,Nat.reduceAdd,Nat.reduceEqDiff,↓reduceIte,Nat.reduceLeDiff,reduceCtorEq,Nat.reduceLT,aY,bM,bY,cR,ZD,cI,fR,mJ,h0,h3,hl,gq,hfl,hk3,au,c1,c2,c3];subst hL;exact hgo _ _ _ hn (by simp -implicitDefEqProofs (disch:=omega) only [ZA,↓reduceIte,reduceCtorEq,h0]) (by simp -implicitDefEqProofs (disch:=omega) only [ZA,↓reduceIte])
  | succ j=>
  have hl2:j < xs.length:=om;have hj2:xs[j]?=some xs[j]:=List.getElem?_eq_getElem hl2;have hpj:EZ xs (j + 1)=some xs[j].sig:=by show (xs[j]?).map (·.sig)=_; rw [hj2]; rfl
  rw [hpj];obtain⟨rr2,hk4⟩:=bU (c:=aT.cells) (es:=2) (fun _=>rfl) hj2;generalize xs[j]=x2 at *;obtain⟨g2,a2⟩:=x2;simp only [aT.cells,List.cons_append,List.nil_append] at hk4;simp only;have e3:decide (0 < j + 1)=true:=decide_eq_true (Nat.succ_pos _);cases co:decide (g2 ≥ g) with
  | true=>
   refine⟨1,by simp,fun n0 f s hn h0 h3=>?_⟩;refine ad fun L hL=>?_;simp -implicitDefEqProofs (disch:=first | omega | (unfold cO bZ; simp<;>omega)) only [ZS,seval,ZT,mJ,r6,h0,h3,hl,hfl,hk3,au,c1,c2,c3,e3,hl2,hk4,co,Nat.add_sub_cancel];exact hn
  | false=>
   refine⟨z,by rw [hzz]; simp,fun n0 f s hn h0 h3=>?_⟩;refine ad fun L hL=>?_;simp -implicitDefEqProofs (disch:=first | omega | (unfold cO bZ; simp<;>omega)) only [ZS,seval,ZT,mJ,h0,h3,hl,hfl,hk3,au,c1,c2,c3,e3,hl2,hk4,co,Nat.add_sub_cancel];subst hL;exact hgo _ _ _ hn (aX h0) aQ
theorem Bz (l:List aT) (hx:l.length < 1000000000000):∃z:Int,(z=0↔FC none l=true)∧∀y,y.getD []=l→∀s,Pc ext 27 [aK 46 aT.cells y] (.sc (.int .i64 z)) s:=by
 obtain⟨z,hzz,hz⟩:=IS (ext:=ext) hx l.length 0 (Nat.zero_add _);rw [List.drop_zero] at hzz;by_cases hl:l=[]
 ·subst hl;refine⟨0,by simp [FC],fun y hy s=>?_⟩;refine mq Ae 2 ?_;unfold Ae;have z0:decide ((0:Int) < 0)=false:=rfl;have z2:decide (0 < 0)=false:=rfl;cases y with
  | none=>
   refine pJ @cd ?_;refine ad fun L hL=>?_;exact lR @mJ.eq_1 @r6.eq_1 z0
  | some m=>
   simp only [Option.getD_some] at hy;subst hy;simp only [List.length_nil] at *;refine pJ @cd ?_;refine ad fun L hL=>?_;exact l9 @mJ.eq_1 @r6.eq_1
 ·refine⟨z,hzz,fun y hy s=>?_⟩;refine mq Ae 2 ?_;unfold Ae;cases y with
  | none=>exact absurd hy.symm hl
  | some m=>
   simp only [Option.getD_some] at hy;subst hy;refine pJ @cd ?_;exact hz s.n _ _ aQ aQ aQ
def mc (x:aT):Bool:=x.act.data.toList.isEmpty && (x.sig != 0)
theorem Np {xs:List aT} (hx:xs.length≤16777216) {n0:Nat} : ∀(k i:Nat) (f:aR) (s:PS) (l:List aT),i + k=xs.length→l.length≤i→n0≤s.w→n0≤s.n→f 0=.lit 46 xs.length (xs.flatMap aT.cells)→f 4=iN i→gL 46 2 aT.cells n0 l (f 3) s→
  Er (fun f' s'=>n0≤s'.w∧gL 46 2 aT.cells n0 (l ++ (xs.drop i).filter mc) (f' 2) s') (LP Tryz.prog Γ ext 0 sZ Ee f s):=by
 intro k
 induction k with
 | zero=>
  intro i f s l hk hl hw hn h0 h4 ha;have e1:decide (i < xs.length)=false:=df;rw [List.drop_of_length_le om,List.filter_nil,List.append_nil];refine ad fun L hL=>?_;refine wP @sZ.eq_1 @Ee.eq_1 h0 h4 e1 ?_;exact⟨hw,ha⟩
 | succ k ih=>
  intro i f s l hk hl hw hn h0 h4 ha;have hlt:i < xs.length:=om;have e1:decide (i < xs.length)=true:=decide_eq_true hlt;have hj:xs[i]?=some xs[i]:=List.getElem?_eq_getElem hlt;have hfl:=aB (c:=aT.cells) (es:=2) (fun _=>rfl) xs;obtain⟨rr,hk3⟩:=bU (c:=aT.cells) (es:=2) (fun _=>rfl) hj;have hdr:xs.drop i=xs[i] :: xs.drop (i + 1):=List.drop_eq_getElem_cons hlt;rw [hdr,List.filter_cons];generalize xs[i]=x at *;obtain⟨g,a⟩:=x;simp only [aT.cells,List.cons_append,List.nil_append] at hk3;refine ad fun L hL=>?_;cases c1:a.data.toList.isEmpty with
  | false=>
   rw [if_neg (by simp [mc,c1])];refine Di @sZ.eq_1 h0 h4 hlt hfl hk3 @au @aV c1 ?_;subst hL;exact ih (i + 1) _ _ l om om hw hn (aX h0) aQ (by simp -implicitDefEqProofs (disch:=omega) only [ZS,seval]; exact ha)
  | true=>
  cases c2:(g != 0) with
  | false=>
   rw [if_neg (by simp [mc,c2])];refine wA @sZ.eq_1 h0 h4 hlt hfl hk3 @au @aV c1 c2 ?_;subst hL;exact ih (i + 1) _ _ l om om hw hn (aX h0) aQ (by simp -implicitDefEqProofs (disch:=omega) only [ZS,seval]; exact ha)
  | true=>
   rw [if_pos (by simp [mc,c1]; simpa using c2)];have hacc:=ha.new ⟨aT.cells ⟨g,a⟩,0,46⟩;obtain⟨v',s',a1,a2,a3,a4,a5⟩:=gL.app (bytes:=24) (es:=2) (c:=aT.cells) (fun _=>rfl) hacc [(⟨g,a⟩ : aT)] om (by simp only [List.length_cons,List.length_nil]; omega) (by simp only [List.length_cons,List.length_nil]; omega) (fun x hx=>by rw [List.mem_singleton] at hx; subst hx; rfl) (by rw [cD]; omega);simp only [List.flatMap_cons,List.flatMap_nil,aT.cells,List.append_nil,List.length_cons,List.length_nil,Nat.zero_add] at a1;refine mT @sZ.eq_1 h0 h4 hlt hfl hk3 @au @aV c1 c2 a1 tv ?_;subst hL;rw [show l ++ (⟨g,a⟩ :: (xs.drop (i + 1)).filter mc)=(l ++ [⟨g,a⟩]) ++ (xs.drop (i + 1)).filter mc by simp];exact ih (i + 1) _ _ _ om (by simp only [List.length_append,List.length_cons,List.length_nil]; omega) (a5 n0 (Nat.le_refl _) (by rw [ip]; exact hw)) (by rw [cD] at a4; omega) (aX h0) aQ (by simp -implicitDefEqProofs (disch:=omega) only [ZS,seval]; exact a2)
theorem FR {y:Option (List aT)} (hy:(y.getD []).length≤16777216) (s:PS):Pc ext 22 [aK 46 aT.cells y] (aK 46 aT.cells (dx ((y.getD []).filter mc))) s:=by
 refine ir (V:=fun f' s'=>s.n≤s'.w∧gL 46 2 aT.cells s.n ((y.getD []).filter mc) (f' 2) s') (fn:=tU) (by rfl) (by simp [tU]) ?_ ?_
 ·unfold tU;have z0:decide ((0:Int) < 0)=false:=rfl;cases y with
  | none=>
   refine yZ ?_;refine ad fun L hL=>?_;refine xz @sZ.eq_1 @Ee.eq_1 @cd z0 ?_
   first | exact .inl ⟨rfl,rfl⟩ | exact⟨Nat.le_refl _,.inl ⟨rfl,rfl⟩⟩
  | some l=>
   simp only [Option.getD_some] at hy ⊢;refine yZ ?_;have:=Np (ext:=ext) hy (n0:=s.n) l.length 0 ?_ ?_ [] (Nat.zero_add _) (Nat.zero_le _) ?_ ?_ ?_ ?_ ?_
   ·rw [List.drop_zero,List.nil_append] at this; exact this
   all_goals first | exact Nat.le_refl _ | (simp -implicitDefEqProofs (disch:=omega) only [ZS,seval,aK]; done) | (simp -implicitDefEqProofs (disch:=omega) only [ZS,seval]; rfl) | (simp -implicitDefEqProofs (disch:=omega) only [ZS,seval]; exact gL.nil ..)
 ·rintro f s' ⟨hw,ha⟩;refine fM (vs:=[f 2]) (by rfl) (by rfl) hw ?_;exact zl (gL.frz (c:=aT.cells) (fun _=>rfl) ha (Nat.le_refl _) fun x _=>rfl)
def OF (le:Int):Int:=if decide (le < 9223372036854775807) then IntKind.i64.wrap (le + 1) else le
def UB (o:Int):Int:=if AH o 64 then IntKind.i64.wrap (o - 64) else o
def cY.subd (x:cY) (t:PV) (o:Int):cY:=⟨x.name,x.vars,x.params,x.funcs,x.aliases,t,o,x.stat,x.pid,x.last,x.cwd,x.gi,x.go,OF x.lev,false⟩
theorem Um {x:cY}{lv:Option (List dw)}{lp:Option (List ByteArray)}{lf:Option (List aG)}{la:Option (List b9)}{lt:Option (List aT)} (h:BK x lv lp lf la lt) (hn:(lt.getD []).length≤16777216) (s:PS) :
  Pc ext 8 [.agg x.cells] (.agg (x.subd (aK 46 aT.cells (dx ((lt.getD []).filter mc))) (UB x.opts)).cells) s:=by
 have hig:=fun s=>FR (ext:=ext) hn s;obtain⟨hv,hp,hf,ha,ht⟩:=h;obtain⟨nm,vs,ps,fs,als,ts,o,st,pi,l2,cw,gi,go,le,tk⟩:=x;simp only at hv hp hf ha ht;subst hv hp hf ha ht;unfold cY.subd OF UB AH;refine qC (s.n + 1) p8 2 15 ?_;unfold p8;simp only [cY.cells];cases c1:decide (le < 9223372036854775807) with
 | true=>
  cases c2:(ML o 64 != 0) with
  | true=>
   simp -implicitDefEqProofs (maxSteps:=3000000) (disch:=omega) only [ZS,seval,ZX,hig,c1,c2,uj,aS,dW,eD,eT,dr,gS];exact⟨_,_,_,rfl,rfl,Nat.le_refl _,by simp only [iT,iw,iu,Option.bind_some,Option.map_some]⟩
  | false=>
   simp -implicitDefEqProofs (maxSteps:=3000000) (disch:=omega) only [ZS,seval,ZX,hig,c1,c2,uj,aS,dW,eD,eT,dr,gS];exact⟨_,_,_,rfl,rfl,Nat.le_refl _,by simp only [iT,iw,iu,Option.bind_some,Option.map_some]⟩
 | false=>
  cases c2:(ML o 64 != 0) with
  | true=>
   simp -implicitDefEqProofs (maxSteps:=3000000) (disch:=omega) only [ZS,seval,ZX,hig,c1,c2,uj,aS,dW,eD,eT,dr,gS];exact⟨_,_,_,rfl,rfl,Nat.le_refl _,by simp only [iT,iw,iu,Option.bind_some,Option.map_some]⟩
  | false=>
   simp -implicitDefEqProofs (maxSteps:=3000000) (disch:=omega) only [ZS,seval,ZX,hig,c1,c2,uj,aS,dW,eD,eT,dr,gS];exact⟨_,_,_,rfl,rfl,Nat.le_refl _,by simp only [iT,iw,iu,Option.bind_some,Option.map_some]⟩
def Am:List PV:=[.sc (.string ⟨#[]⟩),.sc (.slice none 0 0),.sc (.slice none 0 0),.sc (.slice none 0 0),.sc (.slice none 0 0),.sc (.slice none 0 0),.sc (.int .i64 0),.sc (.int .i64 0),.sc (.int .i64 0),.sc (.int .i64 0),.sc (.string ⟨#[]⟩),.sc (.int .i64 0),.sc (.int .i64 0),.sc (.int .i64 0),.sc (.bool false)]
structure W6 (x:cY) (y:Option (List aT)) (xs:List aT) (n0 i:Nat) (l:List aT) (v:PV) (f:aR) (s:PS):Prop where
 w:n0≤s.w
 n:n0 + 3≤s.n
 f2:f 2=.ptr (n0 + 1) 0 15
 f3:f 3=.ptr (n0 + 2) 0 15
 f22:f 22=aK 46 aT.cells y
 f23:f 23=.sc (.int .i64 (xs.length:Int))
 f24:f 24=iN i
 h1:s.h (n0 + 1)=⟨Am,0,30⟩
 h2:s.h (n0 + 2)=⟨(x.subd v x.opts).cells,15,30⟩
 acc:gL 46 2 aT.cells (n0 + 3) l v s
theorem KY {x:cY}{lv:Option (List dw)}{lp:Option (List ByteArray)}{lf:Option (List aG)}{la:Option (List b9)}{lt:Option (List aT)} (he:BK x lv lp lf la lt) {y0:Option (List aT)}{xs:List aT} (hy0:y0.getD []=xs) (hx:xs.length≤16777216) {n0:Nat} : ∀(k i:Nat) (f:aR) (s:PS) (l:List aT) (v:PV),i + k=xs.length→l.length≤i→W6 x y0 xs n0 i l v f s→
  Er (fun f' s'=>n0≤s'.w∧f' 2=.ptr (n0 + 1) 0 15∧∃cs low e,s'.h (n0 + 1)=⟨cs,low,e⟩∧cs.length=15∧low≤15∧iT n0 s' cs=some (x.subd (aK 46 aT.cells (dx (l ++ (xs.drop i).filter mc))) x.opts).cells) (LP Tryz.prog Γ ext 0 DF Qq f s):=by
 obtain⟨hv,hp,hf,ha,ht⟩:=he;obtain⟨nm,vs,ps,fs,als,ts,o,st,pi,l2,cw,gi,go,le,tk⟩:=x;simp only at hv hp hf ha ht;subst hv hp hf ha ht;intro k
 induction k with
 | zero=>
  rintro i f s l v hk hl ⟨hw,hn,f2,f3,f22,f23,f24,h1,h2,acc⟩;have e1:decide (i < xs.length)=false:=df;have hov:=acc.one;have hcv:=acc.cells;simp only [cY.subd,cY.cells] at h2 ⊢;unfold Am at h1;rw [List.drop_of_length_le om,List.filter_nil,List.append_nil];refine ad fun L hL=>?_;simp -implicitDefEqProofs (maxSteps:=3000000) (disch:=omega) only [ZS,seval,ZX,DF,Qq,f2,f3,f23,f24,h1,h2,e1,hov,aS,dW,eD,eT,dr];refine⟨om,_,_,_,rfl,rfl,Nat.le_refl _,?_⟩;have hfz:=gL.frz (c:=aT.cells) (fun _=>rfl) (acc.fr (s':=s.put (n0 + 1) ⟨(cY.subd ⟨nm,aK 43 dw.cells lv,aK 9 fj lp,aK 71 aG.cells lf,aK 58 b9.cells la,aK 46 aT.cells lt,o,st,pi,l2,cw,gi,go,le,tk⟩ v o).cells,15,30⟩) (by rw [dn]; exact Nat.le_refl _) fun j hj _=>by rw [dz,if_neg om]) (n0:=n0) om fun x _=>rfl;simp only [cY.subd,cY.cells] at hfz;simp only [iT,hfz,iw,iu,Option.bind_some,Option.map_some]
 | succ k ih=>
  rintro i f s l v hk hl ⟨hw,hn,f2,f3,f22,f23,f24,h1,h2,acc⟩;have hlt:i < xs.length:=om;have f22x:=f22;obtain⟨xs0,rfl⟩ : ∃l,y0=some l:=by
   cases y0 with
   | none=>subst hy0; simp at hlt
   | some l=>exact⟨l,rfl⟩
  obtain rfl:xs=xs0:=hy0.symm;have f22:f 22=.lit 46 xs.length (xs.flatMap aT.cells):=f22;have e1:decide (i < xs.length)=true:=decide_eq_true hlt;have hj:xs[i]?=some xs[i]:=List.getElem?_eq_getElem hlt;have hfl:=aB (c:=aT.cells) (es:=2) (fun _=>rfl) xs;obtain⟨rr,hk3⟩:=bU (c:=aT.cells) (es:=2) (fun _=>rfl) hj;have hdr:xs.drop i=xs[i] :: xs.drop (i + 1):=List.drop_eq_getElem_cons hlt;rw [hdr,List.filter_cons];generalize xs[i]=y at *;obtain⟨g,a⟩:=y;simp only [aT.cells,List.cons_append,List.nil_append] at hk3;have h2':=h2;simp only [cY.subd,cY.cells] at h2';have n1:n0 + 2≠s.n:=om;have n2:n0 + 1≠s.n:=om;have keep:∀(i':Nat) (f':aR) (s':PS),(∀j,j < s.n→s'.h j=s.h j)→s.n≤s'.n→n0≤s'.w→f' 2=f 2→f' 3=f 3→f' 22=f 22→f' 23=f 23→f' 24=iN i'→W6 ⟨nm,aK 43 dw.cells lv,aK 9 fj lp,aK 71 aG.cells lf,aK 58 b9.cells la,aK 46 aT.cells lt,o,st,pi,l2,cw,gi,go,le,tk⟩ (some xs) xs n0 i' l v f' s':=fun i' f' s' e1 e2 e3 e4 e5 e6 e7 e8=>
   ⟨e3,om,e4.trans f2,e5.trans f3,e6.trans f22x,e7.trans f23,e8,(e1 _ om).trans h1,(e1 _ om).trans h2,acc.frame e2 e1⟩
  refine ad fun L hL=>?_;cases c1:(g != 0) with
  | false=>
   rw [if_neg (by simp [mc,c1])];simp -implicitDefEqProofs (maxSteps:=3000000) (disch:=omega) only [ZS,seval,ZX,DF,f3,f22,f23,f24,hlt,hfl,hk3,au,c1,aS,dW,eD];subst hL;refine ih (i + 1) _ _ l v om om (keep _ _ _ (fun j hj=>?_) ?_ ?_ aQ aQ aQ aQ aQ)
   ·rw [dz,if_neg om,dG,if_neg om]
   ·rw [dn,cD]; omega
   ·rw [jz,ip]; omega
  | true=>
  cases c2:a.data.toList.isEmpty with
  | false=>
   rw [if_neg (by simp [mc,c2])];simp -implicitDefEqProofs (maxSteps:=3000000) (disch:=omega) only [ZS,seval,ZX,DF,f3,f22,f23,f24,hlt,hfl,hk3,au,aV,c1,c2,aS,dW,eD];subst hL;refine ih (i + 1) _ _ l v om om (keep _ _ _ (fun j hj=>?_) ?_ ?_ aQ aQ aQ aQ aQ)
   ·rw [dz,if_neg om,dG,if_neg om]
   ·rw [dn,cD]; omega
   ·rw [jz,ip]; omega
  | true=>
   rw [if_pos (by simp [mc,c2]; simpa using c1)];have acc2:=acc.frame (s':=((s.new ⟨[.sc (.int .i64 0),.sc (.string ⟨#[]⟩)],0,46⟩).put s.n ⟨[.sc (.int .i64 g),.sc (.string a)],2,46⟩).new ⟨aT.cells ⟨g,a⟩,0,46⟩) (by rw [cD,dn,cD]; omega) fun j hj=>by rw [dG,if_neg (by rw [dn,cD]; omega),dz,if_neg om,dG,if_neg om]
   obtain⟨v',s',a1,a2,a3,a4,a5⟩:=gL.app (bytes:=24) (es:=2) (c:=aT.cells) (fun _=>rfl) acc2 [(⟨g,a⟩ : aT)] om (by simp only [List.length_cons,List.length_nil]; omega) (by simp only [List.length_cons,List.length_nil]; omega) (fun x hx=>by rw [List.mem_singleton] at hx; subst hx; rfl) (by rw [cD,dn,cD]; omega);have s1:s'.h (n0 + 1)=⟨Am,0,30⟩:=by rw [a3 _ om,dG,if_neg (by rw [dn,cD]; omega),dz,if_neg om,dG,if_neg om]; exact h1
   have s2:=a3 (n0 + 2) om;rw [dG,if_neg (by rw [dn,cD]; omega),dz,if_neg om,dG,if_neg om,h2'] at s2;have w':=a5 n0 om (by rw [ip,jz,ip]; omega);rw [cD,dn,cD] at a4;have hov:=a2.one;have hcv:=a2.cells;have hov0:=acc.one;have hcv0:=acc.cells;simp only [List.flatMap_cons,List.flatMap_nil,aT.cells,List.append_nil,List.length_cons,List.length_nil,Nat.zero_add] at a1;simp -implicitDefEqProofs (maxSteps:=3000000) (disch:=omega) only [ZS,seval,ZX,DF,f3,f22,f23,f24,h2',n1,hlt,hfl,hk3,au,aV,c1,c2,a1,s2,hov,hcv,aS,dW,eD];subst hL;rw [show l ++ (⟨g,a⟩ :: (xs.drop (i + 1)).filter mc)=(l ++ [⟨g,a⟩]) ++ (xs.drop (i + 1)).filter mc by simp];refine ih (i + 1) _ _ _ v' om (by simp only [List.length_append,List.length_cons,List.length_nil]; omega) ⟨?_,?_,?_,?_,?_,?_,?_,?_,?_,a2.fr ?_ fun j hj _=>?_⟩
   ·rw [jz]; omega
   ·rw [dn]; omega
   ·exact aX f2
   ·exact aX f3
   ·exact aX f22x
   ·exact aX f23
   ·exact aQ
   ·rw [dz,if_neg om]; exact s1
   ·rw [dz,if_pos rfl]; rfl
   ·rw [dn]; exact Nat.le_refl _
   ·rw [dz,if_neg om]
theorem TM {x y:cY}{lv lv':Option (List dw)}{lp lp':Option (List ByteArray)}{lf lf':Option (List aG)}{la la':Option (List b9)}{lt lt':Option (List aT)} (h:BK x lv lp lf la lt) (k:BK y lv' lp' lf' la' lt') (hn:(lt.getD []).length≤16777216)
  (hc:∀s,Pc ext 19 [.agg x.cells] (.agg y.cells) s) (s:PS) :
  Pc ext 6 [.agg x.cells] (.agg (y.subd (aK 46 aT.cells (dx ((lt.getD []).filter mc))) (BM y.opts 64)).cells) s:=by
 have hlp:=KY (ext:=ext) (x:=⟨y.name,y.vars,y.params,y.funcs,y.aliases,y.traps,BM y.opts 64,y.stat,y.pid,y.last,y.cwd,y.gi,y.go,y.lev,y.talks⟩) (lv:=lv') (lp:=lp') (lf:=lf') (la:=la') (lt:=lt') ⟨k.v,k.p,k.f,k.a,k.t⟩ (y0:=lt) rfl hn (n0:=s.n);have ln:=bE (e:=46) (c:=aT.cells) lt;obtain⟨hv,hp,hf,ha,ht⟩:=h;obtain⟨kv,kp,kf,ka,kt⟩:=k;obtain⟨nm,vs,ps,fs,als,ts,o,st,pi,l2,cw,gi,go,le,tk⟩:=x;obtain⟨nm',vs',ps',fs',als',ts',o',st',pi',l2',cw',gi',go',le',tk'⟩:=y;simp only at hv hp hf ha ht kv kp kf ka kt;subst hv hp hf ha ht kv kp kf ka kt;simp only [cY.cells] at hc;simp only at hlp;have z0:decide ((0:Int) < 0)=false:=rfl;refine qC (s.n + 1) p6 2 15 ?_;unfold p6;simp only [cY.cells];have on:cL (.sc (.slice none 0 0))=true:=rfl;have e02:(s.n=s.n + 1 + 1)=False:=eq_false om;have e12:(s.n + 1=s.n + 1 + 1)=False:=eq_false om;have e20:(s.n + 1 + 1=s.n)=False:=eq_false om;have e21:(s.n + 1 + 1=s.n + 1)=False:=eq_false om;have hh:=fun f S h=>hlp (lt.getD []).length 0 f S [] (.sc (.slice none 0 0)) (Nat.zero_add _) (Nat.zero_le _) h;simp only [List.drop_zero,List.nil_append,cY.subd,cY.cells] at hh ⊢;cases c1:decide (le' < 9223372036854775807) with
 | true=>
  simp -implicitDefEqProofs (maxSteps:=3000000) (disch:=omega) only [ZS,seval,ZX,hc,c1,KB,ln,on,e02,aS,dW,eD,eT,dr];refine hh _ _ ⟨?_,?_,?_,?_,?_,?_,?_,?_,?_,gL.nil ..⟩
  ·exact aQ
  ·exact aQ
  ·exact aQ
  ·exact aQ
  ·exact aQ
  ·exact aQ
  ·exact aQ
  ·exact l9 @Am.eq_1 e12
  ·unfold cY.subd OF;rw [c1];exact aX @cY.cells.eq_1
 | false=>
  simp -implicitDefEqProofs (maxSteps:=3000000) (disch:=omega) only [ZS,seval,ZX,hc,c1,KB,ln,on,e02,aS,dW,eD,eT,dr];refine hh _ _ ⟨?_,?_,?_,?_,?_,?_,?_,?_,?_,gL.nil ..⟩
  ·exact aQ
  ·exact aQ
  ·exact aQ
  ·exact aQ
  ·exact aQ
  ·exact aQ
  ·exact aQ
  ·exact l9 @Am.eq_1 e12
  ·unfold cY.subd OF;rw [c1];exact aX @cY.cells.eq_1
theorem DJ {D d:Nat}{x:cY}{lv:Option (List dw)}{lp:Option (List ByteArray)}{lf:Option (List aG)}{la:Option (List b9)}{lt:Option (List aT)} (h:iq D d x lv lp lf la lt) (hb:aM x.cells≤16777216) :
  ∃(zv zp zf za:Int) (path:Bool),∀(y:cY) lv' lp' lf' la' lt' (zt:Int),BK y lv' lp' lf' la' lt'→lv'.getD []=lv.getD []→lp'.getD []=lp.getD []→(lf'.getD []).map (fun f=>(f.name,fE ext f))=(lf.getD []).map (fun f=>(f.name,fE ext f))→(∀f∈lf'.getD [],mL ext f)→la'.getD []=la.getD []→(∀s,Pc ext 27 [aK 46 aT.cells lt'] (.sc (.int .i64 zt)) s)→y.cwd=x.cwd→
   ∀s,Pc ext 9 [.agg y.cells] (.sc (.int .i64 (DV y.name zv zp zf za zt (wO y.opts y.stat y.pid y.last path y.gi y.go y.lev)))) s:=by
 have hm:∀p∈x.cells,p.bulk≤16777216:=fun p hp=>Nat.le_trans (ga hp) hb;obtain⟨zv,hv⟩:=Rr (ext:=ext) (lv.getD []) (by have:=h.nv; omega) fun y hy=>by
  have:=zi h.v hy (b:=y.name) (by simp [dw.cells]) (hm _ (by simp [cY.cells]));omega
 obtain⟨zp,hp⟩:=Jm (ext:=ext) (lp.getD []) (by have:=h.np; omega);obtain⟨zf,hf⟩:=AP (ext:=ext) ((lf.getD []).map fun f=>(f.name,fE ext f)) (by rw [List.length_map]; have:=h.nf; omega);obtain⟨za,ha⟩:=Ga (ext:=ext) (la.getD []) (by have:=h.na; omega) fun y hy=>by
  have:=zi h.a hy (b:=y.name) (by simp [b9.cells]) (hm _ (by simp [cY.cells]));omega
 obtain⟨path,hpa⟩:=JA (ext:=ext) (b:=x.cwd) (by have:=h.cwd; omega);refine⟨zv,zp,zf,za,path,fun y lv' lp' lf' la' lt' zt k e1 e2 e3 e4 e5 e6 e7 s=>?_⟩;rw [← e7] at hpa;refine Sc (fun s=>?_) (fun s=>?_) (fun s=>?_) (fun s=>?_) (fun s=>?_) (fun s=>Gc hpa s) ?_ ?_ ?_ ?_ ?_ s
 ·rw [k.v]; exact hv _ e1 s
 ·rw [k.p]; exact hp _ e2 s
 ·rw [k.f]; exact hf _ e3 e4 s
 ·rw [k.a]; exact ha _ e5 s
 ·rw [k.t]; exact e6 s
 ·rw [k.v]; exact cu _
 ·rw [k.p]; exact cu _
 ·rw [k.f]; exact cu _
 ·rw [k.a]; exact cu _
 ·rw [k.t]; exact cu _
theorem KP {o st pi la gi go le:Int}{path:Bool} (h:wO o st pi la path gi go le=0) {o' le':Int} (h1 : 0≤o') (h2:o'≤255) (h3 : 0≤le→0≤le'):wO o' st pi la path gi go le'=0:=by
 obtain⟨a1,a2⟩:=Bj h;unfold wO at h ⊢;rw [decide_eq_false (show ¬ o < 0 by omega),decide_eq_false (show ¬ o > 255 by omega)] at h;rw [decide_eq_false (show ¬ o' < 0 by omega),decide_eq_false (show ¬ o' > 255 by omega)];by_cases hl:le < 0
 ·exfalso;rw [decide_eq_true hl] at h;simp only [Bool.or_false,Bool.false_eq_true,if_false,Bool.or_true,if_true] at h
  repeat' (split at h)
  all_goals first | cases h | (rename_i h; cases h)
 ·rw [decide_eq_false hl] at h;rw [decide_eq_false (show ¬ le' < 0 by have:=h3 om; omega)];exact h
theorem D4 {le:Int} (h : 0≤le) : 0≤OF le:=by
 unfold OF;by_cases hl:le < 9223372036854775807
 ·rw [decide_eq_true hl,if_pos rfl,xe om om]; omega
 ·rw [decide_eq_false hl,if_neg (by simp)]; exact h
theorem Ez {D d:Nat}{x:cY}{lv:Option (List dw)}{lp:Option (List ByteArray)}{lf:Option (List aG)}{la:Option (List b9)}{lt:Option (List aT)} (h:iq D d x lv lp lf la lt) (q:aT→Bool) (o:Int):iq D d (x.subd (aK 46 aT.cells (dx ((lt.getD []).filter q))) o) lv lp lf la (dx ((lt.getD []).filter q)):=
 ⟨h.v,h.p,h.f,h.a,rfl,h.nv,h.np,h.nf,h.na,by rw [bV]; exact Nat.le_trans (List.length_filter_le ..) h.nt,h.node,h.name,h.cwd⟩
theorem He {D d:Nat}{x:cY}{lv:Option (List dw)}{lp:Option (List ByteArray)}{lf:Option (List aG)}{la:Option (List b9)}{lt:Option (List aT)} (h:iq D d x lv lp lf la lt) (hb:aM x.cells≤16777216) :
  ∃z:Int,(∀s,Pc ext 9 [.agg x.cells] (.sc (.int .i64 z)) s)∧(z=0→∃(a b:cY) (lv':Option (List dw)) (lp':Option (List ByteArray)) (lf':Option (List aG)) (la':Option (List b9)) (lt':Option (List aT)),BK a lv' lp' lf' la' lt'∧TO b∧
   (∀s,Pc ext 6 [.agg x.cells] (.agg a.cells) s)∧(∀s,Pc ext 8 [.agg x.cells] (.agg b.cells) s)∧(∀s,Pc ext 7 [.agg a.cells,.agg b.cells] (.sc (.bool true)) s)∧
   (∀s,Pc ext 9 [.agg a.cells] (.sc (.int .i64 0)) s)∧(∀s,Pc ext 10 [aK 43 dw.cells lv',aK 43 dw.cells lv] (.sc (.bool true)) s)∧(∀s,Pc ext 11 [aK 9 fj lp',aK 9 fj lp] (.sc (.bool true)) s)∧
   (lf'.getD []).length=(lf.getD []).length∧(∀s,Pc ext 12 [aK 58 b9.cells la',aK 58 b9.cells la] (.sc (.bool true)) s)):=by
 obtain⟨zv,zp,zf,za,path,hz⟩:=DJ (ext:=ext) h hb;obtain⟨zt,ht0,ht1⟩:=Bz (ext:=ext) (lt.getD []) (by have:=h.nt; omega);have hz0:=hz x lv lp lf la lt zt h.s rfl rfl rfl (L8 h hb) rfl (ht1 lt rfl) rfl;refine⟨_,hz0,fun hzero=>?_⟩;obtain⟨v1,v2,v3,v4,v5,v6,v7⟩:=HC hzero;obtain⟨o0,o1⟩:=Bj v6;obtain⟨m1,m2,m3⟩:=Nf o0 o1;obtain⟨lf',hl,hcopy⟩:=Pp (ext:=ext) h;have hl2:=Gt h.f hl;have hA:=Lg h hl2;obtain⟨hfe,hfo⟩:=Nu (ext:=ext) h hb hl2;have hnt:(lt.getD []).length≤16777216:=by have:=h.nt; omega
 have hp:=fun s=>TM (ext:=ext) h.s hA.s hnt hcopy s;have hr:=fun s=>Um (ext:=ext) h.s hnt s;rw [show UB x.opts=BM x.opts 64 from m1] at hr;have hSx:=Ez h mc (BM x.opts 64);have hSa:=Ez hA mc (BM x.opts 64);rw [bV] at hSa;obtain⟨zt',ht0',ht1'⟩:=Bz (ext:=ext) ((lt.getD []).filter mc) (Nat.lt_of_le_of_lt (List.length_filter_le ..) (by have:=h.nt; omega));have hzt':zt'=0:=ht0'.2 (ww (ht0.1 v5));subst hzt';refine⟨_,_,_,_,_,_,_,hSa.s,⟨_,_,_,_,_,hSx.s⟩,hp,hr,?_,fun s=>?_,fun s=>?_,fun s=>?_,hl2.len,fun s=>?_⟩
 ·exact La hSa hSx rfl (bV _) (bV _) (KD hl2) (bV _) rfl rfl rfl rfl rfl rfl rfl rfl rfl rfl
 ·rw [Pc,hz _ _ _ _ _ _ _ hSa.s (bV _) (bV _) hfe hfo (bV _) (ht1' _ (bV _)) rfl s];have hn:wO (BM x.opts 64) x.stat x.pid x.last path x.gi x.go (OF x.lev)=0:=KP v6 m2 m3 D4;have hv:DV x.name zv zp zf za 0 (wO (BM x.opts 64) x.stat x.pid x.last path x.gi x.go (OF x.lev))=0:=by
   rw [hn]; unfold DV; rw [v1,v2,v3,v4,v7]; rfl
  exact congrArg (fun q=>some (PV.sc (.int .i64 q),s)) hv
 ·rw [Pc,qb (ext:=ext) VL (la:=dx (lv.getD [])) (lb:=lv) (CJ _ _) (by rw [bV]; have:=h.nv; omega) (by have:=h.nv; omega) s,bV,iO (q:=DX) (fun a _=>by unfold DX; simp [g9])]
 ·rw [Pc,qb (ext:=ext) VS (la:=dx (lp.getD [])) (lb:=lp) (Cq _ _) (by rw [bV]; have:=h.np; omega) (by have:=h.np; omega) s,bV,iO (q:=kh) (fun a _=>g9 a)]
 ·rw [Pc,qb (ext:=ext) W1 (la:=dx (la.getD [])) (lb:=la) (uF _ _) (by rw [bV]; have:=h.na; omega) (by have:=h.na; omega) s,bV,iO (q:=qI) (fun a _=>by unfold qI; simp [g9])]
theorem V9:ei Γ 8=true:=(rfl)
theorem O5 {D d:Nat}{x:cY}{lv:Option (List dw)}{lp:Option (List ByteArray)}{lf:Option (List aG)}{la:Option (List b9)}{lt:Option (List aT)} (h:iq D d x lv lp lf la lt) (hb:aM x.cells≤16777216) (s:PS) :
  aD Tryz.prog Γ (B5 5) 3 [.agg x.cells] s=some (.sc (.bool true),s):=by
 obtain⟨bs,hbs⟩:=Classical.axiomOfChoice fun s=>Mc (ext:=B5 5) h s;obtain⟨z,hz0,hfacts⟩:=He (ext:=B5 5) h hb;obtain⟨cf,hcf⟩:=Classical.axiomOfChoice fun s=>RO hbs hz0 s;have hw:=U2;obtain⟨hxv,hxp,hxf,hxa,hxt⟩:=h.s;clear h hb hbs hz0;refine mq p3 2 ?_;unfold p3;obtain⟨nm,vs,ps,fs,als,ts,o,st,pi,la',cw,gi,go,le,tk⟩:=x;simp only at hxv hxp hxf hxa hxt;subst hxv hxp hxf hxa hxt;simp only [cY.cells] at hcf ⊢;generalize hs1:((⟨s.h,s.n,s.n⟩ : PS).new ⟨[.sc (.string nm),aK 43 dw.cells lv,aK 9 fj lp,aK 71 aG.cells lf,aK 58 b9.cells la,aK 46 aT.cells lt,.sc (.int .i64 o),.sc (.int .i64 st),.sc (.int .i64 pi),.sc (.int .i64 la'),.sc (.string cw),.sc (.int .i64 gi),.sc (.int .i64 go),.sc (.int .i64 le),.sc (.bool tk)],0,30⟩)=s1;have q1:s1.h s.n=⟨[.sc (.string nm),aK 43 dw.cells lv,aK 9 fj lp,aK 71 aG.cells lf,aK 58 b9.cells la,aK 46 aT.cells lt,.sc (.int .i64 o),.sc (.int .i64 st),.sc (.int .i64 pi),.sc (.int .i64 la'),.sc (.string cw),.sc (.int .i64 gi),.sc (.int .i64 go),.sc (.int .i64 le),.sc (.bool tk)],0,30⟩:=by
  rw [← hs1];exact if_pos rfl
 have q2:s.n≤s1.w:=by rw [← hs1]; exact Nat.le_refl _
 have q3:s1.n=s.n + 1:=by rw [← hs1]; rfl
 have hf1:=hcf s1;cases c1:(cf s1 && (z == 0)) with
 | false=>
  rw [c1] at hf1;refine xz hs1 q1 hf1 hw ?_;exact q2
 | true=>
 rw [c1] at hf1;have hz:z=0:=by simp at c1; exact c1.2
 obtain⟨a,b,va,pa,fa,aa,ta,ka,⟨vb,pb,fb,ab,tb,kb⟩,h1,h2,h3,h4,h5,h6,h7,h8⟩:=hfacts hz;clear hfacts hcf;obtain⟨anm,avs,aps,afs,aals,ats,ao,ast,api,ala,acw,agi,ago,ale,atk⟩:=a;obtain⟨bnm,bvs,bps,bfs,bals,bts,bo,bst,bpi,bla,bcw,bgi,bgo,ble,btk⟩:=b;obtain⟨k1,k2,k3,k4,k5⟩:=ka;obtain⟨l1,l2,l3,l4,l5⟩:=kb;simp only at k1 k2 k3 k4 k5 l1 l2 l3 l4 l5;subst k1 k2 k3 k4 k5 l1 l2 l3 l4 l5;simp only [cY.cells] at h1 h2 h3 h4;have z0:((0:Int) != 0)=false:=rfl;have n1:=bE (e:=71) (c:=aG.cells) fa;have n2:=bE (e:=71) (c:=aG.cells) lf;rw [h7] at n1;simp -implicitDefEqProofs (maxSteps:=3000000) (disch:=first | omega | (unfold cO bZ; simp<;>omega)) only [ZS,seval,ZT,ZX,hs1,q1,q3,hf1,hw,h1,h2,h3,h4,h5,h6,h8,n1,n2,V0,V9,UC,aS,dW,eD,eT,dr];omega
end Go.Proofs.YtgkggocjoolciaaGreatDoor
