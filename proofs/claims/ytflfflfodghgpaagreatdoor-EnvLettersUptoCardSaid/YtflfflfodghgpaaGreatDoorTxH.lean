/- What functions of the program and of the reference compute, on values. No statement is proved here. -/
import Derived.Test.YtflfflfodghgpaaGreatDoorTxG
set_option linter.unusedSimpArgs false
set_option linter.unusedVariables false
set_option linter.unusedSimpArgs false
namespace Go.Proofs.YtflfflfodghgpaaGreatDoor
open Go Go.EvL Go.PE Go.Mir
variable {ext:ai}
theorem BG {α:Type}{e:Nat}{c:α→List PV}{a:PV}{l:Option (List α)} (ha:a=b9 e c l) {x:α} (hx:x∈l.getD []) {b:ByteArray} (hp : .sc (.string b)∈c x) {N:Nat} (hb:a.bulk≤N):b.data.toList.length≤N:=by
 have h1:=(fb ha hx hp hb).1;exact Cd (by rw [db,dk]; exact h1)
theorem sM.s {D d:Nat}{x:eu}{lv:Option (List fu)}{lp:Option (List ByteArray)}{lf:Option (List bD)}{la:Option (List cj)}{lt:Option (List ei)} (h:sM D d x lv lp lf la lt):J1 x lv lp lf la lt:=⟨h.v,h.p,h.f,h.a,h.t⟩
theorem MW {D d:Nat}{x:eu}{lv:Option (List fu)}{lp:Option (List ByteArray)}{lf:Option (List bD)}{la:Option (List cj)}{lt:Option (List ei)} (h:sM D d x lv lp lf la lt) (hb:bj x.cells≤16777216):∀f∈lf.getD [],mD ext f:=fun f hf=>
 Rf (by
  have h1:x.funcs.bulk≤16777216:=Nat.le_trans (iz (by simp [eu.cells])) hb;have:=BG h.f hf (b:=f.name) (by simp [bD.cells]) h1;omega) fun s=>Ml (h.node f hf).1 (h.node f hf).2 s
theorem Gn {D d:Nat}{x:eu}{lv:Option (List fu)}{lp:Option (List ByteArray)}{lf:Option (List bD)}{la:Option (List cj)}{lt:Option (List ei)} (h:sM D d x lv lp lf la lt) (hb:bj x.cells≤16777216) :
  ∃(zv zp zf za zt:Int) (path:Bool),∀(y:eu) lv' lp' lf' la' lt',J1 y lv' lp' lf' la' lt'→lv'.getD []=lv.getD []→lp'.getD []=lp.getD []→(lf'.getD []).map (fun f=>(f.name,fE ext f))=(lf.getD []).map (fun f=>(f.name,fE ext f))→(∀f∈lf'.getD [],mD ext f)→la'.getD []=la.getD []→lt'.getD []=lt.getD []→y.cwd=x.cwd→
   ∀s,Pc ext 36 [.agg y.cells] (.sc (.int .i64 (Dm y.name zv zp zf za zt (D3 y.opts y.stat y.pid y.last path y.gi y.go y.lev)))) s:=by
 have hm:∀p∈x.cells,p.bulk≤16777216:=fun p hp=>Nat.le_trans (iz hp) hb;obtain⟨zv,hv⟩:=PX (ext:=ext) (lv.getD []) (by have:=h.nv; omega) fun y hy=>by
  have:=BG h.v hy (b:=y.name) (by simp [fu.cells]) (hm _ (by simp [eu.cells]));omega
 obtain⟨zp,hp⟩:=I5 (ext:=ext) (lp.getD []) (by have:=h.np; omega);obtain⟨zf,hf⟩:=Aa (ext:=ext) ((lf.getD []).map fun f=>(f.name,fE ext f)) (by rw [List.length_map]; have:=h.nf; omega);obtain⟨za,ha⟩:=Gu (ext:=ext) (la.getD []) (by have:=h.na; omega) fun y hy=>by
  have:=BG h.a hy (b:=y.name) (by simp [cj.cells]) (hm _ (by simp [eu.cells]));omega
 obtain⟨zt,ht⟩:=MQ (ext:=ext) (lt.getD []) (by have:=h.nt; omega);obtain⟨path,hpa⟩:=Kb (ext:=ext) (b:=x.cwd) (by have:=h.cwd; omega);refine⟨zv,zp,zf,za,zt,path,fun y lv' lp' lf' la' lt' k e1 e2 e3 e4 e5 e6 e7 s=>?_⟩;rw [← e7] at hpa;refine S3 (fun s=>?_) (fun s=>?_) (fun s=>?_) (fun s=>?_) (fun s=>?_) (fun s=>H3 hpa s) ?_ ?_ ?_ ?_ ?_ s
 ·rw [k.v]; exact hv _ e1 s
 ·rw [k.p]; exact hp _ e2 s
 ·rw [k.f]; exact hf _ e3 e4 s
 ·rw [k.a]; exact ha _ e5 s
 ·rw [k.t]; exact ht _ e6 s
 ·rw [k.v]; exact dE _
 ·rw [k.p]; exact dE _
 ·rw [k.f]; exact dE _
 ·rw [k.a]; exact dE _
 ·rw [k.t]; exact dE _
theorem JM {o st pi la gi go le:Int}{path:Bool} (h:D3 o st pi la path gi go le=0) : 0≤o∧o≤255:=by
 unfold D3 at h;by_cases h1:o < 0
 ·rw [if_pos (by simp [h1])] at h; cases h
 ·by_cases h2:o > 255
  ·rw [if_pos (by simp [h2])] at h; cases h
  ·omega
theorem JB {nm:ByteArray}{zv zp zf za zt zn:Int} (h:Dm nm zv zp zf za zt zn=0):zv=0∧zp=0∧zf=0∧za=0∧zt=0∧zn=0∧decide (4096 < nm.data.toList.length)=false:=by
 unfold Dm at h;cases c0:decide (4096 < nm.data.toList.length) with
 | true=>rw [c0] at h; cases h
 | false=>
  rw [c0] at h;simp only [Bool.false_eq_true,if_false] at h;by_cases h1:zv=0
  ·by_cases h2:zp=0
   ·by_cases h3:zf=0
    ·by_cases h4:za=0
     ·by_cases h5:zt=0
      ·simp [h1,h2,h3,h4,h5] at h;exact⟨h1,h2,h3,h4,h5,h,rfl⟩
      ·simp [h1,h2,h3,h4,h5] at h
     ·simp [h1,h2,h3,h4] at h
    ·simp [h1,h2,h3] at h
   ·simp [h1,h2] at h
  ·simp [h1] at h
theorem TD:ez Γ 47=true:=(rfl)
theorem KH {D d:Nat}{x:eu}{lv:Option (List fu)}{lp:Option (List ByteArray)}{lf:Option (List bD)}{la:Option (List cj)}{lt:Option (List ei)} (h:sM D d x lv lp lf la lt) (hb:bj x.cells≤16777216) {L:ByteArray}{on:Bool} (s:PS) :
  Pc (pP 32) 11 [.agg x.cells,.sc (.string L),.sc (.bool on)] (.sc (.bool true)) s:=by
 obtain⟨bs,hbs⟩:=Classical.axiomOfChoice fun s=>NA (ext:=pP 32) h s;obtain⟨zv,zp,zf,za,zt,path,hz⟩:=Gn (ext:=pP 32) h hb;have hz0:=hz x lv lp lf la lt h.s rfl rfl rfl (MW h hb) rfl rfl rfl;obtain⟨cf,hcf⟩:=Classical.axiomOfChoice fun s=>QI hbs hz0 s;obtain⟨lf',hl,hcopy⟩:=Ot (ext:=pP 32) h;have hop:=fun s=>Ie (ext:=pP 32) h.s (⟨rfl,rfl,rfl,rfl,rfl⟩ : J1 (x.copy lv lp (b9 121 bD.cells lf') la lt) _ _ _ _ _) (b:=L) (on:=on) hcopy s;have hop0:oN L.data.toList=0→∀s,Pc (pP 32) 45 [.agg x.cells,.sc (.string L),.sc (.bool on)] (.tup [.agg x.cells,.sc (.int .i64 1)]) s:=fun h s=>by
  have:=hop s;rw [h] at this;exact this
 have hop1:oN L.data.toList≠0→∀s,Pc (pP 32) 45 [.agg x.cells,.sc (.string L),.sc (.bool on)] (.tup [.agg ((x.copy lv lp (b9 121 bD.cells lf') la lt).withO (lS x.opts (oN L.data.toList) on)).cells,.sc (.int .i64 0)]) s:=fun h s=>by
  have:=hop s;rw [if_neg (by simpa using h),if_neg (by simpa using h)] at this;exact this
 clear hop;have hw:=Kk;have hfl:=fun s=>Eu (ext:=pP 32) (x:=x) s;have hfl2:=fun s=>Eu (ext:=pP 32) (x:=(x.copy lv lp (b9 121 bD.cells lf') la lt).withO (lS x.opts (oN L.data.toList) on)) s;have hvz:Dm x.name zv zp zf za zt (D3 x.opts x.stat x.pid x.last path x.gi x.go x.lev)=0→0≤x.opts∧x.opts≤255:=fun hz=>JM (JB hz).2.2.2.2.2.1;generalize Dm x.name zv zp zf za zt (D3 x.opts x.stat x.pid x.last path x.gi x.go x.lev)=z at *;obtain⟨hxv,hxp,hxf,hxa,hxt⟩:=h.s;clear h hz hb hl hcopy hbs hz0;refine mu fk 6 ?_;unfold fk;simp only [eu.copy,eu.withO] at hop1 hfl2;obtain⟨nm,vs,ps,fs,als,ts,o,st,pi,la',cw,gi,go,le,tk⟩:=x;simp only at hxv hxp hxf hxa hxt;subst hxv hxp hxf hxa hxt;simp only [eu.cells] at hcf hfl hop0 hop1 hfl2 ⊢;simp only at hvz hop1 hfl2;generalize hs1:((⟨s.h,s.n,s.n⟩ : PS).new ⟨[.sc (.string nm),b9 99 fu.cells lv,b9 9 gx lp,b9 121 bD.cells lf,b9 123 cj.cells la,b9 101 ei.cells lt,.sc (.int .i64 o),.sc (.int .i64 st),.sc (.int .i64 pi),.sc (.int .i64 la'),.sc (.string cw),.sc (.int .i64 gi),.sc (.int .i64 go),.sc (.int .i64 le),.sc (.bool tk)],0,56⟩)=s1;have q1:s1.h s.n=⟨[.sc (.string nm),b9 99 fu.cells lv,b9 9 gx lp,b9 121 bD.cells lf,b9 123 cj.cells la,b9 101 ei.cells lt,.sc (.int .i64 o),.sc (.int .i64 st),.sc (.int .i64 pi),.sc (.int .i64 la'),.sc (.string cw),.sc (.int .i64 gi),.sc (.int .i64 go),.sc (.int .i64 le),.sc (.bool tk)],0,56⟩:=by
  rw [← hs1];exact if_pos rfl
 have q2:s.n≤s1.w:=by rw [← hs1]; exact Nat.le_refl _
 have q3:s1.n=s.n + 1:=by rw [← hs1]; rfl
 have hf1:=hcf s1;cases c1:(cf s1 && (z == 0)) with
 | false=>
  rw [c1] at hf1;refine BD hs1 q1 hf1 hw @dW @du ?_;exact q2
 | true=>
 rw [c1] at hf1;obtain⟨o0,o1⟩:=hvz (by simp at c1; exact c1.2);cases c2:decide (L.data.toList.length=1) with
 | false=>
  have c3:(L.data.toList.length == 1)=false:=by rw [← c2]; rfl
  refine Ci hs1 q1 hf1 hw c3 @dW @du ?_;exact q2
 | true=>
 have c3:(L.data.toList.length == 1)=true:=by rw [← c2]; rfl
 rcases Mf L.data.toList with ⟨b0,_⟩ | ⟨q,qm,bq,b0,b1⟩
 ·have hop:=hop0 b0;clear hop0 hop1 hfl2;have z1:((1:Int) != 0)=true:=rfl;have z2:((1:Int) == 1)=true:=rfl;simp -implicitDefEqProofs (maxSteps:=3000000) (disch:=omega) only [ZS,seval,ZX,hs1,q1,q3,hf1,hw,c3,hop,z1,z2,aR,fx,fC,eG,dH,dW,du];exact Nat.le_min.2 ⟨q2,Nat.le_succ _⟩
 ·have hop:=hop1 b1;clear hop0 hop1;have z1:((0:Int) != 0)=false:=rfl;simp -implicitDefEqProofs (maxSteps:=3000000) (disch:=first | omega | (unfold cH bM; simp<;>omega)) only [ZS,seval,ZT,ZX,hs1,q1,q3,hf1,hw,c3,hop,z1,hfl,hfl2,TD,iE,aR,fx,fC,eG,dH,dW,du];have hL1:L.data.toList.length=1:=by simpa using c2
  refine Mh (S:=iu o er) (T:=iu (lS o (oN L.data.toList) on) er) (L:=L.data.toList) (on:=on) hL1 (yC o er) rfl (fun i hi=>?_) ?_ 8 0 _ om ⟨bh,bh,bh,bh,bh,bh,bh⟩
  ·obtain⟨_,_,_,t4,t5⟩:=C0 i hi;have h5:=(Ql o0 o1 qm on).2.2.2.2 _ t4;have h6:=EI o er _ t4 Jg;have h7:=GO _ t4 _ qm;rw [b0,h5,bq];have e1:bt mC i=(er.getD i (0,0)).1.toNat:=by unfold bt; rw [t5]
   have e2:bt [q.1] 0=q.1.toNat:=rfl;rw [e1,e2];generalize er.getD i (0,0)=r at *;have e3:(r.1.toNat == q.1.toNat)=(r.1 == q.1):=by rw [Bool.eq_iff_iff]; simp [UInt8.toNat_inj]
   rw [e3,← h7];have e4:((iu o er).any fun b=>b.toNat == r.1.toNat)=pJ o r.2:=by
    rw [← h6];congr 1;funext b;rw [Bool.eq_iff_iff]; simp [UInt8.toNat_inj]
   rw [e4];by_cases h8:r.2=q.2
   ·rw [if_pos h8,if_pos (by simpa using h8)]
   ·rw [if_neg h8,if_neg (by simpa using h8)]
  ·exact Nat.le_min.2 ⟨q2,Nat.le_succ _⟩
end Go.Proofs.YtflfflfodghgpaaGreatDoor
