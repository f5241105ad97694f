/- An evaluator for closed calls, and its soundness. No statement is proved here. -/
import Derived.Test.YtgkggocjoolciaaGreatDoorEvB
import Derived.Deep.Upon
import Derived.LoopN
import Derived.Recover
set_option linter.unusedSimpArgs false
set_option linter.unusedVariables false
set_option linter.defProp false
namespace Go.EvL
open Go
section
variable {P:Program}{f:Fr}{A A':AS}{nx:dX}{d:Option Tmp}{ty:TypeId}{pos:String}{af:Array Edge}{gd:Option (Nat × Bool)}
theorem CU {φ:dI}{a:Act} (hf:fe φ f a) {args:Array Operand}{i:Nat}{v:Value} (h:(args.toList[i]?).bind f.eval=some v):∃v',(args.map a.eval)[i]?=some v'∧eR φ v v':=by
 cases hx:args.toList[i]? with
 | none=>rw [hx] at h; cases h
 | some x=>
  rw [hx] at h;refine⟨a.eval x,?_,hf.eval h⟩;rw [Array.getElem?_map,show args[i]?=some x by simpa using hx];rfl
theorem Dc {tys:Array TypeId}{i:Nat}{dd:TypeDesc} (h:(tys.toList[i]?).bind P.underlying=some dd):∃t,tys[i]?=some t∧P.underlying t=some dd:=by
 cases hx:tys.toList[i]? with
 | none=>rw [hx] at h; cases h
 | some x=>rw [hx] at h; exact⟨x,by simpa using hx,h⟩
theorem Gb (hi:cT A) (args:Array Operand) (tys:Array TypeId) (h:CX P f ⟨d,.call ⟨.builtin .len,args,tys⟩,ty,pos,af,gd⟩ ((tys.toList[0]?).bind P.underlying) ((args.toList[0]?).bind f.eval) A=some (nx,A')) :
  dp P f A ⟨d,.call ⟨.builtin .len,args,tys⟩,ty,pos,af,gd⟩ nx A':=by
 unfold CX at h;split at h
 ·rename_i e a0 n c ht hx;injection h with h;injection h with h1 h2;subst h1;subst h2;refine bB hi fun φ w a hf=>?_;obtain⟨v',g1,g2⟩:=CU hf hx;obtain⟨t,g3,g4⟩:=Dc ht;have e:(execOp a.eval ⟨d,.call ⟨.builtin .len,args,tys⟩,ty,pos,af,gd⟩).run P w=.ok (.value (.int .i64 (n:Int))) w:=by
   refine ez ?_;cases g2 with
   | slice=>simp only [Builtin.len_,g3,g1,Sem.run_bind,run_underlying g4,Result.andThen]; rfl
   | nilSlice=>simp only [Builtin.len_,g3,g1,Sem.run_bind,run_underlying g4,Result.andThen]; rfl
   | sliceX=>simp only [Builtin.len_,g3,g1,Sem.run_bind,run_underlying g4,Result.andThen]; rfl
  rw [e];exact .val _ _ (.int _ _)
 ·rename_i b ht hx;rw [ci] at h;injection h with h;injection h with h1 h2;subst h1;subst h2;refine bB hi fun φ w a hf=>?_;obtain⟨v',g1,g2⟩:=CU hf hx;obtain⟨t,g3,g4⟩:=Dc ht;have e:(execOp a.eval ⟨d,.call ⟨.builtin .len,args,tys⟩,ty,pos,af,gd⟩).run P w=.ok (.value (.int .i64 (b.data.toList.length:Int))) w:=by
   refine ez ?_;cases g2;simp only [Builtin.len_,g3,g1,Sem.run_bind,run_underlying g4,Result.andThen];rw [Array.length_toList];rfl
  rw [e];exact .val _ _ (.int _ _)
 ·rename_i kt et b ht hx;unfold yO at h;split at h
  ·rename_i es clk hb;rw [ci] at h;injection h with h;injection h with h1 h2;subst h1;subst h2;have hl:=(hi.lt _ _ hb).1;refine⟨iZ hi hl,fun φ T w a hf hr hT _=>⟨φ,w,by rw [aH]; exact .refl hr rfl rfl rfl rfl rfl rfl rfl,?_⟩⟩;have hTb:T b:=hT b hl (.inl (by rw [aH,dC]; simp));obtain⟨i,q,e1,e2,e3⟩:=hr.obj b _ hb rfl hTb;obtain⟨v',g1,g2⟩:=CU hf hx;obtain⟨t,g3,g4⟩:=Dc ht;cases e3 with
   | map _ _ es' hc he=>
    cases g2 with
    | map _ j hj=>
     rw [e1] at hj;injection hj with hj;subst hj;have hlen:es'.size=es.length:=by
      have:∀{l l':List MapEntry},rZ φ l l'→l'.length=l.length:=fun h=>by
       induction h with
       | nil=>rfl
       | cons _ _ _ _ _ _ _ _ _ ih=>rw [List.length_cons,List.length_cons,ih]
      rw [← Array.length_toList,this he]
     have e:(execOp a.eval ⟨d,.call ⟨.builtin .len,args,tys⟩,ty,pos,af,gd⟩).run P w=.ok (.value (.int .i64 (es.length:Int))) w:=by
      refine ez ?_;simp [Builtin.len_,g3,g1,Sem.run_bind,run_underlying g4,MapKept.run_getObj_map e2,Result.andThen,hlen,goInt]
     rw [e];exact .val _ _ (.int _ _)
  ·cases h
 ·exact fk hi _ (by intro _ _ hh; cases hh) h
structure zE (P:Program):Prop where
 num:∀(g:Nat) (fn:Func),P.funcs[g]?=some fn→(fn.name == "runtime.NumGoroutine")=false
 noesc:∀(g:Nat) (fn:Func),P.funcs[g]?=some fn→fn.body=none→(fn.name == "internal/abi.NoEscape")=true→∀v w,(callFunc g #[v]).run P w=.ok (.value v) w
theorem xO (hP:zE P) {g:FuncId}{fn:Func}{c:Code} (hfn:P.funcs[g]?=some fn) (hc:fn.body=some c) (args:Array Value) (w:World):(callFunc g args).run P w=.ok (.enter g args) w:=by
 simp only [callFunc,Sem.run_bind,run_program,Result.andThen,hfn,hP.num _ _ hfn,hc];simp
theorem AI (hP:zE P) (hi:cT A) {g:FuncId}{vs:List Value}{o:Oper} (h:v8 P g vs A=some (nx,A')) (hrun:∀(φ:dI) (w:World) (a:Act),fe φ f a→∃vs',bu φ vs vs'∧(execOp a.eval o).run P w=(callFunc g vs'.toArray).run P w):dp P f A o nx A':=by
 unfold v8 at h;split at h
 ·cases h
 ·rename_i fn hfn;split at h
  ·rename_i c hc;injection h with h;injection h with h1 h2;subst h1;subst h2;refine bB hi fun φ w a hf=>?_;obtain⟨vs',g1,g2⟩:=hrun φ w a hf;rw [g2,xO hP hfn hc];exact .enter _ _ _ g1
  ·rename_i hc;rcases iv h with ⟨hb,h⟩ | ⟨hb,h⟩
   ·obtain⟨hp,h⟩:=aI h;unfold jZ at h;split at h
    ·rename_i v hv;obtain⟨hpv,h⟩:=aI h;injection h with h;injection h with h1 h2;subst h1;subst h2;refine bB hi fun φ w a hf=>?_;obtain⟨vs',g1,g2⟩:=hrun φ w a hf;have:vs'=vs:=zS (ij φ 50) _ _ hp g1;subst this;rw [g2,kq P _ hv w];exact .val _ _ (dN φ _ _ hpv)
    ·cases h
   ·split at h
    ·rename_i v;injection h with h;injection h with h1 h2;subst h1;subst h2;refine bB hi fun φ w a hf=>?_;obtain⟨vs',g1,g2⟩:=hrun φ w a hf;cases g1 with
     | cons _ v' _ l' hv hs=>
      cases hs;rw [g2,hP.noesc _ _ hfn hc hb];exact .val _ _ hv
    ·cases h
theorem tr (hP:zE P) (hi:cT A) (x:Operand) (args:Array Operand) (tys:Array TypeId) (h:Ax P (f.eval x) (qW f args.toList) A=some (nx,A')) :
  dp P f A ⟨d,.call ⟨.value x,args,tys⟩,ty,pos,af,gd⟩ nx A':=by
 unfold Ax at h;split at h
 ·rename_i g first cap as hx has;refine AI hP hi h fun φ w a hf=>?_;have hv:=hf.eval hx;have ha:=sO hf _ has;generalize hq:a.eval x=q at hv;cases hv with
  | func _ _ _ first' cap' h1 h2=>
   refine⟨first'.toList ++ (args.toList.map a.eval ++ cap'.toList),bu.append h1 (bu.append ha h2),?_⟩;have e:(first'.toList ++ (args.toList.map a.eval ++ cap'.toList)).toArray=first' ++ args.map a.eval ++ cap':=by
    apply Array.ext';simp
   rw [e];simp only [execOp,resolve,hq,Deferred.ofValue];rfl
 ·cases h
end
section
variable {P:Program}{f:Fr}{A A' A₁:AS}{nx:dX}{d:Option Tmp}{ty:TypeId}{pos:String}{af:Array Edge}{gd:Option (Nat × Bool)}
structure F9 (P:Program) (A A₁:AS) (e:TypeId) (t:Option TypeDesc) (x:Value) (xs:List Value) (n:Nat):Prop where
 fr:cT A→mR A A₁
 heap:A₁.heap=A.heap
 fz:A₁.fz=A.fz
 next:A₁.next=A.next
 mem:A₁.mem=A.mem
 w:A₁.w=A.w
 nil:n=0→xs=[]
 src:∀(φ:dI) (T:Nat→Prop) (w:World) (x':Value) (tx:TypeId) (i:TypeInfo),cT A→je P φ T A w→jd A A₁ T→eR φ x x'→P.underlying tx=t→P.info? e=some i→xs.length=n * i.size→xs.all nE=true→∃xs',bu φ xs xs'∧Src P i.size tx x' n xs' w
theorem uK {e:TypeId}{t:Option TypeDesc}{x:Value}{xs:List Value}{n:Nat} (h0:n=0→xs=[]) (h:∀(φ:dI) (w:World) (x':Value) (tx:TypeId) (i:TypeInfo),eR φ x x'→P.underlying tx=t→P.info? e=some i→xs.length=n * i.size→xs.all nE=true→∃xs',bu φ xs xs'∧Src P i.size tx x' n xs' w):F9 P A A e t x xs n:=
 ⟨fun h=>.refl h,rfl,rfl,rfl,rfl,rfl,h0,fun φ _ w x' tx i _ _ _=>h φ w x' tx i⟩
theorem ru {e:TypeId}{t:Option TypeDesc}{x:Value}{xs:List Value}{n:Nat} (h:gC P e t A x=some (xs,n,A₁)):F9 P A A₁ e t x xs n:=by
 unfold gC at h;split at h
 ·rename_i b;split at h
  ·rename_i hsz;injection h with h;injection h with h1 h2;injection h2 with h2 h3;subst h1;subst h2;subst h3;refine uK (fun h0=>by have h1:b.data.size=0:=h0; have h2:b.data.toList=[]:=List.eq_nil_of_length_eq_zero (by rw [Array.length_toList]; exact h1); rw [h2]; rfl) fun φ w x' tx i hv ht hi _ _=>?_;cases hv;obtain⟨i',g1,g2,_⟩:=rP hsz;rw [hi] at g1;injection g1 with g1;subst g1;rw [g2];refine⟨byteCells b,?_,Src.ofString w ht b⟩;refine pB (p:=plain 50) (dN φ 50) _ ?_;rw [List.all_map,List.all_eq_true];intro c _;rfl
  ·cases h
 ·injection h with h;injection h with h1 h2;injection h2 with h2 h3;subst h1;subst h2;subst h3;rename_i c e';refine uK (fun _=>rfl) fun φ w x' tx i hv ht hi _ _=>?_;cases hv;exact⟨[],.nil,Src.ofNil w ht _⟩
 ·rename_i b off m c e';split at h
  ·rename_i es hsz;cases m with
   | zero=>
    have h':some (([]:List Value),0,A)=some (xs,n,A₁):=h;injection h' with h';injection h' with h1 h2;injection h2 with h2 h3;subst h1;subst h2;subst h3;refine uK (fun _=>rfl) fun φ w x' tx i hv ht hi _ _=>?_;cases hv with
    | slice _ _ _ _ cap' a' j hφ hl hc ha hr=>exact⟨[],.nil,Src.ofSlice w ht a' 0 cap' [] (by simp) (fun j u hu=>by cases hu) (fun u hu=>by cases hu)⟩
   | succ m=>
    have h':(ld A b off (Nat.mul (m + 1) es)).map (fun (xs,s)=>(xs,m + 1,s))=some (xs,n,A₁):=h;cases hld:ld A b off (Nat.mul (m + 1) es) with
    | none=>rw [hld] at h'; cases h'
    | some r=>
     obtain⟨ys,s1⟩:=r;rw [hld] at h';have h'':some (ys,m + 1,s1)=some (xs,n,A₁):=h';injection h'' with h'';injection h'' with h1 h2;injection h2 with h2 h3;subst h1;subst h2;subst h3;obtain⟨cells,e2,c2,st2,hb,hxs,hlen,hs1⟩:=oS hld;refine⟨fun hi=>AC hi hld,by rw [hs1,aH],by rw [hs1,aH],by rw [hs1,aH],by rw [hs1,aH],by rw [hs1,aH],(fun h0=>by omega),fun φ T w x' tx i hi hr hT hv ht hin hl hone=>?_⟩;cases hv with
     | slice _ _ _ _ cap' a' j hφ hlc hc ha hroom=>
      obtain⟨xs',g1,g2,_⟩:=uq hi hld hr hT hφ;have ha':a'=⟨j.blk,j.sh + off,none⟩:=ha.resolve_left (by omega);subst ha';refine⟨xs',g1,Src.ofSlice w ht _ (m + 1) cap' xs' (by rw [← g1.length]; exact hl) g2 (rl g1 hone)⟩
  ·cases h
 ·cases h
theorem tJ {w:World}{g o:Nat}{e:TypeId}{fz:Nat × Nat}{C:Array Value}{vs:List Value} (hg:w.heap[g]?=some (.cells C e fz)) (hfz:fz.2≤o) (hl:o + vs.length≤C.size) (h1:∀v∈vs,v.oneCell'=true) (P:Program) :
  (∀j,j < vs.length→(w.cell? ⟨g,o + j,none⟩).isSome=true)∧(∀j,j < vs.length→w.frozen? ⟨g,o + j,none⟩=false)∧w.setCells g o vs=w.setRow g (C.toList.take o ++ vs ++ C.toList.drop (o + vs.length)).toArray:=by
 have a1:∀j,j < vs.length→(w.cell? ⟨g,o + j,none⟩).isSome=true:=by
  intro j hj;simp only [World.cell?,hg];rw [Array.getElem?_eq_getElem (by omega)];rfl
 have a2:∀j,j < vs.length→w.frozen? ⟨g,o + j,none⟩=false:=by
  intro j hj;obtain⟨lo,hi⟩:=fz;simp only [World.frozen?,hg,Bool.and_eq_false_iff,decide_eq_false_iff_not];right;simp only at hfz;omega
 refine⟨a1,a2,?_⟩;have e1:=run_storeCells_cells (P:=P) g o vs 0 w (by simpa using a1) (by simpa using a2) h1;have e2:=run_storeCells_atF P g o e fz vs 0 C w hg (by omega) (by omega) h1;rw [e1] at e2;injection e2 with _ e2
theorem cK.drew {φ φ':dI}{T:Nat→Prop}{w w':World} (h:cK P φ T A A' w.drew w' φ'):cK P φ T A A' w w' φ':=
 ⟨h.ext,h.out,h.rel,h.img,h.size,h.same,h.os,h.tape,h.output⟩
theorem je.drew {φ:dI}{T:Nat→Prop}{w:World} (h:je P φ T A w):je P φ T A w.drew:=h.heap rfl rfl rfl
theorem ku (z:Array Value) (n:Nat):(Builtin.zeroCells z n).size=n * z.size:=by simp [Builtin.zeroCells]
theorem cK.step {φ φ':dI}{T:Nat→Prop}{w w':World} (h1:A₁.heap=A.heap) (h2:A₁.fz=A.fz) (h3:A₁.next=A.next) (hr:je P φ T A w) (hf:mR A₁ A') (h:cK P φ (fun c=>T c∨(A.next≤c∧c < A₁.next)) A₁ A' w w' φ'):cK P φ T A A' w w' φ':=
 cK.trans (by omega) hf (cK.refl hr h1 h2 h3 rfl rfl rfl rfl) h
theorem jd.left {T:Nat→Prop} (f:mR A₁ A') (h:jd A A' T):jd A A₁ T:=fun c hc hh=>h c hc (hh.imp (f.r c) (f.w c))
theorem xC:∀(l:List Nat) (B:AS),(kill B l).next=B.next:=by
 intro l
 induction l with
 | nil=>intro B; rfl
 | cons q l ih=>
  intro B;have:(kill B (q :: l))=kill (kU B q) l:=rfl;rw [this,ih];unfold kU;split
  ·rw [iU]
  ·rfl
theorem wn {off len n es e cls st:Nat}{cells xs:List Value} (h:uE A off len n es e cls st cells xs=some (nx,A')):A'.next=A.next + 1:=by
 unfold uE at h;rw [cA,ci] at h;obtain⟨_,h⟩:=aI h;rw [cA] at h;have kn:=xC ((dm A cls).filter (fP A (Nat.add (Nat.add st off) (Nat.mul len es)))) A;generalize kill A ((dm A cls).filter (fP A (Nat.add (Nat.add st off) (Nat.mul len es))))=B at h kn;cases B;unfold pm at h;simp only [cA,dh,ci,aH,gU] at h;injection h with h;injection h with _ h;rw [← h];show Nat.add _ 1=_;simp only at kn;rw [kn]
theorem yV (hi:cT A) (hn:A'.next≤A'.next) (x y:Operand) (t u:TypeId) (h:FP P (P.underlying t) (P.underlying u) (f.eval x) (f.eval y) A=some (nx,A')) :
  dp P f A ⟨d,.call ⟨.builtin .append,#[x,y],#[t,u]⟩,ty,pos,af,gd⟩ nx A':=by
 unfold FP at h;split at h
 ·rename_i e v vy ht hx hy;split at h
  ·rename_i xs n A1 harg;have sp:=ru harg;have fr1:=sp.fr hi;have hi1:=fr1.inv;unfold jq at h;split at h
   ·rename_i base len cap;split at h
    ·rename_i i hin;have hex:∀(a:Act) (w w':World) (v':Value),(Builtin.append_ #[t,u] ty #[a.eval x,a.eval y]).run P w=.ok v' w'→(execOp a.eval ⟨d,.call ⟨.builtin .append,#[x,y],#[t,u]⟩,ty,pos,af,gd⟩).run P w=.ok (.value v') w':=fun a w w' v' hh=>by
      refine ez ?_;show (Builtin.append_ #[t,u] ty (Array.map a.eval #[x,y])).run P w=_;rw [show Array.map a.eval #[x,y] = #[a.eval x,a.eval y] by simp];exact hh
     cases n with
     | zero=>
      have h':some (dX.val (.slice base len cap),A1)=some (nx,A'):=h;injection h' with h';injection h' with h1 h2;subst h1;subst h2;refine⟨fr1,fun φ T w a hf hr hT hfr=>?_⟩;refine⟨φ,w,cK.refl hr sp.heap sp.fz sp.next rfl rfl rfl rfl,?_⟩;have hv:=hf.eval hx;have hxs:=sp.nil rfl;subst hxs;obtain⟨xs',g1,g2⟩:=sp.src φ T w _ u i hi hr hT (hf.eval hy) rfl hin (by simp) rfl;cases g1;generalize hq:a.eval x=q at hv;have hrun:∃base' cap',q=.slice base' len cap'∧len≤cap':=by
       cases hv with
       | nilSlice=>exact⟨_,_,rfl,Nat.le_refl _⟩
       | slice _ _ _ _ cap' a' j hφ hl hc=>exact⟨_,_,rfl,by omega⟩
       | sliceX=>exact⟨_,_,rfl,Nat.le_refl _⟩
      obtain⟨base',cap',rfl,hle⟩:=hrun;rw [hex a w w (.slice base' len cap') (by rw [hq]; exact run_append_nothing w t u ty e i ht hin base' len cap' hle _ g2)];exact .val _ _ hv
     | succ n0=>
      have h':(Bool.rec none (qX e A1 base len (n0 + 1) i.size xs) (xd i i.size len (n0 + 1) xs):iG)=some (nx,A'):=h;obtain⟨hok,h1⟩:=aI h';unfold xd at hok;split at hok
      ·rename_i z hz;simp only [Bool.and_eq_true] at hok;obtain⟨o1,o2,o3,o4,o5,o6⟩:=hok;have hxl:xs.length=(n0 + 1) * i.size:=Nat.eq_of_beq_eq_true o2;have hby:(len + (n0 + 1)) * i.bytes≤140737488355328:=Nat.le_of_ble_eq_true o3;have hzs:z.cells.size=i.size:=Nat.eq_of_beq_eq_true o4;have hbig:len + (n0 + 1)≤1073741824:=Nat.le_of_ble_eq_true o5;have hes:P.cellsOf e=i.size:=by simp [Program.cellsOf,hin]
       unfold qX at h1;split at h1
       ·
        obtain⟨hl0,h2⟩:=aI h1;have hl0':len=0:=Nat.eq_of_beq_eq_true hl0;subst hl0';injection h2 with h2;injection h2 with h3 h4;subst h3;subst h4;rw [bz] at hn;have fr2:=gO hi1 hn xs e;refine⟨fr1.trans fr2,fun φ T w a hf hr hT hfr=>?_⟩;have hT1:=hT.left fr2;obtain⟨xs',g1,g2⟩:=sp.src φ T w _ u i hi hr hT1 (hf.eval hy) rfl hin hxl o6;have hv:=hf.eval hx;generalize hq:a.eval x=q at hv;cases hv;have hlen:=g1.length;have hrun:=run_append_grow_src w t u ty e i z ht hin hz none 0 0 [] rfl (a.eval y) (n0 + 1) xs' g2 (by omega) (by omega) (growslice_fits (by omega) hby);have hcap:=grownCap_ge w (0 + (n0 + 1)) 0 e;have hr1:je P φ (fun c=>T c∨(A.next≤c∧c < A1.next)) A1 w.drew:=(je.drew (hr.heap (w':=w) sp.heap sp.fz rfl)).sub fun c hc=>hc.elim id fun hc=>by have:=sp.next; omega
        have hCs:(([] ++ xs').toArray ++ Builtin.zeroCells z.cells (grownCap w (0 + (n0 + 1)) 0 e - (0 + (n0 + 1)))).size=grownCap w (0 + (n0 + 1)) 0 e * i.size:=by
         rw [Array.size_append,ku,hzs,List.size_toArray,List.nil_append,← hlen,hxl,← Nat.add_mul];congr 1;omega
        obtain⟨φ',p1,p2⟩:=cK.new hi1 hn hr1 (hfr _ (by rw [sp.next]; exact Nat.le_refl _) (by rw [bz]; omega)) (fun b=>.row xs e b 0 true) rfl (.cells (([] ++ xs').toArray ++ Builtin.zeroCells z.cells (grownCap w (0 + (n0 + 1)) 0 e - (0 + (n0 + 1)))) e) 0 (grownCap w (0 + (n0 + 1)) 0 e * i.size) i.size 0 rfl (fun φ' he _=>by
         refine .row _ _ _ _ _ (0,0) rfl rfl hes.symm (by rw [hCs,Nat.zero_add]) (by rw [hCs,hxl,Nat.zero_add]; exact Nat.mul_le_mul_right _ (by omega)) ?_ (.inl rfl) _ (.inl ⟨rfl,Nat.dvd_zero _⟩);have:((([] ++ xs').toArray ++ Builtin.zeroCells z.cells (grownCap w (0 + (n0 + 1)) 0 e - (0 + (n0 + 1)))).toList.drop 0).take xs.length=xs':=by
          rw [List.drop_zero,Array.toList_append,List.toList_toArray,List.nil_append,hlen,List.take_left'];rfl
         rw [this];exact g1.mono he)
        rw [← fC] at p2;refine⟨φ',_,cK.step sp.heap sp.fz sp.next hr fr2 p2.drew,?_⟩;rw [hex a w _ _ (by rw [hq]; exact hrun)];have e0 : 0 + (n0 + 1)=n0 + 1:=by omega
        rw [show Value.slice (some ⟨w.heap.size,0,none⟩) (0 + (n0 + 1)) (grownCap w (0 + (n0 + 1)) 0 e)=Value.slice (some ⟨w.heap.size,0,none⟩) (n0 + 1) (grownCap w (0 + (n0 + 1)) 0 e) from by rw [e0]];exact .val _ _ (.slice A1.next 0 (n0 + 1) (n0 + 1) _ ⟨w.heap.size,0,none⟩ _ p1 (Nat.le_refl _) (by omega) (.inr rfl) (by show 0 + _ * i.size≤_ * i.size; rw [Nat.zero_add]; exact Nat.le_refl _))
       ·rename_i b off;split at h1
        ·rename_i cells e' cls st hb;obtain⟨he,h2⟩:=aI h1;have he':e'=e:=Nat.eq_of_beq_eq_true he;subst he';have hn1:A1.next + 1≤A1.next + 1:=by rw [← wn h2]; exact hn
         obtain⟨rfl,K,as⟩:=B9 hi1 hn1 hb h2;have fr2:=as.wr.fr hi1;refine⟨fr1.trans fr2,fun φ T w a hf hr hT hfr=>?_⟩;have hT1:=hT.left fr2;obtain⟨xs',g1,g2⟩:=sp.src φ T w _ u i hi hr hT1 (hf.eval hy) rfl hin hxl o6;have hlen:=g1.length;have hr1:je P φ (fun c=>T c∨(A.next≤c∧c < A1.next)) A1 w:=(hr.heap (w':=w) sp.heap sp.fz rfl).sub fun c hc=>hc.elim id fun hc=>by have:=sp.next; omega
         have hTc:T cls:=hT cls (by have:=(hi1.lt _ _ hb).2; rw [sp.next] at this; exact this) (.inr (by rw [as.wr.w,dC]; simp));have hfresh:φ A1.next=none:=hfr _ (by rw [sp.next]; exact Nat.le_refl _) (by rw [wn h2]; omega);have hv:=hf.eval hx;generalize hq:a.eval x=q at hv;cases hv with
         | slice _ _ _ _ cap' a' j hφ hl hc ha hroom0=>
          have hjes:j.es=i.size:=by
           obtain⟨jj,_,_,_,e1,_,_,_,e5,_⟩:=hr1.cells hb (.inl hTc);obtain rfl:jj=j:=by rw [hφ] at e1; injection e1 with e1; exact e1.symm
           rw [e5,hes]
          by_cases hroom:len + (n0 + 1)≤cap'
          ·have ha':a'=⟨j.blk,j.sh + off,none⟩:=ha.resolve_left (by omega);subst ha';obtain⟨C,fz,_,q1,q2,q3,q4⟩:=cK.room hi1 as hb hr1 (.inl hTc) hfresh g1 hxl hφ hroom hjes hroom0;obtain⟨s1,s2,s3⟩:=tJ q1 q2 q3 (rl g1 o6) P;have hrun:=run_append_room_src w t u ty e' i ht hin j.blk (j.sh + off) len cap' (a.eval y) (n0 + 1) xs' g2 hroom s1 s2;rw [s3] at hrun;refine⟨_,_,cK.step sp.heap sp.fz sp.next hr fr2 q4,?_⟩;rw [hex a w _ _ (by rw [hq]; exact hrun)];exact .val _ _ (.slice A1.next 0 _ _ cap' ⟨j.blk,j.sh + off,none⟩ _ (if_pos rfl) (Nat.le_refl _) hroom (.inr rfl) (by show 0 + cap' * j.es≤j.sz - off; omega))
          ·obtain⟨j',C,fz,_,e1,e2,e3,e4,e5,e6,e7,e8,e9,e10⟩:=hr1.cells hb (.inl hTc);obtain rfl:j'=j:=by rw [hφ] at e1; injection e1 with e1; exact e1.symm
           have hold:=as.old;have hol:=((e8.drop off).take (len * i.size)).length;rw [hold] at hol;have hcell:∀(k:Nat) (v:Value),((((C.toList.drop j'.sh).take cells.length).drop off).take (len * i.size))[k]?=some v→w.drew.cell? (a'.add k)=some v:=by
            intro k v hk;have hkl:k < len * i.size:=by
             rw [List.getElem?_take] at hk;split at hk
             ·assumption
             ·cases hk
            have hl0 : 0 < len:=by
             rcases Nat.eq_zero_or_pos len with h0 | h0
             ·rw [h0,Nat.zero_mul] at hkl; omega
             ·exact h0
            have ha':a'=⟨j'.blk,j'.sh + off,none⟩:=ha.resolve_left (by omega);rw [ha',fA];rw [List.getElem?_take,if_pos hkl,List.getElem?_drop,List.getElem?_take,List.getElem?_drop] at hk;split at hk
            ·simp only [World.cell?,World.drew,e2];rw [Array.getElem?_toList] at hk;rw [← hk];simp [Nat.add_assoc]
            ·cases hk
           have hfirst:=run_firstCells_some (P:=P) w.drew i.size len a' len cap' _ hol.symm hcell;have hrun:=run_append_grow_src w t u ty e' i z ht hin hz (some a') len cap' _ hfirst (a.eval y) (n0 + 1) xs' g2 (by omega) (by omega) (growslice_fits (by omega) hby);have hcap:=grownCap_ge w (len + (n0 + 1)) cap' e';generalize hO:(((C.toList.drop j'.sh).take cells.length).drop off).take (len * i.size)=O at hrun hol hfirst hcell;have hOv:bu φ ((cells.drop off).take (len * i.size)) O:=by rw [← hO]; exact (e8.drop off).take _
           have hCs:((O ++ xs').toArray ++ Builtin.zeroCells z.cells (grownCap w (len + (n0 + 1)) cap' e' - (len + (n0 + 1)))).size=grownCap w (len + (n0 + 1)) cap' e' * i.size:=by
            rw [Array.size_append,ku,hzs,List.size_toArray,List.length_append,← hol,← hlen,hxl,← Nat.add_mul,← Nat.add_mul];congr 1;omega
           have hall:((cells.drop off).take (len * i.size) ++ xs).length=(O ++ xs').length:=by rw [List.length_append,List.length_append,hold,hol,hlen]
           have p2:=cK.grow hi1 as hb hr1.drew hfresh ((O ++ xs').toArray ++ Builtin.zeroCells z.cells (grownCap w (len + (n0 + 1)) cap' e' - (len + (n0 + 1)))) hes (by
            rw [hall,Array.toList_append,List.toList_toArray,List.take_left']
            ·exact bu.append hOv g1
            ·rfl) (by rw [hall,hCs,List.length_append,← hol,← hlen,hxl,← Nat.add_mul]; exact Nat.mul_le_mul_right _ hcap)
           refine⟨_,_,cK.step sp.heap sp.fz sp.next hr fr2 p2.drew,?_⟩;rw [hex a w _ _ (by rw [hq]; exact hrun)];exact .val _ _ (.slice A1.next 0 _ _ _ ⟨w.heap.size,0,none⟩ _ (if_pos rfl) (Nat.le_refl _) hcap (.inr rfl) (by show 0 + _ * i.size≤_; rw [Nat.zero_add,hCs]; exact Nat.le_refl _))
        ·cases h1
       ·rename_i b off;split at h1
        ·rename_i cells e' cls st hb;unfold Nr at h1;rw [cA] at h1;obtain⟨hol0,h2⟩:=aI h1;have hold:((cells.drop off).take (len * i.size)).length=len * i.size:=Nat.eq_of_beq_eq_true hol0;injection h2 with h2;injection h2 with h3 h4;subst h3;subst h4;have hcn:cls < A1.next:=(hi1.lt _ _ hb).2;have frL:=iZ hi1 hcn;have hiL:=frL.inv;have hnL:(cE A1 cls).next=A1.next:=by rw [aH]
         have frN:=gO hiL (Nat.le_refl _) ((cells.drop off).take (len * i.size) ++ xs) e;have fr2:=frL.trans frN;refine⟨fr1.trans fr2,fun φ T w a hf hr hT hfr=>?_⟩;have hT1:=hT.left fr2;obtain⟨xs',g1,g2⟩:=sp.src φ T w _ u i hi hr hT1 (hf.eval hy) rfl hin hxl o6;have hlen:=g1.length;have hr1:je P φ (fun c=>T c∨(A.next≤c∧c < A1.next)) A1 w:=(hr.heap (w':=w) sp.heap sp.fz rfl).sub fun c hc=>hc.elim id fun hc=>by have:=sp.next; omega
         have hTc:T cls:=hT cls (by rw [sp.next] at hcn; exact hcn) (.inl (frN.r cls (by rw [aH,dC]; simp)));have hfresh:φ A1.next=none:=hfr _ (by rw [sp.next]; exact Nat.le_refl _) (by rw [bz,hnL]; omega);have hv:=hf.eval hx;generalize hq:a.eval x=q at hv;cases hv with
         | sliceX _ _ _ a' j hφ ha=>
          obtain⟨j',C,fz,_,e1,e2,e3,e4,e5,e6,e7,e8,e9,e10⟩:=hr1.cells hb (.inl hTc);obtain rfl:j'=j:=by rw [hφ] at e1; injection e1 with e1; exact e1.symm
          have hol:=((e8.drop off).take (len * i.size)).length;rw [hold] at hol;have hcell:∀(k:Nat) (v:Value),((((C.toList.drop j'.sh).take cells.length).drop off).take (len * i.size))[k]?=some v→w.drew.cell? (a'.add k)=some v:=by
           intro k v hk;have hkl:k < len * i.size:=by
            rw [List.getElem?_take] at hk;split at hk
            ·assumption
            ·cases hk
           have hl0:len≠0:=by
            intro h0;rw [h0,Nat.zero_mul] at hkl;omega
           have ha':a'=⟨j'.blk,j'.sh + off,none⟩:=ha.resolve_left hl0;rw [ha',fA];rw [List.getElem?_take,if_pos hkl,List.getElem?_drop,List.getElem?_take,List.getElem?_drop] at hk;split at hk
           ·simp only [World.cell?,World.drew,e2];rw [Array.getElem?_toList] at hk;rw [← hk];simp [Nat.add_assoc]
           ·cases hk
          have hfirst:=run_firstCells_some (P:=P) w.drew i.size len a' len len _ hol.symm hcell;have hrun:=run_append_grow_src w t u ty e i z ht hin hz (some a') len len _ hfirst (a.eval y) (n0 + 1) xs' g2 (by omega) (by omega) (growslice_fits (by omega) hby);have hcap:=grownCap_ge w (len + (n0 + 1)) len e;generalize hO:(((C.toList.drop j'.sh).take cells.length).drop off).take (len * i.size)=O at hrun hol hfirst hcell;have hOv:bu φ ((cells.drop off).take (len * i.size)) O:=by rw [← hO]; exact (e8.drop off).take _
          have hCs:((O ++ xs').toArray ++ Builtin.zeroCells z.cells (grownCap w (len + (n0 + 1)) len e - (len + (n0 + 1)))).size=grownCap w (len + (n0 + 1)) len e * i.size:=by
           rw [Array.size_append,ku,hzs,List.size_toArray,List.length_append,← hol,← hlen,hxl,← Nat.add_mul,← Nat.add_mul];congr 1;omega
          have hall:((cells.drop off).take (len * i.size) ++ xs).length=(O ++ xs').length:=by rw [List.length_append,List.length_append,hold,hol,hlen]
          have hrL:je P φ (fun c=>(T c∨(A.next≤c∧c < A1.next))∨(A1.next≤c∧c < (cE A1 cls).next)) (cE A1 cls) w.drew:=(je.drew (hr1.heap (w':=w) (by rw [aH]) (by rw [aH]) rfl)).sub fun c hc=>hc.elim id fun hc=>by rw [hnL] at hc; omega
          obtain⟨φ',p1,p2⟩:=cK.new hiL (Nat.le_refl _) hrL (by rw [hnL]; exact hfresh) (fun b=>.row ((cells.drop off).take (len * i.size) ++ xs) e b 0 true) rfl (.cells ((O ++ xs').toArray ++ Builtin.zeroCells z.cells (grownCap w (len + (n0 + 1)) len e - (len + (n0 + 1)))) e) 0 (grownCap w (len + (n0 + 1)) len e * i.size) i.size 0 rfl (fun φ' he _=>by
           refine .row _ _ _ _ _ (0,0) rfl rfl hes.symm (by rw [hCs,Nat.zero_add]) ?_ ?_ (.inl rfl) _ (.inl ⟨rfl,Nat.dvd_zero _⟩)
           ·rw [hall,hCs,Nat.zero_add,List.length_append,← hol,← hlen,hxl,← Nat.add_mul];exact Nat.mul_le_mul_right _ hcap
           ·have:(((O ++ xs').toArray ++ Builtin.zeroCells z.cells (grownCap w (len + (n0 + 1)) len e - (len + (n0 + 1)))).toList.drop 0).take ((cells.drop off).take (len * i.size) ++ xs).length=O ++ xs':=by
             rw [hall,List.drop_zero,Array.toList_append,List.toList_toArray,List.take_left'];rfl
            rw [this];exact (bu.append hOv g1).mono he)
          rw [← fC] at p2;have p3:cK P φ (fun c=>T c∨(A.next≤c∧c < A1.next)) A1 (newRow (cE A1 cls) ((cells.drop off).take (len * i.size) ++ xs) e) w (w.drew.alloc (.cells ((O ++ xs').toArray ++ Builtin.zeroCells z.cells (grownCap w (len + (n0 + 1)) len e - (len + (n0 + 1)))) e)) φ':=by
           refine cK.step (A₁:=cE A1 cls) (by rw [aH]) (by rw [aH]) hnL hr1 frN ?_;exact p2.drew
          refine⟨φ',_,cK.step sp.heap sp.fz sp.next hr fr2 p3,?_⟩;rw [hex a w _ _ (by rw [hq]; exact hrun)];rw [hnL] at p1;exact .val _ _ (.slice A1.next 0 _ _ _ ⟨w.heap.size,0,none⟩ _ p1 (Nat.le_refl _) hcap (.inr rfl) (by show 0 + _ * i.size≤_ * i.size; rw [Nat.zero_add]; exact Nat.le_refl _))
        ·cases h1
       ·cases h1
      ·cases hok
    ·cases h
   ·cases h
  ·cases h
 ·cases h
theorem Dt (hi:cT A) (hn:A'.next≤A'.next) (x y:Operand) (t u:TypeId) (h:tu P (P.underlying t) (P.underlying u) (f.eval x) (f.eval y) A=some (nx,A')) :
  dp P f A ⟨d,.call ⟨.builtin .copy,#[x,y],#[t,u]⟩,ty,pos,af,gd⟩ nx A':=by
 unfold tu at h;split at h
 ·rename_i e base len cap vy ht hx hy;split at h
  ·rename_i xs m A1 i harg hin;obtain⟨hok,h1⟩:=aI h;simp only [Bool.and_eq_true] at hok;obtain⟨o1,o2,o3⟩:=hok;have hml:m≤len:=Nat.le_of_ble_eq_true o1;have hxl:xs.length=m * i.size:=Nat.eq_of_beq_eq_true o2;have sp:=ru harg;have fr1:=sp.fr hi;have hi1:=fr1.inv;have hsz:(P.info? e).map (·.size)=some i.size:=by rw [hin]; rfl
   have hex:∀(a:Act) (w w':World) (v':Value),(Builtin.copy_ #[t,u] ty #[a.eval x,a.eval y]).run P w=.ok v' w'→(execOp a.eval ⟨d,.call ⟨.builtin .copy,#[x,y],#[t,u]⟩,ty,pos,af,gd⟩).run P w=.ok (.value v') w':=fun a w w' v' hh=>by
    refine ez ?_;show (Builtin.copy_ #[t,u] ty (Array.map a.eval #[x,y])).run P w=_;rw [show Array.map a.eval #[x,y] = #[a.eval x,a.eval y] by simp];exact hh
   cases m with
   | zero=>
    have h':some (dX.val (.int .i64 (.ofNat 0)),A1)=some (nx,A'):=h1;injection h' with h';injection h' with h1 h2;subst h1;subst h2;refine⟨fr1,fun φ T w a hf hr hT hfr=>?_⟩;refine⟨φ,w,cK.refl hr sp.heap sp.fz sp.next rfl rfl rfl rfl,?_⟩;have hv:=hf.eval hx;have hxs:=sp.nil rfl;subst hxs;obtain⟨xs',g1,g2⟩:=sp.src φ T w _ u i hi hr hT (hf.eval hy) rfl hin (by simp) rfl;cases g1;generalize hq:a.eval x=q at hv;have hrun:∃base' cap',q=.slice base' len cap':=by
     cases hv with
     | nilSlice=>exact⟨_,_,rfl⟩
     | slice=>exact⟨_,_,rfl⟩
     | sliceX=>exact⟨_,_,rfl⟩
    obtain⟨base',cap',rfl⟩:=hrun;have hrun:(Builtin.copy_ #[t,u] ty #[.slice base' len cap',a.eval y]).run P w=.ok (goInt 0) w:=by
     have h0:=g2.cells;cases base'<;>simp [Builtin.copy_,run_underlying ht,g2.len,sizeOf,typeInfo,hin,h0,storeCells,goInt]
    rw [hex a w w _ (by rw [hq]; exact hrun)];exact .val _ _ (.int ..)
   | succ m0=>
    have h':(match (generalizing:=false) base with
     | some ⟨b,off,none⟩=>match FQ A1 b off xs with
      | some s=>some (dX.val (.int .i64 (.ofNat (Nat.add m0 1))),s)
      | none=>none
     | _=>none)=some (nx,A'):=h1
    split at h'
    ·rename_i b off;split at h'
     ·rename_i s1 hs1;injection h' with h';injection h' with h2 h3;subst h2;subst h3;obtain⟨cells,e',cls,st,K,ss⟩:=wu hi1 (Nat.le_refl _) hs1;have fr2:=ss.wr.fr hi1;refine⟨fr1.trans fr2,fun φ T w a hf hr hT hfr=>?_⟩;have hT1:=hT.left fr2;obtain⟨xs',g1,g2⟩:=sp.src φ T w _ u i hi hr hT1 (hf.eval hy) rfl hin hxl o3;have hr1:je P φ (fun c=>T c∨(A.next≤c∧c < A1.next)) A1 w:=(hr.heap (w':=w) sp.heap sp.fz rfl).sub fun c hc=>hc.elim id fun hc=>by have:=sp.next; omega
      have hTc:T cls:=hT cls (by have:=(hi1.lt _ _ ss.row).2; rw [sp.next] at this; exact this) (.inr (by rw [ss.wr.w,dC]; simp));have hv:=hf.eval hx;generalize hq:a.eval x=q at hv;cases hv with
      | slice _ _ _ _ cap' a' j hφ hl hc ha hroom0=>
       have ha':a'=⟨j.blk,j.sh + off,none⟩:=ha.resolve_left (by omega);subst ha';obtain⟨C,fz,e2,k1,k2,k3,k4⟩:=cK.store hi1 ss hr1 (.inl hTc) g1 hφ;refine⟨φ,_,cK.step sp.heap sp.fz sp.next hr fr2 k4,?_⟩;have hst:=run_storeCells_atF P j.blk (j.sh + off) e2 fz xs' 0 C w k1 (by omega) (by omega) (rl g1 ss.one);have h0:=g2.cells;have hmin:Nat.min (m0 + 1) len=m0 + 1:=Nat.min_eq_left hml;have hrun:(Builtin.copy_ #[t,u] ty #[.slice (some ⟨j.blk,j.sh + off,none⟩) len cap',a.eval y]).run P w=.ok (goInt (m0 + 1:Nat)) (w.setRow j.blk (C.toList.take (j.sh + off) ++ xs' ++ C.toList.drop (j.sh + off + xs'.length)).toArray):=by
        simp only [Nat.add_zero] at hst;simp [Builtin.copy_,run_underlying ht,g2.len,sizeOf,typeInfo,hin,hmin,h0,hst]
       rw [hex a w _ _ (by rw [hq]; exact hrun)];exact .val _ _ (.int ..)
     ·cases h'
    ·cases h'
  ·cases h
 ·cases h
end
def l7 (P:Program) (ops:Array Oper) (Q:Exit→Act→World→Prop) (o:Oper) (K:Act→World→Prop) (a:Act) (w:World):Prop:=
 if Region.wanted o (yielded ops a.tmps)=true then o.wp P a w K Q else K (a.put o.dst undef) w
def cQ (P:Program):Prop:=∀(f:Fr) (o:Oper) (A:AS) (nx:dX) (A':AS),cT A→A'.next≤A'.next→bQ P f o A=some (nx,A')→dp P f A o nx A'
inductive oc (φ:dI):j4→Ending→Prop
 | ret (v v':Value) (h:eR φ v v'):oc φ (.ret v) (.returned v')
 | panic (v v':Value) (h:eR φ v v'):oc φ (.panic v) (.panicked [{ v:=v',recovered:=false }])
structure eU (P:Program) (g:FuncId) (args:Array Value) (A:AS) (r:j4) (A':AS):Prop where
 fr:mR A A'
 run:∀(φ:dI) (T:Nat→Prop) (w:World) (args':Array Value),bu φ args.toList args'.toList→je P φ T A w→jd A A' T→ja A A' φ→
  Calls P g args' w fun e w'=>∃φ',cK P φ T A A' w w' φ'∧oc φ' r e
def jn (P:Program) (call:dZ):Prop:=∀(g:FuncId) (args:Array Value) (A:AS) (r:j4) (A':AS),cT A→A'.next≤A'.next→call g args A=some (r,A')→eU P g args A r A'
def dQ (call:dZ):Prop:=∀(g:FuncId) (args:Array Value) (A:AS) (r:j4) (A':AS),call g args A=some (r,A')→A.next≤A'.next
theorem yi {f f':Fr}{d:Option Tmp}{v:Value} (h:f.put d v=some f'):(d=none∧f'=f)∨∃t,d=some t∧t < f.n∧f'=⟨Tr.set v 40 f.tmps t,f.n,f.defers⟩:=by
 cases d with
 | none=>have h':some f=some f':=h; injection h' with h'; exact .inl ⟨rfl,h'.symm⟩
 | some t=>
  obtain⟨tm,n,ds⟩:=f;have h':(Bool.rec none (dO (Tr.set v 40 tm t) fun t=>some (⟨t,n,ds⟩ : Fr)) (Nat.ble (Nat.succ t) n):Option Fr)=some f':=h;obtain⟨h1,h2⟩:=aI h';rw [dh] at h2;injection h2 with h2;exact .inr ⟨t,rfl,Nat.le_of_ble_eq_true h1,h2.symm⟩
theorem fe.put {φ:dI}{f f':Fr}{a:Act}{d:Option Tmp}{v v':Value} (hf:fe φ f a) (h:f.put d v=some f') (hv:eR φ v v'):fe φ f' (a.put d v'):=by
 rcases yi h with ⟨rfl,rfl⟩ | ⟨t,rfl,ht,rfl⟩
 ·exact hf
 ·have hfit:kC t:=trivial;refine⟨by simp [Act.put,hf.size],hf.few,fun x=>?_,hf.defers⟩;show eR φ (((Tr.set v 40 f.tmps t).get x).getD undef) ((a.tmps.setIfInBounds t v').getD x undef);rw [Tr.get_set _ _ _ _ hfit];have hsz:=hf.size;by_cases hx:x=t
  ·subst hx;rw [if_pos rfl];rw [show (a.tmps.setIfInBounds x v').getD x undef=v' by simp [Array.getD_eq_getD_getElem?,hsz,ht]];exact hv
  ·rw [if_neg hx];rw [show (a.tmps.setIfInBounds t v').getD x undef=a.tmps.getD x undef by
    simp only [Array.getD_eq_getD_getElem?,Array.getElem?_setIfInBounds];rw [if_neg (fun e=>hx e.symm)]]
   exact hf.tmps x
theorem gg {φ:dI}{f:Fr}{a:Act} (hf:fe φ f a) {ops:Array Oper}{o:Oper}{b:Bool} (h:jO ops.toList f o.guard=some b):Region.wanted o (yielded ops a.tmps)=b:=by
 unfold Region.wanted;cases hg:o.guard with
 | none=>rw [hg] at h; have h':some true=some b:=h; cases h'; rfl
 | some p=>
  obtain⟨j,want⟩:=p;rw [hg] at h;have h':vB ops.toList f j want=some b:=h;unfold vB at h';split at h'
  ·rename_i dd hd;have hd':(ops[j]?).bind (·.dst)=some dd:=by simpa using hd
   have ht:=hf.tmps dd;unfold Fo at h';split at h'
   ·rename_i bb hb;injection h' with h';rw [hb] at ht;generalize hq:a.tmps.getD dd undef=q at ht;cases ht;have hy:yielded ops a.tmps j=some bb:=by
     unfold yielded;rw [hd'];have:a.tmps[dd]?=some (.bool bb):=by
      rw [Array.getD_eq_getD_getElem?] at hq;cases hz:a.tmps[dd]? with
      | none=>rw [hz] at hq; cases hq
      | some z=>rw [hz] at hq; exact congrArg some hq
     rw [Option.bind_some,this]
    simp only [hy];rw [← h'];cases bb<;>cases want<;>rfl
   ·rename_i vs hb;injection h' with h';rw [hb] at ht;generalize hq:a.tmps.getD dd undef=q at ht;cases ht with
    | tuple _ vs' hvs=>
     have hy:yielded ops a.tmps j=none:=by
      unfold yielded;rw [hd',Option.bind_some];cases hz:a.tmps[dd]? with
      | none=>rfl
      | some z=>
       have:z=.tuple vs':=by rw [Array.getD_eq_getD_getElem?,hz] at hq; exact hq
       rw [this]
     simp only [hy];rw [← h'];cases want<;>rfl
   ·cases h'
  ·cases h'
section
variable {P:Program}{call:dZ}{ops:Array Oper}{f f':Fr}{o:Oper}{A A':AS}
structure m8 (P:Program) (ops:Array Oper) (o:Oper) (f:Fr) (A:AS) (f':Fr) (A':AS):Prop where
 fr:mR A A'
 run:∀(φ:dI) (T:Nat→Prop) (w:World) (a:Act),fe φ f a→je P φ T A w→jd A A' T→ja A A' φ→∀(K:Act→World→Prop) (Q:Exit→Act→World→Prop),
  (∀φ' w' a',cK P φ T A A' w w' φ'→fe φ' f' a'→K a' w')→l7 P ops Q o K a w
structure RY (P:Program) (ops:Array Oper) (o:Oper) (f:Fr) (A:AS) (v:Value) (A':AS):Prop where
 fr:mR A A'
 run:∀(φ:dI) (T:Nat→Prop) (w:World) (a:Act),fe φ f a→je P φ T A w→jd A A' T→ja A A' φ→∀(K:Act→World→Prop) (Q:Exit→Act→World→Prop),
  (∀φ' w' v',cK P φ T A A' w w' φ'→eR φ' v v'→Q (.panic [{ v:=v',recovered:=false }]) a w')→l7 P ops Q o K a w
theorem jV {x:Option Fr}{s:AS} (h:kZ x s=.on f' A'):x=some f'∧s=A':=by
 cases x with
 | none=>cases h
 | some y=>have h':St.on y s=.on f' A':=h; injection h' with h1 h2; exact⟨congrArg some h1,h2⟩
theorem oL (hO:cQ P) (hC:jn P call) (hM:dQ call) (hi:cT A) (hn:A'.next≤A'.next) (h:io P call ops.toList f o A=.on f' A'):m8 P ops o f A f' A':=by
 unfold io at h;split at h
 ·rename_i hw;cases hev:bQ P f o A with
  | none=>rw [hev] at h; cases h
  | some r=>
   obtain⟨nx,B⟩:=r;rw [hev] at h;unfold zA at h;split at h
   ·cases h
   ·rename_i v s e;injection e with e;injection e with e1 e2;subst e1;subst e2;obtain⟨h1,rfl⟩:=jV h;have hs:=hO f o A _ _ hi hn hev;refine⟨hs.fr,fun φ T w a hf hr hT hfr K Q hK=>?_⟩;unfold l7;rw [gg hf hw,if_pos rfl];obtain⟨φ',w',hp,hnr⟩:=hs.run φ T w a hf hr hT hfr;unfold Oper.wp;generalize hres:(execOp a.eval o).run P w=res at hnr;cases hnr with
    | val _ v' hv=>exact hK φ' w' _ hp ((hf.mono hp.ext).put h1 hv)
    | skip=>exact hK φ' w' _ hp ((hf.mono hp.ext).put h1 (iP _))
   ·rename_i g args s e;injection e with e;injection e with e1 e2;subst e1;subst e2;unfold lO at h;split at h
    ·cases h
    ·rename_i v s2 hc;obtain⟨h1,rfl⟩:=jV h;have hs:=hO f o A _ _ hi (Nat.le_refl _) hev;have hcs:=hC _ _ _ _ _ hs.fr.inv hn hc;refine⟨hs.fr.trans hcs.fr,fun φ T w a hf hr hT hfr K Q hK=>?_⟩;unfold l7;rw [gg hf hw,if_pos rfl];obtain⟨φ',w',hp,hnr⟩:=hs.run φ T w a hf hr (hT.left hcs.fr) (fun b h1 h2=>hfr b h1 (Nat.lt_of_lt_of_le h2 hcs.fr.next));unfold Oper.wp;generalize hres:(execOp a.eval o).run P w=res at hnr;cases hnr with
     | enter _ _ args' hargs=>
      refine (hcs.run φ' _ w' args' hargs hp.rel ?_ ?_).mono ?_
      ·intro c hc' hh;by_cases hlt:c < A.next
       ·exact .inl (hT c hlt hh)
       ·exact .inr ⟨by omega,hc'⟩
      ·intro b h3 h4;rw [hp.out b (.inr h3)];exact hfr b (Nat.le_trans hs.fr.next h3) h4
      ·rintro e2 w2 ⟨φ2,hp2,he2⟩;cases he2 with
       | ret _ v' hv=>exact hK φ2 w2 _ (hp.trans hs.fr.next hcs.fr hp2) (((hf.mono hp.ext).mono hp2.ext).put h1 hv)
    ·cases h
   ·rename_i dd s e;injection e with e;injection e with e1 e2;subst e1;subst e2;obtain⟨h1,rfl⟩:=jV h;have hs:=hO f o A _ _ hi hn hev;refine⟨hs.fr,fun φ T w a hf hr hT hfr K Q hK=>?_⟩;unfold l7;rw [gg hf hw,if_pos rfl];obtain⟨φ',w',hp,hnr⟩:=hs.run φ T w a hf hr hT hfr;unfold Oper.wp;generalize hres:(execOp a.eval o).run P w=res at hnr;cases hnr with
    | dfr _ d' hd=>
     rw [Option.map_eq_some_iff] at h1;obtain⟨f1,h2,rfl⟩:=h1;have hf1:=(hf.mono hp.ext).put h2 (iP φ');refine hK φ' w' _ hp ⟨?_,hf1.few,?_,?_⟩
     ·have:=hf1.size;cases hd2:o.dst<;>simp [Act.put,hd2] at this ⊢<;>exact this
     ·intro t;have:=hf1.tmps t;cases hd2:o.dst<;>simp only [Act.put,hd2] at this ⊢<;>exact this
     ·have hdf:=hf1.defers;cases hd2:o.dst<;>simp only [Act.put,hd2] at hdf ⊢<;>exact .cons _ _ _ _ hd hdf
   ·cases h
   ·cases h
 ·rename_i hw;obtain⟨h1,rfl⟩:=jV h;refine⟨.refl hi,fun φ T w a hf hr hT hfr K Q hK=>?_⟩;unfold l7;rw [gg hf hw];exact hK φ w _ (.refl hr rfl rfl rfl rfl rfl rfl rfl) (hf.put h1 (iP _))
 ·cases h
theorem Lu (hO:cQ P) (hC:jn P call) (hM:dQ call) {v:Value} (hi:cT A) (hn:A'.next≤A'.next) (h:io P call ops.toList f o A=.up v f' A'):f'=f∧RY P ops o f A v A':=by
 have hno:∀(x:Option Fr) (s:AS),kZ x s≠.up v f' A':=by
  intro x s hh;cases x<;>cases hh
 unfold io at h;split at h
 ·rename_i hw;cases hev:bQ P f o A with
  | none=>rw [hev] at h; cases h
  | some r=>
   obtain⟨nx,B⟩:=r;rw [hev] at h;unfold zA at h;split at h
   ·cases h
   ·exact absurd h (hno _ _)
   ·rename_i g args s e;injection e with e;injection e with e1 e2;subst e1;subst e2;unfold lO at h;split at h
    ·cases h
    ·exact absurd h (hno _ _)
    ·rename_i v2 s2 hc;injection h with h1 h2 h3;subst h1;subst h2;subst h3;have hs:=hO f o A _ _ hi (Nat.le_refl _) hev;have hcs:=hC _ _ _ _ _ hs.fr.inv hn hc;refine⟨rfl,hs.fr.trans hcs.fr,fun φ T w a hf hr hT hfr K Q hK=>?_⟩;unfold l7;rw [gg hf hw,if_pos rfl];obtain⟨φ',w',hp,hnr⟩:=hs.run φ T w a hf hr (hT.left hcs.fr) (fun b h1 h2=>hfr b h1 (Nat.lt_of_lt_of_le h2 hcs.fr.next));unfold Oper.wp;generalize hres:(execOp a.eval o).run P w=res at hnr;cases hnr with
     | enter _ _ args' hargs=>
      refine (hcs.run φ' _ w' args' hargs hp.rel ?_ ?_).mono ?_
      ·intro c hc' hh;by_cases hlt:c < A.next
       ·exact .inl (hT c hlt hh)
       ·exact .inr ⟨by omega,hc'⟩
      ·intro b h3 h4;rw [hp.out b (.inr h3)];exact hfr b (Nat.le_trans hs.fr.next h3) h4
      ·rintro e2 w2 ⟨φ2,hp2,he2⟩;cases he2 with
       | panic _ v' hv=>exact hK φ2 w2 _ (hp.trans hs.fr.next hcs.fr hp2) hv
   ·exact absurd h (hno _ _)
   ·cases h
   ·rename_i v2 s e;injection e with e;injection e with e1 e2;subst e1;subst e2;injection h with h1 h2 h3;subst h1;subst h2;subst h3;have hs:=hO f o A _ _ hi hn hev;refine⟨rfl,hs.fr,fun φ T w a hf hr hT hfr K Q hK=>?_⟩;unfold l7;rw [gg hf hw,if_pos rfl];obtain⟨φ',w',hp,hnr⟩:=hs.run φ T w a hf hr hT hfr;unfold Oper.wp;generalize hres:(execOp a.eval o).run P w=res at hnr;cases hnr with
    | panic _ v' hv=>exact hK φ' w' _ hp hv
 ·exact absurd h (hno _ _)
 ·cases h
end
def i7 (P:Program):Prop:=∀(f:Fr) (o:Oper) (A:AS) (nx:dX) (A':AS),bQ P f o A=some (nx,A')→A.next≤A'.next
inductive zT (φ:dI):eZ→Exit→Prop
 | normal:zT φ .normal .normal
 | exit (id:Nat):zT φ (.exit id) (.exit id)
 | ret:zT φ .ret .ret
 | panic (v v':Value) (h:eR φ v v'):zT φ (.panic v) (.panic [{ v:=v',recovered:=false }])
structure oC (P:Program) (c:Code) (f:Fr) (A:AS) (x:eZ) (f':Fr) (A':AS):Prop where
 fr:mR A A'
 run:∀(φ:dI) (T:Nat→Prop) (w:World) (a:Act),fe φ f a→je P φ T A w→jd A A' T→ja A A' φ→∀(Q:Exit→Act→World→Prop),
  (∀φ' w' a' e,cK P φ T A A' w w' φ'→fe φ' f' a'→zT φ' x e→Q e a' w')→c.wp P Q a w
section
variable {P:Program}{call:dZ}
theorem lI (hO:i7 P) (hM:dQ call) {ops:List Oper}{f f':Fr}{o:Oper}{A A':AS}{v:Value} (h:io P call ops f o A=.on f' A'∨io P call ops f o A=.up v f' A'):A.next≤A'.next:=by
 have hon:∀(x:Option Fr) (s:AS),(kZ x s=.on f' A'∨kZ x s=.up v f' A')→s=A':=by
  intro x s hh;cases x with
  | none=>rcases hh with hh | hh<;>cases hh
  | some y=>
   rcases hh with hh | hh
   ·have h':St.on y s=.on f' A':=hh; injection h'
   ·cases hh
 unfold io at h;split at h
 ·cases hev:bQ P f o A with
  | none=>rw [hev] at h; rcases h with h | h<;>cases h
  | some r=>
   obtain⟨nx,B⟩:=r;have h1:=hO _ _ _ _ _ hev;rw [hev] at h;cases nx with
   | val u=>rw [← hon _ _ h]; exact h1
   | dfr x=>rw [← hon _ _ h]; exact h1
   | recover=>rcases h with h | h<;>cases h
   | panic u=>
    rcases h with h | h
    ·cases h
    ·have h':St.up u f B=.up v f' A':=h;injection h' with _ _ h3;rw [← h3]; exact h1
   | enter g args=>
    have h':lO f o.dst (call g args B)=.on f' A'∨lO f o.dst (call g args B)=.up v f' A':=h;cases hc:call g args B with
    | none=>rw [hc] at h'; rcases h' with h' | h'<;>cases h'
    | some r=>
     obtain⟨r,s⟩:=r;have h2:=hM _ _ _ _ _ hc;rw [hc] at h';cases r with
     | ret u=>rw [← hon _ _ h']; omega
     | panic u=>
      rcases h' with h' | h'
      ·cases h'
      ·have h'':St.up u f s=.up v f' A':=h';injection h'' with _ _ h3;rw [← h3]; omega
 ·rw [← hon _ _ h]; exact Nat.le_refl _
 ·rcases h with h | h<;>cases h
theorem ny {ops:List Oper} (o:Oper) (l:List Oper) (f:Fr) (A:AS):kA P call ops (o :: l) f A=OW (io P call ops f o A) (kA P call ops l):=rfl
theorem kS (hO:i7 P) (hM:dQ call) {ops:List Oper} : ∀(l:List Oper) {f f':Fr}{A A':AS}{v:Value},(kA P call ops l f A=.on f' A'∨kA P call ops l f A=.up v f' A')→A.next≤A'.next:=by
 intro l
 induction l with
 | nil=>
  intro f f' A A' v h;rcases h with h | h
  ·have h':St.on f A=.on f' A':=h; injection h' with _ h2; rw [h2]; exact Nat.le_refl _
  ·cases h
 | cons o l ih=>
  intro f f' A A' v h;rw [ny] at h;cases hs:io P call ops f o A with
  | no=>rw [hs] at h; rcases h with h | h<;>cases h
  | on g B=>
   rw [hs] at h;have h1:=lI (v:=v) hO hM (.inl hs);have h2:=ih h;omega
  | up u g B=>
   rw [hs] at h;have h1:=lI (v:=u) hO hM (.inr hs);rcases h with h | h
   ·cases h
   ·have h':St.up u g B=.up v f' A':=h;injection h' with _ _ h3;rw [← h3]; exact h1
theorem ec {A B C:AS}{φ:dI} (h:ja A C φ) (hn:B.next≤C.next):ja A B φ:=fun b h1 h2=>h b h1 (Nat.lt_of_lt_of_le h2 hn)
theorem dA {A B C:AS}{φ φ':dI}{T:Nat→Prop}{w w':World} (h:ja A C φ) (hn:A.next≤B.next) (hp:cK P φ T A B w w' φ'):ja B C φ':=fun b h1 h2=>by
 rw [hp.out b (.inr h1)];exact h b (Nat.le_trans hn h1) h2
theorem dK {A B C:AS}{T:Nat→Prop} (h:jd A C T):jd B C (fun c=>T c∨(A.next≤c∧c < B.next)):=fun c hc hh=>by
 by_cases hlt:c < A.next
 ·exact .inl (h c hlt hh)
 ·exact .inr ⟨by omega,hc⟩
structure nV (P:Program) (ops:Array Oper) (l:List Oper) (f:Fr) (A:AS) (x:eZ) (f':Fr) (A':AS):Prop where
 fr:mR A A'
 run:∀(φ:dI) (T:Nat→Prop) (w:World) (a:Act),fe φ f a→je P φ T A w→jd A A' T→ja A A' φ→∀(Q:Exit→Act→World→Prop),
  (∀φ' w' a' e,cK P φ T A A' w w' φ'→fe φ' f' a'→zT φ' x e→Q e a' w')→wpList P ops Q l a w
theorem mD {ops:Array Oper}{Q:Exit→Act→World→Prop}{o:Oper}{l:List Oper}{a:Act}{w:World} (h:l7 P ops Q o (wpList P ops Q l) a w):wpList P ops Q (o :: l) a w:=by
 unfold l7 at h;unfold wpList;split at h
 ·rename_i hw; rw [if_pos hw]; exact .inl h
 ·rename_i hw; rw [if_neg hw]; exact h
theorem zy (hO:cQ P) (hOm:i7 P) (hC:jn P call) (hM:dQ call) {ops:Array Oper} : ∀(l:List Oper) {f f':Fr}{A A':AS},cT A→A'.next≤A'.next→
  (kA P call ops.toList l f A=.on f' A'→nV P ops l f A .normal f' A')∧(∀v,kA P call ops.toList l f A=.up v f' A'→nV P ops l f A (.panic v) f' A'):=by
 intro l
 induction l with
 | nil=>
  intro f f' A A' hi hn;constructor
  ·intro h;have h':St.on f A=.on f' A':=h;injection h' with h1 h2;subst h1;subst h2;exact⟨.refl hi,fun φ T w a hf hr _ _ Q hQ=>hQ φ w a .normal (.refl hr rfl rfl rfl rfl rfl rfl rfl) hf .normal⟩
  ·intro v h; cases h
 | cons o l ih=>
  intro f f' A A' hi hn;have key:∀x,(∀g B,io P call ops.toList f o A=.on g B→B.next≤A'.next→nV P ops l g B x f' A')→(∃g B,io P call ops.toList f o A=.on g B∧B.next≤A'.next)→nV P ops (o :: l) f A x f' A':=by
   rintro x hx ⟨g,B,hs,hle⟩;have s1:=oL hO hC hM hi (Nat.le_refl _) hs;have s2:=hx g B hs hle;refine⟨s1.fr.trans s2.fr,fun φ T w a hf hr hT hfr Q hQ=>mD ?_⟩;refine s1.run φ T w a hf hr (hT.left s2.fr) (ec hfr s2.fr.next) _ Q fun φ' w' a' hp hf'=>?_;refine s2.run φ' _ w' a' hf' hp.rel (dK hT) (dA hfr s1.fr.next hp) Q fun φ2 w2 a2 e hp2 hf2 hx2=>?_;exact hQ φ2 w2 a2 e (hp.trans s1.fr.next s2.fr hp2) hf2 hx2
  constructor
  ·intro h;rw [ny] at h;cases hs:io P call ops.toList f o A with
   | no=>rw [hs] at h; cases h
   | up u g B=>rw [hs] at h; cases h
   | on g B=>
    rw [hs] at h;have h':kA P call ops.toList l g B=.on f' A':=h;have hle:=kS (v:=undef) hOm hM l (.inl h');exact key _ (fun g2 B2 hs2 _=>by
     rw [hs] at hs2;injection hs2 with e1 e2;subst e1;subst e2;exact (ih (oL hO hC hM hi (Nat.le_refl _) hs).fr.inv hn).1 h') ⟨g,B,hs,hle⟩
  ·intro v h;rw [ny] at h;cases hs:io P call ops.toList f o A with
   | no=>rw [hs] at h; cases h
   | up u g B=>
    rw [hs] at h;have h':St.up u g B=.up v f' A':=h;injection h' with e1 e2 e3;subst e1;subst e2;subst e3;obtain⟨rfl,s1⟩:=Lu hO hC hM hi hn hs;refine⟨s1.fr,fun φ T w a hf hr hT hfr Q hQ=>mD ?_⟩;exact s1.run φ T w a hf hr hT hfr _ Q fun φ' w' v' hp hv=>hQ φ' w' a _ hp (hf.mono hp.ext) (.panic _ _ hv)
   | on g B=>
    rw [hs] at h;have h':kA P call ops.toList l g B=.up v f' A':=h;have hle:=kS hOm hM l (.inr h');exact key _ (fun g2 B2 hs2 _=>by
     rw [hs] at hs2;injection hs2 with e1 e2;subst e1;subst e2;exact (ih (oL hO hC hM hi (Nat.le_refl _) hs).fr.inv hn).2 v h') ⟨g,B,hs,hle⟩
end
def yC (P:Program) (call:dZ):Prop:=∀(id:Nat) (ops:Array Oper) (f:Fr) (A:AS) (x:eZ) (f':Fr) (A':AS),cT A→A'.next≤A'.next→CH (jv P call ops ops.toList 0 .nil [] f A)=some (x,f',A')→oC P (.region id ops true) f A x f' A'
def lD (P:Program) (call:dZ):Prop:=∀(ops:Array Oper) (f:Fr) (A:AS) (x:eZ) (f':Fr) (A':AS),CH (jv P call ops ops.toList 0 .nil [] f A)=some (x,f',A')→A.next≤A'.next
def rL (body:Fr→AS→Ex):Prop:=∀(f:Fr) (A:AS) (x:eZ) (f':Fr) (A':AS),body f A=some (x,f',A')→A.next≤A'.next
section
variable {P:Program}{call:dZ}
theorem pw {r:Ex}{k:Fr→AS→Ex}{x:eZ}{f':Fr}{A':AS} (h:Ec r k=some (x,f',A')):(∃g B,r=some (.normal,g,B)∧k g B=some (x,f',A'))∨(r=some (x,f',A')∧x≠.normal):=by
 unfold Ec at h;split at h
 ·rename_i g B; exact .inl ⟨g,B,rfl,h⟩
 ·rename_i hne;refine .inr ⟨h,?_⟩;rintro rfl;exact hne _ _ h
theorem pe {r:St}{x:eZ}{f':Fr}{A':AS} (h:CH r=some (x,f',A')):(r=.on f' A'∧x=.normal)∨∃v,r=.up v f' A'∧x=.panic v:=by
 cases r with
 | no=>cases h
 | on f s=>have h':some (eZ.normal,f,s)=some (x,f',A'):=h; injection h' with h'; injection h' with h1 h2; injection h2 with h2 h3; subst h1; subst h2; subst h3; exact .inl ⟨rfl,rfl⟩
 | up v f s=>have h':some (eZ.panic v,f,s)=some (x,f',A'):=h; injection h' with h'; injection h' with h1 h2; injection h2 with h2 h3; subst h1; subst h2; subst h3; exact .inr ⟨v,rfl,rfl⟩
theorem uS (body:Fr→AS→Ex) (n:Nat) (f:Fr) (A:AS):AW body (n + 1) f A=Ec (body f A) (AW body n):=rfl
theorem uT {body:Fr→AS→Ex} (hb:rL body):∀n,rL (AW body n):=by
 intro n
 induction n with
 | zero=>intro f A x f' A' h; cases h
 | succ n ih=>
  intro f A x f' A' h;rw [uS] at h;rcases pw h with ⟨g,B,h1,h2⟩ | ⟨h1,_⟩
  ·exact Nat.le_trans (hb _ _ _ _ _ h1) (ih _ _ _ _ _ h2)
  ·exact hb _ _ _ _ _ h1
theorem sY {id:Nat}{r:Ex}{x:eZ}{f':Fr}{A':AS} (h:vd id r=some (x,f',A')):(r=some (.exit id,f',A')∧x=.normal)∨(r=some (x,f',A')∧x≠.exit id):=by
 unfold vd at h;split at h
 ·rename_i i g B;rcases iv h with ⟨hb,hx⟩ | ⟨hb,hx⟩
  ·obtain⟨rfl,rfl,rfl⟩ : eZ.exit i=x∧g=f'∧B=A':=by injection hx with h; injection h with h1 h2; injection h2 with h2 h3; exact⟨h1,h2,h3⟩
   refine .inr ⟨rfl,?_⟩;intro he;injection he with he;subst he;rw [Nat.beq_refl] at hb;cases hb
  ·have:=Nat.eq_of_beq_eq_true hb;subst this;obtain⟨rfl,rfl,rfl⟩ : eZ.normal=x∧g=f'∧B=A':=by injection hx with h; injection h with h1 h2; injection h2 with h2 h3; exact⟨h1,h2,h3⟩
   exact .inl ⟨rfl,rfl⟩
 ·rename_i hne;refine .inr ⟨h,?_⟩;rintro rfl;exact hne _ _ _ h
theorem uP {v:Option Value}{a b:Ex}{x:eZ}{f':Fr}{A':AS} (h:AY v a b=some (x,f',A')):(v=some (.bool true)∧a=some (x,f',A'))∨(v=some (.bool false)∧b=some (x,f',A')):=by
 unfold AY at h;split at h
 ·exact .inl ⟨rfl,h⟩
 ·exact .inr ⟨rfl,h⟩
 ·cases h
theorem fY (hO:i7 P) (hM:dQ call) (hD:lD P call) (c:Code):rL (dU P call c):=by
 induction c with
 | skip=>intro f A x f' A' h; have h':some (eZ.normal,f,A)=some (x,f',A'):=h; injection h' with h'; injection h' with _ h2; injection h2 with _ h3; rw [h3]; exact Nat.le_refl _
 | region id ops draw=>
  intro f A x f' A' h;cases draw with
  | false=>
   have h':CH (kA P call ops.toList ops.toList f A)=some (x,f',A'):=h;rcases pe h' with ⟨h1,_⟩ | ⟨v,h1,_⟩
   ·exact kS (v:=undef) hO hM _ (.inl h1)
   ·exact kS hO hM _ (.inr h1)
  | true=>exact hD ops f A x f' A' h
 | seq a b iha ihb=>
  intro f A x f' A' h;have h':Ec (dU P call a f A) (dU P call b)=some (x,f',A'):=h;rcases pw h' with ⟨g,B,h1,h2⟩ | ⟨h1,_⟩
  ·exact Nat.le_trans (iha _ _ _ _ _ h1) (ihb _ _ _ _ _ h2)
  ·exact iha _ _ _ _ _ h1
 | cond o a b iha ihb=>
  intro f A x f' A' h;have h':AY (f.eval o) (dU P call a f A) (dU P call b f A)=some (x,f',A'):=h;rcases uP h' with ⟨_,h1⟩ | ⟨_,h1⟩
  ·exact iha _ _ _ _ _ h1
  ·exact ihb _ _ _ _ _ h1
 | block id b ih=>
  intro f A x f' A' h;have h':vd id (dU P call b f A)=some (x,f',A'):=h;rcases sY h' with ⟨h1,_⟩ | ⟨h1,_⟩
  ·exact ih _ _ _ _ _ h1
  ·exact ih _ _ _ _ _ h1
 | loop b ih=>intro f A x f' A' h; exact uT ih tY f A x f' A' h
 | rangeFunc=>intro f A x f' A' h; cases h
 | exit id=>intro f A x f' A' h; have h':some (eZ.exit id,f,A)=some (x,f',A'):=h; injection h' with h'; injection h' with _ h2; injection h2 with _ h3; rw [h3]; exact Nat.le_refl _
 | scope=>intro f A x f' A' h; cases h
 | label=>intro f A x f' A' h; have h':some (eZ.normal,f,A)=some (x,f',A'):=h; injection h' with h'; injection h' with _ h2; injection h2 with _ h3; rw [h3]; exact Nat.le_refl _
 | goto=>intro f A x f' A' h; cases h
 | ret=>intro f A x f' A' h; have h':some (eZ.ret,f,A)=some (x,f',A'):=h; injection h' with h'; injection h' with _ h2; injection h2 with _ h3; rw [h3]; exact Nat.le_refl _
 | refuse=>intro f A x f' A' h; cases h
theorem yf {α β γ:Type}{a a':α}{b b':β}{c c':γ} (h:some (a,b,c)=some (a',b',c')):a=a'∧b=b'∧c=c':=by injection h with h; injection h with h1 h2; injection h2 with h2 h3; exact⟨h1,h2,h3⟩
theorem gv {c:Code}{f:Fr}{A:AS}{x:eZ} (hi:cT A) (h:∀(φ:dI) (a:Act) (w:World) (Q:Exit→Act→World→Prop),(∀e,zT φ x e→Q e a w)→c.wp P Q a w):oC P c f A x f A:=
 ⟨.refl hi,fun φ _ w a hf hr _ _ Q hQ=>h φ a w Q fun e he=>hQ φ w a e (.refl hr rfl rfl rfl rfl rfl rfl rfl) hf he⟩
theorem Bm {c:Code} (hm:rL (dU P call c)) (hc:∀(f:Fr) (A:AS) (x:eZ) (f':Fr) (A':AS),cT A→A'.next≤A'.next→dU P call c f A=some (x,f',A')→oC P c f A x f' A') :
  ∀(n:Nat) (f:Fr) (A:AS) (x:eZ) (f':Fr) (A':AS),cT A→A'.next≤A'.next→AW (dU P call c) n f A=some (x,f',A')→mR A A'∧x≠.normal∧
   ∀(φ:dI) (T:Nat→Prop) (w:World) (a:Act),fe φ f a→je P φ T A w→jd A A' T→ja A A' φ→∀(Q:Exit→Act→World→Prop),
    (∀φ' w' a' e,cK P φ T A A' w w' φ'→fe φ' f' a'→zT φ' x e→Q e a' w')→Code.rounds P c Q n a w:=by
 intro n
 induction n with
 | zero=>intro f A x f' A' _ _ h; cases h
 | succ n ih=>
  intro f A x f' A' hi hn h;rw [uS] at h;rcases pw h with ⟨g,B,h1,h2⟩ | ⟨h1,hne⟩
  ·have hle:=uT hm n _ _ _ _ _ h2;have s1:=hc _ _ _ _ _ hi (Nat.le_refl _) h1;obtain⟨f2,hx,s2⟩:=ih _ _ _ _ _ s1.fr.inv hn h2;refine⟨s1.fr.trans f2,hx,fun φ T w a hf hr hT hfr Q hQ=>?_⟩;rw [rounds_succ];refine s1.run φ T w a hf hr (hT.left f2) (ec hfr f2.next) _ fun φ' w' a' e hp hf' he=>?_;cases he;exact s2 φ' _ w' a' hf' hp.rel (dK hT) (dA hfr s1.fr.next hp) Q fun φ2 w2 a2 e hp2 hf2 hx2=>hQ φ2 w2 a2 e (hp.trans s1.fr.next f2 hp2) hf2 hx2
  ·have s1:=hc _ _ _ _ _ hi hn h1;refine⟨s1.fr,hne,fun φ T w a hf hr hT hfr Q hQ=>?_⟩;rw [rounds_succ];refine s1.run φ T w a hf hr hT hfr _ fun φ' w' a' e hp hf' he=>?_;have:=hQ φ' w' a' e hp hf' he;cases he with
   | normal=>exact absurd rfl hne
   | exit id=>exact this
   | ret=>exact this
   | panic v v' hv=>exact this
theorem oi (hO:cQ P) (hOm:i7 P) (hC:jn P call) (hM:dQ call) (hD:yC P call) (hDm:lD P call) (c:Code) :
  ∀(f:Fr) (A:AS) (x:eZ) (f':Fr) (A':AS),cT A→A'.next≤A'.next→dU P call c f A=some (x,f',A')→oC P c f A x f' A':=by
 induction c with
 | skip=>
  intro f A x f' A' hi hn h;obtain⟨rfl,rfl,rfl⟩:=yf (show some (eZ.normal,f,A)=some (x,f',A') from h);exact gv hi fun φ a w Q hQ=>wp_skip (hQ _ .normal)
 | region id ops draw=>
  intro f A x f' A' hi hn h;cases draw with
  | false=>
   have h':CH (kA P call ops.toList ops.toList f A)=some (x,f',A'):=h;have hs:=zy hO hOm hC hM (ops:=ops) ops.toList (f:=f) (f':=f') hi hn;rcases pe h' with ⟨h1,rfl⟩ | ⟨v,h1,rfl⟩
   ·have s:=hs.1 h1;exact⟨s.fr,fun φ T w a hf hr hT hfr Q hQ=>wp_region_list (s.run φ T w a hf hr hT hfr Q hQ)⟩
   ·have s:=hs.2 v h1;exact⟨s.fr,fun φ T w a hf hr hT hfr Q hQ=>wp_region_list (s.run φ T w a hf hr hT hfr Q hQ)⟩
  | true=>exact hD id ops f A x f' A' hi hn h
 | seq a b iha ihb=>
  intro f A x f' A' hi hn h;have h':Ec (dU P call a f A) (dU P call b)=some (x,f',A'):=h;rcases pw h' with ⟨g,B,h1,h2⟩ | ⟨h1,hne⟩
  ·have hle:=fY hOm hM hDm b _ _ _ _ _ h2;have s1:=iha _ _ _ _ _ hi (Nat.le_refl _) h1;have s2:=ihb _ _ _ _ _ s1.fr.inv hn h2;refine⟨s1.fr.trans s2.fr,fun φ T w a hf hr hT hfr Q hQ=>wp_seq ?_⟩;refine s1.run φ T w a hf hr (hT.left s2.fr) (ec hfr s2.fr.next) _ fun φ' w' a' e hp hf' he=>?_;cases he;exact s2.run φ' _ w' a' hf' hp.rel (dK hT) (dA hfr s1.fr.next hp) Q fun φ2 w2 a2 e hp2 hf2 hx2=>hQ φ2 w2 a2 e (hp.trans s1.fr.next s2.fr hp2) hf2 hx2
  ·have s1:=iha _ _ _ _ _ hi hn h1;refine⟨s1.fr,fun φ T w a hf hr hT hfr Q hQ=>wp_seq ?_⟩;refine s1.run φ T w a hf hr hT hfr _ fun φ' w' a' e hp hf' he=>?_;have:=hQ φ' w' a' e hp hf' he;cases he with
   | normal=>exact absurd rfl hne
   | exit id=>exact this
   | ret=>exact this
   | panic v v' hv=>exact this
 | cond o a b iha ihb=>
  intro f A x f' A' hi hn h;have h':AY (f.eval o) (dU P call a f A) (dU P call b f A)=some (x,f',A'):=h;rcases uP h' with ⟨hv,h1⟩ | ⟨hv,h1⟩
  ·have s1:=iha _ _ _ _ _ hi hn h1;refine⟨s1.fr,fun φ T w a hf hr hT hfr Q hQ=>?_⟩;have ho:=hf.eval hv;generalize hq:a.eval o=q at ho;cases ho;exact wp_cond_true hq (s1.run φ T w a hf hr hT hfr Q hQ)
  ·have s1:=ihb _ _ _ _ _ hi hn h1;refine⟨s1.fr,fun φ T w a hf hr hT hfr Q hQ=>?_⟩;have ho:=hf.eval hv;generalize hq:a.eval o=q at ho;cases ho;exact wp_cond_false hq (s1.run φ T w a hf hr hT hfr Q hQ)
 | block id b ih=>
  intro f A x f' A' hi hn h;have h':vd id (dU P call b f A)=some (x,f',A'):=h;rcases sY h' with ⟨h1,rfl⟩ | ⟨h1,hne⟩
  ·have s1:=ih _ _ _ _ _ hi hn h1;refine⟨s1.fr,fun φ T w a hf hr hT hfr Q hQ=>wp_block ?_⟩;refine s1.run φ T w a hf hr hT hfr _ fun φ' w' a' e hp hf' he=>?_;cases he;show (if id=id then Q .normal a' w' else _);rw [if_pos rfl];exact hQ φ' w' a' _ hp hf' .normal
  ·have s1:=ih _ _ _ _ _ hi hn h1;refine⟨s1.fr,fun φ T w a hf hr hT hfr Q hQ=>wp_block ?_⟩;refine s1.run φ T w a hf hr hT hfr _ fun φ' w' a' e hp hf' he=>?_;have:=hQ φ' w' a' e hp hf' he;cases he with
   | normal=>exact this
   | exit i=>
    show (if i=id then _ else Q (.exit i) a' w');rw [if_neg (by rintro rfl; exact hne rfl)];exact this
   | ret=>exact this
   | panic v v' hv=>exact this
 | loop b ih=>
  intro f A x f' A' hi hn h;obtain⟨h1,hx,h2⟩:=Bm (fY hOm hM hDm b) ih tY f A x f' A' hi hn h;exact⟨h1,fun φ T w a hf hr hT hfr Q hQ=>wp_loop_rounds tY (h2 φ T w a hf hr hT hfr Q hQ)⟩
 | rangeFunc=>intro f A x f' A' _ _ h; cases h
 | exit id=>
  intro f A x f' A' hi hn h;obtain⟨rfl,rfl,rfl⟩:=yf (show some (eZ.exit id,f,A)=some (x,f',A') from h);exact gv hi fun φ a w Q hQ=>wp_exit (hQ _ (.exit id))
 | scope=>intro f A x f' A' _ _ h; cases h
 | label l=>
  intro f A x f' A' hi hn h;obtain⟨rfl,rfl,rfl⟩:=yf (show some (eZ.normal,f,A)=some (x,f',A') from h);exact gv hi fun φ a w Q hQ=>wp_label (hQ _ .normal)
 | goto=>intro f A x f' A' _ _ h; cases h
 | ret=>
  intro f A x f' A' hi hn h;obtain⟨rfl,rfl,rfl⟩:=yf (show some (eZ.ret,f,A)=some (x,f',A') from h);exact gv hi fun φ a w Q hQ=>wp_ret (hQ _ .ret)
 | refuse=>intro f A x f' A' _ _ h; cases h
end
section
variable {P:Program}{call:dZ}
theorem Bb (v:Value) (l:List Value) (i:Nat) (t:Tr Value):pZ (v :: l) i t=pZ l (i + 1) (Tr.set v 40 t i):=by
 show dO (Tr.set v 40 t i) (fun t=>pZ l (Nat.add i 1) t)=_;rw [dh]
theorem wh:∀(l:List Value) (i:Nat) (t:Tr Value),i + l.length≤2000000→∀x,(pZ l i t).get x=if i≤x∧x < i + l.length then l[x - i]? else t.get x:=by
 intro l
 induction l with
 | nil=>intro i t _ x; rw [if_neg (by simp)]; rfl
 | cons v l ih=>
  intro i t h x;simp only [List.length_cons] at h ⊢;have hf:kC i:=trivial;rw [Bb,ih _ _ (by omega),Tr.get_set _ _ _ _ hf];by_cases h1:i + 1≤x∧x < i + 1 + l.length
  ·rw [if_pos h1,if_pos (by omega),show x - i=(x - (i + 1)) + 1 by omega,List.getElem?_cons_succ]
  ·rw [if_neg h1];by_cases h2:x=i
   ·subst h2; rw [if_pos rfl,if_pos (by omega)]; simp
   ·rw [if_neg h2,if_neg (by omega)]
theorem rI {φ:dI}{fn:Func}{args args':Array Value} (h:bu φ args.toList args'.toList) (h1:fn.ntmps≤1000000) (h2:args.toList.length≤fn.ntmps):fe φ (wz fn args) { tmps:=args' ++ Array.replicate (fn.ntmps - args'.size) undef,defers:=[] }:=by
 have hl:=h.length;simp only [Array.length_toList] at hl h2;refine⟨?_,h1,fun t=>?_,.nil⟩
 ·show (args' ++ Array.replicate (fn.ntmps - args'.size) undef).size=fn.ntmps;rw [Array.size_append,Array.size_replicate]; omega
 ·show eR φ (((pZ args.toList 0 .nil).get t).getD undef) ((args' ++ Array.replicate (fn.ntmps - args'.size) undef).getD t undef);rw [wh _ _ _ (by simp; omega),Array.getD_eq_getD_getElem?,Array.getElem?_append];by_cases ht:t < args'.size
  ·rw [if_pos (by simp; omega),if_pos ht,Nat.sub_zero];have hlt:t < args.toList.length:=by simp; omega
   obtain⟨v',e1,e2⟩:=bu.get t h (List.getElem?_eq_getElem hlt);rw [List.getElem?_eq_getElem hlt,show args'[t]?=some v' by simpa using e1];exact e2
  ·rw [if_neg (by simp; omega),if_neg ht,Tr.get_nil];have:(Array.replicate (fn.ntmps - args'.size) undef)[t - args'.size]?.getD undef=undef:=by
    rw [Array.getElem?_replicate]; split<;>rfl
   rw [this];exact iP φ
def J7 (tmps:Array Value):ResultVar→Sem Value
 | .tmp t=>pure (tmps.getD t undef)
 | .cell a t=>do loadVar t (← asAddr (tmps.getD a undef))
def zm:List Value→Value
 | [v]=>v
 | vs=>.tuple vs.toArray
theorem Db (fn:Func) (tmps:Array Value):results fn tmps=(fn.results.mapM (J7 tmps) >>= fun vs=>pure (if h:vs.size=1 then vs[0] else .tuple vs)):=by
 unfold results;congr 1
theorem sW {fn:Func}{tmps:Array Value}{vs:List Value}{w:World} (h:(fn.results.toList.mapM (J7 tmps)).run P w=.ok vs w):(results fn tmps).run P w=.ok (zm vs) w:=by
 rw [Db,Sem.run_bind,Array.mapM_eq_mapM_toList,map_eq_pure_bind,Sem.run_bind,h];simp only [Result.andThen,Sem.run_pure];cases vs with
 | nil=>rfl
 | cons v vs=>cases vs<;>rfl
theorem Ge {t:TypeId}{pv v:Value}{A A':AS} (hi:cT A) (h:nC P t (some pv) A=some (.val v,A')):mR A A'∧∀(φ:dI) (T:Nat→Prop) (w:World) (pv':Value),eR φ pv pv'→je P φ T A w→jd A A' T→
  ∃v',eR φ v v'∧(do loadVar t (← asAddr pv'):Sem Value).run P w=.ok v' w∧cK P φ T A A' w w φ:=by
 unfold nC at h;split at h
 ·rename_i b off hx;injection hx with hx;subst hx;split at h
  ·rename_i dd hd;unfold mn at h;rcases iv h with ⟨ha,h1⟩ | ⟨ha,h1⟩
   ·unfold uC at h1;split at h1
    ·rename_i u s1 hl;injection h1 with h1;injection h1 with h2 h3;injection h2 with h2;subst h2;subst h3;refine⟨AC hi hl,fun φ T w pv' hp hr hT=>?_⟩;cases hp with
     | ptr _ _ i hφ=>
      obtain⟨xs',g1,g2,g3⟩:=uq hi hl hr hT hφ;cases g1 with
      | cons _ v' _ l' hv hs=>
       have hc:=g2 0 v' rfl;rw [fA,Nat.add_zero] at hc;refine⟨v',hv,?_,g3⟩;simp only [asAddr,loadVar,Sem.run_bind,Sem.run_pure,Result.andThen,oZ hd,ha];simp [run_load,hc]
    ·cases h1
   ·split at h1
    ·rename_i n hsz;unfold uu at h1;split at h1
     ·rename_i xs s1 hl;injection h1 with h1;injection h1 with h2 h3;injection h2 with h2;subst h2;subst h3;refine⟨AC hi hl,fun φ T w pv' hp hr hT=>?_⟩;cases hp with
      | ptr _ _ i hφ=>
       obtain⟨xs',g1,g2,g3⟩:=uq hi hl hr hT hφ;have hlen:xs'.length=n:=by
        obtain⟨_,_,_,_,_,_,hl',_⟩:=oS hl;rw [← g1.length,hl']
       refine⟨.agg xs'.toArray,.agg _ _ g1,?_,g3⟩;simp only [asAddr,loadVar,Sem.run_bind,Sem.run_pure,Result.andThen,oZ hd,ha];have:=run_loadCells_list (P:=P) w ⟨i.blk,i.sh + off,none⟩ xs' g2;rw [hlen] at this;simp [this,Sem.run_bind,Result.andThen,fS hsz]
     ·cases h1
    ·cases h1
  ·cases h
 ·cases h
theorem jr (f:Fr) (rv:ResultVar) (l:List ResultVar) (A:AS):jE P f (rv :: l) A=(match rv with
   | .tmp t=>(match jE P f l A with
    | some (vs,s)=>some ((f.tmps.get t).getD undef :: vs,s)
    | none=>none)
   | .cell a t=>(match lX P (f.tmps.get a) t A with
    | some (v,s)=>(match jE P f l s with
     | some (vs,s)=>some (v :: vs,s)
     | none=>none)
    | none=>none)):=rfl
theorem zN (f:Fr):∀(l:List ResultVar) {A A':AS}{vs:List Value},cT A→jE P f l A=some (vs,A')→mR A A'∧∀(φ:dI) (T:Nat→Prop) (w:World) (a:Act),fe φ f a→je P φ T A w→jd A A' T→
  ∃vs',bu φ vs vs'∧(l.mapM (J7 a.tmps)).run P w=.ok vs' w∧cK P φ T A A' w w φ:=by
 intro l
 induction l with
 | nil=>
  intro A A' vs hi h;have h':some (([]:List Value),A)=some (vs,A'):=h;injection h' with h';injection h' with h1 h2;subst h1;subst h2;exact⟨.refl hi,fun φ T w a _ hr _=>⟨[],.nil,rfl,.refl hr rfl rfl rfl rfl rfl rfl rfl⟩⟩
 | cons rv l ih=>
  intro A A' vs hi h;rw [jr] at h;cases rv with
  | tmp t=>
   simp only at h;split at h
   ·rename_i us s hs;injection h with h;injection h with h1 h2;subst h1;subst h2;obtain⟨f1,r1⟩:=ih hi hs;refine⟨f1,fun φ T w a hf hr hT=>?_⟩;obtain⟨vs',g1,g2,g3⟩:=r1 φ T w a hf hr hT;refine⟨a.tmps.getD t undef :: vs',.cons _ _ _ _ (hf.tmps t) g1,?_,g3⟩;rw [List.mapM_cons,Sem.run_bind];simp only [J7,Sem.run_pure,Result.andThen,Sem.run_bind,g2]
   ·cases h
  | cell b t=>
   simp only at h;split at h
   ·rename_i v s hc;split at h
    ·rename_i us s2 hs;injection h with h;injection h with h1 h2;subst h1;subst h2;unfold lX at hc;split at hc
     ·rename_i u s1 hl;injection hc with hc;injection hc with h3 h4;subst h3;subst h4;cases hb:f.tmps.get b with
      | none=>rw [hb] at hl; cases hl
      | some pv=>
       rw [hb] at hl;obtain⟨f1,r1⟩:=Ge hi hl;obtain⟨f2,r2⟩:=ih f1.inv hs;refine⟨f1.trans f2,fun φ T w a hf hr hT=>?_⟩;have hp:=hf.tmps b;rw [hb] at hp;obtain⟨v',g1,g2,g3⟩:=r1 φ T w _ hp hr (hT.left f2);obtain⟨vs',k1,k2,k3⟩:=r2 φ _ w a hf g3.rel (dK hT);refine⟨v' :: vs',.cons _ _ _ _ g1 k1,?_,g3.trans f1.next f2 k3⟩;have e:(J7 a.tmps (.cell b t)).run P w=.ok v' w:=g2;rw [List.mapM_cons,Sem.run_bind,e];simp only [Result.andThen,Sem.run_bind,k2,Sem.run_pure]
     ·cases hc
    ·cases h
   ·cases h
theorem CZ {fn:Func}{f:Fr}{A A':AS}{r:j4} (hi:cT A) (h:finish P fn f A=some (r,A')):mR A A'∧∀(φ:dI) (T:Nat→Prop) (w:World) (a:Act),fe φ f a→je P φ T A w→jd A A' T→
  ∃v',oc φ r (.returned v')∧(results fn a.tmps).run P w=.ok v' w∧cK P φ T A A' w w φ:=by
 have key:∃vs,jE P f fn.results.toList A=some (vs,A')∧r=.ret (zm vs):=by
  unfold finish at h;split at h
  ·rename_i v s hs;injection h with h;injection h with h1 h2;subst h1;subst h2;exact⟨_,hs,rfl⟩
  ·rename_i vs s hne hs;injection h with h;injection h with h1 h2;subst h1;subst h2;refine⟨_,hs,?_⟩;cases vs with
   | nil=>rfl
   | cons v vs=>cases vs with
    | nil=>exact (hne _ rfl).elim
    | cons u us=>rfl
  ·cases h
 obtain⟨vs,hs,rfl⟩:=key;obtain⟨f1,r1⟩:=zN f _ hi hs;refine⟨f1,fun φ T w a hf hr hT=>?_⟩;obtain⟨vs',g1,g2,g3⟩:=r1 φ T w a hf hr hT;refine⟨zm vs',.ret _ _ ?_,sW g2,g3⟩;cases g1 with
 | nil=>exact .tuple _ _ .nil
 | cons v v' l l' hv hs2=>
  cases hs2 with
  | nil=>exact hv
  | cons u u' m m' hu hm=>exact .tuple _ _ (.cons _ _ _ _ hv (.cons _ _ _ _ hu hm))
end
inductive tI (φ:dI):Option Value→FrameMode→Prop
 | ret:tI φ none .returning
 | panic (v v':Value) (h:eR φ v v'):tI φ (some v) (.panicking [{ v:=v',recovered:=false }])
theorem tI.mono {φ φ':dI} (he:BR φ φ') {u:Option Value}{m:FrameMode} (h:tI φ u m):tI φ' u m:=by
 cases h with
 | ret=>exact .ret
 | panic v v' h=>exact .panic v v' (h.mono he)
def zV (P:Program) (call:dZ):Prop:=∀(d:Deferred) (A:AS) (u:Option Value) (A':AS) (u':Option Value),cT A→A'.next≤A'.next→gP P call d A u=some (A',u')→mR A A'∧
 ∀(φ:dI) (T:Nat→Prop) (w:World) (d':Deferred) (m:FrameMode),C2 φ d d'→tI φ u m→je P φ T A w→jd A A' T→ja A A' φ→
  ∃fv cap g args,d'.target=.fn fv cap∧(invoke d'.target d'.args).run P w=.ok (.enter g args) w∧CallsD P g args m w fun e m' w'=>∃v φ',e=.returned v∧cK P φ T A A' w w' φ'∧tI φ' u' (settle m')
def pg (P:Program) (call:dZ):Prop:=∀(d:Deferred) (A:AS) (u:Option Value) (A':AS) (u':Option Value),gP P call d A u=some (A',u')→A.next≤A'.next
section
variable {P:Program}{call:dZ}
theorem uc {A A':AS}{b off n:Nat}{xs:List Value} (h:ld A b off n=some (xs,A')):A'.next=A.next:=by
 obtain⟨_,_,_,_,_,_,_,rfl⟩:=oS h;rw [aH]
theorem zj {a:Option Value}{t:TypeId}{A A':AS}{v:Value} (h:lX P a t A=some (v,A')):A'.next=A.next:=by
 unfold lX at h;split at h
 ·rename_i u s hl;injection h with h;injection h with h1 h2;subst h2;unfold nC at hl;split at hl
  ·split at hl
   ·unfold mn at hl;rcases iv hl with ⟨_,h1⟩ | ⟨_,h1⟩
    ·unfold uC at h1;split at h1
     ·rename_i hld;injection h1 with h1;injection h1 with _ h3;subst h3;exact uc hld
     ·cases h1
    ·split at h1
     ·unfold uu at h1;split at h1
      ·rename_i hld;injection h1 with h1;injection h1 with _ h3;subst h3;exact uc hld
      ·cases h1
     ·cases h1
   ·cases hl
  ·cases hl
 ·cases h
theorem pT (f:Fr):∀(l:List ResultVar) {A A':AS}{vs:List Value},jE P f l A=some (vs,A')→A'.next=A.next:=by
 intro l
 induction l with
 | nil=>intro A A' vs h; have h':some (([]:List Value),A)=some (vs,A'):=h; injection h' with h'; injection h' with _ h2; rw [h2]
 | cons rv l ih=>
  intro A A' vs h;rw [jr] at h;cases rv with
  | tmp t=>
   simp only at h;split at h
   ·rename_i us s hs;injection h with h;injection h with _ h2;subst h2;exact ih hs
   ·cases h
  | cell b t=>
   simp only at h;split at h
   ·rename_i v s hc;split at h
    ·rename_i us s2 hs;injection h with h;injection h with _ h2;subst h2;rw [ih hs,zj hc]
    ·cases h
   ·cases h
theorem Bt {fn:Func}{f:Fr}{A A':AS}{r:j4} (h:finish P fn f A=some (r,A')):A'.next=A.next:=by
 unfold finish at h;split at h
 ·rename_i hs;injection h with h;injection h with _ h2;subst h2;exact pT f _ hs
 ·rename_i hs;injection h with h;injection h with _ h2;subst h2;exact pT f _ hs
 ·cases h
theorem uW {fn:Func}{f:Fr} (d:Deferred) (ds:List Deferred) (A:AS) (u:Option Value):rz P call fn f (d :: ds) A u=(match gP P call d A u with
  | some (s,u')=>rz P call fn f ds s u'
  | none=>none):=rfl
theorem qO (hD:pg P call) {fn:Func}{f:Fr} : ∀(ds:List Deferred) {A A':AS}{u:Option Value}{r:j4},rz P call fn f ds A u=some (r,A')→A.next≤A'.next:=by
 intro ds
 induction ds with
 | nil=>
  intro A A' u r h;have h':nX P fn f A u=some (r,A'):=h;unfold nX at h';split at h'
  ·rw [Bt h']; exact Nat.le_refl _
  ·injection h' with h'; injection h' with _ h2; rw [h2]; exact Nat.le_refl _
 | cons d ds ih=>
  intro A A' u r h;rw [uW] at h;split at h
  ·rename_i s u' hd;exact Nat.le_trans (hD _ _ _ _ _ hd) (ih h)
  ·cases h
theorem oj (hD:zV P call) (hDm:pg P call) {fn:Func}{f:Fr} : ∀(ds:List Deferred) {A A':AS}{u:Option Value}{r:j4},cT A→A'.next≤A'.next→rz P call fn f ds A u=some (r,A')→mR A A'∧
  ∀(φ:dI) (T:Nat→Prop) (w:World) (a:Act) (ds':List Deferred) (m:FrameMode),fe φ f a→qY φ ds ds'→tI φ u m→je P φ T A w→jd A A' T→ja A A' φ→
   ∀(R:Ending→World→Prop),(∀φ' w' e,cK P φ T A A' w w' φ'→oc φ' r e→R e w')→Leaves P fn a.tmps R ds' m w:=by
 intro ds
 induction ds with
 | nil=>
  intro A A' u r hi hn h;have h':nX P fn f A u=some (r,A'):=h;unfold nX at h';split at h'
  ·obtain⟨f1,r1⟩:=CZ hi h';refine⟨f1,fun φ T w a ds' m hf hd hu hr hT _ R hR=>?_⟩;cases hd;cases hu;obtain⟨v',g1,g2,g3⟩:=r1 φ T w a hf hr hT;exact⟨v',g2,hR φ w _ g3 g1⟩
  ·injection h' with h';injection h' with h1 h2;subst h1;subst h2;refine⟨.refl hi,fun φ T w a ds' m hf hd hu hr hT _ R hR=>?_⟩;cases hd;cases hu with
   | panic _ v' hv=>exact hR φ w _ (.refl hr rfl rfl rfl rfl rfl rfl rfl) (.panic _ _ hv)
 | cons d ds ih=>
  intro A A' u r hi hn h;rw [uW] at h;split at h
  ·rename_i B u' hd;have hle:=qO hDm ds h;obtain⟨f1,r1⟩:=hD _ _ _ _ _ hi (Nat.le_refl _) hd;obtain⟨f2,r2⟩:=ih f1.inv hn h;refine⟨f1.trans f2,fun φ T w a ds' m hf hds hu hr hT hfr R hR=>?_⟩;cases hds with
   | cons _ d' _ ds'' hdd hdl=>
    have hm:m≠.run:=by cases hu<;>simp
    obtain⟨fv,cap,g,args,e1,e2,e3⟩:=r1 φ T w d' m hdd hu hr (hT.left f2) (ec hfr f2.next);refine⟨hm,fv,cap,g,args,e1,e2,e3.mono ?_⟩;rintro e m' w' ⟨v,φ',rfl,hp,hu'⟩;exact r2 φ' _ w' a ds'' (settle m') (hf.mono hp.ext) (hdl.mono hp.ext) hu' hp.rel (dK hT) (dA hfr f1.next hp) R fun φ2 w2 e hp2 he=>hR φ2 w2 e (hp.trans f1.next f2 hp2) he
  ·cases h
def tc (P:Program):Prop:=∀call,jn P call→dQ call→yC P call∧lD P call∧zV P call∧pg P call
theorem yJ {fn:Func}{r:Ex}{q:j4}{A':AS} (h:zD P call fn r=some (q,A')):∃x f B,r=some (x,f,B)∧((x=.normal∨x=.ret)∧rz P call fn f f.defers B none=some (q,A')∨∃v,x=.panic v∧rz P call fn f f.defers B (some v)=some (q,A')):=by
 unfold zD at h;split at h
 ·exact⟨_,_,_,rfl,.inl ⟨.inl rfl,h⟩⟩
 ·exact⟨_,_,_,rfl,.inl ⟨.inr rfl,h⟩⟩
 ·exact⟨_,_,_,rfl,.inr ⟨_,rfl,h⟩⟩
 ·cases h
theorem A8 (hP:tc P) (hO:cQ P) (hOm:i7 P) (hC:jn P call) (hM:dQ call) {g:FuncId}{fn:Func} (hfn:P.funcs[g]?=some fn) {args:Array Value}{A A':AS}{r:j4} (h:Cc P call fn args A=some (r,A')) :
  A.next≤A'.next∧(cT A→A'.next≤A'.next→eU P g args A r A'):=by
 obtain⟨hD,hDm,hF,hFm⟩:=hP call hC hM;unfold Cc at h;split at h
 ·rename_i c hc;obtain⟨hb,h⟩:=aI h;simp only [Bool.and_eq_true] at hb;have b1:=Nat.le_of_ble_eq_true hb.1;have b2:=Nat.le_of_ble_eq_true hb.2;obtain⟨x,f,B,h1,h2⟩:=yJ h;have m1:=fY hOm hM hDm c _ _ _ _ _ h1;have m2:B.next≤A'.next:=by
   rcases h2 with ⟨_,h2⟩ | ⟨v,_,h2⟩
   ·exact qO hFm _ h2
   ·exact qO hFm _ h2
  refine⟨Nat.le_trans m1 m2,fun hi hn=>?_⟩;have s1:=oi hO hOm hC hM hD hDm c _ _ _ _ _ hi (Nat.le_refl _) h1;rcases h2 with ⟨hx,h2⟩ | ⟨v,rfl,h2⟩
  ·obtain⟨f2,r2⟩:=oj hF hFm _ s1.fr.inv hn h2;refine⟨s1.fr.trans f2,fun φ T w args' hargs hr hT hfr=>calls_of_wp_defers hfn hc ?_⟩;refine s1.run φ T w _ (rI hargs b1 b2) hr (hT.left f2) (ec hfr f2.next) _ fun φ' w' a' e hp hf' he=>?_;have key:=r2 φ' _ w' a' a'.defers .returning hf' hf'.defers .ret hp.rel (dK hT) (dA hfr s1.fr.next hp) (fun e w'=>∃φ',cK P φ T A A' w w' φ'∧oc φ' r e) fun φ2 w2 e hp2 he=>⟨φ2,hp.trans s1.fr.next f2 hp2,he⟩
   rcases hx with rfl | rfl
   ·cases he; exact key
   ·cases he; exact key
  ·obtain⟨f2,r2⟩:=oj hF hFm _ s1.fr.inv hn h2;refine⟨s1.fr.trans f2,fun φ T w args' hargs hr hT hfr=>calls_of_wp_defers hfn hc ?_⟩;refine s1.run φ T w _ (rI hargs b1 b2) hr (hT.left f2) (ec hfr f2.next) _ fun φ' w' a' e hp hf' he=>?_;cases he with
   | panic _ v' hv=>
    exact r2 φ' _ w' a' a'.defers _ hf' hf'.defers (.panic _ _ hv) hp.rel (dK hT) (dA hfr s1.fr.next hp) (fun e w'=>∃φ',cK P φ T A A' w w' φ'∧oc φ' r e) fun φ2 w2 e hp2 he=>⟨φ2,hp.trans s1.fr.next f2 hp2,he⟩
 ·cases h
def An (P:Program) (orc:IZ):Prop:=∀(g:FuncId) (args:Array Value) (A:AS) (r:j4) (A':AS),ud orc g args A=some (some (r,A'))→A.next≤A'.next∧(cT A→A'.next≤A'.next→eU P g args A r A')
theorem wo (hP:tc P) (hO:cQ P) (hOm:i7 P) {orc:IZ} (hQ:An P orc):∀n,jn P (lU P orc n)∧dQ (lU P orc n):=by
 intro n
 induction n with
 | zero=>exact⟨fun g args A r A' _ _ h=>(by cases h),fun g args A r A' h=>(by cases h)⟩
 | succ n ih=>
  have key:∀g args A r A',lU P orc (n + 1) g args A=some (r,A')→A.next≤A'.next∧(cT A→A'.next≤A'.next→eU P g args A r A'):=by
   intro g args A r A' h;have h':(match ud orc g args A with | some r=>r | none=>sy P (lU P orc n) g args A)=some (r,A'):=h;split at h'
   ·rename_i q hq;subst h';exact hQ g args A r A' hq
   ·unfold sy at h';split at h'
    ·cases h'
    ·rename_i fn hfn;exact A8 hP hO hOm ih.1 ih.2 hfn h'
  exact⟨fun g args A r A' hi hn h=>(key g args A r A' h).2 hi hn,fun g args A r A' h=>(key g args A r A' h).1⟩
end
end Go.EvL
