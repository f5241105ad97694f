/- CompletePoints: for every input the law returns true and its arguments read afterwards as before, where the listed package variables hold what the text of the program lays (the given tie). No other condition. -/
import Derived.Test.YtioblbopbilmaaaGreatDoorTxN
import Derived.Test.YtioblbopbilmaaaGreatDoorTxO
import Derived.Test.YtioblbopbilmaaaGreatDoorTxP
import Derived.Test.YtioblbopbilmaaaGreatDoorTxQ
set_option linter.all false
namespace Go.Proofs.YtioblbopbilmaaaGreatDoor
open Go Go.EvL Go.PE Go.ChangeShapes Go.WideShapes Go.ChangeAt Go.RowKit
theorem bytes_cells {w:World}{base n fuel:Nat}{sp:Nat→Bool}{held:Bool}{t e:TypeId}{cs:List Value}{zs:List Int}{enc:TypeId × Value→Unit}{p:List MemPlace} (ht:Tryz.prog.underlying t=some (.array n e)) (he:Tryz.prog.underlying e=some (.int .u8)) (hc:Tryz.prog.cellsOf e=1) (hn:zs.length=n) (hct:Tryz.prog.cellsOf t=n)
  (h:DataW.trod enc Tryz.prog w base sp held fuel t cs=some (.agg (zs.map fun z=>.lit (.int .u8 z)),p)):cs=zs.map (Value.int .u8):=by
 obtain⟨xs,m,_,hx,hlen,hxl,hel⟩:=DataW.trod_array ht h;have hx1:xs.map (·.1)=zs.map fun z=>DataW.lit (.int .u8 z):=by
  have h1:=(Prod.mk.inj hx).1;exact (DataW.agg.inj h1).symm
 apply List.ext_getElem?;intro i;by_cases hi:i < n
 ·have hi1:i < cs.length:=by rw [hlen,hct]; exact hi
  have h1:=hel i hi;rw [hc,Nat.mul_one] at h1;rw [List.getElem?_eq_getElem (by omega:i < xs.length)] at h1;obtain⟨k,e1,e2,_⟩:=DataW.trod_int he h1;have h2:(xs.map (·.1))[i]?=some (DataW.lit (.int .u8 k)):=by rw [List.getElem?_map,List.getElem?_eq_getElem (by omega:i < xs.length),e2]; rfl
  rw [hx1,List.getElem?_map] at h2;have h3:cs[i]?=some (.int .u8 k):=by
   have:((cs.drop i).take 1)[0]?=some (.int .u8 k):=by rw [e1]; rfl
   simpa using this
  rw [h3,List.getElem?_map];cases hz:zs[i]? with
  | none=>rw [hz] at h2; cases h2
  | some z=>
   rw [hz] at h2;have h4:=(Lit.int.inj (DataW.lit.inj (Option.some.inj h2))).2;rw [← h4]; rfl
 ·rw [List.getElem?_eq_none (by rw [hlen,hct]; omega),List.getElem?_eq_none (by rw [List.length_map]; omega)]
def Rq:List Int:=(List.range 256).map fun i=>if i == 32 || (9≤i && i≤13) then 1 else 0
set_option maxRecDepth 100000 in
theorem Ny:LM=Rq.map (Value.int .u8):=by kernel_rfl
set_option maxRecDepth 100000 in
theorem Jf:(Rows.laid_strings_asciiSpace:DataW Unit)=.agg (Rq.map fun z=>.lit (.int .u8 z)):=by kernel_rfl
theorem sM {H:Type}{enc:TypeId × Value→H}{a:Assume}{C:Checked}{os:Os}{f:FuncId}{fn:Func}{s:ChangeSpec}{conds:List PathCond}{apart fresh handsOn again:Bool}{X:World→Array Value→Prop}
  (hX:∀(w w':World) (args:Array Value),w.heap=w'.heap→X w args→X w' args)
  (own:ownKnob C.prog.godebug=none) (started:os.Started) (noInit:C.prog.inits.idxOf? f=none) (hfn:C.prog.funcs[f]?=some fn)
  (witness:∃(w:World) (tape:Tape) (i:Input),w.os=os∧(w.forCall tape i).Shaped C.prog∧i.vars=[]∧Input.okWide C.prog (w.forCall tape i) .any w.heap.size f i∧
   ((s.pre enc C.prog fn conds apart (w.forCall tape i).memory i.args∧X (w.forCall tape i).memory i.args)∧sizedMet enc C.prog fn (OpenSpec.ofChange s) apart (w.forCall tape i).memory i.args)∧a.holds C.prog (lone (Frame.enter C.prog f i.args .normal) [] (w.forCall tape i)))
  (contract:∀(W:World) (base:Nat) (args:Array Value) (ds gs:List (DataW H)) (before:List MemPlace),W.ShapedOpen C.prog→
   (∀(j:Nat) t v,fn.params[j]?=some t→args[j]?=some v→Value.okWide C.prog W .any base t v)→
   DataW.Whole enc C.prog fn.params.toList s.vars apart W args.toList ds gs before→X W args→
   Calls C.prog f args W fun e W'=>∃v,e=.returned v∧s.post enc C.prog fn apart fresh handsOn again W args v W') :
  ReturnsInHanded a C os f .any (fun w args=>(s.pre enc C.prog fn conds apart w args∧X w args)∧sizedMet enc C.prog fn (OpenSpec.ofChange s) apart w args) (s.post enc C.prog fn apart fresh handsOn again):=by
 refine returnsInHanded_of_calls own started noInit witness ?_;intro w tape i _ hsh _ hok hpre hholds;obtain⟨_,_,_,fn',hfn',_,_,_,_,hval⟩:=hok;have e:fn'=fn:=Option.some.inj (hfn'.symm.trans hfn);subst e;obtain⟨⟨⟨ds,gs,before,hw,hc⟩,hx⟩,hz⟩:=hpre;have hw':=DataW.Whole.of_heap (w':=w.forCall tape i) (by rfl) hw;refine (contract (w.forCall tape i) w.heap.size i.args ds gs before hsh hval hw' (hX _ _ _ (by rfl) hx)).mono fun e W' ⟨v,he,hp⟩=>?_;subst he;exact ChangeSpec.post_blind hp
theorem Wk:Tryz.prog.globalNamed "strings.asciiSpace"=some 0:=by kernel_rfl
theorem Vp:(Tryz.prog.globals[0]?).map (·.type)=some 153:=by kernel_rfl
set_option maxRecDepth 100000 in
theorem KV {W:World} (hs:W.ShapedOpen Tryz.prog) (h:laidMetH Tryz.prog yW W):lU W:=by
 rw [MakeChecks.laidMetH_plain _ _ _ (by kernel_rfl)] at h;obtain⟨ps,⟨g0,t0,cs0,f0,p0,q0,hg0,ht0,hv0,hd0,⟨g1,t1,cs1,f1,p1,q1,hg1,ht1,hv1,hd1,⟨g2,t2,cs2,f2,p2,q2,hg2,ht2,hv2,hd2,_,_⟩,_⟩,_⟩,_,_⟩:=h;obtain rfl:=Option.some.inj (Wk.symm.trans hg2);obtain rfl:=Option.some.inj (Vp.symm.trans ht2);have hk0:(((begin Tryz.prog (fun _ _=>0) default).world.heap[0]?).bind Obj.row?).map (·.2)=some 153:=by kernel_rfl
 obtain⟨zero,hz⟩ : ∃zero,((begin Tryz.prog (fun _ _=>0) default).world.heap[0]?).bind Obj.row?=some (zero,153):=by
  obtain⟨⟨a,b⟩,h1,h2⟩:=Option.map_eq_some_iff.1 hk0;exact⟨a,by rw [h1]; exact congrArg (fun x=>some (a,x)) h2⟩
 obtain⟨cs,hcs,_⟩:=hs.1 0 zero 153 (by rw [yR]; decide) hz;intro x hx;obtain rfl:x=⟨0,LM,153⟩:=by simpa [di] using hx
 have hv:cs2=cs:=by
  simp only [World.var?,hg2,Option.bind_some,hcs] at hv2;injection hv2 with hv2;exact hv2.symm
 rw [Jf] at hd2;have hbc:=bytes_cells (show Tryz.prog.underlying 153=some (.array 256 5) by kernel_rfl) (show Tryz.prog.underlying 5=some (.int .u8) by kernel_rfl) (by kernel_rfl) (by kernel_rfl) (by kernel_rfl) hd2;refine⟨cs,_,hcs,?_,Nat.zero_le _⟩;rw [← hv,hbc,← Ny];exact List.take_of_length_le (Nat.le_refl _)
set_option maxRecDepth 100000 in
theorem ux (os:Os) (started:os.Started) (H:Type) (enc:TypeId × Value→H) :
  ReturnsInHanded {} Tryz.checked os 3 .any (fun w args=>(Rows.completePointsSpec.pre enc Tryz.prog Tryz.f3 [] false w args∧laidMetH Tryz.prog yW w)∧sizedMet enc Tryz.prog Tryz.f3 (OpenSpec.ofChange Rows.completePointsSpec) false w args)
   (Rows.completePointsSpec.post enc Tryz.prog Tryz.f3 false true false false):=by
 refine sM (C:=Tryz.checked) (X:=fun w _=>laidMetH Tryz.prog yW w) (fun _ _ _ hh h=>h.of_heap hh) own started (by kernel_rfl) Tryz.func3
  (ChangeSpec.witness_shaped (enc:=enc) (C:=Tryz.checked) (os:=os) (X:=fun w _=>laidMetH Tryz.prog yW w) false (Td os) #[.string ⟨#[]⟩,.int .i64 0] 8 rfl (World.shaped_of_RefB (by kernel_rfl) (by kernel_rfl)) (by kernel_rfl) (by kernel_rfl) (by kernel_rfl) (Fg os _)) ?_
 intro W base args ds gs before hsh hval0 hW hL;have hval:∀(j:Nat) t v,Tryz.f3.params[j]?=some t→args[j]?=some v→Value.okWide Tryz.prog W .any base t v:=hval0;have hW':=hW;have hlt:=hW.lt;obtain⟨p,q,hA0,hV,rfl,hfz,hnd⟩:=hW;have hA:DataW.TrodAll enc Tryz.prog W 0 (fun _=>true) true Tryz.f3.params.toList args.toList ds p:=hA0;rw [Tryz.params3] at hA hval;obtain⟨v0,vs0,d0,ds0,p0,q0,hargs,rfl,rfl,h0,r0⟩:=trodAll_cons hA;obtain⟨v1,vs1,d1,ds1,p1,q1,hargs1,rfl,rfl,h1,r1⟩:=trodAll_cons r0;obtain⟨rfl,rfl,rfl⟩:=trodAll_nil r1;subst hargs1;obtain rfl:args = #[v0,v1]:=by cases args; simp_all
 obtain⟨rfl,rfl⟩:=trodVars_none hV;obtain⟨b0,rfl,_,_,_⟩:=Go.ChangeMaps.open_string (show Tryz.prog.underlying 9=some .string by kernel_rfl) (hval 0 9 v0 rfl rfl) h0;obtain⟨x0,rfl,_,_,_⟩:=open_int (show Tryz.prog.underlying 3=some (.int .i64) by kernel_rfl) (hval 1 3 v1 rfl rfl) h1;clear hA0 hval0;refine (vL (E6 hsh) (KV hsh hL) b0 x0).mono fun e W' ⟨he,bel⟩=>?_;subst he;have l0:∀x∈p0,x.block < W.heap.size:=fun x hx=>hlt x (by simp [hx]);have l1:∀x∈p1,x.block < W.heap.size:=fun x hx=>hlt x (by simp [hx]);exact⟨_,rfl,_,_,_,[],_,[],hW',trodAll_mk1 (shut_bool (show Tryz.prog.underlying 4=some .bool by kernel_rfl) _),(trodAll_cons_mk (Below.trod CG (by kernel_rfl) (of_decide_eq_true (by kernel_rfl)) h0 bel l0) (trodAll_cons_mk (Below.trod CG (by kernel_rfl) (of_decide_eq_true (by kernel_rfl)) h1 bel l1) trodAll_mk0)),rfl,bel.frame _,fun h=>by cases h⟩
theorem lP:Rows.CompletePointsSaid:=
 OpenClaim.holds_of_wide 3 Tryz.f3 rfl rfl rfl rfl rfl rfl rfl ⟨rfl,rfl,rfl,rfl,rfl⟩ rfl rfl rfl rfl rfl (by kernel_rfl) Tryz.func3 KD
  (of_decide_eq_true (by kernel_rfl)) (by unfold Func.isWrapper; first | (rw [if_pos (by decide +kernel)]; kernel_rfl) | (rw [if_neg (by decide +kernel)]; exact⟨rfl,rfl⟩))
  (fun os started H enc _=>ux os started H enc)
theorem vq (f:FuncId) (fn:Func) (hf:Tryz.pinned.checked.prog.funcNamed Rows.completePointsRow.func=some f) (hfn:Tryz.pinned.checked.prog.funcs[f]?=some fn) :
  true=Tryz.pinned.checked.prog.looks []∧∀(j:Nat) t,fn.params[j]?=some t→Tryz.pinned.checked.prog.wantsStandIn t=false:=by
 obtain rfl:f=3:=Option.some.inj ((show Tryz.prog.funcNamed Rows.completePointsRow.func=some 3 by kernel_rfl).symm.trans hf) |>.symm;obtain rfl:fn=Tryz.f3:=(Option.some.inj (Tryz.func3.symm.trans hfn)).symm;refine⟨by kernel_rfl,fun j t ht=>?_⟩;rw [Tryz.params3] at ht;have hm:t∈[9,3]:=by simpa using Array.mem_of_getElem? ht
 have hall:([9,3].all fun u=>!Tryz.prog.wantsStandIn u)=true:=by kernel_rfl
 exact (show Tryz.prog.wantsStandIn t=false by simpa using List.all_eq_true.1 hall t hm)
theorem completePoints_card:Rows.CompletePointsCardSaid:=
 Claim7.holds_tied_plain_at .later [] _ _ _ _ lP (fun _ h=>by cases h) Xf (fun _ h=>by cases h) completePoints_row_tie rfl ⟨rfl,rfl⟩ Tb rfl vq RI
#print axioms completePoints_card
end Go.Proofs.YtioblbopbilmaaaGreatDoor
