/- The given statement EnvOptions, by its card: the law is walked on values, and the card is tied to it. -/
import Derived.Test.YtokdflgpbfjpcaaGreatDoorTxR
import Derived.Test.YtokdflgpbfjpcaaGreatDoorTxS
import Derived.Test.YtokdflgpbfjpcaaGreatDoorTxT
import Derived.Test.YtokdflgpbfjpcaaGreatDoorTxU
import Derived.Test.YtokdflgpbfjpcaaGreatDoorTxM
set_option linter.all false
namespace Go.Proofs.YtokdflgpbfjpcaaGreatDoor
open Go Go.EvL Go.PE Go.ChangeShapes Go.WideShapes Go.ChangeAt Go.RowKit
theorem ext_ok:fB Tryz.prog (ek Γ) (Bh 5):=Nu ⟨_,_,Tryz.func5,rfl⟩ C6 _
theorem Lr {A:AS}{β:Nat→Nat}{n:Nat}{vs:List Value}{p:PV} (h:Cs A β n vs [p]):∃v,vs=[v]∧C1 A β n v p:=by
 cases h with
 | cons v _ l _ h hs=>cases hs; exact⟨v,rfl,h⟩
theorem Vh {phi:dW}{v u:Value} (h:bF phi [v] [u]):ft phi v u:=by
 cases h with
 | cons _ _ _ _ h _=>exact h
theorem xJ {H:Type}{enc:TypeId × Value→H}{W:World} (hs:W.ShapedOpen Tryz.prog) {x0:Array Value}{x1:ByteArray}{x2:Bool}{d0 d1 d2:DataW H}{p0 p1 p2:List MemPlace} (h0:DataW.Trod enc Tryz.prog W 0 (fun _=>true) true 30 (.agg x0) d0 p0) (h1:DataW.Trod enc Tryz.prog W 0 (fun _=>true) true 9 (.string x1) d1 p1) (h2:DataW.Trod enc Tryz.prog W 0 (fun _=>true) true 4 (.bool x2) d2 p2)
  (hb:Rows.uptoBulk d0 + Rows.uptoBulk d1 + Rows.uptoBulk d2≤1048576):Calls Tryz.prog 3 #[.agg x0,.string x1,.bool x2] W fun e w'=>e=.returned (.bool true)∧Below W.heap.size W w':=by
 obtain⟨n0,h0⟩:=h0;obtain⟨n1,h1⟩:=h1;obtain⟨n2,h2⟩:=h2;obtain⟨B,hB,hfz⟩:=Io W;obtain⟨M0,vs0,Te,o0,t0,b0⟩:=vX lj vq (Da H) hfz (SU hs) n0 30 _ d0 p0 rfl h0 [] (fun v hv=>by cases hv);have b0:aR Te≤Rows.uptoBulk d0:=b0;obtain⟨M1,vs1,ps1,o1,t1,b1⟩:=vX lj vq (Da H) hfz (SU hs) n1 9 _ d1 p1 rfl h1 _ o0.ok;have b1:aR ps1≤Rows.uptoBulk d1:=b1;obtain⟨M2,vs2,ps2,o2,t2,b2⟩:=vX lj vq (Da H) hfz (SU hs) n2 4 _ d2 p2 rfl h2 _ o1.ok;have b2:aR ps2≤Rows.uptoBulk d2:=b2;have g0:aR Te≤16777216:=om;obtain⟨e0,_,_,_,_,_,rfl,he0⟩:=env_of (D:=n0) (Nat.le_refl _) t0 g0;obtain⟨e1,rfl,_⟩:=fg Tryz.underlying9 t1;obtain⟨e2,rfl⟩:=mY Tryz.underlying4 t2;obtain⟨u1,rfl,c1⟩:=Lr o1.rc;obtain⟨u2,rfl,c2⟩:=Lr o2.rc;refine Kl (pvs:=[.agg e0.cells,.sc (.string e1),.sc (.bool e2)]) (vs:=[.agg vs0.toArray,u1,u2]) pe (FI pe vd) Ta ED Rj ext_ok rfl (Gz hs) hB o2.ok ?_ ?_ (Oi he0 g0 Te)
 ·exact .cons _ _ _ _ (.agg _ _ ((o0.vr.mono (mz _ _)).mono (mz _ _))) (.cons _ _ _ _ (Vh (o1.vr.mono (mz _ _))) (.cons _ _ _ _ (Vh o2.vr) .nil))
 ·exact .cons _ _ _ _ (.cl _ _ (.agg _ _ (RC.mono (wL _ _ _) (RC.mono (wL _ _ _) o0.rc)))) (.cons _ _ _ _ (.cl _ _ ((RC.mono (wL _ _ _) c1))) (.cons _ _ _ _ (.cl _ _ (c2)) .nil))
theorem Qu (os:Os) {H:Type} (enc:TypeId × Value→H):∃places,DataW.whole enc Tryz.prog ((Sz os).forCall (fun _ _=>0) ⟨#[],#[S4,.string ⟨#[]⟩,.bool false],[]⟩).memory Tryz.f3.params.toList Rows.envOptionsSpec.vars false #[S4,.string ⟨#[]⟩,.bool false].toList 8=some ([.agg [.lit (.string []),.nil,.nil,.nil,.nil,.nil,.lit (.int .i64 0),.lit (.int .i64 0),.lit (.int .i64 0),.lit (.int .i64 0),.lit (.string []),.agg [.lit (.int .i64 0),.lit (.int .i64 0)],.lit (.int .i64 0),.lit (.bool false)],.lit (.string []),.lit (.bool false)],[],places):=
 ⟨[],by kernel_rfl⟩
set_option maxRecDepth 100000 in
theorem wR (os:Os) (started:os.Started) (H:Type) (enc:TypeId × Value→H) (F:Stop.Interp) :
  ReturnsInHanded {} Tryz.checked os 3 .any ((Rows.OpenSpec.upto Rows.envOptionsSpec).preRow enc Tryz.prog Tryz.f3 Rows.envOptionsUptoRow.domain false Rows.envOptionsUptoRow.laid) (((Rows.OpenSpec.upto Rows.envOptionsSpec).at F).post enc Tryz.prog Tryz.f3 false true false false):=by
 obtain⟨places,hx⟩:=Qu os enc;refine returnsInHanded_of_row (C:=Tryz.checked) (s:=Rows.OpenSpec.upto Rows.envOptionsSpec) own started (by kernel_rfl) Tryz.func3
  (witness_row_at (enc:=enc) (C:=Tryz.checked) false (Sz os) #[S4,.string ⟨#[]⟩,.bool false] rfl (by kernel_rfl) (by kernel_rfl) (by kernel_rfl)
   (OpenSpec.preRow_of_cond 8 hx (by kernel_rfl) (fun k hk=>by cases hk; kernel_rfl) (by kernel_rfl) (Js os _))) ?_
 intro W base args ds gs before hval0 hW _ hcond _ hL hsh _;have hval:∀(j:Nat) t v,Tryz.f3.params[j]?=some t→args[j]?=some v→Value.okWide Tryz.prog W .any base t v:=hval0;have hk:=hcond _ rfl;have hW':=hW;have hlt:=hW.lt;obtain⟨p,q,hA0,hV,rfl,hfz,hnd⟩:=hW;have hA:DataW.TrodAll enc Tryz.prog W 0 (fun _=>true) true Tryz.f3.params.toList args.toList ds p:=hA0;rw [Tryz.params3] at hA hval;obtain⟨v0,vs0,d0,ds0,p0,q0,hargs,rfl,rfl,h0,r0⟩:=trodAll_cons hA;obtain⟨v1,vs1,d1,ds1,p1,q1,rfl,rfl,rfl,h1,r1⟩:=trodAll_cons r0;obtain⟨v2,vs2,d2,ds2,p2,q2,rfl,rfl,rfl,h2,r2⟩:=trodAll_cons r1;obtain⟨rfl,rfl,rfl⟩:=trodAll_nil r2;obtain rfl:args = #[v0,v1,v2]:=by cases args; simp_all
 obtain⟨rfl,rfl⟩:=trodVars_none hV;obtain⟨x0,rfl⟩:=Qv Tryz.underlying30 (hval 0 30 v0 rfl rfl);obtain⟨x1,rfl⟩:=okWide_string Tryz.underlying9 (hval 1 9 v1 rfl rfl);obtain⟨x2,rfl⟩:=okWide_bool Tryz.underlying4 (hval 2 4 v2 rfl rfl);have hb:Rows.uptoBulk d0 + Rows.uptoBulk d1 + Rows.uptoBulk d2≤1048576:=by
  have h:Rows.uptoBulkAll ([d0,d1,d2] ++ [])≤1048576:=of_decide_eq_true hk;simp only [List.append_nil,Rows.uptoBulkAll] at h;omega
 clear hA0 hval0;refine (xJ hsh h0 h1 h2 hb).mono fun e W' ⟨he,bel⟩=>?_;subst he;have l0:∀x∈p0,x.block < W.heap.size:=fun x hx=>hlt x (by simp [hx]);have l1:∀x∈p1,x.block < W.heap.size:=fun x hx=>hlt x (by simp [hx]);have l2:∀x∈p2,x.block < W.heap.size:=fun x hx=>hlt x (by simp [hx]);exact⟨_,rfl,_,_,_,[],_,[],hW',trodAll_mk1 (shut_bool Tryz.underlying4 _),(trodAll_cons_mk (Below.trod yL (by kernel_rfl) (of_decide_eq_true (by kernel_rfl)) h0 bel l0) (trodAll_cons_mk (Below.trod yL (by kernel_rfl) (of_decide_eq_true (by kernel_rfl)) h1 bel l1) (trodAll_cons_mk (Below.trod yL (by kernel_rfl) (of_decide_eq_true (by kernel_rfl)) h2 bel l2) trodAll_mk0))),rfl,bel.frame _,fun h=>by cases h⟩
theorem uc:Rows.EnvOptionsUptoSaid:=
 OpenClaim.holds_of_cond 3 Tryz.f3 rfl rfl rfl rfl rfl rfl rfl ⟨rfl,rfl,rfl,rfl,rfl⟩ rfl rfl rfl rfl rfl (by kernel_rfl) Tryz.func3 Nz
  (of_decide_eq_true (by kernel_rfl)) (by unfold Func.isWrapper; first | (rw [if_pos (by decide +kernel)]; kernel_rfl) | (rw [if_neg (by decide +kernel)]; exact⟨rfl,rfl⟩))
  (fun os started H enc _ F=>by rw [OpenClaim.pre_eq_preRow]; exact wR os started H enc F)
theorem xx (f:FuncId) (fn:Func) (hf:Tryz.pinned.checked.prog.funcNamed Rows.envOptionsUptoRow.func=some f) (hfn:Tryz.pinned.checked.prog.funcs[f]?=some fn) :
  true=Tryz.pinned.checked.prog.looks []∧∀(j:Nat) t,fn.params[j]?=some t→Tryz.pinned.checked.prog.wantsStandIn t=false:=by
 obtain rfl:f=3:=Option.some.inj ((show Tryz.prog.funcNamed Rows.envOptionsUptoRow.func=some 3 by kernel_rfl).symm.trans hf) |>.symm;obtain rfl:fn=Tryz.f3:=(Option.some.inj (Tryz.func3.symm.trans hfn)).symm;refine⟨by kernel_rfl,fun j t ht=>?_⟩;rw [Tryz.params3] at ht;have hm:t=30∨t=9∨t=4:=by simpa using Array.mem_of_getElem? ht
 rcases hm with rfl | rfl | rfl
 ·exact (show Tryz.prog.wantsStandIn 30=false by kernel_rfl)
 ·exact (show Tryz.prog.wantsStandIn 9=false by kernel_rfl)
 ·exact (show Tryz.prog.wantsStandIn 4=false by kernel_rfl)
theorem envOptions_card:Rows.EnvOptionsUptoCardSaid:=
 Claim7.holds_tied_plain_at .later [] _ _ _ _ uc (fun _ h=>by cases h) Xo (fun _ h=>by cases h) envOptionsUpto_row_tie rfl ⟨rfl,rfl⟩ UO rfl xx Vo
end Go.Proofs.YtokdflgpbfjpcaaGreatDoor
