/- The given statement EnvSubs, by its card: the law is walked on values, and the card is tied to it. -/
import Derived.Test.YtgkggocjoolciaaGreatDoorTxR
import Derived.Test.YtgkggocjoolciaaGreatDoorTxS
import Derived.Test.YtgkggocjoolciaaGreatDoorTxT
import Derived.Test.YtgkggocjoolciaaGreatDoorTxU
import Derived.Test.YtgkggocjoolciaaGreatDoorTxM
set_option linter.all false
namespace Go.Proofs.YtgkggocjoolciaaGreatDoor
open Go Go.EvL Go.PE Go.ChangeShapes Go.WideShapes Go.ChangeAt Go.RowKit
theorem ext_ok:ff Tryz.prog (ei Γ) (B5 5):=Ms ⟨_,_,Tryz.func5,rfl⟩ Bi _
theorem VG {A:AS}{β:Nat→Nat}{n:Nat}{vs:List Value}{p:PV} (h:Cs A β n vs [p]):∃v,vs=[v]∧C1 A β n v p:=by
 cases h with
 | cons v _ l _ h hs=>cases hs; exact⟨v,rfl,h⟩
theorem WZ {phi:dI}{v u:Value} (h:bu phi [v] [u]):eR phi v u:=by
 cases h with
 | cons _ _ _ _ h _=>exact h
theorem BZ {H:Type}{enc:TypeId × Value→H}{W:World} (hs:W.ShapedOpen Tryz.prog) {x0:Array Value}{d0:DataW H}{p0:List MemPlace} (h0:DataW.Trod enc Tryz.prog W 0 (fun _=>true) true 30 (.agg x0) d0 p0)
  (hb:Rows.uptoBulk d0≤1048576):Calls Tryz.prog 3 #[.agg x0] W fun e w'=>e=.returned (.bool true)∧Below W.heap.size W w':=by
 obtain⟨n0,h0⟩:=h0;obtain⟨B,hB,hfz⟩:=IT W;obtain⟨M0,vs0,S9,o0,t0,b0⟩:=HW oU ID (RN H) hfz (VH hs) n0 30 _ d0 p0 rfl h0 [] (fun v hv=>by cases hv);have b0:aM S9≤Rows.uptoBulk d0:=b0;have g0:aM S9≤16777216:=om;obtain⟨e0,_,_,_,_,_,rfl,he0⟩:=env_of (D:=n0) (Nat.le_refl _) t0 g0;refine Jn (pvs:=[.agg e0.cells]) (vs:=[.agg vs0.toArray]) mZ (ER mZ vO) PD Do QD ext_ok rfl (GH hs) hB o0.ok ?_ ?_ (O5 he0 g0 S9)
 ·exact .cons _ _ _ _ (.agg _ _ o0.vr) .nil
 ·exact .cons _ _ _ _ (.cl _ _ (.agg _ _ o0.rc)) .nil
theorem Pf (os:Os) {H:Type} (enc:TypeId × Value→H):∃places,DataW.whole enc Tryz.prog ((Ri os).forCall (fun _ _=>0) ⟨#[],#[QR],[]⟩).memory Tryz.f3.params.toList Rows.envSubsSpec.vars false #[QR].toList 8=some ([.agg [.lit (.string []),.nil,.nil,.nil,.nil,.nil,.lit (.int .i64 0),.lit (.int .i64 0),.lit (.int .i64 0),.lit (.int .i64 0),.lit (.string []),.agg [.lit (.int .i64 0),.lit (.int .i64 0)],.lit (.int .i64 0),.lit (.bool false)]],[],places):=
 ⟨[],by kernel_rfl⟩
set_option maxRecDepth 100000 in
theorem Bf (os:Os) (started:os.Started) (H:Type) (enc:TypeId × Value→H) (F:Stop.Interp) :
  ReturnsInHanded {} Tryz.checked os 3 .any ((Rows.OpenSpec.upto Rows.envSubsSpec).preRow enc Tryz.prog Tryz.f3 Rows.envSubsUptoRow.domain false Rows.envSubsUptoRow.laid) (((Rows.OpenSpec.upto Rows.envSubsSpec).at F).post enc Tryz.prog Tryz.f3 false true false false):=by
 obtain⟨places,hx⟩:=Pf os enc;refine returnsInHanded_of_row (C:=Tryz.checked) (s:=Rows.OpenSpec.upto Rows.envSubsSpec) own started (by kernel_rfl) Tryz.func3
  (witness_row_at (enc:=enc) (C:=Tryz.checked) false (Ri os) #[QR] rfl (by kernel_rfl) (by kernel_rfl) (by kernel_rfl)
   (OpenSpec.preRow_of_cond 8 hx (by kernel_rfl) (fun k hk=>by cases hk; kernel_rfl) (by kernel_rfl) (HD os _))) ?_
 intro W base args ds gs before hval0 hW _ hcond _ hL hsh _;have hval:∀(j:Nat) t v,Tryz.f3.params[j]?=some t→args[j]?=some v→Value.okWide Tryz.prog W .any base t v:=hval0;have hk:=hcond _ rfl;have hW':=hW;have hlt:=hW.lt;obtain⟨p,q,hA0,hV,rfl,hfz,hnd⟩:=hW;have hA:DataW.TrodAll enc Tryz.prog W 0 (fun _=>true) true Tryz.f3.params.toList args.toList ds p:=hA0;rw [Tryz.params3] at hA hval;obtain⟨v0,vs0,d0,ds0,p0,q0,hargs,rfl,rfl,h0,r0⟩:=trodAll_cons hA;obtain⟨rfl,rfl,rfl⟩:=trodAll_nil r0;obtain rfl:args = #[v0]:=by cases args; simp_all
 obtain⟨rfl,rfl⟩:=trodVars_none hV;obtain⟨x0,rfl⟩:=Qr Tryz.underlying30 (hval 0 30 v0 rfl rfl);have hb:Rows.uptoBulk d0≤1048576:=by
  have h:Rows.uptoBulkAll ([d0] ++ [])≤1048576:=of_decide_eq_true hk;simp only [List.append_nil,Rows.uptoBulkAll] at h;omega
 clear hA0 hval0;refine (BZ hsh h0 hb).mono fun e W' ⟨he,bel⟩=>?_;subst he;have l0:∀x∈p0,x.block < W.heap.size:=fun x hx=>hlt x (by simp [hx]);exact⟨_,rfl,_,_,_,[],_,[],hW',trodAll_mk1 (shut_bool Tryz.underlying4 _),(trodAll_cons_mk (Below.trod Ol (by kernel_rfl) (of_decide_eq_true (by kernel_rfl)) h0 bel l0) trodAll_mk0),rfl,bel.frame _,fun h=>by cases h⟩
theorem yw:Rows.EnvSubsUptoSaid:=
 OpenClaim.holds_of_cond 3 Tryz.f3 rfl rfl rfl rfl rfl rfl rfl ⟨rfl,rfl,rfl,rfl,rfl⟩ rfl rfl rfl rfl rfl (by kernel_rfl) Tryz.func3 N5
  (of_decide_eq_true (by kernel_rfl)) (by unfold Func.isWrapper; first | (rw [if_pos (by decide +kernel)]; kernel_rfl) | (rw [if_neg (by decide +kernel)]; exact⟨rfl,rfl⟩))
  (fun os started H enc _ F=>by rw [OpenClaim.pre_eq_preRow]; exact Bf os started H enc F)
theorem D8 (f:FuncId) (fn:Func) (hf:Tryz.pinned.checked.prog.funcNamed Rows.envSubsUptoRow.func=some f) (hfn:Tryz.pinned.checked.prog.funcs[f]?=some fn) :
  true=Tryz.pinned.checked.prog.looks []∧∀(j:Nat) t,fn.params[j]?=some t→Tryz.pinned.checked.prog.wantsStandIn t=false:=by
 obtain rfl:f=3:=Option.some.inj ((show Tryz.prog.funcNamed Rows.envSubsUptoRow.func=some 3 by kernel_rfl).symm.trans hf) |>.symm;obtain rfl:fn=Tryz.f3:=(Option.some.inj (Tryz.func3.symm.trans hfn)).symm;refine⟨by kernel_rfl,fun j t ht=>?_⟩;rw [Tryz.params3] at ht;have hm:t=30:=by simpa using Array.mem_of_getElem? ht
 subst hm;exact (show Tryz.prog.wantsStandIn 30=false by kernel_rfl)
theorem envSubs_card:Rows.EnvSubsUptoCardSaid:=
 Claim7.holds_tied_plain_at .later [] _ _ _ _ yw (fun _ h=>by cases h) Wt (fun _ h=>by cases h) envSubsUpto_row_tie rfl ⟨rfl,rfl⟩ Ue rfl D8 SJ
end Go.Proofs.YtgkggocjoolciaaGreatDoor
