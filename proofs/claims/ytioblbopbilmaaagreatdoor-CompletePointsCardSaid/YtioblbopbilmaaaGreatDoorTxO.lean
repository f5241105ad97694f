/- What functions of the program and of the reference compute, on values. No statement is proved here. -/
import Derived.Test.YtioblbopbilmaaaGreatDoorTie
import Derived.Test.YtioblbopbilmaaaGreatDoorCards
import Derived.JoinedOf
import Derived.KernelRfl
import Derived.Deep.DeepHandedRow
import Derived.Stop.Joined
set_option linter.all false
namespace Go.Proofs.YtioblbopbilmaaaGreatDoor
open Go
theorem Da {P:Program}{f:FuncId}{fn:Func}{s:ChangeSpec}{c:OpenClaim} (k0:(c.wf (OpenSpec.ofChange s))=true) (k1:(laidOutB P)=true) (k2:(mapsRowed P)=true) (k3:(fn.params.all (P.readableRec ·))=true) (k4:(namedTie P c.named s.vars)=true) (k5:((c.stops == []))=true) (k6:((P.stops == []))=true) (k7:((c.knobs == []))=true) (k8:((P.stopKnobs == []))=true) (k9:((c.inPlace == P.inPlace f))=true) (k10:((c.unfollowed == P.unfollowed f))=true) (k11:((c.recurses == P.recurses f))=true) (k12:((c.named == P.varsNamed f))=true) (k13:((c.maps == (fn.params.toList ++ s.plain.varTypes P).any (P.mapsRec ·)))=true) (k14:((c.ifaces == (fn.params.toList ++ s.plain.varTypes P).any (P.ifacesRec ·)))=true) (k15:((c.mapsOut == P.mapsAmong fn.resultTypes.toList))=true) (k16:((c.loops == (fn.params.toList ++ s.plain.varTypes P).any (P.loopsFrom ·)))=true) (k17:((c.wideKeys == (fn.params.toList ++ s.plain.varTypes P ++ fn.resultTypes.toList).any (P.wideKeysFrom ·)))=true) (k18:(s.vars.all (P.varReadable ·))=true) (k19:(fn.resultTypes.all (fun t=>P.readableRec t && decide (t < P.types.size)))=true) (k20:((c.ifacesOut == fn.resultTypes.toList.any (P.ifacesRec ·)))=true) (k21:((c.loopsOut == fn.resultTypes.toList.any (P.loopsFrom ·)))=true) (k22:((c.plainKeys == P.plainKeys))=true) (k23:(c.shortTexts.isNone)=true) (k24:(P.stopsHeard)=true) (k25:(P.mayEnter)=true) (k26:((c.lifted == P.liftsFinal))=true) (k27:((P.make == some c.make))=true) (k28:((c.kinds == (if c.domain.isEmpty then [] else fn.params.toList.map fun t=>match P.underlying t with | some (.int k)=>some k | _=>none)))=true) (k29:((c.pinned == c.pinnedBy))=true) (k30:((c.veiled == (fn.params.toList ++ s.plain.varTypes P ++ fn.resultTypes.toList).any (P.veiledRec ·)))=true) (k31:(c.veiledFits P fn.params.toList (fn.params.toList ++ s.plain.varTypes P ++ fn.resultTypes.toList))=true):joinedFacts P f fn s c=true:=by
 unfold joinedFacts;simp only [Bool.and_eq_true];exact⟨⟨⟨⟨⟨⟨⟨⟨⟨⟨⟨⟨⟨⟨⟨⟨⟨⟨⟨⟨⟨⟨⟨⟨⟨⟨⟨⟨⟨⟨⟨k0,k1⟩,k2⟩,k3⟩,k4⟩,k5⟩,k6⟩,k7⟩,k8⟩,k9⟩,k10⟩,k11⟩,k12⟩,k13⟩,k14⟩,k15⟩,k16⟩,k17⟩,k18⟩,k19⟩,k20⟩,k21⟩,k22⟩,k23⟩,k24⟩,k25⟩,k26⟩,k27⟩,k28⟩,k29⟩,k30⟩,k31⟩
set_option maxRecDepth 100000 in
theorem Jd:(Rows.completePointsRow.wf (OpenSpec.ofChange (OpenSpec.ofChange Rows.completePointsSpec).bare))=true:=by kernel_rfl
set_option maxRecDepth 100000 in
theorem Lu:(laidOutB Tryz.pinned.checked.prog)=true:=by kernel_rfl
set_option maxRecDepth 100000 in
theorem JI:(mapsRowed Tryz.pinned.checked.prog)=true:=by kernel_rfl
set_option maxRecDepth 100000 in
theorem J6:(Tryz.f3.params.all (Tryz.pinned.checked.prog.readableRec ·))=true:=by kernel_rfl
set_option maxRecDepth 100000 in
theorem KG:(namedTie Tryz.pinned.checked.prog Rows.completePointsRow.named (OpenSpec.ofChange Rows.completePointsSpec).bare.vars)=true:=by kernel_rfl
set_option maxRecDepth 100000 in
theorem La:((Rows.completePointsRow.stops == []))=true:=by kernel_rfl
set_option maxRecDepth 100000 in
theorem JP:((Tryz.pinned.checked.prog.stops == []))=true:=by kernel_rfl
set_option maxRecDepth 100000 in
theorem JH:((Rows.completePointsRow.knobs == []))=true:=by kernel_rfl
set_option maxRecDepth 100000 in
theorem K4:((Tryz.pinned.checked.prog.stopKnobs == []))=true:=by kernel_rfl
set_option maxRecDepth 100000 in
theorem JM:((Rows.completePointsRow.inPlace == Tryz.pinned.checked.prog.inPlace 3))=true:=by kernel_rfl
set_option maxRecDepth 100000 in
theorem Ge:((Rows.completePointsRow.unfollowed == Tryz.pinned.checked.prog.unfollowed 3))=true:=by kernel_rfl
set_option maxRecDepth 100000 in
theorem H9:((Rows.completePointsRow.recurses == Tryz.pinned.checked.prog.recurses 3))=true:=by kernel_rfl
set_option maxRecDepth 100000 in
theorem Hr:((Rows.completePointsRow.named == Tryz.pinned.checked.prog.varsNamed 3))=true:=by kernel_rfl
set_option maxRecDepth 100000 in
theorem Iq:((Rows.completePointsRow.maps == (Tryz.f3.params.toList ++ (OpenSpec.ofChange Rows.completePointsSpec).bare.plain.varTypes Tryz.pinned.checked.prog).any (Tryz.pinned.checked.prog.mapsRec ·)))=true:=by kernel_rfl
set_option maxRecDepth 100000 in
theorem Iv:((Rows.completePointsRow.ifaces == (Tryz.f3.params.toList ++ (OpenSpec.ofChange Rows.completePointsSpec).bare.plain.varTypes Tryz.pinned.checked.prog).any (Tryz.pinned.checked.prog.ifacesRec ·)))=true:=by kernel_rfl
set_option maxRecDepth 100000 in
theorem Fl:((Rows.completePointsRow.mapsOut == Tryz.pinned.checked.prog.mapsAmong Tryz.f3.resultTypes.toList))=true:=by kernel_rfl
set_option maxRecDepth 100000 in
theorem EM:((Rows.completePointsRow.loops == (Tryz.f3.params.toList ++ (OpenSpec.ofChange Rows.completePointsSpec).bare.plain.varTypes Tryz.pinned.checked.prog).any (Tryz.pinned.checked.prog.loopsFrom ·)))=true:=by kernel_rfl
set_option maxRecDepth 100000 in
theorem HY:((Rows.completePointsRow.wideKeys == (Tryz.f3.params.toList ++ (OpenSpec.ofChange Rows.completePointsSpec).bare.plain.varTypes Tryz.pinned.checked.prog ++ Tryz.f3.resultTypes.toList).any (Tryz.pinned.checked.prog.wideKeysFrom ·)))=true:=by kernel_rfl
set_option maxRecDepth 100000 in
theorem EY:((OpenSpec.ofChange Rows.completePointsSpec).bare.vars.all (Tryz.pinned.checked.prog.varReadable ·))=true:=by kernel_rfl
set_option maxRecDepth 100000 in
theorem Fi:(Tryz.f3.resultTypes.all (fun t=>Tryz.pinned.checked.prog.readableRec t && decide (t < Tryz.pinned.checked.prog.types.size)))=true:=by kernel_rfl
set_option maxRecDepth 100000 in
theorem Hz:((Rows.completePointsRow.ifacesOut == Tryz.f3.resultTypes.toList.any (Tryz.pinned.checked.prog.ifacesRec ·)))=true:=by kernel_rfl
set_option maxRecDepth 100000 in
theorem Gw:((Rows.completePointsRow.loopsOut == Tryz.f3.resultTypes.toList.any (Tryz.pinned.checked.prog.loopsFrom ·)))=true:=by kernel_rfl
set_option maxRecDepth 100000 in
theorem HI:((Rows.completePointsRow.plainKeys == Tryz.pinned.checked.prog.plainKeys))=true:=by kernel_rfl
set_option maxRecDepth 100000 in
theorem Fq:(Rows.completePointsRow.shortTexts.isNone)=true:=by kernel_rfl
set_option maxRecDepth 100000 in
theorem Hm:(Tryz.pinned.checked.prog.stopsHeard)=true:=by kernel_rfl
set_option maxRecDepth 100000 in
theorem G6:(Tryz.pinned.checked.prog.mayEnter)=true:=by kernel_rfl
set_option maxRecDepth 100000 in
theorem HO:((Rows.completePointsRow.lifted == Tryz.pinned.checked.prog.liftsFinal))=true:=by kernel_rfl
set_option maxRecDepth 100000 in
theorem ET:((Tryz.pinned.checked.prog.make == some Rows.completePointsRow.make))=true:=by kernel_rfl
set_option maxRecDepth 100000 in
theorem GO:((Rows.completePointsRow.kinds == (if Rows.completePointsRow.domain.isEmpty then [] else Tryz.f3.params.toList.map fun t=>match Tryz.pinned.checked.prog.underlying t with | some (.int k)=>some k | _=>none)))=true:=by kernel_rfl
set_option maxRecDepth 100000 in
theorem Hn:((Rows.completePointsRow.pinned == Rows.completePointsRow.pinnedBy))=true:=by kernel_rfl
set_option maxRecDepth 100000 in
theorem Il:((Rows.completePointsRow.veiled == (Tryz.f3.params.toList ++ (OpenSpec.ofChange Rows.completePointsSpec).bare.plain.varTypes Tryz.pinned.checked.prog ++ Tryz.f3.resultTypes.toList).any (Tryz.pinned.checked.prog.veiledRec ·)))=true:=by kernel_rfl
set_option maxRecDepth 100000 in
theorem G9:(Rows.completePointsRow.veiledFits Tryz.pinned.checked.prog Tryz.f3.params.toList (Tryz.f3.params.toList ++ (OpenSpec.ofChange Rows.completePointsSpec).bare.plain.varTypes Tryz.pinned.checked.prog ++ Tryz.f3.resultTypes.toList))=true:=by kernel_rfl
theorem KD:joinedFacts Tryz.pinned.checked.prog 3 Tryz.f3 (OpenSpec.ofChange Rows.completePointsSpec).bare Rows.completePointsRow=true:=
 Da Jd Lu JI J6 KG La JP JH K4 JM Ge H9 Hr Iq Iv Fl EM HY EY Fi Hz Gw HI Fq Hm G6 HO ET GO Hn Il G9
end Go.Proofs.YtioblbopbilmaaaGreatDoor
