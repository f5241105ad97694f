/- What functions of the program and of the reference compute, on values. No statement is proved here. -/
import Derived.Test.YtflfflfodghgpaaGreatDoorTie
import Derived.Test.YtflfflfodghgpaaGreatDoorCards
import Derived.JoinedOf
import Derived.KernelRfl
import Derived.Deep.DeepHandedRow
import Derived.Stop.Joined
set_option linter.unusedSimpArgs false
set_option linter.unusedVariables false
namespace Go.Proofs.YtflfflfodghgpaaGreatDoor
open Go
theorem FT {P:Program}{f:FuncId}{fn:Func}{s:ChangeSpec}{c:OpenClaim} (k0:(c.wf (OpenSpec.ofChange s))=true) (k1:(laidOutB P)=true) (k2:(mapsRowed P)=true) (k3:(fn.params.all (P.readableRec ·))=true) (k4:(namedTie P c.named s.vars)=true) (k5:((c.stops == []))=true) (k6:((P.stops == []))=true) (k7:((c.knobs == []))=true) (k8:((P.stopKnobs == []))=true) (k9:((c.inPlace == P.inPlace f))=true) (k10:((c.unfollowed == P.unfollowed f))=true) (k11:((c.recurses == P.recurses f))=true) (k12:((c.named == P.varsNamed f))=true) (k13:((c.maps == (fn.params.toList ++ s.plain.varTypes P).any (P.mapsRec ·)))=true) (k14:((c.ifaces == (fn.params.toList ++ s.plain.varTypes P).any (P.ifacesRec ·)))=true) (k15:((c.mapsOut == P.mapsAmong fn.resultTypes.toList))=true) (k16:((c.loops == (fn.params.toList ++ s.plain.varTypes P).any (P.loopsFrom ·)))=true) (k17:((c.wideKeys == (fn.params.toList ++ s.plain.varTypes P ++ fn.resultTypes.toList).any (P.wideKeysFrom ·)))=true) (k18:(s.vars.all (P.varReadable ·))=true) (k19:(fn.resultTypes.all (fun t=>P.readableRec t && decide (t < P.types.size)))=true) (k20:((c.ifacesOut == fn.resultTypes.toList.any (P.ifacesRec ·)))=true) (k21:((c.loopsOut == fn.resultTypes.toList.any (P.loopsFrom ·)))=true) (k22:((c.plainKeys == P.plainKeys))=true) (k23:(c.shortTexts.isNone)=true) (k24:(P.stopsHeard)=true) (k25:(P.mayEnter)=true) (k26:((c.lifted == P.liftsFinal))=true) (k27:((P.make == some c.make))=true) (k28:((c.kinds == (if c.domain.isEmpty then [] else fn.params.toList.map fun t=>match P.underlying t with | some (.int k)=>some k | _=>none)))=true) (k29:((c.pinned == c.pinnedBy))=true) (k30:((c.veiled == (fn.params.toList ++ s.plain.varTypes P ++ fn.resultTypes.toList).any (P.veiledRec ·)))=true) (k31:(c.veiledFits P fn.params.toList (fn.params.toList ++ s.plain.varTypes P ++ fn.resultTypes.toList))=true):joinedFacts P f fn s c=true:=by
 unfold joinedFacts;simp only [Bool.and_eq_true];exact⟨⟨⟨⟨⟨⟨⟨⟨⟨⟨⟨⟨⟨⟨⟨⟨⟨⟨⟨⟨⟨⟨⟨⟨⟨⟨⟨⟨⟨⟨⟨k0,k1⟩,k2⟩,k3⟩,k4⟩,k5⟩,k6⟩,k7⟩,k8⟩,k9⟩,k10⟩,k11⟩,k12⟩,k13⟩,k14⟩,k15⟩,k16⟩,k17⟩,k18⟩,k19⟩,k20⟩,k21⟩,k22⟩,k23⟩,k24⟩,k25⟩,k26⟩,k27⟩,k28⟩,k29⟩,k30⟩,k31⟩
set_option maxRecDepth 100000 in
theorem Jy:(Rows.envLettersUptoRow.wf (OpenSpec.ofChange (Rows.OpenSpec.upto Rows.envLettersSpec).bare))=true:=by kernel_rfl
set_option maxRecDepth 100000 in
theorem Jv:(laidOutB Tryz.pinned.checked.prog)=true:=by kernel_rfl
set_option maxRecDepth 100000 in
theorem JU:(mapsRowed Tryz.pinned.checked.prog)=true:=by kernel_rfl
set_option maxRecDepth 100000 in
theorem IA:(Tryz.f11.params.all (Tryz.pinned.checked.prog.readableRec ·))=true:=by kernel_rfl
set_option maxRecDepth 100000 in
theorem Hz:(namedTie Tryz.pinned.checked.prog Rows.envLettersUptoRow.named (Rows.OpenSpec.upto Rows.envLettersSpec).bare.vars)=true:=by kernel_rfl
set_option maxRecDepth 100000 in
theorem K0:((Rows.envLettersUptoRow.stops == []))=true:=by kernel_rfl
set_option maxRecDepth 100000 in
theorem Hp:((Tryz.pinned.checked.prog.stops == []))=true:=by kernel_rfl
set_option maxRecDepth 100000 in
theorem I8:((Rows.envLettersUptoRow.knobs == []))=true:=by kernel_rfl
set_option maxRecDepth 100000 in
theorem Jp:((Tryz.pinned.checked.prog.stopKnobs == []))=true:=by kernel_rfl
set_option maxRecDepth 100000 in
theorem ID:((Rows.envLettersUptoRow.inPlace == Tryz.pinned.checked.prog.inPlace 11))=true:=by kernel_rfl
set_option maxRecDepth 100000 in
theorem GZ:((Rows.envLettersUptoRow.unfollowed == Tryz.pinned.checked.prog.unfollowed 11))=true:=by kernel_rfl
set_option maxRecDepth 100000 in
theorem Gx:((Rows.envLettersUptoRow.recurses == Tryz.pinned.checked.prog.recurses 11))=true:=by kernel_rfl
set_option maxRecDepth 100000 in
theorem GR:((Rows.envLettersUptoRow.named == Tryz.pinned.checked.prog.varsNamed 11))=true:=by kernel_rfl
set_option maxRecDepth 100000 in
theorem FV:((Rows.envLettersUptoRow.maps == (Tryz.f11.params.toList ++ (Rows.OpenSpec.upto Rows.envLettersSpec).bare.plain.varTypes Tryz.pinned.checked.prog).any (Tryz.pinned.checked.prog.mapsRec ·)))=true:=by kernel_rfl
set_option maxRecDepth 100000 in
theorem FD:((Rows.envLettersUptoRow.ifaces == (Tryz.f11.params.toList ++ (Rows.OpenSpec.upto Rows.envLettersSpec).bare.plain.varTypes Tryz.pinned.checked.prog).any (Tryz.pinned.checked.prog.ifacesRec ·)))=true:=by kernel_rfl
set_option maxRecDepth 100000 in
theorem Gl:((Rows.envLettersUptoRow.mapsOut == Tryz.pinned.checked.prog.mapsAmong Tryz.f11.resultTypes.toList))=true:=by kernel_rfl
set_option maxRecDepth 100000 in
theorem Ff:((Rows.envLettersUptoRow.loops == (Tryz.f11.params.toList ++ (Rows.OpenSpec.upto Rows.envLettersSpec).bare.plain.varTypes Tryz.pinned.checked.prog).any (Tryz.pinned.checked.prog.loopsFrom ·)))=true:=by kernel_rfl
set_option maxRecDepth 100000 in
theorem Gs:((Rows.envLettersUptoRow.wideKeys == (Tryz.f11.params.toList ++ (Rows.OpenSpec.upto Rows.envLettersSpec).bare.plain.varTypes Tryz.pinned.checked.prog ++ Tryz.f11.resultTypes.toList).any (Tryz.pinned.checked.prog.wideKeysFrom ·)))=true:=by kernel_rfl
set_option maxRecDepth 100000 in
theorem G5:((Rows.OpenSpec.upto Rows.envLettersSpec).bare.vars.all (Tryz.pinned.checked.prog.varReadable ·))=true:=by kernel_rfl
set_option maxRecDepth 100000 in
theorem GF:(Tryz.f11.resultTypes.all (fun t=>Tryz.pinned.checked.prog.readableRec t && decide (t < Tryz.pinned.checked.prog.types.size)))=true:=by kernel_rfl
set_option maxRecDepth 100000 in
theorem EY:((Rows.envLettersUptoRow.ifacesOut == Tryz.f11.resultTypes.toList.any (Tryz.pinned.checked.prog.ifacesRec ·)))=true:=by kernel_rfl
set_option maxRecDepth 100000 in
theorem Fi:((Rows.envLettersUptoRow.loopsOut == Tryz.f11.resultTypes.toList.any (Tryz.pinned.checked.prog.loopsFrom ·)))=true:=by kernel_rfl
set_option maxRecDepth 100000 in
theorem FSs:((Rows.envLettersUptoRow.plainKeys == Tryz.pinned.checked.prog.plainKeys))=true:=by kernel_rfl
set_option maxRecDepth 100000 in
theorem EX:(Rows.envLettersUptoRow.shortTexts.isNone)=true:=by kernel_rfl
set_option maxRecDepth 100000 in
theorem GQ:(Tryz.pinned.checked.prog.stopsHeard)=true:=by kernel_rfl
set_option maxRecDepth 100000 in
theorem GU:(Tryz.pinned.checked.prog.mayEnter)=true:=by kernel_rfl
set_option maxRecDepth 100000 in
theorem G7:((Rows.envLettersUptoRow.lifted == Tryz.pinned.checked.prog.liftsFinal))=true:=by kernel_rfl
set_option maxRecDepth 100000 in
theorem GX:((Tryz.pinned.checked.prog.make == some Rows.envLettersUptoRow.make))=true:=by kernel_rfl
set_option maxRecDepth 100000 in
theorem Fy:((Rows.envLettersUptoRow.kinds == (if Rows.envLettersUptoRow.domain.isEmpty then [] else Tryz.f11.params.toList.map fun t=>match Tryz.pinned.checked.prog.underlying t with | some (.int k)=>some k | _=>none)))=true:=by kernel_rfl
set_option maxRecDepth 100000 in
theorem Gf:((Rows.envLettersUptoRow.pinned == Rows.envLettersUptoRow.pinnedBy))=true:=by kernel_rfl
set_option maxRecDepth 100000 in
theorem Hi:((Rows.envLettersUptoRow.veiled == (Tryz.f11.params.toList ++ (Rows.OpenSpec.upto Rows.envLettersSpec).bare.plain.varTypes Tryz.pinned.checked.prog ++ Tryz.f11.resultTypes.toList).any (Tryz.pinned.checked.prog.veiledRec ·)))=true:=by kernel_rfl
set_option maxRecDepth 100000 in
theorem FN:(Rows.envLettersUptoRow.veiledFits Tryz.pinned.checked.prog Tryz.f11.params.toList (Tryz.f11.params.toList ++ (Rows.OpenSpec.upto Rows.envLettersSpec).bare.plain.varTypes Tryz.pinned.checked.prog ++ Tryz.f11.resultTypes.toList))=true:=by kernel_rfl
theorem Jl:joinedFacts Tryz.pinned.checked.prog 11 Tryz.f11 (Rows.OpenSpec.upto Rows.envLettersSpec).bare Rows.envLettersUptoRow=true:=
 FT Jy Jv JU IA Hz K0 Hp I8 Jp ID GZ Gx GR FV FD Gl Ff Gs G5 GF EY Fi FSs EX GQ GU G7 GX Fy Gf Hi FN
end Go.Proofs.YtflfflfodghgpaaGreatDoor
