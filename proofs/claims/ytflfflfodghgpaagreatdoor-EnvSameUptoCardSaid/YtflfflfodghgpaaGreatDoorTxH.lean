/- What functions of the program and of the reference compute, on values. No statement is proved here. -/
import Derived.Test.YtflfflfodghgpaaGreatDoorTie
import Derived.Test.YtflfflfodghgpaaGreatDoorCards
import Derived.JoinedOf
import Derived.KernelRfl
import Derived.Deep.DeepHandedRow
import Derived.Stop.Joined
set_option linter.unusedSimpArgs false
set_option linter.unusedVariables false
namespace Go.Proofs.YtflfflfodghgpaaGreatDoor
open Go
theorem joined_of {P : Program} {f : FuncId} {fn : Func} {s : ChangeSpec} {c : OpenClaim} (k0 : (c.wf (OpenSpec.ofChange s)) = true) (k1 : (laidOutB P) = true) (k2 : (mapsRowed P) = true) (k3 : (fn.params.all (P.readableRec ·)) = true) (k4 : (namedTie P c.named s.vars) = true) (k5 : ((c.stops == [])) = true) (k6 : ((P.stops == [])) = true) (k7 : ((c.knobs == [])) = true) (k8 : ((P.stopKnobs == [])) = true) (k9 : ((c.inPlace == P.inPlace f)) = true) (k10 : ((c.unfollowed == P.unfollowed f)) = true) (k11 : ((c.recurses == P.recurses f)) = true) (k12 : ((c.named == P.varsNamed f)) = true) (k13 : ((c.maps == (fn.params.toList ++ s.plain.varTypes P).any (P.mapsRec ·))) = true) (k14 : ((c.ifaces == (fn.params.toList ++ s.plain.varTypes P).any (P.ifacesRec ·))) = true) (k15 : ((c.mapsOut == P.mapsAmong fn.resultTypes.toList)) = true) (k16 : ((c.loops == (fn.params.toList ++ s.plain.varTypes P).any (P.loopsFrom ·))) = true) (k17 : ((c.wideKeys == (fn.params.toList ++ s.plain.varTypes P ++ fn.resultTypes.toList).any (P.wideKeysFrom ·))) = true) (k18 : (s.vars.all (P.varReadable ·)) = true) (k19 : (fn.resultTypes.all (fun t => P.readableRec t && decide (t < P.types.size))) = true) (k20 : ((c.ifacesOut == fn.resultTypes.toList.any (P.ifacesRec ·))) = true) (k21 : ((c.loopsOut == fn.resultTypes.toList.any (P.loopsFrom ·))) = true) (k22 : ((c.plainKeys == P.plainKeys)) = true) (k23 : (c.shortTexts.isNone) = true) (k24 : (P.stopsHeard) = true) (k25 : (P.mayEnter) = true) (k26 : ((c.lifted == P.liftsFinal)) = true) (k27 : ((P.make == some c.make)) = true) (k28 : ((c.kinds == (if c.domain.isEmpty then [] else fn.params.toList.map fun t => match P.underlying t with | some (.int k) => some k | _ => none))) = true) (k29 : ((c.pinned == c.pinnedBy)) = true) (k30 : ((c.veiled == (fn.params.toList ++ s.plain.varTypes P ++ fn.resultTypes.toList).any (P.veiledRec ·))) = true) (k31 : (c.veiledFits P fn.params.toList (fn.params.toList ++ s.plain.varTypes P ++ fn.resultTypes.toList)) = true) : joinedFacts P f fn s c = true := by
  unfold joinedFacts
  simp only [Bool.and_eq_true]
  exact ⟨⟨⟨⟨⟨⟨⟨⟨⟨⟨⟨⟨⟨⟨⟨⟨⟨⟨⟨⟨⟨⟨⟨⟨⟨⟨⟨⟨⟨⟨⟨k0, k1⟩, k2⟩, k3⟩, k4⟩, k5⟩, k6⟩, k7⟩, k8⟩, k9⟩, k10⟩, k11⟩, k12⟩, k13⟩, k14⟩, k15⟩, k16⟩, k17⟩, k18⟩, k19⟩, k20⟩, k21⟩, k22⟩, k23⟩, k24⟩, k25⟩, k26⟩, k27⟩, k28⟩, k29⟩, k30⟩, k31⟩
set_option maxRecDepth 100000 in
theorem fact12_0 : (Rows.envSameUptoRow.wf (OpenSpec.ofChange (Rows.OpenSpec.upto Rows.envSameSpec).bare)) = true := by kernel_rfl
set_option maxRecDepth 100000 in
theorem fact12_1 : (laidOutB Tryz.pinned.checked.prog) = true := by kernel_rfl
set_option maxRecDepth 100000 in
theorem fact12_2 : (mapsRowed Tryz.pinned.checked.prog) = true := by kernel_rfl
set_option maxRecDepth 100000 in
theorem fact12_3 : (Tryz.f12.params.all (Tryz.pinned.checked.prog.readableRec ·)) = true := by kernel_rfl
set_option maxRecDepth 100000 in
theorem fact12_4 : (namedTie Tryz.pinned.checked.prog Rows.envSameUptoRow.named (Rows.OpenSpec.upto Rows.envSameSpec).bare.vars) = true := by kernel_rfl
set_option maxRecDepth 100000 in
theorem fact12_5 : ((Rows.envSameUptoRow.stops == [])) = true := by kernel_rfl
set_option maxRecDepth 100000 in
theorem fact12_6 : ((Tryz.pinned.checked.prog.stops == [])) = true := by kernel_rfl
set_option maxRecDepth 100000 in
theorem fact12_7 : ((Rows.envSameUptoRow.knobs == [])) = true := by kernel_rfl
set_option maxRecDepth 100000 in
theorem fact12_8 : ((Tryz.pinned.checked.prog.stopKnobs == [])) = true := by kernel_rfl
set_option maxRecDepth 100000 in
theorem fact12_9 : ((Rows.envSameUptoRow.inPlace == Tryz.pinned.checked.prog.inPlace 12)) = true := by kernel_rfl
set_option maxRecDepth 100000 in
theorem fact12_10 : ((Rows.envSameUptoRow.unfollowed == Tryz.pinned.checked.prog.unfollowed 12)) = true := by kernel_rfl
set_option maxRecDepth 100000 in
theorem fact12_11 : ((Rows.envSameUptoRow.recurses == Tryz.pinned.checked.prog.recurses 12)) = true := by kernel_rfl
set_option maxRecDepth 100000 in
theorem fact12_12 : ((Rows.envSameUptoRow.named == Tryz.pinned.checked.prog.varsNamed 12)) = true := by kernel_rfl
set_option maxRecDepth 100000 in
theorem fact12_13 : ((Rows.envSameUptoRow.maps == (Tryz.f12.params.toList ++ (Rows.OpenSpec.upto Rows.envSameSpec).bare.plain.varTypes Tryz.pinned.checked.prog).any (Tryz.pinned.checked.prog.mapsRec ·))) = true := by kernel_rfl
set_option maxRecDepth 100000 in
theorem fact12_14 : ((Rows.envSameUptoRow.ifaces == (Tryz.f12.params.toList ++ (Rows.OpenSpec.upto Rows.envSameSpec).bare.plain.varTypes Tryz.pinned.checked.prog).any (Tryz.pinned.checked.prog.ifacesRec ·))) = true := by kernel_rfl
set_option maxRecDepth 100000 in
theorem fact12_15 : ((Rows.envSameUptoRow.mapsOut == Tryz.pinned.checked.prog.mapsAmong Tryz.f12.resultTypes.toList)) = true := by kernel_rfl
set_option maxRecDepth 100000 in
theorem fact12_16 : ((Rows.envSameUptoRow.loops == (Tryz.f12.params.toList ++ (Rows.OpenSpec.upto Rows.envSameSpec).bare.plain.varTypes Tryz.pinned.checked.prog).any (Tryz.pinned.checked.prog.loopsFrom ·))) = true := by kernel_rfl
set_option maxRecDepth 100000 in
theorem fact12_17 : ((Rows.envSameUptoRow.wideKeys == (Tryz.f12.params.toList ++ (Rows.OpenSpec.upto Rows.envSameSpec).bare.plain.varTypes Tryz.pinned.checked.prog ++ Tryz.f12.resultTypes.toList).any (Tryz.pinned.checked.prog.wideKeysFrom ·))) = true := by kernel_rfl
set_option maxRecDepth 100000 in
theorem fact12_18 : ((Rows.OpenSpec.upto Rows.envSameSpec).bare.vars.all (Tryz.pinned.checked.prog.varReadable ·)) = true := by kernel_rfl
set_option maxRecDepth 100000 in
theorem fact12_19 : (Tryz.f12.resultTypes.all (fun t => Tryz.pinned.checked.prog.readableRec t && decide (t < Tryz.pinned.checked.prog.types.size))) = true := by kernel_rfl
set_option maxRecDepth 100000 in
theorem fact12_20 : ((Rows.envSameUptoRow.ifacesOut == Tryz.f12.resultTypes.toList.any (Tryz.pinned.checked.prog.ifacesRec ·))) = true := by kernel_rfl
set_option maxRecDepth 100000 in
theorem fact12_21 : ((Rows.envSameUptoRow.loopsOut == Tryz.f12.resultTypes.toList.any (Tryz.pinned.checked.prog.loopsFrom ·))) = true := by kernel_rfl
set_option maxRecDepth 100000 in
theorem fact12_22 : ((Rows.envSameUptoRow.plainKeys == Tryz.pinned.checked.prog.plainKeys)) = true := by kernel_rfl
set_option maxRecDepth 100000 in
theorem fact12_23 : (Rows.envSameUptoRow.shortTexts.isNone) = true := by kernel_rfl
set_option maxRecDepth 100000 in
theorem fact12_24 : (Tryz.pinned.checked.prog.stopsHeard) = true := by kernel_rfl
set_option maxRecDepth 100000 in
theorem fact12_25 : (Tryz.pinned.checked.prog.mayEnter) = true := by kernel_rfl
set_option maxRecDepth 100000 in
theorem fact12_26 : ((Rows.envSameUptoRow.lifted == Tryz.pinned.checked.prog.liftsFinal)) = true := by kernel_rfl
set_option maxRecDepth 100000 in
theorem fact12_27 : ((Tryz.pinned.checked.prog.make == some Rows.envSameUptoRow.make)) = true := by kernel_rfl
set_option maxRecDepth 100000 in
theorem fact12_28 : ((Rows.envSameUptoRow.kinds == (if Rows.envSameUptoRow.domain.isEmpty then [] else Tryz.f12.params.toList.map fun t => match Tryz.pinned.checked.prog.underlying t with | some (.int k) => some k | _ => none))) = true := by kernel_rfl
set_option maxRecDepth 100000 in
theorem fact12_29 : ((Rows.envSameUptoRow.pinned == Rows.envSameUptoRow.pinnedBy)) = true := by kernel_rfl
set_option maxRecDepth 100000 in
theorem fact12_30 : ((Rows.envSameUptoRow.veiled == (Tryz.f12.params.toList ++ (Rows.OpenSpec.upto Rows.envSameSpec).bare.plain.varTypes Tryz.pinned.checked.prog ++ Tryz.f12.resultTypes.toList).any (Tryz.pinned.checked.prog.veiledRec ·))) = true := by kernel_rfl
set_option maxRecDepth 100000 in
theorem fact12_31 : (Rows.envSameUptoRow.veiledFits Tryz.pinned.checked.prog Tryz.f12.params.toList (Tryz.f12.params.toList ++ (Rows.OpenSpec.upto Rows.envSameSpec).bare.plain.varTypes Tryz.pinned.checked.prog ++ Tryz.f12.resultTypes.toList)) = true := by kernel_rfl
theorem closed12 : joinedFacts Tryz.pinned.checked.prog 12 Tryz.f12 (Rows.OpenSpec.upto Rows.envSameSpec).bare Rows.envSameUptoRow = true :=
  joined_of fact12_0 fact12_1 fact12_2 fact12_3 fact12_4 fact12_5 fact12_6 fact12_7 fact12_8 fact12_9 fact12_10 fact12_11 fact12_12 fact12_13 fact12_14 fact12_15 fact12_16 fact12_17 fact12_18 fact12_19 fact12_20 fact12_21 fact12_22 fact12_23 fact12_24 fact12_25 fact12_26 fact12_27 fact12_28 fact12_29 fact12_30 fact12_31
end Go.Proofs.YtflfflfodghgpaaGreatDoor
