/-
  DERIVED. GIVEN WITH THE SEED: THE CARDS: each row of YtioblbopbilmaaaGreatDoorRows.lean that lists a variable, with what it lists TIED to the program's text (the seventh form; the later family's looks); each row that meets fmt, with fmt's text TOLD by the authors' own Lean function (tested against real Go, not proved from fmt's source: count such statements apart). THE CARD IS WHAT COUNTS. Prove the row's statement (the work); the ties are given (YtioblbopbilmaaaGreatDoorTie.lean); close each card by the builder's one call (the guide's Derived/Test/ToyasCard.lean, 'card_holds'). Laid BY PROGRAM, IN A SANDBOX (cutbox-door.mjs). By AI agents, Wed Nov 11 2026. No macro, syntax, notation, axiom, sorry.
-/
import Derived.Test.YtioblbopbilmaaaGreatDoorRows
import GoSem.ClaimSeven
namespace Go.Proofs.YtioblbopbilmaaaGreatDoor
namespace Rows

/-- THE TIED CARD OF 'jobshelllaw47.CompletePoints'. -/
def completePointsCard : Claim7 := { stood := { row := completePointsRow, standIns := [], harness := (true, "9f0a5b6acf2efa3625a22390e6f715f9dfcdfb81112061487039267093a45342"), looks := true }, kinds := [], alts := [], laidByText := true, laidKinds := [.data, .listed, .data, .pinned], laidTests := true, laidLooks := .later }
def CompletePointsCardSaid : Prop := Claim7.holds Tryz.pinned (.plain (OpenSpec.ofChange completePointsSpec)) completePointsCard

/-- THE SECOND FORM's CARD OF 'jobshelllaw47.CompletePoints'. -/
def completePointsUptoCard : Claim7 := { stood := { row := completePointsUptoRow, standIns := [], harness := (true, "9f0a5b6acf2efa3625a22390e6f715f9dfcdfb81112061487039267093a45342"), looks := true }, kinds := [], alts := [], laidByText := true, laidKinds := [.data, .listed, .data, .pinned], laidTests := true, laidLooks := .later }
def CompletePointsUptoCardSaid : Prop := Claim7.holds Tryz.pinned (.plain (OpenSpec.upto completePointsSpec)) completePointsUptoCard
end Rows
end Go.Proofs.YtioblbopbilmaaaGreatDoor
