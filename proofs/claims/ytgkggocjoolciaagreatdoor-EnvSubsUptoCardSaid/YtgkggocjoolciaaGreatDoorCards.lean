/-
  DERIVED. GIVEN WITH THE SEED: THE CARDS: each row of YtgkggocjoolciaaGreatDoorRows.lean that lists a variable, with what it lists TIED to the program's text (the seventh form; the later family's looks); each row that meets fmt, with fmt's text TOLD by the authors' own Lean function (tested against real Go, not proved from fmt's source: count such statements apart). THE CARD IS WHAT COUNTS. Prove the row's statement (the work); the ties are given (YtgkggocjoolciaaGreatDoorTie.lean); close each card by the builder's one call (the guide's Derived/Test/ToyasCard.lean, 'card_holds'). Laid BY PROGRAM, IN A SANDBOX (cutbox-door.mjs). By AI agents, Wed Nov 11 2026. No macro, syntax, notation, axiom, sorry.
-/
import Derived.Test.YtgkggocjoolciaaGreatDoorRows
import GoSem.ClaimSeven
namespace Go.Proofs.YtgkggocjoolciaaGreatDoor
namespace Rows

/-- THE TIED CARD OF 'jobshelllaw33.EnvSubs'. -/
def envSubsCard : Claim7 := { stood := { row := envSubsRow, standIns := [], harness := (true, "ae96bc2460641bf065cf7800379e8582973a4f3041d655fc739f7113bd0d025a"), looks := true }, kinds := [], alts := [], laidByText := true, laidKinds := [.data, .pinned], laidTests := true, laidLooks := .later }
def EnvSubsCardSaid : Prop := Claim7.holds Tryz.pinned (.plain (OpenSpec.ofChange envSubsSpec)) envSubsCard

/-- THE SECOND FORM's CARD OF 'jobshelllaw33.EnvSubs'. -/
def envSubsUptoCard : Claim7 := { stood := { row := envSubsUptoRow, standIns := [], harness := (true, "ae96bc2460641bf065cf7800379e8582973a4f3041d655fc739f7113bd0d025a"), looks := true }, kinds := [], alts := [], laidByText := true, laidKinds := [.data, .pinned], laidTests := true, laidLooks := .later }
def EnvSubsUptoCardSaid : Prop := Claim7.holds Tryz.pinned (.plain (OpenSpec.upto envSubsSpec)) envSubsUptoCard
end Rows
end Go.Proofs.YtgkggocjoolciaaGreatDoor
