/-
  DERIVED. GIVEN WITH THE SEED: THE CARDS: each row of YtdifffdfiimlpaaGreatDoorRows.lean that lists a variable, with what it lists TIED to the program's text (the seventh form; the later family's looks); each row that meets fmt, with fmt's text TOLD by the authors' own Lean function (tested against real Go, not proved from fmt's source: count such statements apart). THE CARD IS WHAT COUNTS. Prove the row's statement (the work); the ties are given (YtdifffdfiimlpaaGreatDoorTie.lean); close each card by the builder's one call (the guide's Derived/Test/ToyasCard.lean, 'card_holds'). Laid BY PROGRAM, IN A SANDBOX (cutbox-door.mjs). By AI agents, Wed Nov 11 2026. No macro, syntax, notation, axiom, sorry.
-/
import Derived.Test.YtdifffdfiimlpaaGreatDoorRows
import GoSem.ClaimSeven
namespace Go.Proofs.YtdifffdfiimlpaaGreatDoor
namespace Rows

/-- THE TIED CARD OF 'jobshelllaw33.EnvNews'. -/
def envNewsCard : Claim7 := { stood := { row := envNewsRow, standIns := [], harness := (true, "c5e9ae2e65501eb7ac58d90da8d7ce3e85690264a749deb5c2c9f70f802dac1c"), looks := true }, kinds := [], alts := [], laidByText := true, laidKinds := [.data, .pinned], laidTests := true, laidLooks := .later }
def EnvNewsCardSaid : Prop := Claim7.holds Tryz.pinned (.plain (OpenSpec.ofChange envNewsSpec)) envNewsCard

/-- THE SECOND FORM's CARD OF 'jobshelllaw33.EnvNews'. -/
def envNewsUptoCard : Claim7 := { stood := { row := envNewsUptoRow, standIns := [], harness := (true, "c5e9ae2e65501eb7ac58d90da8d7ce3e85690264a749deb5c2c9f70f802dac1c"), looks := true }, kinds := [], alts := [], laidByText := true, laidKinds := [.data, .pinned], laidTests := true, laidLooks := .later }
def EnvNewsUptoCardSaid : Prop := Claim7.holds Tryz.pinned (.plain (OpenSpec.upto envNewsSpec)) envNewsUptoCard
end Rows
end Go.Proofs.YtdifffdfiimlpaaGreatDoor
