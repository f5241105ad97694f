/-
  DERIVED. GIVEN WITH THE SEED: THE CARDS: each row of YtokdflgpbfjpcaaGreatDoorRows.lean that lists a variable, with what it lists TIED to the program's text (the seventh form; the later family's looks); each row that meets fmt, with fmt's text TOLD by the authors' own Lean function (tested against real Go, not proved from fmt's source: count such statements apart). THE CARD IS WHAT COUNTS. Prove the row's statement (the work); the ties are given (YtokdflgpbfjpcaaGreatDoorTie.lean); close each card by the builder's one call (the guide's Derived/Test/ToyasCard.lean, 'card_holds'). Laid BY PROGRAM, IN A SANDBOX (cutbox-door.mjs). By AI agents, Wed Nov 11 2026. No macro, syntax, notation, axiom, sorry.
-/
import Derived.Test.YtokdflgpbfjpcaaGreatDoorRows
import GoSem.ClaimSeven
namespace Go.Proofs.YtokdflgpbfjpcaaGreatDoor
namespace Rows

/-- THE TIED CARD OF 'jobshelllaw33.EnvOptions'. -/
def envOptionsCard : Claim7 := { stood := { row := envOptionsRow, standIns := [], harness := (true, "ae37011e5fd839488cac0c43e9c747183d638d63fdfd7d039e6b807f58ac41d1"), looks := true }, kinds := [], alts := [], laidByText := true, laidKinds := [.data, .pinned], laidTests := true, laidLooks := .later }
def EnvOptionsCardSaid : Prop := Claim7.holds Tryz.pinned (.plain (OpenSpec.ofChange envOptionsSpec)) envOptionsCard

/-- THE SECOND FORM's CARD OF 'jobshelllaw33.EnvOptions'. -/
def envOptionsUptoCard : Claim7 := { stood := { row := envOptionsUptoRow, standIns := [], harness := (true, "ae37011e5fd839488cac0c43e9c747183d638d63fdfd7d039e6b807f58ac41d1"), looks := true }, kinds := [], alts := [], laidByText := true, laidKinds := [.data, .pinned], laidTests := true, laidLooks := .later }
def EnvOptionsUptoCardSaid : Prop := Claim7.holds Tryz.pinned (.plain (OpenSpec.upto envOptionsSpec)) envOptionsUptoCard
end Rows
end Go.Proofs.YtokdflgpbfjpcaaGreatDoor
