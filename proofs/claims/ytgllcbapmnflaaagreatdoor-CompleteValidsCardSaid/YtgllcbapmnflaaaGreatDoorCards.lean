/-
  DERIVED. GIVEN WITH THE SEED: THE CARDS: each row of YtgllcbapmnflaaaGreatDoorRows.lean that lists a variable, with what it lists TIED to the program's text (the seventh form; the later family's looks); each row that meets fmt, with fmt's text TOLD by the authors' own Lean function (tested against real Go, not proved from fmt's source: count such statements apart). THE CARD IS WHAT COUNTS. Prove the row's statement (the work); the ties are given (YtgllcbapmnflaaaGreatDoorTie.lean); close each card by the builder's one call (the guide's Derived/Test/ToyasCard.lean, 'card_holds'). Laid BY PROGRAM, IN A SANDBOX (cutbox-door.mjs). By AI agents, Wed Nov 11 2026. No macro, syntax, notation, axiom, sorry.
-/
import Derived.Test.YtgllcbapmnflaaaGreatDoorRows
import GoSem.ClaimSeven
namespace Go.Proofs.YtgllcbapmnflaaaGreatDoor
namespace Rows

/-- THE TIED CARD OF 'jobshelllaw47.CompleteCommons'. -/
def completeCommonsCard : Claim7 := { stood := { row := completeCommonsRow, standIns := [], harness := (true, "5d94b45fcb738a6d59a638a76d9932b6732d028d62781a0e1b6f6ef6640ae80b"), looks := true }, kinds := [], alts := [], laidByText := true, laidKinds := [.data, .listed, .data, .pinned], laidTests := true, laidLooks := .later }
def CompleteCommonsCardSaid : Prop := Claim7.holds Tryz.pinned (.plain (OpenSpec.ofChange completeCommonsSpec)) completeCommonsCard

/-- THE TIED CARD OF 'jobshelllaw47.CompleteValids'. -/
def completeValidsCard : Claim7 := { stood := { row := completeValidsRow, standIns := [], harness := (true, "5d94b45fcb738a6d59a638a76d9932b6732d028d62781a0e1b6f6ef6640ae80b"), looks := true }, kinds := [], alts := [], laidByText := true, laidKinds := [.data, .listed, .data, .pinned], laidTests := true, laidLooks := .later }
def CompleteValidsCardSaid : Prop := Claim7.holds Tryz.pinned (.plain (OpenSpec.ofChange completeValidsSpec)) completeValidsCard

/-- THE SECOND FORM's CARD OF 'jobshelllaw47.CompleteCommons'. -/
def completeCommonsUptoCard : Claim7 := { stood := { row := completeCommonsUptoRow, standIns := [], harness := (true, "5d94b45fcb738a6d59a638a76d9932b6732d028d62781a0e1b6f6ef6640ae80b"), looks := true }, kinds := [], alts := [], laidByText := true, laidKinds := [.data, .listed, .data, .pinned], laidTests := true, laidLooks := .later }
def CompleteCommonsUptoCardSaid : Prop := Claim7.holds Tryz.pinned (.plain (OpenSpec.upto completeCommonsSpec)) completeCommonsUptoCard

/-- THE SECOND FORM's CARD OF 'jobshelllaw47.CompleteValids'. -/
def completeValidsUptoCard : Claim7 := { stood := { row := completeValidsUptoRow, standIns := [], harness := (true, "5d94b45fcb738a6d59a638a76d9932b6732d028d62781a0e1b6f6ef6640ae80b"), looks := true }, kinds := [], alts := [], laidByText := true, laidKinds := [.data, .listed, .data, .pinned], laidTests := true, laidLooks := .later }
def CompleteValidsUptoCardSaid : Prop := Claim7.holds Tryz.pinned (.plain (OpenSpec.upto completeValidsSpec)) completeValidsUptoCard
end Rows
end Go.Proofs.YtgllcbapmnflaaaGreatDoor
