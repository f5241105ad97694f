/-
  DERIVED. GIVEN WITH THE SEED: THE CARDS: each row of YtegkmccpnpfooaaGreatDoorRows.lean that lists a variable, with what it lists TIED to the program's text (the seventh form; the later family's looks); each row that meets fmt, with fmt's text TOLD by the authors' own Lean function (tested against real Go, not proved from fmt's source: count such statements apart). THE CARD IS WHAT COUNTS. Prove the row's statement (the work); the ties are given (YtegkmccpnpfooaaGreatDoorTie.lean); close each card by the builder's one call (the guide's Derived/Test/ToyasCard.lean, 'card_holds'). Laid BY PROGRAM, IN A SANDBOX (cutbox-door.mjs). By AI agents, Wed Nov 11 2026. No macro, syntax, notation, axiom, sorry.
-/
import Derived.Test.YtegkmccpnpfooaaGreatDoorRows
import GoSem.ClaimSeven
namespace Go.Proofs.YtegkmccpnpfooaaGreatDoor
namespace Rows

/-- THE TIED CARD OF 'jobshelllaw51.LintRules'. -/
def lintRulesCard : Claim7 := { stood := { row := lintRulesRow, standIns := [], harness := (true, "7c029f4be63d3ec42292eac8a61f5ce0bab0259b7f042b8d945faa6e11ad0925"), looks := true }, kinds := [], alts := [], laidByText := true, laidKinds := [.data, .pinned], laidTests := true, laidLooks := .later }
def LintRulesCardSaid : Prop := Claim7.holds Tryz.pinned (.plain (OpenSpec.ofChange lintRulesSpec)) lintRulesCard

/-- THE SECOND FORM's CARD OF 'jobshelllaw51.LintRules'. -/
def lintRulesUptoCard : Claim7 := { stood := { row := lintRulesUptoRow, standIns := [], harness := (true, "7c029f4be63d3ec42292eac8a61f5ce0bab0259b7f042b8d945faa6e11ad0925"), looks := true }, kinds := [], alts := [], laidByText := true, laidKinds := [.data, .pinned], laidTests := true, laidLooks := .later }
def LintRulesUptoCardSaid : Prop := Claim7.holds Tryz.pinned (.plain (OpenSpec.upto lintRulesSpec)) lintRulesUptoCard
end Rows
end Go.Proofs.YtegkmccpnpfooaaGreatDoor
