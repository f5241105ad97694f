/-
  DERIVED. GIVEN WITH THE SEED: THE CARDS: each row of YtdkcfccepjimbaaGreatDoorRows.lean that lists a variable, with what it lists TIED to the program's text (the seventh form; the later family's looks); each row that meets fmt, with fmt's text TOLD by the authors' own Lean function (tested against real Go, not proved from fmt's source: count such statements apart). THE CARD IS WHAT COUNTS. Prove the row's statement (the work); the ties are given (YtdkcfccepjimbaaGreatDoorTie.lean); close each card by the builder's one call (the guide's Derived/Test/ToyasCard.lean, 'card_holds'). Laid BY PROGRAM, IN A SANDBOX (cutbox-door.mjs). By AI agents, Wed Nov 11 2026. No macro, syntax, notation, axiom, sorry.
-/
import Derived.Test.YtdkcfccepjimbaaGreatDoorRows
import GoSem.ClaimSeven
namespace Go.Proofs.YtdkcfccepjimbaaGreatDoor
namespace Rows

/-- THE TIED CARD OF 'jobshelllaw11.SyntaxValids'. -/
def syntaxValidsCard : Claim7 := { stood := { row := syntaxValidsRow, standIns := [], harness := (true, "9f1a01cdf8c4b2c47a85f3cb09ab24881b4ee0f93b89d0267b11f24f126c2ff2"), looks := true }, kinds := [], alts := [], laidByText := true, laidKinds := [.data, .pinned], laidTests := true, laidLooks := .later }
def SyntaxValidsCardSaid : Prop := Claim7.holds Tryz.pinned (.plain (OpenSpec.ofChange syntaxValidsSpec)) syntaxValidsCard

/-- THE TIED CARD OF 'jobshelllaw11.SyntaxLarge'. -/
def syntaxLargeCard : Claim7 := { stood := { row := syntaxLargeRow, standIns := [], harness := (true, "9f1a01cdf8c4b2c47a85f3cb09ab24881b4ee0f93b89d0267b11f24f126c2ff2"), looks := true }, kinds := [], alts := [], laidByText := true, laidKinds := [.data, .pinned], laidTests := true, laidLooks := .later }
def SyntaxLargeCardSaid : Prop := Claim7.holds Tryz.pinned (.plain (OpenSpec.ofChange syntaxLargeSpec)) syntaxLargeCard

/-- THE TIED CARD OF 'jobshelllaw11.SyntaxSames'. -/
def syntaxSamesCard : Claim7 := { stood := { row := syntaxSamesRow, standIns := [], harness := (true, "9f1a01cdf8c4b2c47a85f3cb09ab24881b4ee0f93b89d0267b11f24f126c2ff2"), looks := true }, kinds := [], alts := [], laidByText := true, laidKinds := [.data, .pinned], laidTests := true, laidLooks := .later }
def SyntaxSamesCardSaid : Prop := Claim7.holds Tryz.pinned (.plain (OpenSpec.ofChange syntaxSamesSpec)) syntaxSamesCard

/-- THE TIED CARD OF 'jobshelllaw11.SyntaxWalks'. -/
def syntaxWalksCard : Claim7 := { stood := { row := syntaxWalksRow, standIns := [], harness := (true, "9f1a01cdf8c4b2c47a85f3cb09ab24881b4ee0f93b89d0267b11f24f126c2ff2"), looks := true }, kinds := [], alts := [], laidByText := true, laidKinds := [.data, .pinned], laidTests := true, laidLooks := .later }
def SyntaxWalksCardSaid : Prop := Claim7.holds Tryz.pinned (.plain (OpenSpec.ofChange syntaxWalksSpec)) syntaxWalksCard

/-- THE TIED CARD OF 'jobshelllaw11.SyntaxReplaces'. -/
def syntaxReplacesCard : Claim7 := { stood := { row := syntaxReplacesRow, standIns := [], harness := (true, "9f1a01cdf8c4b2c47a85f3cb09ab24881b4ee0f93b89d0267b11f24f126c2ff2"), looks := true }, kinds := [], alts := [], laidByText := true, laidKinds := [.data, .pinned], laidTests := true, laidLooks := .later }
def SyntaxReplacesCardSaid : Prop := Claim7.holds Tryz.pinned (.plain (OpenSpec.ofChange syntaxReplacesSpec)) syntaxReplacesCard

/-- THE TIED CARD OF 'jobshelllaw11.SyntaxParts'. -/
def syntaxPartsCard : Claim7 := { stood := { row := syntaxPartsRow, standIns := [], harness := (true, "9f1a01cdf8c4b2c47a85f3cb09ab24881b4ee0f93b89d0267b11f24f126c2ff2"), looks := true }, kinds := [], alts := [], laidByText := true, laidKinds := [.data, .pinned], laidTests := true, laidLooks := .later }
def SyntaxPartsCardSaid : Prop := Claim7.holds Tryz.pinned (.plain (OpenSpec.ofChange syntaxPartsSpec)) syntaxPartsCard

/-- THE TIED CARD OF 'jobshelllaw11.SyntaxPaths'. -/
def syntaxPathsCard : Claim7 := { stood := { row := syntaxPathsRow, standIns := [], harness := (true, "9f1a01cdf8c4b2c47a85f3cb09ab24881b4ee0f93b89d0267b11f24f126c2ff2"), looks := true }, kinds := [], alts := [], laidByText := true, laidKinds := [.data, .pinned], laidTests := true, laidLooks := .later }
def SyntaxPathsCardSaid : Prop := Claim7.holds Tryz.pinned (.plain (OpenSpec.ofChange syntaxPathsSpec)) syntaxPathsCard

/-- THE TIED CARD OF 'jobshelllaw11.SyntaxNames'. -/
def syntaxNamesCard : Claim7 := { stood := { row := syntaxNamesRow, standIns := [], harness := (true, "9f1a01cdf8c4b2c47a85f3cb09ab24881b4ee0f93b89d0267b11f24f126c2ff2"), looks := true }, kinds := [], alts := [], laidByText := true, laidKinds := [.data, .pinned], laidTests := true, laidLooks := .later }
def SyntaxNamesCardSaid : Prop := Claim7.holds Tryz.pinned (.plain (OpenSpec.ofChange syntaxNamesSpec)) syntaxNamesCard

/-- THE SECOND FORM's CARD OF 'jobshelllaw11.SyntaxValids'. -/
def syntaxValidsUptoCard : Claim7 := { stood := { row := syntaxValidsUptoRow, standIns := [], harness := (true, "9f1a01cdf8c4b2c47a85f3cb09ab24881b4ee0f93b89d0267b11f24f126c2ff2"), looks := true }, kinds := [], alts := [], laidByText := true, laidKinds := [.data, .pinned], laidTests := true, laidLooks := .later }
def SyntaxValidsUptoCardSaid : Prop := Claim7.holds Tryz.pinned (.plain (OpenSpec.upto syntaxValidsSpec)) syntaxValidsUptoCard

/-- THE SECOND FORM's CARD OF 'jobshelllaw11.SyntaxLarge'. -/
def syntaxLargeUptoCard : Claim7 := { stood := { row := syntaxLargeUptoRow, standIns := [], harness := (true, "9f1a01cdf8c4b2c47a85f3cb09ab24881b4ee0f93b89d0267b11f24f126c2ff2"), looks := true }, kinds := [], alts := [], laidByText := true, laidKinds := [.data, .pinned], laidTests := true, laidLooks := .later }
def SyntaxLargeUptoCardSaid : Prop := Claim7.holds Tryz.pinned (.plain (OpenSpec.upto syntaxLargeSpec)) syntaxLargeUptoCard

/-- THE SECOND FORM's CARD OF 'jobshelllaw11.SyntaxSames'. -/
def syntaxSamesUptoCard : Claim7 := { stood := { row := syntaxSamesUptoRow, standIns := [], harness := (true, "9f1a01cdf8c4b2c47a85f3cb09ab24881b4ee0f93b89d0267b11f24f126c2ff2"), looks := true }, kinds := [], alts := [], laidByText := true, laidKinds := [.data, .pinned], laidTests := true, laidLooks := .later }
def SyntaxSamesUptoCardSaid : Prop := Claim7.holds Tryz.pinned (.plain (OpenSpec.upto syntaxSamesSpec)) syntaxSamesUptoCard

/-- THE SECOND FORM's CARD OF 'jobshelllaw11.SyntaxWalks'. -/
def syntaxWalksUptoCard : Claim7 := { stood := { row := syntaxWalksUptoRow, standIns := [], harness := (true, "9f1a01cdf8c4b2c47a85f3cb09ab24881b4ee0f93b89d0267b11f24f126c2ff2"), looks := true }, kinds := [], alts := [], laidByText := true, laidKinds := [.data, .pinned], laidTests := true, laidLooks := .later }
def SyntaxWalksUptoCardSaid : Prop := Claim7.holds Tryz.pinned (.plain (OpenSpec.upto syntaxWalksSpec)) syntaxWalksUptoCard

/-- THE SECOND FORM's CARD OF 'jobshelllaw11.SyntaxReplaces'. -/
def syntaxReplacesUptoCard : Claim7 := { stood := { row := syntaxReplacesUptoRow, standIns := [], harness := (true, "9f1a01cdf8c4b2c47a85f3cb09ab24881b4ee0f93b89d0267b11f24f126c2ff2"), looks := true }, kinds := [], alts := [], laidByText := true, laidKinds := [.data, .pinned], laidTests := true, laidLooks := .later }
def SyntaxReplacesUptoCardSaid : Prop := Claim7.holds Tryz.pinned (.plain (OpenSpec.upto syntaxReplacesSpec)) syntaxReplacesUptoCard

/-- THE SECOND FORM's CARD OF 'jobshelllaw11.SyntaxParts'. -/
def syntaxPartsUptoCard : Claim7 := { stood := { row := syntaxPartsUptoRow, standIns := [], harness := (true, "9f1a01cdf8c4b2c47a85f3cb09ab24881b4ee0f93b89d0267b11f24f126c2ff2"), looks := true }, kinds := [], alts := [], laidByText := true, laidKinds := [.data, .pinned], laidTests := true, laidLooks := .later }
def SyntaxPartsUptoCardSaid : Prop := Claim7.holds Tryz.pinned (.plain (OpenSpec.upto syntaxPartsSpec)) syntaxPartsUptoCard

/-- THE SECOND FORM's CARD OF 'jobshelllaw11.SyntaxPaths'. -/
def syntaxPathsUptoCard : Claim7 := { stood := { row := syntaxPathsUptoRow, standIns := [], harness := (true, "9f1a01cdf8c4b2c47a85f3cb09ab24881b4ee0f93b89d0267b11f24f126c2ff2"), looks := true }, kinds := [], alts := [], laidByText := true, laidKinds := [.data, .pinned], laidTests := true, laidLooks := .later }
def SyntaxPathsUptoCardSaid : Prop := Claim7.holds Tryz.pinned (.plain (OpenSpec.upto syntaxPathsSpec)) syntaxPathsUptoCard

/-- THE SECOND FORM's CARD OF 'jobshelllaw11.SyntaxNames'. -/
def syntaxNamesUptoCard : Claim7 := { stood := { row := syntaxNamesUptoRow, standIns := [], harness := (true, "9f1a01cdf8c4b2c47a85f3cb09ab24881b4ee0f93b89d0267b11f24f126c2ff2"), looks := true }, kinds := [], alts := [], laidByText := true, laidKinds := [.data, .pinned], laidTests := true, laidLooks := .later }
def SyntaxNamesUptoCardSaid : Prop := Claim7.holds Tryz.pinned (.plain (OpenSpec.upto syntaxNamesSpec)) syntaxNamesUptoCard
end Rows
end Go.Proofs.YtdkcfccepjimbaaGreatDoor
