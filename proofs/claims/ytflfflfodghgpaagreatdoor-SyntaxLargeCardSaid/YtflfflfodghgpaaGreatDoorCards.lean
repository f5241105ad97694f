/-
  DERIVED. GIVEN WITH THE SEED: THE CARDS: each row of YtflfflfodghgpaaGreatDoorRows.lean that lists a variable, with what it lists TIED to the program's text (the seventh form; the later family's looks); each row that meets fmt, with fmt's text TOLD by the authors' own Lean function (tested against real Go, not proved from fmt's source: count such statements apart). THE CARD IS WHAT COUNTS. Prove the row's statement (the work); the ties are given (YtflfflfodghgpaaGreatDoorTie.lean); close each card by the builder's one call (the guide's Derived/Test/ToyasCard.lean, 'card_holds'). Laid BY PROGRAM, IN A SANDBOX (cutbox-door.mjs). By AI agents, Wed Nov 11 2026. No macro, syntax, notation, axiom, sorry.
-/
import Derived.Test.YtflfflfodghgpaaGreatDoorRows
import GoSem.ClaimSeven
namespace Go.Proofs.YtflfflfodghgpaaGreatDoor
namespace Rows

/-- THE TIED CARD OF 'jobshelllaw11.SyntaxValids'. -/
def syntaxValidsCard : Claim7 := { stood := { row := syntaxValidsRow, standIns := [], harness := (true, "0cf7c5ec7d0f8f1327b76cd2f8b4c47a841fb600283e293d4ad9b0f657cf5a1e"), looks := true }, kinds := [], alts := [], laidByText := true, laidKinds := [.data, .pinned], laidTests := true, laidLooks := .later }
def SyntaxValidsCardSaid : Prop := Claim7.holds Tryz.pinned (.plain (OpenSpec.ofChange syntaxValidsSpec)) syntaxValidsCard

/-- THE TIED CARD OF 'jobshelllaw11.SyntaxLarge'. -/
def syntaxLargeCard : Claim7 := { stood := { row := syntaxLargeRow, standIns := [], harness := (true, "0cf7c5ec7d0f8f1327b76cd2f8b4c47a841fb600283e293d4ad9b0f657cf5a1e"), looks := true }, kinds := [], alts := [], laidByText := true, laidKinds := [.data, .pinned], laidTests := true, laidLooks := .later }
def SyntaxLargeCardSaid : Prop := Claim7.holds Tryz.pinned (.plain (OpenSpec.ofChange syntaxLargeSpec)) syntaxLargeCard

/-- THE TIED CARD OF 'jobshelllaw11.SyntaxReplaces'. -/
def syntaxReplacesCard : Claim7 := { stood := { row := syntaxReplacesRow, standIns := [], harness := (true, "0cf7c5ec7d0f8f1327b76cd2f8b4c47a841fb600283e293d4ad9b0f657cf5a1e"), looks := true }, kinds := [], alts := [], laidByText := true, laidKinds := [.data, .pinned], laidTests := true, laidLooks := .later }
def SyntaxReplacesCardSaid : Prop := Claim7.holds Tryz.pinned (.plain (OpenSpec.ofChange syntaxReplacesSpec)) syntaxReplacesCard

/-- THE TIED CARD OF 'jobshelllaw11.SyntaxParts'. -/
def syntaxPartsCard : Claim7 := { stood := { row := syntaxPartsRow, standIns := [], harness := (true, "0cf7c5ec7d0f8f1327b76cd2f8b4c47a841fb600283e293d4ad9b0f657cf5a1e"), looks := true }, kinds := [], alts := [], laidByText := true, laidKinds := [.data, .pinned], laidTests := true, laidLooks := .later }
def SyntaxPartsCardSaid : Prop := Claim7.holds Tryz.pinned (.plain (OpenSpec.ofChange syntaxPartsSpec)) syntaxPartsCard

/-- THE TIED CARD OF 'jobshelllaw33.EnvNews'. -/
def envNewsCard : Claim7 := { stood := { row := envNewsRow, standIns := [], harness := (true, "0cf7c5ec7d0f8f1327b76cd2f8b4c47a841fb600283e293d4ad9b0f657cf5a1e"), looks := true }, kinds := [], alts := [], laidByText := true, laidKinds := [.data, .pinned], laidTests := true, laidLooks := .later }
def EnvNewsCardSaid : Prop := Claim7.holds Tryz.pinned (.plain (OpenSpec.ofChange envNewsSpec)) envNewsCard

/-- THE TIED CARD OF 'jobshelllaw33.EnvValid'. -/
def envValidCard : Claim7 := { stood := { row := envValidRow, standIns := [], harness := (true, "0cf7c5ec7d0f8f1327b76cd2f8b4c47a841fb600283e293d4ad9b0f657cf5a1e"), looks := true }, kinds := [], alts := [], laidByText := true, laidKinds := [.data, .pinned], laidTests := true, laidLooks := .later }
def EnvValidCardSaid : Prop := Claim7.holds Tryz.pinned (.plain (OpenSpec.ofChange envValidSpec)) envValidCard

/-- THE TIED CARD OF 'jobshelllaw33.EnvSubs'. -/
def envSubsCard : Claim7 := { stood := { row := envSubsRow, standIns := [], harness := (true, "0cf7c5ec7d0f8f1327b76cd2f8b4c47a841fb600283e293d4ad9b0f657cf5a1e"), looks := true }, kinds := [], alts := [], laidByText := true, laidKinds := [.data, .pinned], laidTests := true, laidLooks := .later }
def EnvSubsCardSaid : Prop := Claim7.holds Tryz.pinned (.plain (OpenSpec.ofChange envSubsSpec)) envSubsCard

/-- THE TIED CARD OF 'jobshelllaw33.EnvOptions'. -/
def envOptionsCard : Claim7 := { stood := { row := envOptionsRow, standIns := [], harness := (true, "0cf7c5ec7d0f8f1327b76cd2f8b4c47a841fb600283e293d4ad9b0f657cf5a1e"), looks := true }, kinds := [], alts := [], laidByText := true, laidKinds := [.data, .pinned], laidTests := true, laidLooks := .later }
def EnvOptionsCardSaid : Prop := Claim7.holds Tryz.pinned (.plain (OpenSpec.ofChange envOptionsSpec)) envOptionsCard

/-- THE TIED CARD OF 'jobshelllaw33.EnvLetters'. -/
def envLettersCard : Claim7 := { stood := { row := envLettersRow, standIns := [], harness := (true, "0cf7c5ec7d0f8f1327b76cd2f8b4c47a841fb600283e293d4ad9b0f657cf5a1e"), looks := true }, kinds := [], alts := [], laidByText := true, laidKinds := [.data, .pinned], laidTests := true, laidLooks := .later }
def EnvLettersCardSaid : Prop := Claim7.holds Tryz.pinned (.plain (OpenSpec.ofChange envLettersSpec)) envLettersCard

/-- THE TIED CARD OF 'jobshelllaw33.EnvSame'. -/
def envSameCard : Claim7 := { stood := { row := envSameRow, standIns := [], harness := (true, "0cf7c5ec7d0f8f1327b76cd2f8b4c47a841fb600283e293d4ad9b0f657cf5a1e"), looks := true }, kinds := [], alts := [], laidByText := true, laidKinds := [.data, .pinned], laidTests := true, laidLooks := .later }
def EnvSameCardSaid : Prop := Claim7.holds Tryz.pinned (.plain (OpenSpec.ofChange envSameSpec)) envSameCard

/-- THE TIED CARD OF 'jobshelllaw33.EnvFunctions'. -/
def envFunctionsCard : Claim7 := { stood := { row := envFunctionsRow, standIns := [], harness := (true, "0cf7c5ec7d0f8f1327b76cd2f8b4c47a841fb600283e293d4ad9b0f657cf5a1e"), looks := true }, kinds := [], alts := [], laidByText := true, laidKinds := [.data, .pinned], laidTests := true, laidLooks := .later }
def EnvFunctionsCardSaid : Prop := Claim7.holds Tryz.pinned (.plain (OpenSpec.ofChange envFunctionsSpec)) envFunctionsCard

/-- THE TIED CARD OF 'jobshelllaw33.EnvDefines'. -/
def envDefinesCard : Claim7 := { stood := { row := envDefinesRow, standIns := [], harness := (true, "0cf7c5ec7d0f8f1327b76cd2f8b4c47a841fb600283e293d4ad9b0f657cf5a1e"), looks := true }, kinds := [], alts := [], laidByText := true, laidKinds := [.data, .pinned], laidTests := true, laidLooks := .later }
def EnvDefinesCardSaid : Prop := Claim7.holds Tryz.pinned (.plain (OpenSpec.ofChange envDefinesSpec)) envDefinesCard

/-- THE SECOND FORM's CARD OF 'jobshelllaw11.SyntaxValids'. -/
def syntaxValidsUptoCard : Claim7 := { stood := { row := syntaxValidsUptoRow, standIns := [], harness := (true, "0cf7c5ec7d0f8f1327b76cd2f8b4c47a841fb600283e293d4ad9b0f657cf5a1e"), looks := true }, kinds := [], alts := [], laidByText := true, laidKinds := [.data, .pinned], laidTests := true, laidLooks := .later }
def SyntaxValidsUptoCardSaid : Prop := Claim7.holds Tryz.pinned (.plain (OpenSpec.upto syntaxValidsSpec)) syntaxValidsUptoCard

/-- THE SECOND FORM's CARD OF 'jobshelllaw11.SyntaxLarge'. -/
def syntaxLargeUptoCard : Claim7 := { stood := { row := syntaxLargeUptoRow, standIns := [], harness := (true, "0cf7c5ec7d0f8f1327b76cd2f8b4c47a841fb600283e293d4ad9b0f657cf5a1e"), looks := true }, kinds := [], alts := [], laidByText := true, laidKinds := [.data, .pinned], laidTests := true, laidLooks := .later }
def SyntaxLargeUptoCardSaid : Prop := Claim7.holds Tryz.pinned (.plain (OpenSpec.upto syntaxLargeSpec)) syntaxLargeUptoCard

/-- THE SECOND FORM's CARD OF 'jobshelllaw11.SyntaxReplaces'. -/
def syntaxReplacesUptoCard : Claim7 := { stood := { row := syntaxReplacesUptoRow, standIns := [], harness := (true, "0cf7c5ec7d0f8f1327b76cd2f8b4c47a841fb600283e293d4ad9b0f657cf5a1e"), looks := true }, kinds := [], alts := [], laidByText := true, laidKinds := [.data, .pinned], laidTests := true, laidLooks := .later }
def SyntaxReplacesUptoCardSaid : Prop := Claim7.holds Tryz.pinned (.plain (OpenSpec.upto syntaxReplacesSpec)) syntaxReplacesUptoCard

/-- THE SECOND FORM's CARD OF 'jobshelllaw11.SyntaxParts'. -/
def syntaxPartsUptoCard : Claim7 := { stood := { row := syntaxPartsUptoRow, standIns := [], harness := (true, "0cf7c5ec7d0f8f1327b76cd2f8b4c47a841fb600283e293d4ad9b0f657cf5a1e"), looks := true }, kinds := [], alts := [], laidByText := true, laidKinds := [.data, .pinned], laidTests := true, laidLooks := .later }
def SyntaxPartsUptoCardSaid : Prop := Claim7.holds Tryz.pinned (.plain (OpenSpec.upto syntaxPartsSpec)) syntaxPartsUptoCard

/-- THE SECOND FORM's CARD OF 'jobshelllaw33.EnvNews'. -/
def envNewsUptoCard : Claim7 := { stood := { row := envNewsUptoRow, standIns := [], harness := (true, "0cf7c5ec7d0f8f1327b76cd2f8b4c47a841fb600283e293d4ad9b0f657cf5a1e"), looks := true }, kinds := [], alts := [], laidByText := true, laidKinds := [.data, .pinned], laidTests := true, laidLooks := .later }
def EnvNewsUptoCardSaid : Prop := Claim7.holds Tryz.pinned (.plain (OpenSpec.upto envNewsSpec)) envNewsUptoCard

/-- THE SECOND FORM's CARD OF 'jobshelllaw33.EnvValid'. -/
def envValidUptoCard : Claim7 := { stood := { row := envValidUptoRow, standIns := [], harness := (true, "0cf7c5ec7d0f8f1327b76cd2f8b4c47a841fb600283e293d4ad9b0f657cf5a1e"), looks := true }, kinds := [], alts := [], laidByText := true, laidKinds := [.data, .pinned], laidTests := true, laidLooks := .later }
def EnvValidUptoCardSaid : Prop := Claim7.holds Tryz.pinned (.plain (OpenSpec.upto envValidSpec)) envValidUptoCard

/-- THE SECOND FORM's CARD OF 'jobshelllaw33.EnvSubs'. -/
def envSubsUptoCard : Claim7 := { stood := { row := envSubsUptoRow, standIns := [], harness := (true, "0cf7c5ec7d0f8f1327b76cd2f8b4c47a841fb600283e293d4ad9b0f657cf5a1e"), looks := true }, kinds := [], alts := [], laidByText := true, laidKinds := [.data, .pinned], laidTests := true, laidLooks := .later }
def EnvSubsUptoCardSaid : Prop := Claim7.holds Tryz.pinned (.plain (OpenSpec.upto envSubsSpec)) envSubsUptoCard

/-- THE SECOND FORM's CARD OF 'jobshelllaw33.EnvOptions'. -/
def envOptionsUptoCard : Claim7 := { stood := { row := envOptionsUptoRow, standIns := [], harness := (true, "0cf7c5ec7d0f8f1327b76cd2f8b4c47a841fb600283e293d4ad9b0f657cf5a1e"), looks := true }, kinds := [], alts := [], laidByText := true, laidKinds := [.data, .pinned], laidTests := true, laidLooks := .later }
def EnvOptionsUptoCardSaid : Prop := Claim7.holds Tryz.pinned (.plain (OpenSpec.upto envOptionsSpec)) envOptionsUptoCard

/-- THE SECOND FORM's CARD OF 'jobshelllaw33.EnvLetters'. -/
def envLettersUptoCard : Claim7 := { stood := { row := envLettersUptoRow, standIns := [], harness := (true, "0cf7c5ec7d0f8f1327b76cd2f8b4c47a841fb600283e293d4ad9b0f657cf5a1e"), looks := true }, kinds := [], alts := [], laidByText := true, laidKinds := [.data, .pinned], laidTests := true, laidLooks := .later }
def EnvLettersUptoCardSaid : Prop := Claim7.holds Tryz.pinned (.plain (OpenSpec.upto envLettersSpec)) envLettersUptoCard

/-- THE SECOND FORM's CARD OF 'jobshelllaw33.EnvSame'. -/
def envSameUptoCard : Claim7 := { stood := { row := envSameUptoRow, standIns := [], harness := (true, "0cf7c5ec7d0f8f1327b76cd2f8b4c47a841fb600283e293d4ad9b0f657cf5a1e"), looks := true }, kinds := [], alts := [], laidByText := true, laidKinds := [.data, .pinned], laidTests := true, laidLooks := .later }
def EnvSameUptoCardSaid : Prop := Claim7.holds Tryz.pinned (.plain (OpenSpec.upto envSameSpec)) envSameUptoCard

/-- THE SECOND FORM's CARD OF 'jobshelllaw33.EnvFunctions'. -/
def envFunctionsUptoCard : Claim7 := { stood := { row := envFunctionsUptoRow, standIns := [], harness := (true, "0cf7c5ec7d0f8f1327b76cd2f8b4c47a841fb600283e293d4ad9b0f657cf5a1e"), looks := true }, kinds := [], alts := [], laidByText := true, laidKinds := [.data, .pinned], laidTests := true, laidLooks := .later }
def EnvFunctionsUptoCardSaid : Prop := Claim7.holds Tryz.pinned (.plain (OpenSpec.upto envFunctionsSpec)) envFunctionsUptoCard

/-- THE SECOND FORM's CARD OF 'jobshelllaw33.EnvDefines'. -/
def envDefinesUptoCard : Claim7 := { stood := { row := envDefinesUptoRow, standIns := [], harness := (true, "0cf7c5ec7d0f8f1327b76cd2f8b4c47a841fb600283e293d4ad9b0f657cf5a1e"), looks := true }, kinds := [], alts := [], laidByText := true, laidKinds := [.data, .pinned], laidTests := true, laidLooks := .later }
def EnvDefinesUptoCardSaid : Prop := Claim7.holds Tryz.pinned (.plain (OpenSpec.upto envDefinesSpec)) envDefinesUptoCard
end Rows
end Go.Proofs.YtflfflfodghgpaaGreatDoor
