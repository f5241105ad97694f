/-
  NARROWER THAN 'FOR EVERY INPUT', by the rows' own cells (each row's printed sentence says how): SyntaxValids: loops, laid · SyntaxLarge: laid · SyntaxSames: loops, laid · SyntaxWalks: loops, laid · SyntaxReplaces: loops, laid · SyntaxParts: loops, laid · SyntaxPaths: loops, laid · SyntaxNames: loops, laid.
  DERIVED. THE GIVEN ROWS OF THIS SEAT. 8 by the template 'for every input the law returns true; each argument reads behind the call as it read before'; 0 by the template 'total and deterministic' (their statements: YtdkcfccepjimbaaGreatDoorTotals.lean).
  GIVEN WITH THE SEED: the statements are not yours to turn. If you find one false, say at which input.
  Laid BY PROGRAM, IN A SANDBOX (cutbox-rows.mjs): the forced cells as the released guide's own fill.sh prints them over the translation e76258839d49ae46… (all of the seat's roots in one cut). By AI agents, Wed Nov 11 2026. No macro, syntax, notation, axiom, sorry.
-/
import Derived.Test.YtdkcfccepjimbaaGreatDoorChecked
import GoSem.PinnedTables
import GoSem.Claim
import GoSem.ClaimJoined
import GoSem.ClaimMapViews
import Derived.JoinedTies
import Derived.KernelRfl
namespace Go.Proofs.YtdkcfccepjimbaaGreatDoor
/- THE CELL 'sum', in the pinned program and in every row, IS THE sha256 OF THE DUMP (.gsa) THAT YtdkcfccepjimbaaGreatDoorProg.lean LOADS. Nothing in Lean hashes anything: it is a label: what it is worth is what the hold of that sum in a sandbox is worth. -/
noncomputable def Tryz.pinned : Pinned := { name := "ytdkcfccepjimbaagreatdoor", sum := "e76258839d49ae462ea2dc4bb925b9ccea8ba1397360694d5baa041886f78a0e", checked := Tryz.checked }
namespace Rows
def none {H : Type} : Left H := { results := [], args := [] }

/- WHAT THE LISTED PACKAGE-LEVEL VARIABLES READ AS WHEN THE CALL BEGINS. Each datum BY PROGRAM (the guide's laid-datum.mjs) off the statement by which the dump's own 'gosem.cut.vars' lays the variable. In a bare row this is a premise. The card (YtdkcfccepjimbaaGreatDoorCards.lean) ties it to the program's text. -/
def laid_unicode_utf8_acceptRanges {H : Type} : DataW H := .agg [.agg [.lit (.int .u8 128), .lit (.int .u8 191)], .agg [.lit (.int .u8 160), .lit (.int .u8 191)], .agg [.lit (.int .u8 128), .lit (.int .u8 159)], .agg [.lit (.int .u8 144), .lit (.int .u8 191)], .agg [.lit (.int .u8 128), .lit (.int .u8 143)], .agg [.lit (.int .u8 0), .lit (.int .u8 0)], .agg [.lit (.int .u8 0), .lit (.int .u8 0)], .agg [.lit (.int .u8 0), .lit (.int .u8 0)], .agg [.lit (.int .u8 0), .lit (.int .u8 0)], .agg [.lit (.int .u8 0), .lit (.int .u8 0)], .agg [.lit (.int .u8 0), .lit (.int .u8 0)], .agg [.lit (.int .u8 0), .lit (.int .u8 0)], .agg [.lit (.int .u8 0), .lit (.int .u8 0)], .agg [.lit (.int .u8 0), .lit (.int .u8 0)], .agg [.lit (.int .u8 0), .lit (.int .u8 0)], .agg [.lit (.int .u8 0), .lit (.int .u8 0)]]
/-- One of Go's own tables, pinned by name: the form's constant. -/
def laid_unicode_utf8_first : DataW Unit := Go.Pinned.utf8First

/-- 'jobshelllaw11.SyntaxValids': WHATEVER THE INPUT: true; the input reads as it did. -/
def syntaxValidsSpec : ChangeSpec := { name := "syntaxValids", fn := fun _ => fun
  | [d] => { results := [.lit (.bool true)], args := [d] }
  | _ => none }
def syntaxValidsRow : OpenClaim := { program := "ytdkcfccepjimbaagreatdoor", sum := "e76258839d49ae462ea2dc4bb925b9ccea8ba1397360694d5baa041886f78a0e", func := "jobshell/jobshelllaw11.SyntaxValids", spec := "syntaxValids", inPlace := ["internal/bytealg.IndexByteString", "internal/bytealg.IndexString", "internal/abi.NoEscape"], unfollowed := true, recurses := true, named := ["internal/bytealg.MaxLen", "unicode/utf8.first", "unicode/utf8.acceptRanges"], loops := true, apart := false, laid := [("unicode/utf8.acceptRanges", laid_unicode_utf8_acceptRanges), ("unicode/utf8.first", laid_unicode_utf8_first)] }
def SyntaxValidsSaid : Prop := syntaxValidsRow.holds Tryz.pinned (OpenSpec.ofChange syntaxValidsSpec)

/-- ITS FALSE NEIGHBOUR: 'it returns false'. Refute it at one input. -/
def syntaxValidsWrong : ChangeSpec := { name := "syntaxValids", fn := fun _ => fun
  | [d] => { results := [.lit (.bool false)], args := [d] }
  | _ => none }
def SyntaxValidsWrongFalsely : Prop := syntaxValidsRow.holds Tryz.pinned (OpenSpec.ofChange syntaxValidsWrong)

/-- 'jobshelllaw11.SyntaxLarge': WHATEVER THE INPUT: true; the input reads as it did. -/
def syntaxLargeSpec : ChangeSpec := { name := "syntaxLarge", fn := fun _ => fun
  | [d1, d2] => { results := [.lit (.bool true)], args := [d1, d2] }
  | _ => none }
def syntaxLargeRow : OpenClaim := { program := "ytdkcfccepjimbaagreatdoor", sum := "e76258839d49ae462ea2dc4bb925b9ccea8ba1397360694d5baa041886f78a0e", func := "jobshell/jobshelllaw11.SyntaxLarge", spec := "syntaxLarge", inPlace := ["internal/bytealg.IndexByteString", "internal/bytealg.IndexString", "internal/abi.NoEscape"], unfollowed := true, recurses := true, named := ["internal/bytealg.MaxLen", "unicode/utf8.first", "unicode/utf8.acceptRanges"], apart := false, laid := [("unicode/utf8.acceptRanges", laid_unicode_utf8_acceptRanges), ("unicode/utf8.first", laid_unicode_utf8_first)] }
def SyntaxLargeSaid : Prop := syntaxLargeRow.holds Tryz.pinned (OpenSpec.ofChange syntaxLargeSpec)

/-- ITS FALSE NEIGHBOUR: 'it returns false'. Refute it at one input. -/
def syntaxLargeWrong : ChangeSpec := { name := "syntaxLarge", fn := fun _ => fun
  | [d1, d2] => { results := [.lit (.bool false)], args := [d1, d2] }
  | _ => none }
def SyntaxLargeWrongFalsely : Prop := syntaxLargeRow.holds Tryz.pinned (OpenSpec.ofChange syntaxLargeWrong)

/-- 'jobshelllaw11.SyntaxSames': WHATEVER THE INPUT: true; the input reads as it did. -/
def syntaxSamesSpec : ChangeSpec := { name := "syntaxSames", fn := fun _ => fun
  | [d1, d2] => { results := [.lit (.bool true)], args := [d1, d2] }
  | _ => none }
def syntaxSamesRow : OpenClaim := { program := "ytdkcfccepjimbaagreatdoor", sum := "e76258839d49ae462ea2dc4bb925b9ccea8ba1397360694d5baa041886f78a0e", func := "jobshell/jobshelllaw11.SyntaxSames", spec := "syntaxSames", inPlace := ["internal/bytealg.IndexByteString", "internal/bytealg.IndexString", "internal/abi.NoEscape"], unfollowed := true, recurses := true, named := ["internal/bytealg.MaxLen", "unicode/utf8.first", "unicode/utf8.acceptRanges"], loops := true, apart := false, laid := [("unicode/utf8.acceptRanges", laid_unicode_utf8_acceptRanges), ("unicode/utf8.first", laid_unicode_utf8_first)] }
def SyntaxSamesSaid : Prop := syntaxSamesRow.holds Tryz.pinned (OpenSpec.ofChange syntaxSamesSpec)

/-- ITS FALSE NEIGHBOUR: 'it returns false'. Refute it at one input. -/
def syntaxSamesWrong : ChangeSpec := { name := "syntaxSames", fn := fun _ => fun
  | [d1, d2] => { results := [.lit (.bool false)], args := [d1, d2] }
  | _ => none }
def SyntaxSamesWrongFalsely : Prop := syntaxSamesRow.holds Tryz.pinned (OpenSpec.ofChange syntaxSamesWrong)

/-- 'jobshelllaw11.SyntaxWalks': WHATEVER THE INPUT: true; the input reads as it did. -/
def syntaxWalksSpec : ChangeSpec := { name := "syntaxWalks", fn := fun _ => fun
  | [d] => { results := [.lit (.bool true)], args := [d] }
  | _ => none }
def syntaxWalksRow : OpenClaim := { program := "ytdkcfccepjimbaagreatdoor", sum := "e76258839d49ae462ea2dc4bb925b9ccea8ba1397360694d5baa041886f78a0e", func := "jobshell/jobshelllaw11.SyntaxWalks", spec := "syntaxWalks", inPlace := ["internal/bytealg.IndexByteString", "internal/bytealg.IndexString", "internal/abi.NoEscape"], unfollowed := true, recurses := true, named := ["internal/bytealg.MaxLen", "unicode/utf8.first", "unicode/utf8.acceptRanges"], loops := true, apart := false, laid := [("unicode/utf8.acceptRanges", laid_unicode_utf8_acceptRanges), ("unicode/utf8.first", laid_unicode_utf8_first)] }
def SyntaxWalksSaid : Prop := syntaxWalksRow.holds Tryz.pinned (OpenSpec.ofChange syntaxWalksSpec)

/-- ITS FALSE NEIGHBOUR: 'it returns false'. Refute it at one input. -/
def syntaxWalksWrong : ChangeSpec := { name := "syntaxWalks", fn := fun _ => fun
  | [d] => { results := [.lit (.bool false)], args := [d] }
  | _ => none }
def SyntaxWalksWrongFalsely : Prop := syntaxWalksRow.holds Tryz.pinned (OpenSpec.ofChange syntaxWalksWrong)

/-- 'jobshelllaw11.SyntaxReplaces': WHATEVER THE INPUT: true; the input reads as it did. -/
def syntaxReplacesSpec : ChangeSpec := { name := "syntaxReplaces", fn := fun _ => fun
  | [d1, d2, d3] => { results := [.lit (.bool true)], args := [d1, d2, d3] }
  | _ => none }
def syntaxReplacesRow : OpenClaim := { program := "ytdkcfccepjimbaagreatdoor", sum := "e76258839d49ae462ea2dc4bb925b9ccea8ba1397360694d5baa041886f78a0e", func := "jobshell/jobshelllaw11.SyntaxReplaces", spec := "syntaxReplaces", inPlace := ["internal/bytealg.IndexByteString", "internal/bytealg.IndexString", "internal/abi.NoEscape"], unfollowed := true, recurses := true, named := ["internal/bytealg.MaxLen", "unicode/utf8.first", "unicode/utf8.acceptRanges"], loops := true, apart := false, laid := [("unicode/utf8.acceptRanges", laid_unicode_utf8_acceptRanges), ("unicode/utf8.first", laid_unicode_utf8_first)] }
def SyntaxReplacesSaid : Prop := syntaxReplacesRow.holds Tryz.pinned (OpenSpec.ofChange syntaxReplacesSpec)

/-- ITS FALSE NEIGHBOUR: 'it returns false'. Refute it at one input. -/
def syntaxReplacesWrong : ChangeSpec := { name := "syntaxReplaces", fn := fun _ => fun
  | [d1, d2, d3] => { results := [.lit (.bool false)], args := [d1, d2, d3] }
  | _ => none }
def SyntaxReplacesWrongFalsely : Prop := syntaxReplacesRow.holds Tryz.pinned (OpenSpec.ofChange syntaxReplacesWrong)

/-- 'jobshelllaw11.SyntaxParts': WHATEVER THE INPUT: true; the input reads as it did. -/
def syntaxPartsSpec : ChangeSpec := { name := "syntaxParts", fn := fun _ => fun
  | [d] => { results := [.lit (.bool true)], args := [d] }
  | _ => none }
def syntaxPartsRow : OpenClaim := { program := "ytdkcfccepjimbaagreatdoor", sum := "e76258839d49ae462ea2dc4bb925b9ccea8ba1397360694d5baa041886f78a0e", func := "jobshell/jobshelllaw11.SyntaxParts", spec := "syntaxParts", inPlace := ["internal/bytealg.IndexByteString", "internal/bytealg.IndexString", "internal/abi.NoEscape"], unfollowed := true, recurses := true, named := ["internal/bytealg.MaxLen", "unicode/utf8.first", "unicode/utf8.acceptRanges"], loops := true, apart := false, laid := [("unicode/utf8.acceptRanges", laid_unicode_utf8_acceptRanges), ("unicode/utf8.first", laid_unicode_utf8_first)] }
def SyntaxPartsSaid : Prop := syntaxPartsRow.holds Tryz.pinned (OpenSpec.ofChange syntaxPartsSpec)

/-- ITS FALSE NEIGHBOUR: 'it returns false'. Refute it at one input. -/
def syntaxPartsWrong : ChangeSpec := { name := "syntaxParts", fn := fun _ => fun
  | [d] => { results := [.lit (.bool false)], args := [d] }
  | _ => none }
def SyntaxPartsWrongFalsely : Prop := syntaxPartsRow.holds Tryz.pinned (OpenSpec.ofChange syntaxPartsWrong)

/-- 'jobshelllaw11.SyntaxPaths': WHATEVER THE INPUT: true; the input reads as it did. -/
def syntaxPathsSpec : ChangeSpec := { name := "syntaxPaths", fn := fun _ => fun
  | [d1, d2, d3] => { results := [.lit (.bool true)], args := [d1, d2, d3] }
  | _ => none }
def syntaxPathsRow : OpenClaim := { program := "ytdkcfccepjimbaagreatdoor", sum := "e76258839d49ae462ea2dc4bb925b9ccea8ba1397360694d5baa041886f78a0e", func := "jobshell/jobshelllaw11.SyntaxPaths", spec := "syntaxPaths", inPlace := ["internal/bytealg.IndexByteString", "internal/bytealg.IndexString", "internal/abi.NoEscape"], unfollowed := true, recurses := true, named := ["internal/bytealg.MaxLen", "unicode/utf8.first", "unicode/utf8.acceptRanges"], loops := true, apart := false, laid := [("unicode/utf8.acceptRanges", laid_unicode_utf8_acceptRanges), ("unicode/utf8.first", laid_unicode_utf8_first)] }
def SyntaxPathsSaid : Prop := syntaxPathsRow.holds Tryz.pinned (OpenSpec.ofChange syntaxPathsSpec)

/-- ITS FALSE NEIGHBOUR: 'it returns false'. Refute it at one input. -/
def syntaxPathsWrong : ChangeSpec := { name := "syntaxPaths", fn := fun _ => fun
  | [d1, d2, d3] => { results := [.lit (.bool false)], args := [d1, d2, d3] }
  | _ => none }
def SyntaxPathsWrongFalsely : Prop := syntaxPathsRow.holds Tryz.pinned (OpenSpec.ofChange syntaxPathsWrong)

/-- 'jobshelllaw11.SyntaxNames': WHATEVER THE INPUT: true; the input reads as it did. -/
def syntaxNamesSpec : ChangeSpec := { name := "syntaxNames", fn := fun _ => fun
  | [d] => { results := [.lit (.bool true)], args := [d] }
  | _ => none }
def syntaxNamesRow : OpenClaim := { program := "ytdkcfccepjimbaagreatdoor", sum := "e76258839d49ae462ea2dc4bb925b9ccea8ba1397360694d5baa041886f78a0e", func := "jobshell/jobshelllaw11.SyntaxNames", spec := "syntaxNames", inPlace := ["internal/bytealg.IndexByteString", "internal/bytealg.IndexString", "internal/abi.NoEscape"], unfollowed := true, recurses := true, named := ["internal/bytealg.MaxLen", "unicode/utf8.first", "unicode/utf8.acceptRanges"], loops := true, apart := false, laid := [("unicode/utf8.acceptRanges", laid_unicode_utf8_acceptRanges), ("unicode/utf8.first", laid_unicode_utf8_first)] }
def SyntaxNamesSaid : Prop := syntaxNamesRow.holds Tryz.pinned (OpenSpec.ofChange syntaxNamesSpec)

/-- ITS FALSE NEIGHBOUR: 'it returns false'. Refute it at one input. -/
def syntaxNamesWrong : ChangeSpec := { name := "syntaxNames", fn := fun _ => fun
  | [d] => { results := [.lit (.bool false)], args := [d] }
  | _ => none }
def SyntaxNamesWrongFalsely : Prop := syntaxNamesRow.holds Tryz.pinned (OpenSpec.ofChange syntaxNamesWrong)

/- THE SECOND FORM. 'bulk': how many values and letters a reading holds, each counted each time it is reached (what is shared counts as often as it is met; a slice's spare places count too). A statement '..UptoSaid' is the law's where the arguments, and the package variables that the reading takes, are together of bulk at most 1048576: NARROWER than '..Said'. Prove '..Said' where nothing that the law and all that it calls make is longer than what came in: it says more and counts as full. Else prove '..UptoSaid'. A law counts once. -/
mutual
def uptoBulk {H : Type} : DataW H → Nat
  | .lit (.string bytes) => bytes.length + 1
  | .lit _ => 1
  | .nil => 1
  | .ptr d => uptoBulk d + 1
  | .slice elems spare => uptoBulkAll elems + uptoBulkAll spare + 1
  | .agg parts => uptoBulkAll parts + 1
  | .iface _ d => uptoBulk d + 1
  | .map entries => uptoBulkEntries entries + 1
  | .held _ => 1
def uptoBulkAll {H : Type} : List (DataW H) → Nat
  | [] => 0
  | d :: r => uptoBulk d + uptoBulkAll r
def uptoBulkEntries {H : Type} : List (Lit × DataW H) → Nat
  | [] => 0
  | x :: r => uptoBulkEntry x + uptoBulkEntries r
def uptoBulkEntry {H : Type} : Lit × DataW H → Nat
  | (.string bytes, d) => bytes.length + uptoBulk d + 1
  | (_, d) => uptoBulk d + 1
 end
def uptoSmall : (H : Type) → List (DataW H) → Bool := fun _ ds => decide (uptoBulkAll ds ≤ 1048576)
def OpenSpec.upto (s : _root_.Go.ChangeSpec) : _root_.Go.OpenSpec := { _root_.Go.OpenSpec.ofChange s with cond := some uptoSmall }

/-- 'jobshelllaw11.SyntaxValids', WHERE WHAT IT READS IS OF BULK AT MOST 1048576: true; the input reads as it did. -/
def syntaxValidsUptoRow : OpenClaim := { program := "ytdkcfccepjimbaagreatdoor", sum := "e76258839d49ae462ea2dc4bb925b9ccea8ba1397360694d5baa041886f78a0e", func := "jobshell/jobshelllaw11.SyntaxValids", spec := "syntaxValids", inPlace := ["internal/bytealg.IndexByteString", "internal/bytealg.IndexString", "internal/abi.NoEscape"], unfollowed := true, recurses := true, named := ["internal/bytealg.MaxLen", "unicode/utf8.first", "unicode/utf8.acceptRanges"], loops := true, apart := false, laid := [("unicode/utf8.acceptRanges", laid_unicode_utf8_acceptRanges), ("unicode/utf8.first", laid_unicode_utf8_first)], narrowed := true }
def SyntaxValidsUptoSaid : Prop := syntaxValidsUptoRow.holds Tryz.pinned (OpenSpec.upto syntaxValidsSpec)

/-- 'jobshelllaw11.SyntaxLarge', WHERE WHAT IT READS IS OF BULK AT MOST 1048576: true; the input reads as it did. -/
def syntaxLargeUptoRow : OpenClaim := { program := "ytdkcfccepjimbaagreatdoor", sum := "e76258839d49ae462ea2dc4bb925b9ccea8ba1397360694d5baa041886f78a0e", func := "jobshell/jobshelllaw11.SyntaxLarge", spec := "syntaxLarge", inPlace := ["internal/bytealg.IndexByteString", "internal/bytealg.IndexString", "internal/abi.NoEscape"], unfollowed := true, recurses := true, named := ["internal/bytealg.MaxLen", "unicode/utf8.first", "unicode/utf8.acceptRanges"], apart := false, laid := [("unicode/utf8.acceptRanges", laid_unicode_utf8_acceptRanges), ("unicode/utf8.first", laid_unicode_utf8_first)], narrowed := true }
def SyntaxLargeUptoSaid : Prop := syntaxLargeUptoRow.holds Tryz.pinned (OpenSpec.upto syntaxLargeSpec)

/-- 'jobshelllaw11.SyntaxSames', WHERE WHAT IT READS IS OF BULK AT MOST 1048576: true; the input reads as it did. -/
def syntaxSamesUptoRow : OpenClaim := { program := "ytdkcfccepjimbaagreatdoor", sum := "e76258839d49ae462ea2dc4bb925b9ccea8ba1397360694d5baa041886f78a0e", func := "jobshell/jobshelllaw11.SyntaxSames", spec := "syntaxSames", inPlace := ["internal/bytealg.IndexByteString", "internal/bytealg.IndexString", "internal/abi.NoEscape"], unfollowed := true, recurses := true, named := ["internal/bytealg.MaxLen", "unicode/utf8.first", "unicode/utf8.acceptRanges"], loops := true, apart := false, laid := [("unicode/utf8.acceptRanges", laid_unicode_utf8_acceptRanges), ("unicode/utf8.first", laid_unicode_utf8_first)], narrowed := true }
def SyntaxSamesUptoSaid : Prop := syntaxSamesUptoRow.holds Tryz.pinned (OpenSpec.upto syntaxSamesSpec)

/-- 'jobshelllaw11.SyntaxWalks', WHERE WHAT IT READS IS OF BULK AT MOST 1048576: true; the input reads as it did. -/
def syntaxWalksUptoRow : OpenClaim := { program := "ytdkcfccepjimbaagreatdoor", sum := "e76258839d49ae462ea2dc4bb925b9ccea8ba1397360694d5baa041886f78a0e", func := "jobshell/jobshelllaw11.SyntaxWalks", spec := "syntaxWalks", inPlace := ["internal/bytealg.IndexByteString", "internal/bytealg.IndexString", "internal/abi.NoEscape"], unfollowed := true, recurses := true, named := ["internal/bytealg.MaxLen", "unicode/utf8.first", "unicode/utf8.acceptRanges"], loops := true, apart := false, laid := [("unicode/utf8.acceptRanges", laid_unicode_utf8_acceptRanges), ("unicode/utf8.first", laid_unicode_utf8_first)], narrowed := true }
def SyntaxWalksUptoSaid : Prop := syntaxWalksUptoRow.holds Tryz.pinned (OpenSpec.upto syntaxWalksSpec)

/-- 'jobshelllaw11.SyntaxReplaces', WHERE WHAT IT READS IS OF BULK AT MOST 1048576: true; the input reads as it did. -/
def syntaxReplacesUptoRow : OpenClaim := { program := "ytdkcfccepjimbaagreatdoor", sum := "e76258839d49ae462ea2dc4bb925b9ccea8ba1397360694d5baa041886f78a0e", func := "jobshell/jobshelllaw11.SyntaxReplaces", spec := "syntaxReplaces", inPlace := ["internal/bytealg.IndexByteString", "internal/bytealg.IndexString", "internal/abi.NoEscape"], unfollowed := true, recurses := true, named := ["internal/bytealg.MaxLen", "unicode/utf8.first", "unicode/utf8.acceptRanges"], loops := true, apart := false, laid := [("unicode/utf8.acceptRanges", laid_unicode_utf8_acceptRanges), ("unicode/utf8.first", laid_unicode_utf8_first)], narrowed := true }
def SyntaxReplacesUptoSaid : Prop := syntaxReplacesUptoRow.holds Tryz.pinned (OpenSpec.upto syntaxReplacesSpec)

/-- 'jobshelllaw11.SyntaxParts', WHERE WHAT IT READS IS OF BULK AT MOST 1048576: true; the input reads as it did. -/
def syntaxPartsUptoRow : OpenClaim := { program := "ytdkcfccepjimbaagreatdoor", sum := "e76258839d49ae462ea2dc4bb925b9ccea8ba1397360694d5baa041886f78a0e", func := "jobshell/jobshelllaw11.SyntaxParts", spec := "syntaxParts", inPlace := ["internal/bytealg.IndexByteString", "internal/bytealg.IndexString", "internal/abi.NoEscape"], unfollowed := true, recurses := true, named := ["internal/bytealg.MaxLen", "unicode/utf8.first", "unicode/utf8.acceptRanges"], loops := true, apart := false, laid := [("unicode/utf8.acceptRanges", laid_unicode_utf8_acceptRanges), ("unicode/utf8.first", laid_unicode_utf8_first)], narrowed := true }
def SyntaxPartsUptoSaid : Prop := syntaxPartsUptoRow.holds Tryz.pinned (OpenSpec.upto syntaxPartsSpec)

/-- 'jobshelllaw11.SyntaxPaths', WHERE WHAT IT READS IS OF BULK AT MOST 1048576: true; the input reads as it did. -/
def syntaxPathsUptoRow : OpenClaim := { program := "ytdkcfccepjimbaagreatdoor", sum := "e76258839d49ae462ea2dc4bb925b9ccea8ba1397360694d5baa041886f78a0e", func := "jobshell/jobshelllaw11.SyntaxPaths", spec := "syntaxPaths", inPlace := ["internal/bytealg.IndexByteString", "internal/bytealg.IndexString", "internal/abi.NoEscape"], unfollowed := true, recurses := true, named := ["internal/bytealg.MaxLen", "unicode/utf8.first", "unicode/utf8.acceptRanges"], loops := true, apart := false, laid := [("unicode/utf8.acceptRanges", laid_unicode_utf8_acceptRanges), ("unicode/utf8.first", laid_unicode_utf8_first)], narrowed := true }
def SyntaxPathsUptoSaid : Prop := syntaxPathsUptoRow.holds Tryz.pinned (OpenSpec.upto syntaxPathsSpec)

/-- 'jobshelllaw11.SyntaxNames', WHERE WHAT IT READS IS OF BULK AT MOST 1048576: true; the input reads as it did. -/
def syntaxNamesUptoRow : OpenClaim := { program := "ytdkcfccepjimbaagreatdoor", sum := "e76258839d49ae462ea2dc4bb925b9ccea8ba1397360694d5baa041886f78a0e", func := "jobshell/jobshelllaw11.SyntaxNames", spec := "syntaxNames", inPlace := ["internal/bytealg.IndexByteString", "internal/bytealg.IndexString", "internal/abi.NoEscape"], unfollowed := true, recurses := true, named := ["internal/bytealg.MaxLen", "unicode/utf8.first", "unicode/utf8.acceptRanges"], loops := true, apart := false, laid := [("unicode/utf8.acceptRanges", laid_unicode_utf8_acceptRanges), ("unicode/utf8.first", laid_unicode_utf8_first)], narrowed := true }
def SyntaxNamesUptoSaid : Prop := syntaxNamesUptoRow.holds Tryz.pinned (OpenSpec.upto syntaxNamesSpec)

end Rows
end Go.Proofs.YtdkcfccepjimbaaGreatDoor
